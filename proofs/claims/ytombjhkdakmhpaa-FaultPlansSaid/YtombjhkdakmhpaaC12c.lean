/- The contracts of layer 12 (fault): torn programs and erases, by the program and by the document. -/
import Derived.Test.YtombjhkdakmhpaaC12b
namespace Go.Proofs.Ytombjhkdakmhpaa.Vc
open Go Go.Eng Go.RowKit
set_option linter.unusedVariables false
set_option linter.unusedSimpArgs false

/-- One byte read and written again, whichever of the two is done first: the read, or the power of two. -/
theorem round12 {w : World} {B : Nat} {a : Option Addr} {n c : Nat} {xs : List Int} {i : Nat} (G : Int → Int → Int) (Q : World → Prop) (ho : Own w B 5 1 a n c (xs.map (Value.int .u8))) (hi : i < 8 * n) (hn : n ≤ 100000)
    (hG : G (xs.getD (i / 8) 0) (2 ^ (i % 8)) = xor8 (xs.getD (i / 8) 0) (2 ^ (i % 8)))
    (hk : ∀ w', Own w' B 5 1 a n c ((flip1 xs i).map (Value.int .u8)) → Below B w w' → Q w') (hB : B ≤ w.heap.size) :
  DrawV fun D15 =>
  8 ≠ (0 : Int) ∧ Rng .i64 (Int.tdiv (i : Int) 8) ∧
  8 ≠ (0 : Int) ∧ Rng .i64 (Int.tdiv (i : Int) 8) ∧
  (0 ≤ (Int.tdiv (i : Int) 8) ∧ (Int.tdiv (i : Int) 8) < ((n : Nat) : Int)) ∧ ∃ q16 : Addr, a = some q16 ∧
  8 ≠ (0 : Int) ∧
  ((LoadS w.drew (q16.add ((Int.tdiv (i : Int) 8).toNat * 1)) (.int .u8) fun (x17 : Int) =>
  KeepOn D15 w.drew w.drew ∧
  CallV Try.prog 44 #[.int .i64 (Int.tmod (i : Int) 8)] w.drew [.one (.int .i64)] fun (r18 : Int × Unit) w19 =>
  KeepOn D15 w.drew w19 ∧
  (0 ≤ (Int.tdiv (i : Int) 8) ∧ (Int.tdiv (i : Int) 8) < ((n : Nat) : Int)) ∧ ∃ q20 : Addr, a = some q20 ∧
  StoreV w19 (q20.add ((Int.tdiv (i : Int) 8).toNat * 1)) [.int .u8 (G x17 r18.1)] fun w21 =>
  KeepOn D15 w.drew w21 ∧
  Q w21) ∧
  (CallV Try.prog 44 #[.int .i64 (Int.tmod (i : Int) 8)] w.drew [.one (.int .i64)] fun (r22 : Int × Unit) w23 =>
  KeepOn D15 w.drew w23 ∧
  LoadS w23 (q16.add ((Int.tdiv (i : Int) 8).toNat * 1)) (.int .u8) fun (x24 : Int) =>
  KeepOn D15 w.drew w23 ∧
  (0 ≤ (Int.tdiv (i : Int) 8) ∧ (Int.tdiv (i : Int) 8) < ((n : Nat) : Int)) ∧ ∃ q25 : Addr, a = some q25 ∧
  StoreV w23 (q25.add ((Int.tdiv (i : Int) 8).toNat * 1)) [.int .u8 (G x24 r22.1)] fun w26 =>
  KeepOn D15 w.drew w26 ∧
  Q w26)) := by
  refine DrawV.none' fun D hkeep => ?_
  rw [tdiv8, tmod8]
  have o4 := ho.ext (Ext.drew w)
  obtain ⟨q, hq, hload⟩ := load_at o4 hi
  have dB : Below B w w.drew := Below.drew (Below.refl _ _)
  refine ⟨by omega, Rng.i64 (by omega) (by omega), by omega, Rng.i64 (by omega) (by omega), by omega, q, hq, by omega, ?_, ?_⟩
  · refine hload ⟨hkeep _ _, ?_⟩
    refine (power_c (mod8 i)).mono ?_
    rintro ⟨(p : Int), ⟨⟩⟩ w' ⟨hp, rfl⟩
    dsimp only at hp ⊢
    subst hp
    refine ⟨hkeep _ _, ?_⟩
    rw [hG]
    exact flip_at o4 hi rfl fun w5 o5 b5 => ⟨hkeep _ _, hk _ o5 (Below.trans dB b5)⟩
  · refine (power_c (mod8 i)).mono ?_
    rintro ⟨(p : Int), ⟨⟩⟩ w' ⟨hp, rfl⟩
    dsimp only at hp ⊢
    subst hp
    refine ⟨hkeep _ _, hload ⟨hkeep _ _, ?_⟩⟩
    rw [hG]
    exact flip_at o4 hi rfl fun w5 o5 b5 => ⟨hkeep _ _, hk _ o5 (Below.trans dB b5)⟩

def erF (xs ms : List Int) (i : Nat) : Bool := !hasL xs i && mBit ms i
theorem Erase_c {w : World} {a0 a1 : Option Addr} {n c0 n1 c1 : Nat} {xs ms : List Int} (hx : Ints w .u8 a0 n c0 xs) (bx : Byt xs) (hm : Ints w .u8 a1 n1 c1 ms) (bm : Byt ms) (hn : n ≤ 100000) :
    CallV Try.prog 28 #[.slice a0 n c0, .slice a1 n1 c1] w [.one .sl] fun r w' => Res w w' r.1 (turn xs (erF xs ms) (8 * n)) := by
  refine ref12_Erase.vc _ _ _ _ _ _ _ _ ?_
  unfold ref12_Erase.P
  have lx := hx.len
  refine newU fun b1 w1 e1 o1 => ?_
  refine appU (xs := []) o1 (hx.ext e1) e1.size (by omega) fun a2 c2 w2 o2 b2 => ?_
  have e2 : Ext w w2 := Below.trans e1 b2
  rw [Nat.zero_add] at o2 ⊢
  rw [List.nil_append] at o2
  refine Loop1 (fun (y : Int × Unit) w' => ∃ i : Nat, y.1 = (i : Int) ∧ i ≤ 8 * n ∧ Ext w w' ∧ Own w' w.heap.size 5 1 a2 n c2 ((turn xs (erF xs ms) i).map (Value.int .u8)))
    (fun (y : Int × Unit) _ => (8 * (n : Int) - y.1).toNat) ⟨0, rfl, by omega, e2, o2⟩ ?_
  rintro ⟨(y : Int), ⟨⟩⟩ w3 ⟨i, hy, hi, e3, o3⟩
  dsimp only at hy ⊢
  subst hy
  refine ⟨Rng.i64 (by omega) (by omega), cond_d (fun hlt => ?_) (fun hge => ?_)⟩
  · have hlt' : i < 8 * n := by omega
    have skip : ∀ {w' : World}, Ext w3 w' → erF xs ms i = false → (∃ j : Nat, (i : Int) + 1 = (j : Int) ∧ j ≤ 8 * n ∧ Ext w w' ∧ Own w' w.heap.size 5 1 a2 n c2 ((turn xs (erF xs ms) j).map (Value.int .u8))) := fun e hF => by
      refine ⟨i + 1, by push_cast; rfl, by omega, e3.trans e, ?_⟩
      unfold turn
      rw [if_neg (by rw [hF]; simp)]
      exact o3.ext e
    refine (Has_c (hx.ext e3) bx hlt' hn).mono ?_
    rintro ⟨(r4 : Bool), ⟨⟩⟩ w4 ⟨h4, e4⟩
    dsimp only at h4 ⊢
    refine cond_of (fun hh => ?_) (fun hh => ⟨Rng.i64 (by omega) (by omega), skip e4 (by unfold erF; rw [← h4]; simp at hh; rw [hh]; rfl), by omega⟩)
    have hno : hasL xs i = false := by rw [← h4]; simpa using hh
    refine (rBit_c (hm.ext (e3.trans e4)) bm (by omega)).mono ?_
    rintro ⟨(r5 : Bool), ⟨⟩⟩ w5 ⟨h5, e5⟩
    dsimp only at h5 ⊢
    rw [mBitZ_nat] at h5
    refine cond_of (fun hm5 => ?_) (fun hm5 => ⟨Rng.i64 (by omega) (by omega), skip (e4.trans e5) (by unfold erF; rw [hno, ← h5, hm5]; rfl), by omega⟩)
    have hF : erF xs ms i = true := by unfold erF; rw [hno, ← h5, hm5]; rfl
    have tl := turn_length xs (erF xs ms) i
    have hbit : bitB ((turn xs (erF xs ms) i).getD (i / 8) 0) (i % 8) = false := by
      have := hasL_turn bx (erF xs ms) (i := i) (by omega) i (by omega)
      rw [if_neg (by omega), hno] at this
      exact this
    refine round12 (fun x r => IntKind.u8.wrap (x + (IntKind.u8.wrap r))) _ (o3.ext (e4.trans e5)) hlt' hn (f4 ((turn_byt bx _ i).getD _) (mod8 i) hbit) (fun w6 o6 b6 => ?_) (e3.trans (e4.trans e5)).size
    refine ⟨Rng.i64 (by omega) (by omega), ⟨i + 1, by push_cast; rfl, by omega, Below.trans (e3.trans (e4.trans e5)) b6, ?_⟩, by omega⟩
    unfold turn
    rw [if_pos hF]
    exact o6
  · have : i = 8 * n := by omega
    subst this
    exact ⟨e3, o3⟩

def prC (xs ys : List Int) (i : Nat) : Bool := hasL xs i && !hasL ys i
def prF (xs ys ms : List Int) (fails : Bool) (n : Nat) (i : Nat) : Bool := prC xs ys i && (mBit ms i && !(fails && decide ((i : Int) = lastOf (prC xs ys) (8 * n))))
theorem Program_c {w : World} {a0 a1 a2 : Option Addr} {n c0 c1 n2 c2 : Nat} {xs ys ms : List Int} {fails : Bool} (hx : Ints w .u8 a0 n c0 xs) (bx : Byt xs) (hy : Ints w .u8 a1 n c1 ys) (by' : Byt ys) (hm : Ints w .u8 a2 n2 c2 ms) (bm : Byt ms) (hn : n ≤ 100000) :
    CallV Try.prog 25 #[.slice a0 n c0, .slice a1 n c1, .slice a2 n2 c2, .bool fails] w [.one .sl] fun r w' => Res w w' r.1 (turn xs (prF xs ys ms fails n) (8 * n)) := by
  refine ref12_Program.vc _ _ _ _ _ _ _ _ _ _ _ _ ?_
  unfold ref12_Program.P
  have lx := hx.len
  refine newU fun b1 w1 e1 o1 => ?_
  refine appU (xs := []) o1 (hx.ext e1) e1.size (by omega) fun a3 c3 w2 o2 b2 => ?_
  have e2 : Ext w w2 := Below.trans e1 b2
  rw [Nat.zero_add] at o2 ⊢
  rw [List.nil_append] at o2
  refine Loop1 (fun (y : Int × Int × Unit) w' => ∃ i : Nat, y.2.1 = (i : Int) ∧ i ≤ 8 * n ∧ y.1 = lastOf (prC xs ys) i ∧ Ext w2 w') (fun (y : Int × Int × Unit) _ => (8 * (n : Int) - y.2.1).toNat) ⟨0, rfl, by omega, rfl, Ext.refl _⟩ ?_
  rintro ⟨(lst : Int), (y : Int), ⟨⟩⟩ w3 ⟨i, hyi, hi, hl, e3⟩
  dsimp only at hyi hl ⊢
  subst hyi
  refine ⟨Rng.i64 (by omega) (by omega), cond_d (fun hlt => ?_) (fun hge => ?_)⟩
  · have hlt' : i < 8 * n := by omega
    have next : ∀ {w' : World} {z : Int}, Ext w3 w' → z = (if prC xs ys i = true then (i : Int) else lastOf (prC xs ys) i) → (∃ j : Nat, (i : Int) + 1 = (j : Int) ∧ j ≤ 8 * n ∧ z = lastOf (prC xs ys) j ∧ Ext w2 w') := fun e hz =>
      ⟨i + 1, by push_cast; rfl, by omega, hz, e3.trans e⟩
    refine (Has_c (hx.ext (e2.trans e3)) bx hlt' hn).mono ?_
    rintro ⟨(r4 : Bool), ⟨⟩⟩ w4 ⟨h4, e4⟩
    dsimp only at h4 ⊢
    refine cond_of (fun hh => ?_) (fun hh => ⟨Rng.i64 (by omega) (by omega), next e4 (by unfold prC; rw [← h4, hh, hl]; rfl), by omega⟩)
    refine (Has_c (hy.ext (e2.trans (e3.trans e4))) by' hlt' hn).mono ?_
    rintro ⟨(r5 : Bool), ⟨⟩⟩ w5 ⟨h5, e5⟩
    dsimp only at h5 ⊢
    refine cond_of (fun h6 => ⟨Rng.i64 (by omega) (by omega), next (e4.trans e5) (by unfold prC; rw [← h4, ← h5, hh, h6]; rfl), by omega⟩) (fun h6 => ⟨Rng.i64 (by omega) (by omega), next (e4.trans e5) (by unfold prC; rw [← h4, ← h5, hh, h6, hl]; rfl), by omega⟩)
  have hi8 : i = 8 * n := by omega
  subst hi8
  refine Loop1 (fun (y : Int × Unit) w' => ∃ i : Nat, y.1 = (i : Int) ∧ i ≤ 8 * n ∧ Ext w w' ∧ Own w' w.heap.size 5 1 a3 n c3 ((turn xs (prF xs ys ms fails n) i).map (Value.int .u8)))
    (fun (y : Int × Unit) _ => (8 * (n : Int) - y.1).toNat) ⟨0, rfl, by omega, e2.trans e3, o2.ext e3⟩ ?_
  rintro ⟨(y : Int), ⟨⟩⟩ w4 ⟨i, hyi, hi, e4, o4⟩
  dsimp only at hyi ⊢
  subst hyi
  refine ⟨Rng.i64 (by omega) (by omega), cond_d (fun hlt => ?_) (fun hge => ?_)⟩
  · have hlt' : i < 8 * n := by omega
    have skip : ∀ {w' : World}, Ext w4 w' → prF xs ys ms fails n i = false → (∃ j : Nat, (i : Int) + 1 = (j : Int) ∧ j ≤ 8 * n ∧ Ext w w' ∧ Own w' w.heap.size 5 1 a3 n c3 ((turn xs (prF xs ys ms fails n) j).map (Value.int .u8))) := fun e hF => by
      refine ⟨i + 1, by push_cast; rfl, by omega, e4.trans e, ?_⟩
      unfold turn
      rw [if_neg (by rw [hF]; simp)]
      exact o4.ext e
    refine (Has_c (hx.ext e4) bx hlt' hn).mono ?_
    rintro ⟨(r5 : Bool), ⟨⟩⟩ w5 ⟨h5, e5⟩
    dsimp only at h5 ⊢
    refine cond_of (fun h5t => ?_) (fun h5t => ⟨Rng.i64 (by omega) (by omega), skip e5 (by unfold prF prC; rw [← h5, h5t]; rfl), by omega⟩)
    refine (Has_c (hy.ext (e4.trans e5)) by' hlt' hn).mono ?_
    rintro ⟨(r6 : Bool), ⟨⟩⟩ w6 ⟨h6, e6⟩
    dsimp only at h6 ⊢
    refine cond_of (fun h6t => ?_) (fun h6t => ⟨Rng.i64 (by omega) (by omega), skip (e5.trans e6) (by unfold prF prC; rw [← h6, h6t]; simp), by omega⟩)
    have hC : prC xs ys i = true := by unfold prC; rw [← h5, ← h6, h5t, h6t]; rfl
    refine (rBit_c (hm.ext (e4.trans (e5.trans e6))) bm (by omega)).mono ?_
    rintro ⟨(r7 : Bool), ⟨⟩⟩ w7 ⟨h7, e7⟩
    dsimp only at h7 ⊢
    rw [mBitZ_nat] at h7
    have E7 := e5.trans (e6.trans e7)
    refine cond_of (fun h7t => ?_) (fun h7t => ⟨Rng.i64 (by omega) (by omega), skip E7 (by unfold prF; rw [← h7, h7t, hC]; rfl), by omega⟩)
    have tl := turn_length xs (prF xs ys ms fails n) i
    have hbit : bitB ((turn xs (prF xs ys ms fails n) i).getD (i / 8) 0) (i % 8) = true := by
      have := hasL_turn bx (prF xs ys ms fails n) (i := i) (by omega) i (by omega)
      rw [if_neg (by omega), ← h5, h5t] at this
      exact this
    have go : prF xs ys ms fails n i = true → ∀ (Q : World → Prop), (∀ w', (∃ j : Nat, (i : Int) + 1 = (j : Int) ∧ j ≤ 8 * n ∧ Ext w w' ∧ Own w' w.heap.size 5 1 a3 n c3 ((turn xs (prF xs ys ms fails n) j).map (Value.int .u8))) → Q w') → _ := fun hF Q hQ =>
      round12 (fun x r => IntKind.u8.wrap (x - (IntKind.u8.wrap r))) Q (o4.ext E7) hlt' hn (f3 ((turn_byt bx _ i).getD _) (mod8 i) hbit) (fun w8 o8 b8 => hQ _ (by
        refine ⟨i + 1, by push_cast; rfl, by omega, Below.trans (e4.trans E7) b8, ?_⟩
        unfold turn
        rw [if_pos hF]
        exact o8)) (e4.trans E7).size
    refine cond_of (fun hf => ?_) (fun hf => ?_)
    · by_cases hlast : (i : Int) = lst
      · refine cond_f (by rw [hlast]; simp) ⟨Rng.i64 (by omega) (by omega), skip E7 (by unfold prF; rw [← hl, decide_eq_true hlast, hf]; simp), by omega⟩
      · refine cond_t (by simpa using hlast) ?_
        exact go (by unfold prF; rw [hC, ← h7, h7t, ← hl, decide_eq_false hlast]; simp) _ fun w' h => ⟨Rng.i64 (by omega) (by omega), h, by omega⟩
    · exact go (by unfold prF; rw [hC, ← h7, h7t, hf]; simp) _ fun w' h => ⟨Rng.i64 (by omega) (by omega), h, by omega⟩
  · have : i = 8 * n := by omega
    subst this
    exact ⟨e4, o4⟩

/-! ### The program's own -/
theorem turnF_clr {xs ys ms : List Int} (bx : Byt xs) (by' : Byt ys) {n : Nat} (hl : xs.length = n) (keep : Bool) {i : Nat} (hi : i < 8 * n) :
    turnF (clrL xs ys) ms (if keep then lastOf (hasL (clrL xs ys)) (8 * n) else -1) i = prF xs ys ms keep n i := by
  have hc : ∀ j, j < 8 * n → hasL (clrL xs ys) j = prC xs ys j := fun j hj => hasL_clr bx by' (by omega)
  have hlast : lastOf (hasL (clrL xs ys)) (8 * n) = lastOf (prC xs ys) (8 * n) := lastOf_congr hc
  unfold turnF prF neZ
  rw [hc i hi, hlast]
  cases keep
  · rw [if_neg (by simp), decide_eq_false (by omega : ¬ ((i : Int) = -1))]
    cases prC xs ys i <;> cases mBit ms i <;> rfl
  · rw [if_pos rfl]
    cases prC xs ys i <;> cases mBit ms i <;> cases decide ((i : Int) = lastOf (prC xs ys) (8 * n)) <;> rfl

theorem Clear_ne {w : World} {a0 a1 a2 : Option Addr} {n c0 n1 c1 n2 c2 : Nat} (h : n ≠ n1) :
    CallV Try.prog 23 #[.slice a0 n c0, .slice a1 n1 c1, .slice a2 n2 c2] w [.one .sl, .one (.int .i64)] fun r w' => r.1 = (⟨none, 0, 0⟩ : SlV) ∧ r.2.1 = (2 : Int) ∧ w' = w := by
  refine fault_Clear.vc _ _ _ _ _ _ _ _ _ _ _ ?_
  unfold fault_Clear.P
  exact cond_ne (fun _ => ⟨rfl, rfl, rfl⟩) (fun e => absurd (by omega) h)
theorem Fail_ne {w : World} {a0 a1 a2 : Option Addr} {n c0 n1 c1 n2 c2 : Nat} (h : n ≠ n1) :
    CallV Try.prog 24 #[.slice a0 n c0, .slice a1 n1 c1, .slice a2 n2 c2] w [.one .sl, .one (.int .i64)] fun r w' => r.1 = (⟨none, 0, 0⟩ : SlV) ∧ r.2.1 = (2 : Int) ∧ w' = w := by
  refine fault_Fail.vc _ _ _ _ _ _ _ _ _ _ _ ?_
  unfold fault_Fail.P
  exact cond_ne (fun _ => ⟨rfl, rfl, rfl⟩) (fun e => absurd (by omega) h)
theorem Clear_c {w : World} {a0 a1 a2 : Option Addr} {n c0 c1 n2 c2 : Nat} {xs ys ms : List Int} (hx : Ints w .u8 a0 n c0 xs) (bx : Byt xs) (hy : Ints w .u8 a1 n c1 ys) (by' : Byt ys) (hm : Ints w .u8 a2 n2 c2 ms) (bm : Byt ms) (hn : n ≤ 100000) :
    CallV Try.prog 23 #[.slice a0 n c0, .slice a1 n c1, .slice a2 n2 c2] w [.one .sl, .one (.int .i64)] fun r w' => Res w w' r.1 (turn xs (prF xs ys ms false n) (8 * n)) ∧ r.2.1 = (0 : Int) := by
  refine fault_Clear.vc _ _ _ _ _ _ _ _ _ _ _ ?_
  unfold fault_Clear.P
  refine cond_ne (fun h => absurd rfl h) (fun _ => ?_)
  refine (cleared_c hx hy hn).mono ?_
  rintro ⟨⟨sa, sn, sc⟩, ⟨⟩⟩ w1 h1
  have l1 := h1.ints.len
  rw [clrL_length, hx.len] at l1
  dsimp only at l1 ⊢
  subst l1
  refine (turned_c (keep := false) (hx.ext h1.ext) bx h1.ints (clrL_byt xs ys) (hm.ext h1.ext) bm hn).mono ?_
  rintro ⟨(s2 : SlV), ⟨⟩⟩ w2 h2
  dsimp only at h2 ⊢
  rw [turn_congr (fun i hi => turnF_clr bx by' hx.len false hi)] at h2
  exact ⟨h2.after h1.ext, rfl⟩
theorem Fail_c {w : World} {a0 a1 a2 : Option Addr} {n c0 c1 n2 c2 : Nat} {xs ys ms : List Int} (hx : Ints w .u8 a0 n c0 xs) (bx : Byt xs) (hy : Ints w .u8 a1 n c1 ys) (by' : Byt ys) (hm : Ints w .u8 a2 n2 c2 ms) (bm : Byt ms) (hn : n ≤ 100000) :
    CallV Try.prog 24 #[.slice a0 n c0, .slice a1 n c1, .slice a2 n2 c2] w [.one .sl, .one (.int .i64)] fun r w' => Res w w' r.1 (turn xs (prF xs ys ms true n) (8 * n)) ∧ r.2.1 = (0 : Int) := by
  refine fault_Fail.vc _ _ _ _ _ _ _ _ _ _ _ ?_
  unfold fault_Fail.P
  refine cond_ne (fun h => absurd rfl h) (fun _ => ?_)
  refine (cleared_c hx hy hn).mono ?_
  rintro ⟨⟨sa, sn, sc⟩, ⟨⟩⟩ w1 h1
  have l1 := h1.ints.len
  rw [clrL_length, hx.len] at l1
  dsimp only at l1 ⊢
  subst l1
  refine (turned_c (keep := true) (hx.ext h1.ext) bx h1.ints (clrL_byt xs ys) (hm.ext h1.ext) bm hn).mono ?_
  rintro ⟨(s2 : SlV), ⟨⟩⟩ w2 h2
  dsimp only at h2 ⊢
  rw [turn_congr (fun i hi => turnF_clr bx by' hx.len true hi)] at h2
  exact ⟨h2.after h1.ext, rfl⟩
theorem Set_c {w : World} {a0 a1 : Option Addr} {n c0 n1 c1 : Nat} {xs ms : List Int} (hx : Ints w .u8 a0 n c0 xs) (bx : Byt xs) (hm : Ints w .u8 a1 n1 c1 ms) (bm : Byt ms) (hn : n ≤ 60000) :
    CallV Try.prog 27 #[.slice a0 n c0, .slice a1 n1 c1] w [.one .sl] fun r w' => Res w w' r.1 (turn xs (erF xs ms) (8 * n)) := by
  refine fault_Set.vc _ _ _ _ _ _ _ _ ?_
  unfold fault_Set.P
  refine (Invert_c hx (by omega)).mono ?_
  rintro ⟨⟨sa, sn, sc⟩, ⟨⟩⟩ w1 h1
  have l1 := h1.ints.len
  rw [show (invL xs).length = n by rw [← hx.len]; simp [invL]] at l1
  dsimp only at l1 ⊢
  subst l1
  refine (turned_c (keep := false) (hx.ext h1.ext) bx h1.ints (invL_byt xs) (hm.ext h1.ext) bm (by omega)).mono ?_
  rintro ⟨(s2 : SlV), ⟨⟩⟩ w2 h2
  dsimp only at h2 ⊢
  rw [turn_congr (f' := erF xs ms) (fun i hi => by
    unfold turnF erF neZ
    rw [hasL_inv bx (by have := hx.len; omega), if_neg (by simp), decide_eq_false (by omega : ¬ ((i : Int) = -1))]
    rfl)] at h2
  exact h2.after h1.ext

end Go.Proofs.Ytombjhkdakmhpaa.Vc
