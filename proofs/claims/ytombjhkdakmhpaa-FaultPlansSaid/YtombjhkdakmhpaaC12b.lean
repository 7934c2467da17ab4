/- The contracts of layer 12 (fault): bits turned. -/
import Derived.Test.YtombjhkdakmhpaaC12a
import Derived.Test.YtombjhkdakmhpaaV12b
namespace Go.Proofs.Ytombjhkdakmhpaa.Vc
open Go Go.Eng Go.RowKit
set_option linter.unusedVariables false
set_option linter.unusedSimpArgs false

theorem DrawV.none' {body : (Nat → Prop) → Prop} (h : ∀ D : Nat → Prop, (∀ w w', KeepOn D w w') → body D) : DrawV body := ⟨fun _ => False, h _ fun _ _ _ hk => hk.elim⟩

theorem flip_at {w : World} {B : Nat} {a : Option Addr} {n c : Nat} {xs : List Int} {i : Nat} {X : Int} {K : World → Prop} (ho : Own w B 5 1 a n c (xs.map (Value.int .u8))) (hi : i < 8 * n) (hX : X = xor8 (xs.getD (i / 8) 0) (2 ^ (i % 8)))
    (hk : ∀ w', Own w' B 5 1 a n c ((flip1 xs i).map (Value.int .u8)) → Below B w w' → K w') :
    (0 ≤ ((i / 8 : Nat) : Int) ∧ ((i / 8 : Nat) : Int) < ((n : Nat) : Int)) ∧ ∃ q, a = some q ∧ StoreV w (q.add ((((i / 8 : Nat) : Int)).toNat * 1)) [.int .u8 X] K := by
  refine ho.store (by omega) (by omega) rfl fun w2 ho2 hb2 _ _ => hk w2 ?_ hb2
  rw [Int.toNat_natCast] at ho2
  unfold flip1
  rw [List.map_set, ← hX]
  exact ho2
theorem load_at {w : World} {B : Nat} {a : Option Addr} {n c : Nat} {xs : List Int} {i : Nat} (ho : Own w B 5 1 a n c (xs.map (Value.int .u8))) (hi : i < 8 * n) :
    ∃ q, a = some q ∧ ∀ {K : Int → Prop}, K (xs.getD (i / 8) 0) → LoadS w (q.add ((((i / 8 : Nat) : Int)).toNat * 1)) (.int .u8) K := by
  obtain ⟨q, h1, _, h3⟩ := ho.ints.at (i := ((i / 8 : Nat) : Int)) (by omega) (by omega)
  rw [Int.toNat_natCast (i / 8)] at h3
  refine ⟨q, h1, fun {K} hk => ⟨_, ?_, hk⟩⟩
  rw [Int.toNat_natCast]
  exact h3

theorem tflip {x : Int} (hx : 0 ≤ x ∧ x < 256) {j : Nat} (hj : j < 8) : Go.bits .xor .u8 x (IntKind.u8.wrap ((1 : Int) * (2 ^ (Nat.min j 8)))) = xor8 x (2 ^ j) := by
  have := f2_0 ⟨j, hj⟩
  dsimp only at this
  rw [this]
  rfl

/-- The second half of 'turned': the bits that a function tells. -/
theorem turned2 {w7 : World} {a0 : Option Addr} {n0 c0 b1 b3 b5 : Nat} {xs : List Int} {F : Nat → Bool} {K : SlV × Unit → World → Prop} (hx : Ints w7 .u8 a0 n0 c0 xs) (bx : Byt xs) (hn : n0 ≤ 100000)
    (hcall : ∀ (w' : World) (i : Nat), Ext w7 w' → i < 8 * n0 → CallV Try.prog 56 #[.int .i64 (i : Int), .pointer (some ⟨b5, 0, none⟩), .pointer (some ⟨b1, 0, none⟩), .pointer (some ⟨b3, 0, none⟩)] w' [.one .bool] fun r w2 => r.1 = F i ∧ w2 = w')
    (hK : ∀ (s : SlV) (w' : World), Ext w7 w' → Own w' w7.heap.size 5 1 s.a s.n s.c ((turn xs F (8 * n0)).map (Value.int .u8)) → K (s, ()) w') :
  NewV #[] 5 w7 fun b33 w34 =>
  AppS w34 a0 n0 1 fun ns39 =>
  AppV w34 5 1 1 (some ⟨b33, 0, none⟩) 0 0 ns39 n0 fun a35 n36 c37 w38 =>
  Rng .i64 ((8 : Int) * ((n36 : Nat) : Int)) ∧
  LoopV [.one (.int .i64)] ((0 : Int), ()) w38 fun (z40 : Int × Unit) w41 (K42 : Int × Unit → World → Prop) =>
  cond (decide (z40.1 < ((8 : Int) * ((n36 : Nat) : Int))))
  (CallV Try.prog 56 #[.int .i64 z40.1, .pointer (some ⟨b5, 0, none⟩), .pointer (some ⟨b1, 0, none⟩), .pointer (some ⟨b3, 0, none⟩)] w41 [.one .bool] fun (r43 : Bool × Unit) w44 =>
  cond r43.1
  (DrawV fun D45 =>
  8 ≠ (0 : Int) ∧ Rng .i64 (Int.tdiv z40.1 8) ∧
  (0 ≤ (Int.tdiv z40.1 8) ∧ (Int.tdiv z40.1 8) < ((n36 : Nat) : Int)) ∧ ∃ q46 : Addr, a35 = some q46 ∧
  8 ≠ (0 : Int) ∧
  (0 : Int) ≤ (Int.tmod z40.1 8) ∧
  LoadS w44.drew (q46.add ((Int.tdiv z40.1 8).toNat * 1)) (.int .u8) fun (x47 : Int) =>
  KeepOn D45 w44.drew w44.drew ∧
  (0 ≤ (Int.tdiv z40.1 8) ∧ (Int.tdiv z40.1 8) < ((n36 : Nat) : Int)) ∧ ∃ q48 : Addr, a35 = some q48 ∧
  StoreV w44.drew (q48.add ((Int.tdiv z40.1 8).toNat * 1)) [.int .u8 (Go.bits .xor .u8 x47 (IntKind.u8.wrap ((1 : Int) * (2 ^ (Nat.min ((Int.tmod z40.1 8)).toNat 8)))))] fun w49 =>
  KeepOn D45 w44.drew w49 ∧
  Rng .i64 (z40.1 + 1) ∧
  K42 (z40.1 + 1, ()) w49)
  (Rng .i64 (z40.1 + 1) ∧
  K42 (z40.1 + 1, ()) w44))
  (K ((⟨a35, n36, c37⟩ : SlV), ()) w41) := by
  have lx := hx.len
  refine newU fun b1 w1 e1 o1 => ?_
  refine appU (xs := []) o1 (hx.ext e1) e1.size (by omega) fun a2 c2 w2 o2 b2 => ?_
  have e2 : Ext w7 w2 := Below.trans e1 b2
  rw [Nat.zero_add] at o2 ⊢
  rw [List.nil_append] at o2
  refine ⟨Rng.i64 (by omega) (by omega), ?_⟩
  refine Loop1 (fun (y : Int × Unit) w' => ∃ i : Nat, y.1 = (i : Int) ∧ i ≤ 8 * n0 ∧ Ext w7 w' ∧ Own w' w7.heap.size 5 1 a2 n0 c2 ((turn xs F i).map (Value.int .u8)))
    (fun (y : Int × Unit) _ => (8 * (n0 : Int) - y.1).toNat) ⟨0, rfl, by omega, e2, o2⟩ ?_
  rintro ⟨(y : Int), ⟨⟩⟩ w3 ⟨i, hy, hi, e3, o3⟩
  dsimp only at hy ⊢
  subst hy
  refine cond_d (fun hlt => ?_) (fun hge => ?_)
  · have hlt' : i < 8 * n0 := by omega
    refine (hcall w3 i e3 hlt').mono ?_
    rintro ⟨(r4 : Bool), ⟨⟩⟩ w4 ⟨h4, rfl⟩
    dsimp only at h4 ⊢
    subst h4
    refine cond_of (fun hF => ?_) (fun hF => ?_)
    · refine DrawV.none' fun D hkeep => ?_
      rw [tdiv8, tmod8]
      have o4 := o3.ext (Ext.drew w4)
      obtain ⟨q, hq, hload⟩ := load_at o4 hlt'
      refine ⟨by omega, Rng.i64 (by omega) (by omega), by omega, q, hq, by omega, by omega, hload ⟨hkeep _ _, ?_⟩⟩
      rw [Int.toNat_natCast (i % 8)]
      refine flip_at o4 hlt' (tflip ((turn_byt bx F i).getD _) (mod8 i)) fun w5 o5 b5 => ?_
      refine ⟨hkeep _ _, Rng.i64 (by omega) (by omega), ⟨i + 1, by push_cast; rfl, by omega, Below.trans (e3.trans (Ext.drew w4)) b5, ?_⟩, by omega⟩
      unfold turn
      rw [if_pos hF]
      exact o5
    · refine ⟨Rng.i64 (by omega) (by omega), ⟨i + 1, by push_cast; rfl, by omega, e3, ?_⟩, by omega⟩
      unfold turn
      rw [if_neg (by rw [hF]; simp)]
      exact o3
  · have : i = 8 * n0 := by omega
    subst this
    exact hK _ _ e3 o3

def neZ (i : Nat) (z : Int) : Bool := !decide ((i : Int) = z)
def turnF (ys ms : List Int) (last : Int) (i : Nat) : Bool := neZ i last && (hasL ys i && mBit ms i)

theorem turned1_c {w : World} {b1 b3 b5 B1 B3 B5 : Nat} {t1 t3 t5 : TypeId} {a1 a2 : Option Addr} {n1 c1 n2 c2 : Nat} {ys ms : List Int} {last : Int} (h5 : Box w B5 b5 t5 [.int .i64 last]) (h1 : Box w B1 b1 t1 [.slice a1 n1 c1]) (h3 : Box w B3 b3 t3 [.slice a2 n2 c2])
    (hy : Ints w .u8 a1 n1 c1 ys) (by' : Byt ys) (hm : Ints w .u8 a2 n2 c2 ms) (bm : Byt ms) {i : Nat} (hi : i < 8 * n1) (hn : n1 ≤ 100000) :
    CallV Try.prog 56 #[.int .i64 (i : Int), .pointer (some ⟨b5, 0, none⟩), .pointer (some ⟨b1, 0, none⟩), .pointer (some ⟨b3, 0, none⟩)] w [.one .bool] fun r w2 => r.1 = turnF ys ms last i ∧ w2 = w := by
  refine fault_turned_1.vc _ _ _ _ _ _ ?_
  unfold fault_turned_1.P
  refine h5.ld (i := 0) (h := .int .i64) (x := last) rfl ?_
  unfold turnF neZ
  refine cond_ne (fun hne => ?_) (fun heq => ⟨by rw [decide_eq_true heq]; rfl, rfl⟩)
  rw [decide_eq_false hne]
  refine h1.ld (i := 0) (h := .sl) (x := (⟨a1, n1, c1⟩ : SlV)) rfl ?_
  rw [tdiv8, tmod8]
  refine ⟨by omega, Rng.i64 (by omega) (by omega), ?_⟩
  refine hy.idx (by omega) (by omega) ?_
  rw [Int.toNat_natCast, Int.toNat_natCast]
  refine ⟨by omega, by omega, ?_⟩
  rw [f1 (by'.getD _) (mod8 i)]
  refine cond_of (fun hb => ?_) (fun hb => ⟨?_, rfl⟩)
  · refine h3.ld (i := 0) (h := .sl) (x := (⟨a2, n2, c2⟩ : SlV)) rfl ?_
    refine (Bit_c hm bm (by omega)).mono ?_
    rintro ⟨(r4 : Bool), ⟨⟩⟩ w4 ⟨h4, rfl⟩
    refine ⟨?_, rfl⟩
    dsimp only at h4 ⊢
    rw [h4, mBitZ_nat]
    unfold hasL
    rw [hb]
    rfl
  · show false = _
    unfold hasL
    rw [hb]
    rfl

theorem turned_c {w : World} {a0 a1 a2 : Option Addr} {n c0 c1 n2 c2 : Nat} {xs ys ms : List Int} {keep : Bool} (hx : Ints w .u8 a0 n c0 xs) (bx : Byt xs) (hy : Ints w .u8 a1 n c1 ys) (by' : Byt ys) (hm : Ints w .u8 a2 n2 c2 ms) (bm : Byt ms) (hn : n ≤ 100000) :
    CallV Try.prog 45 #[.slice a0 n c0, .slice a1 n c1, .slice a2 n2 c2, .bool keep] w [.one .sl] fun r w' => Res w w' r.1 (turn xs (turnF ys ms (if keep then lastOf (hasL ys) (8 * n) else -1)) (8 * n)) := by
  refine fault_turned.vc _ _ _ _ _ _ _ _ _ _ _ _ ?_
  unfold fault_turned.P
  refine newBox (vs := [.slice a1 n c1]) fun b1 w1 e1 hb1 => ?_
  refine newBox (vs := [.slice a2 n2 c2]) fun b3 w2 e2 hb3 => ?_
  refine newBox (vs := [.int .i64 0]) fun b5 w3 e3 hb5 => ?_
  refine hb5.store 0 (by simp) fun w4 hb5' bel4 _ _ => ?_
  have i1 := hb1.ext e2
  have e4 : Ext w2 w4 := Below.trans e3 bel4
  have E2 := e1.trans e2
  have fin : ∀ (w7 : World) (last : Int), Ext w2 w7 → Box w7 w2.heap.size b5 3 [.int .i64 last] → (last = if keep then lastOf (hasL ys) (8 * n) else -1) →
      ∀ (w' : World) (i : Nat), Ext w7 w' → i < 8 * n → CallV Try.prog 56 #[.int .i64 (i : Int), .pointer (some ⟨b5, 0, none⟩), .pointer (some ⟨b1, 0, none⟩), .pointer (some ⟨b3, 0, none⟩)] w' [.one .bool] fun r w2 => r.1 = turnF ys ms (if keep then lastOf (hasL ys) (8 * n) else -1) i ∧ w2 = w' := by
    intro w7 last e7 h7 hlast w' i e8 hi
    rw [← hlast]
    exact turned1_c (h7.ext e8) (i1.ext (e7.trans e8)) (hb3.ext (e7.trans e8)) (hy.ext (E2.trans (e7.trans e8))) by' (hm.ext (E2.trans (e7.trans e8))) bm hi hn
  refine cond_of (fun hk => ?_) (fun hk => ?_)
  · refine (i1.ext e4).ld (i := 0) (h := .sl) (x := (⟨a1, n, c1⟩ : SlV)) rfl ?_
    dsimp only
    refine ⟨Rng.i64 (by omega) (by omega), ?_⟩
    refine Loop1 (fun (y : Int × Unit) w' => ∃ i : Nat, y.1 = (i : Int) ∧ i ≤ 8 * n ∧ Ext w2 w' ∧ Box w' w2.heap.size b5 3 [.int .i64 (lastOf (hasL ys) i)])
      (fun (y : Int × Unit) _ => (8 * (n : Int) - y.1).toNat) ⟨0, rfl, by omega, e4, hb5'⟩ ?_
    rintro ⟨(y : Int), ⟨⟩⟩ w5 ⟨i, hy', hi, e5, h5⟩
    dsimp only at hy' ⊢
    subst hy'
    refine cond_d (fun hlt => ?_) (fun hge => ?_)
    · refine (i1.ext e5).ld (i := 0) (h := .sl) (x := (⟨a1, n, c1⟩ : SlV)) rfl ?_
      rw [tdiv8, tmod8]
      refine ⟨by omega, Rng.i64 (by omega) (by omega), ?_⟩
      refine (hy.ext (E2.trans e5)).idx (by omega) (by omega) ?_
      rw [Int.toNat_natCast, Int.toNat_natCast]
      refine ⟨by omega, by omega, ?_⟩
      rw [f1 (by'.getD _) (mod8 i)]
      refine cond_of (fun hb => ?_) (fun hb => ?_)
      · refine h5.store 0 (by simp) fun w6 h6 bel6 _ _ => ?_
        refine ⟨Rng.i64 (by omega) (by omega), ⟨i + 1, by push_cast; rfl, by omega, Below.trans e5 bel6, ?_⟩, by omega⟩
        have : lastOf (hasL ys) (i + 1) = (i : Int) := by unfold lastOf; rw [if_pos (show hasL ys i = true from hb)]
        rw [this]
        exact h6
      · refine ⟨Rng.i64 (by omega) (by omega), ⟨i + 1, by push_cast; rfl, by omega, e5, ?_⟩, by omega⟩
        have : lastOf (hasL ys) (i + 1) = lastOf (hasL ys) i := by
          show (if hasL ys i = true then (i : Int) else lastOf (hasL ys) i) = _
          rw [if_neg (by rw [show hasL ys i = false from hb]; simp)]
        rw [this]
        exact h5
    · have : i = 8 * n := by omega
      subst this
      refine turned2 (K := fun s w' => Res w w' s.1 (turn xs (turnF ys ms (if keep then lastOf (hasL ys) (8 * n) else -1)) (8 * n))) (F := turnF ys ms (if keep then lastOf (hasL ys) (8 * n) else -1)) (hx.ext (E2.trans e5)) bx hn (fin w5 _ e5 h5 (by rw [if_pos hk])) fun s w' e o => ?_
      exact ⟨E2.trans (e5.trans e), o.mono (E2.trans e5).size⟩
  · refine turned2 (K := fun s w' => Res w w' s.1 (turn xs (turnF ys ms (if keep then lastOf (hasL ys) (8 * n) else -1)) (8 * n))) (F := turnF ys ms (if keep then lastOf (hasL ys) (8 * n) else -1)) (hx.ext (E2.trans e4)) bx hn (fin w4 _ e4 hb5' (by rw [hk]; rfl)) fun s w' e o => ?_
    exact ⟨E2.trans (e4.trans e), o.mono (E2.trans e4).size⟩

end Go.Proofs.Ytombjhkdakmhpaa.Vc
