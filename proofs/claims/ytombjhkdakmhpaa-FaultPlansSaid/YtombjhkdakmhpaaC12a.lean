/- The contracts of layer 12 (fault): bits, and what is there behind torn programs and erases. -/
import Derived.Test.YtombjhkdakmhpaaC01d
import Derived.Test.YtombjhkdakmhpaaLib2
import Derived.Test.YtombjhkdakmhpaaPl12
import Derived.Test.YtombjhkdakmhpaaV12
namespace Go.Proofs.Ytombjhkdakmhpaa.Vc
open Go Go.Eng Go.RowKit
set_option linter.unusedVariables false
set_option linter.unusedSimpArgs false

theorem appU {w : World} {a a2 : Option Addr} {n c m c2 : Nat} {xs ys : List Int} {B : Nat} {K : Option Addr → Nat → Nat → World → Prop} (ho : Own w B 5 1 a n c (xs.map (Value.int .u8))) (hy : Ints w .u8 a2 m c2 ys) (hB : B ≤ w.heap.size) (hn : n + m ≤ 100000000)
    (hk : ∀ a' c' w', Own w' B 5 1 a' (n + m) c' ((xs ++ ys).map (Value.int .u8)) → Below B w w' → K a' (n + m) c' w') :
    AppS w a2 m 1 fun ns => AppV w 5 1 1 a n c ns m K := by
  refine AppS.of (news := ys.map (Value.int .u8)) (by rw [List.length_map, hy.len]; omega) hy.rd ?_
  refine AppV.own ho hB (by rw [List.length_map, hy.len]; omega) (oneAll.ints _ _) (by omega) (by omega) fun a' c' w' h1 h2 _ _ => ?_
  refine hk a' c' w' ?_ h2
  rw [List.map_append]
  exact h1
theorem newU {w : World} {K : Nat → World → Prop} (h : ∀ b w1, Ext w w1 → Own w1 w.heap.size 5 1 (some ⟨b, 0, none⟩) 0 0 [] → K b w1) : NewV #[] 5 w K := by
  rintro b w1 rfl rfl
  exact h _ _ (Ext.alloc _ _) (Own.zeros (w := w) (B := w.heap.size) (e := 5) (n := 0) (c := 0) (z := .int .u8 0) (Nat.le_refl _) (Nat.zero_le _) (by omega) rfl)

theorem tdiv8 (i : Nat) : Int.tdiv (i : Int) 8 = ((i / 8 : Nat) : Int) := by rw [Int.tdiv_eq_ediv_of_nonneg (by omega)]; omega
theorem tmod8 (i : Nat) : Int.tmod (i : Int) 8 = ((i % 8 : Nat) : Int) := by rw [Int.tmod_eq_emod_of_nonneg (by omega)]; omega
theorem mod8 (i : Nat) : i % 8 < 8 := Nat.mod_lt _ (by omega)

theorem power_c {w : World} {j : Nat} (hj : j < 8) : CallV Try.prog 44 #[.int .i64 (j : Int)] w [.one (.int .i64)] fun r w' => r.1 = (2 : Int) ^ j ∧ w' = w := by
  refine ref12_power.vc _ _ _ ?_
  unfold ref12_power.P
  refine Loop1 (fun (y : Int × Int × Unit) w' => ∃ k : Nat, y.2.1 = (k : Int) ∧ k ≤ j ∧ y.1 = (2 : Int) ^ k ∧ w' = w) (fun (y : Int × Int × Unit) _ => ((j : Int) - y.2.1).toNat) ⟨0, rfl, by omega, rfl, rfl⟩ ?_
  rintro ⟨(p : Int), (y : Int), ⟨⟩⟩ w' ⟨k, hy, hk, hp, rfl⟩
  dsimp only at hy hp ⊢
  subst hy; subst hp
  refine cond_d (fun hlt => ?_) (fun hge => ?_)
  · have hb := pow_byt0 ⟨k, by omega⟩
    dsimp only at hb
    refine ⟨Rng.i64 (by omega) (by omega), Rng.i64 (by omega) (by omega), ⟨k + 1, by push_cast; rfl, by omega, ?_, rfl⟩, by omega⟩
    show (2 : Int) ^ k * 2 = 2 ^ (k + 1)
    rw [Int.pow_succ]
  · have : k = j := by omega
    subst this
    exact ⟨rfl, rfl⟩

theorem Has_c {w : World} {a : Option Addr} {n c : Nat} {xs : List Int} (hx : Ints w .u8 a n c xs) (bx : Byt xs) {i : Nat} (hi : i < 8 * n) (hn : n ≤ 100000) :
    CallV Try.prog 47 #[.slice a n c, .int .i64 (i : Int)] w [.one .bool] fun r w' => r.1 = hasL xs i ∧ Ext w w' := by
  refine ref12_Has.vc _ _ _ _ _ _ ?_
  unfold ref12_Has.P
  refine DrawV.old w fun D hD hkeep => ?_
  rw [tdiv8, tmod8]
  have hb := bx.getD (i / 8)
  have hm := mod8 i
  have hp := pow_byt0 ⟨i % 8, hm⟩
  have hp1 : (1 : Int) ≤ 2 ^ (i % 8) := by have : (0 : Int) < 2 ^ (i % 8) := Int.pow_pos (by omega); omega
  refine ⟨by omega, Rng.i64 (by omega) (by omega), ?_⟩
  refine hx.idxD (Ext.drew w) (by omega) (by omega) hD ?_
  rw [Int.toNat_natCast]
  refine ⟨by omega, (power_c hm).mono ?_⟩
  rintro ⟨(p : Int), ⟨⟩⟩ w' ⟨hp', rfl⟩
  dsimp only at hp' hp ⊢
  subst hp'
  refine ⟨hkeep _ (Ext.drew w), by omega, ?_, by omega, f6 hb _, Ext.drew w⟩
  rw [i64_id (by omega) (by omega), Int.tdiv_eq_ediv_of_nonneg hb.1]
  have h0 := Int.ediv_nonneg hb.1 (by omega : (0 : Int) ≤ 2 ^ (i % 8))
  have h1 := Int.ediv_le_self (2 ^ (i % 8)) hb.1
  exact Rng.i64 (by omega) (by omega)

def mBitZ (ms : List Int) (i : Int) : Bool := if i < 0 then false else mBit ms i.toNat
theorem mBitZ_nat (ms : List Int) (i : Nat) : mBitZ ms (i : Int) = mBit ms i := by unfold mBitZ; rw [if_neg (by omega), Int.toNat_natCast]
theorem mask_at {i n : Nat} : Int.tmod ((i / 8 : Nat) : Int) ((n : Nat) : Int) = ((i / 8 % n : Nat) : Int) := by rw [Int.tmod_eq_emod_of_nonneg (by omega)]; rfl

theorem Bit_c {w : World} {a : Option Addr} {n c : Nat} {xs : List Int} (hx : Ints w .u8 a n c xs) (bx : Byt xs) {i : Int} (hi : i ≤ 9223372036854775807) :
    CallV Try.prog 19 #[.slice a n c, .int .i64 i] w [.one .bool] fun r w' => r.1 = mBitZ xs i ∧ w' = w := by
  refine fault_Bit.vc _ _ _ _ _ _ ?_
  unfold fault_Bit.P
  have ln := hx.len
  refine cond_d (fun h => ⟨by unfold mBitZ; rw [if_pos h], rfl⟩) (fun h => ?_)
  obtain ⟨i, rfl⟩ : ∃ k : Nat, i = (k : Int) := ⟨i.toNat, by omega⟩
  rw [mBitZ_nat]
  refine cond_eq (fun h0 => ⟨by unfold mBit; rw [if_pos (by omega)], rfl⟩) (fun h0 => ?_)
  rw [tdiv8, tmod8, mask_at]
  have hlt : i / 8 % n < n := Nat.mod_lt _ (by omega)
  refine ⟨by omega, Rng.i64 (by omega) (by omega), h0, ?_⟩
  refine hx.idx (by omega) (by omega) ?_
  rw [Int.toNat_natCast, Int.toNat_natCast]
  refine ⟨by omega, by omega, ?_, rfl⟩
  rw [f1 (bx.getD _) (mod8 i)]
  unfold mBit
  rw [if_neg (by omega), ln]

theorem rBit_c {w : World} {a : Option Addr} {n c : Nat} {xs : List Int} (hx : Ints w .u8 a n c xs) (bx : Byt xs) {i : Int} (hi : i ≤ 9223372036854775807) :
    CallV Try.prog 20 #[.slice a n c, .int .i64 i] w [.one .bool] fun r w' => r.1 = mBitZ xs i ∧ Ext w w' := by
  refine ref12_Bit.vc _ _ _ _ _ _ ?_
  unfold ref12_Bit.P
  have ln := hx.len
  refine cond_d (fun h => ⟨by unfold mBitZ; rw [if_pos h], Ext.refl _⟩) (fun h => ?_)
  obtain ⟨i, rfl⟩ : ∃ k : Nat, i = (k : Int) := ⟨i.toNat, by omega⟩
  rw [mBitZ_nat]
  refine DrawV.old w fun D hD hkeep => ?_
  refine cond_eq (fun h0 => ⟨by unfold mBit; rw [if_pos (by omega)], Ext.drew w⟩) (fun h0 => ?_)
  rw [tdiv8, tmod8, mask_at]
  have hlt : i / 8 % n < n := Nat.mod_lt _ (by omega)
  have hm := mod8 i
  refine ⟨by omega, Rng.i64 (by omega) (by omega), h0, ?_⟩
  refine hx.idxD (Ext.drew w) (by omega) (by omega) hD ?_
  rw [Int.toNat_natCast]
  have hb := bx.getD (i / 8 % n)
  have hp1 : (1 : Int) ≤ 2 ^ (i % 8) := by have : (0 : Int) < 2 ^ (i % 8) := Int.pow_pos (by omega); omega
  refine ⟨by omega, (power_c hm).mono ?_⟩
  rintro ⟨(p : Int), ⟨⟩⟩ w' ⟨hp', rfl⟩
  dsimp only at hp' ⊢
  subst hp'
  refine ⟨hkeep _ (Ext.drew w), by omega, ?_, by omega, ?_, Ext.drew w⟩
  · rw [i64_id (by omega) (by omega), Int.tdiv_eq_ediv_of_nonneg hb.1]
    have h0 := Int.ediv_nonneg hb.1 (by omega : (0 : Int) ≤ 2 ^ (i % 8))
    have h1 := Int.ediv_le_self (2 ^ (i % 8)) hb.1
    exact Rng.i64 (by omega) (by omega)
  · rw [f6 hb]
    unfold mBit
    rw [if_neg (by omega), ln]

theorem And_c {w : World} {a a2 : Option Addr} {n c m c2 : Nat} {xs ys : List Int} (hx : Ints w .u8 a n c xs) (hy : Ints w .u8 a2 m c2 ys) (hnm : n ≤ m) (hn : n ≤ 100000) :
    CallV Try.prog 26 #[.slice a n c, .slice a2 m c2] w [.one .sl] fun r w' => Res w w' r.1 (andL xs ys) := by
  refine ref12_And.vc _ _ _ _ _ _ _ _ ?_
  unfold ref12_And.P
  have lx := hx.len
  have ly := hy.len
  refine newU fun b1 w1 e1 o1 => ?_
  refine Loop1 (fun (y : SlV × Int × Unit) w' => ∃ i : Nat, y.2.1 = (i : Int) ∧ i ≤ n ∧ y.1.n = i ∧ Ext w w' ∧ Own w' w.heap.size 5 1 y.1.a y.1.n y.1.c (((andL xs ys).take i).map (Value.int .u8)))
    (fun (y : SlV × Int × Unit) _ => ((n : Int) - y.2.1).toNat) ⟨0, rfl, by omega, rfl, e1, o1⟩ ?_
  rintro ⟨(s : SlV), (y : Int), ⟨⟩⟩ w2 ⟨i, hy', hi, hsn, e2, o2⟩
  dsimp only at hy' hsn o2 ⊢
  subst hy'
  refine cond_d (fun hlt => ?_) (fun hge => ?_)
  · refine DrawV.base w.heap.size w2 fun D hD hkeep => ?_
    have e2' := e2.trans (Ext.drew w2)
    refine hx.idxD e2' (by omega) hlt hD ?_
    refine hy.idxD e2' (by omega) (by omega) hD ?_
    rw [Int.toNat_natCast]
    rintro b3 w3 hb3 hw3
    have x3 : Ext w2.drew w3 := by rw [hw3]; exact Ext.alloc _ _
    refine ⟨hkeep _ (Below.mono ((Ext.drew w2).trans x3) e2.size), ?_⟩
    refine app1 (o2.ext (Ext.drew w2)) e2'.size (by omega) hb3 hw3 fun a' c' w4 o4 b4 => ?_
    refine ⟨hkeep _ (Below.trans (Below.mono (Ext.drew w2) e2.size) b4), Rng.i64 (by omega) (by omega), ⟨i + 1, by push_cast; rfl, by omega, by show s.n + 1 = _; omega, Below.trans e2' b4, ?_⟩, by omega⟩
    rw [List.take_succ_eq_append_getElem (by rw [andL_length]; omega), show (andL xs ys)[i]'(by rw [andL_length]; omega) = Go.bits .and .u8 (xs.getD i 0) (ys.getD i 0) by simp [andL]]
    exact o4
  · have : i = n := by omega
    subst this
    rw [List.take_of_length_le (by rw [andL_length]; omega)] at o2
    exact ⟨e2, o2⟩

theorem cleared_c {w : World} {a a2 : Option Addr} {n c c2 : Nat} {xs ys : List Int} (hx : Ints w .u8 a n c xs) (hy : Ints w .u8 a2 n c2 ys) (hn : n ≤ 100000) :
    CallV Try.prog 46 #[.slice a n c, .slice a2 n c2] w [.one .sl] fun r w' => Res w w' r.1 (clrL xs ys) := by
  refine fault_cleared.vc _ _ _ _ _ _ _ _ ?_
  unfold fault_cleared.P
  have lx := hx.len
  have ly := hy.len
  refine ⟨by omega, ?_⟩
  rintro b1 w1 rfl rfl
  rw [Int.toNat_natCast]
  have hnew := Own.zeros (w := w) (B := w.heap.size) (e := 5) (n := n) (c := n) (z := .int .u8 0) (Nat.le_refl _) (Nat.le_refl _) (by omega) rfl
  refine Loop1 (fun (y : Int × Unit) w' => ∃ i : Nat, y.1 = (i : Int) ∧ i ≤ n ∧ Ext w w' ∧ Own w' w.heap.size 5 1 (some ⟨w.heap.size, 0, none⟩) n n (((clrL xs ys).map (Value.int .u8)).take i ++ List.replicate (n - i) (.int .u8 0)))
    (fun (y : Int × Unit) _ => ((n : Int) - y.1).toNat) ⟨0, rfl, by omega, Ext.alloc _ _, by simpa using hnew⟩ ?_
  rintro ⟨(y : Int), ⟨⟩⟩ w2 ⟨i, hy', hi, e2, o2⟩
  dsimp only at hy' ⊢
  subst hy'
  refine cond_d (fun hlt => ?_) (fun hge => ?_)
  · refine DrawV.base w.heap.size w2 fun D hD hkeep => ?_
    have e2' := e2.trans (Ext.drew w2)
    refine hx.idxD e2' (by omega) hlt hD ?_
    refine hy.idxD e2' (by omega) (by omega) hD ?_
    rw [Int.toNat_natCast]
    refine fill_round (w0 := w) (S := clrL xs ys) (by rw [clrL_length]; exact lx) (by omega) (by simp [clrL]) (o2.ext (Ext.drew w2)) fun w3 o3 b3 => ?_
    exact ⟨hkeep _ (Below.trans (Below.mono (Ext.drew w2) e2.size) b3), Rng.i64 (by omega) (by omega), ⟨i + 1, by push_cast; rfl, by omega, Below.trans e2' b3, o3⟩, by omega⟩
  · have : i = n := by omega
    subst this
    rw [List.take_of_length_le (by rw [List.length_map, clrL_length]; omega), Nat.sub_self, List.replicate_zero, List.append_nil] at o2
    exact ⟨e2, o2⟩

end Go.Proofs.Ytombjhkdakmhpaa.Vc
