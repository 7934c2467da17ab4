/- What the parameters of a law are known to be, out of the row's input: whole numbers in their range, slices of whole numbers as cells. -/
import Derived.Test.YtombjhkdakmhpaaLib1
import Derived.SizedLaws
import Derived.ChangeSlices
import Derived.ChangeShapes
import Derived.ShutString
namespace Go.Proofs.Ytombjhkdakmhpaa.Vc
open Go Go.Eng Go.RowKit Go.ChangeShapes
set_option linter.unusedVariables false
set_option linter.unusedSimpArgs false

theorem wfRng {k : IntKind} {n : Int} (h : (Lit.int k n).wf = true) : Rng k n := by
  simpa [Lit.wf, Rng] using h

/-- A parameter that is a slice of whole numbers. -/
structure SlI (W : World) (k : IntKind) (a : Option Addr) (n c : Nat) (l : List Int) (b : Nat) : Prop where
  ints : Ints W k a n c l
  rng : ∀ x ∈ l, Rng k x
  size : n * b ≤ 140737488351232

theorem openInts {H : Type} {enc : TypeId × Value → H} {P : Program} {W : World} {t e : TypeId} {k : IntKind} (ht : P.underlying t = some (.slice e)) (he : P.underlying e = some (.int k)) (hc : P.cellsOf e = 1)
    {ts : List TypeId} {ds : List (DataW H)} {j : Nat} {d : DataW H} (htj : ts[j]? = some t) (hdj : ds[j]? = some d) (hsz : (DataW.weightsEach P ts ds).all (· ≤ reachBytes) = true)
    {a : Option Addr} {n c : Nat} {ps : List MemPlace} (h : DataW.Trod enc P W 0 (fun _ => true) true t (.slice a n c) d ps) : ∃ l, SlI W k a n c l (P.bytesOf e) := by
  obtain ⟨fuel, hf⟩ := h
  rcases open_ints ht he hc hf with ⟨hcs, hx⟩ | ⟨x, len, cap, zs, hcs, _, hl, hm, hz, hx, hcell, hwz⟩
  · simp [Value.cells] at hcs
    obtain ⟨rfl, rfl, rfl⟩ := hcs
    exact ⟨[], ⟨rfl, Nat.le_refl _, by omega, .inl ⟨rfl, rfl⟩⟩, by simp, by simp⟩
  · simp [Value.cells] at hcs
    obtain ⟨rfl, rfl, rfl⟩ := hcs
    simp only [if_true] at hz
    have hdd : d = .slice (lits k (zs.take n)) (lits k (zs.drop n)) := congrArg Prod.fst hx
    subst hdd
    have hb := sized_slice hsz htj hdj ht
    rw [show (lits k (zs.take n) : List (DataW H)).length + (lits k (zs.drop n) : List (DataW H)).length = c by simp [lits]; omega] at hb
    have hml : maxLen = 9223372036854775807 := by decide
    have hll : (zs.take n).length = n := by simp; omega
    refine ⟨zs.take n, ⟨hll, hl, by omega, .inr ⟨x, rfl, fun i v hv => ?_⟩⟩, fun y hy => wfRng (hwz y (List.mem_of_mem_take hy)), ?_⟩
    · obtain ⟨hi, rfl⟩ := List.getElem?_eq_some_iff.1 hv
      rw [List.length_map, hll] at hi
      rw [hcell i (by omega), List.getElem_map, List.getElem_take, List.getD_eq_getElem?_getD, List.getElem?_eq_getElem (by omega), Option.getD_some]
    · refine Nat.le_trans (Nat.mul_le_mul_right _ hl) ?_
      exact hb

theorem SlI.byt {W : World} {a : Option Addr} {n c : Nat} {l : List Int} {b : Nat} (h : SlI W .u8 a n c l b) : ∀ x ∈ l, 0 ≤ x ∧ x < 256 := fun x hx => by
  have := h.rng x hx
  unfold Rng at this
  have e1 : IntKind.u8.min = 0 := by decide
  have e2 : IntKind.u8.max = 255 := by decide
  omega
theorem rng_u64 {x : Int} (h : Rng .u64 x) : 0 ≤ x ∧ x < 18446744073709551616 := by
  unfold Rng at h
  have e1 : IntKind.u64.min = 0 := by decide
  have e2 : IntKind.u64.max = 18446744073709551615 := by decide
  omega
theorem rng_u8 {x : Int} (h : Rng .u8 x) : 0 ≤ x ∧ x < 256 := by
  unfold Rng at h
  have e1 : IntKind.u8.min = 0 := by decide
  have e2 : IntKind.u8.max = 255 := by decide
  omega
theorem rng_i64 {x : Int} (h : Rng .i64 x) : -9223372036854775808 ≤ x ∧ x ≤ 9223372036854775807 := by
  unfold Rng at h
  have e1 : IntKind.i64.min = -9223372036854775808 := by decide
  have e2 : IntKind.i64.max = 9223372036854775807 := by decide
  omega

end Go.Proofs.Ytombjhkdakmhpaa.Vc
