/- The contracts of layer 11 (geometry). -/
import Derived.Test.YtimbomieepefcaaLib2
import Derived.Test.YtimbomieepefcaaPl01
import Derived.Test.YtimbomieepefcaaV11
namespace Go.Proofs.Ytimbomieepefcaa.Vc
open Go Go.Eng Go.RowKit
set_option linter.unusedVariables false
set_option linter.unusedSimpArgs false

/-- A geometry's numbers. -/
structure Geo where
  b : Int
  p : Int
  s : Int
  sp : Int
  wr : Int
  ro : Int
abbrev Geo.vs (g : Geo) : List Value := [.int .i64 g.b, .int .i64 g.p, .int .i64 g.s, .int .i64 g.sp, .int .i64 g.wr, .int .i64 g.ro]
abbrev Geo.val (g : Geo) : Value := .agg #[.int .i64 g.b, .int .i64 g.p, .int .i64 g.s, .int .i64 g.sp, .int .i64 g.wr, .int .i64 g.ro]
abbrev Geo.tup (g : Geo) : Int × Int × Int × Int × Int × Int × Unit := (g.b, g.p, g.s, g.sp, g.wr, g.ro, ())
def Kept (g : Geo) : Prop := (7 ≤ g.b ∧ g.b ≤ 64) ∧ (4 ≤ g.p ∧ g.p ≤ 32) ∧ (32 ≤ g.s ∧ g.s ≤ 4096) ∧ (0 ≤ g.sp ∧ g.sp ≤ 8) ∧ (1 ≤ g.wr ∧ g.wr ≤ 1000) ∧ (1 ≤ g.ro ∧ g.ro ≤ 1000) ∧ g.s % 16 = 0
def cei (m u : Int) : Int := (m + u - 1) / u
def Right (g : Geo) : Prop := Kept g ∧ cei 624 g.s ≤ g.p ∧ g.sp + 3 ≤ g.b - 4
instance (g : Geo) : Decidable (Kept g) := by unfold Kept; infer_instance
instance (g : Geo) : Decidable (Right g) := by unfold Right; infer_instance

theorem cei_uniq {z u m : Int} (hu : 0 < u) (hm : 0 < m) (h1 : m ≤ z * u) (h2 : z = 0 ∨ (z - 1) * u < m) : z = cei m u := by
  have h3 : (z - 1) * u < m := by
    rcases h2 with rfl | h
    · simp at h1; omega
    · exact h
  have e : (z - 1) * u = z * u - u := by rw [Int.sub_mul, Int.one_mul]
  have e2 : (z + 1) * u = z * u + u := by rw [Int.add_mul, Int.one_mul]
  unfold cei
  have a := Int.le_ediv_of_mul_le hu (show z * u ≤ m + u - 1 by omega)
  have b := Int.ediv_lt_of_lt_mul hu (show m + u - 1 < (z + 1) * u by omega)
  omega
theorem cei_bd {u m : Int} (hu : 0 < u) (hm : 0 < m) : 1 ≤ cei m u ∧ cei m u ≤ m := by
  unfold cei
  have a := Int.le_ediv_of_mul_le hu (show 1 * u ≤ m + u - 1 by omega)
  have hp : m + u - 1 < (m + 1) * u := by
    have : m * 1 ≤ m * u := Int.mul_le_mul_of_nonneg_left (by omega) (by omega)
    rw [Int.add_mul, Int.one_mul]; omega
  have b := Int.ediv_lt_of_lt_mul hu hp
  omega

theorem in11_c {w : World} {n a b : Int} : CallV Try.prog 48 #[.int .i64 n, .int .i64 a, .int .i64 b] w [.one .bool] fun r w' => r.1 = decide (a ≤ n ∧ n ≤ b) ∧ w' = w := by
  refine ref11_in.vc _ _ _ _ _ ?_
  unfold ref11_in.P
  refine cond_d (fun h => ⟨?_, rfl⟩) (fun h => ⟨?_, rfl⟩)
  · show decide (n ≤ b) = _
    apply decide_eq_decide.2
    omega
  · show false = _
    exact (decide_eq_false (by omega)).symm

theorem rChunks_c {w : World} {g : Geo} (h : 32 ≤ g.s ∧ g.s ≤ 4096) : CallV Try.prog 24 #[g.val] w [.one (.int .i64)] fun r w' => r.1 = cei 624 g.s ∧ Ext w w' := by
  refine ref11_Chunks.vc _ _ _ _ _ _ _ _ ?_
  unfold ref11_Chunks.P
  rintro b1 w1 rfl rfl
  have hb : Box (w.alloc (.cells g.vs.toArray 28)) w.heap.size w.heap.size 28 g.vs := Box.new (Nat.le_refl _) _ _
  refine Loop1 (fun (y : Int × Unit) w' => 0 ≤ y.1 ∧ (y.1 = 0 ∨ (y.1 - 1) * g.s < 624) ∧ Ext w w' ∧ Box w' w.heap.size w.heap.size 28 g.vs) (fun (y : Int × Unit) _ => (21 - y.1).toNat) ⟨Int.le_refl _, .inl rfl, Ext.alloc _ _, hb⟩ ?_
  rintro ⟨(z : Int), ⟨⟩⟩ w' ⟨h0, h1, he, hb'⟩
  dsimp only at h0 h1 ⊢
  refine hb'.ld (i := 2) (h := .int .i64) (x := g.s) rfl ?_
  have hz : z ≤ 20 := by
    rcases h1 with rfl | h1
    · omega
    · apply Decidable.byContradiction
      intro hh
      have := mul_bd (a := 20) (A := z - 1) (b := 32) (B := g.s) (by omega) (by omega) (by omega) h.1
      omega
  have hr := mul_bd h0 hz (by omega : (0 : Int) ≤ g.s) h.2
  refine ⟨Rng.i64 (by omega) (by omega), ?_⟩
  refine cond_d (fun hlt => ?_) (fun hge => ?_)
  · exact ⟨Rng.i64 (by omega) (by omega), ⟨by omega, .inr (by rw [show z + 1 - 1 = z by omega]; exact hlt), he, hb'⟩, by omega⟩
  · exact ⟨cei_uniq (by omega) (by omega) (by omega) h1, he⟩

theorem rQuota_c {w : World} {g : Geo} {m : Int} (h : 4 ≤ g.p ∧ g.p ≤ 32) (hm : 1 ≤ m ∧ m ≤ 65535) : CallV Try.prog 27 #[g.val, .int .i64 m] w [.one (.int .i64)] fun r w' => r.1 = cei m (g.p - 1) + 2 ∧ Ext w w' := by
  refine ref11_Quota.vc _ _ _ _ _ _ _ _ _ ?_
  unfold ref11_Quota.P
  rintro b1 w1 rfl rfl
  have hb : Box (w.alloc (.cells g.vs.toArray 28)) w.heap.size w.heap.size 28 g.vs := Box.new (Nat.le_refl _) _ _
  refine Loop1 (fun (y : Int × Unit) w' => 0 ≤ y.1 ∧ (y.1 = 0 ∨ (y.1 - 1) * (g.p - 1) < m) ∧ Ext w w' ∧ Box w' w.heap.size w.heap.size 28 g.vs) (fun (y : Int × Unit) _ => (65536 - y.1).toNat) ⟨Int.le_refl _, .inl rfl, Ext.alloc _ _, hb⟩ ?_
  rintro ⟨(z : Int), ⟨⟩⟩ w' ⟨h0, h1, he, hb'⟩
  dsimp only at h0 h1 ⊢
  refine hb'.ld (i := 1) (h := .int .i64) (x := g.p) rfl ?_
  have hz : z ≤ 65535 := by
    rcases h1 with rfl | h1
    · omega
    · apply Decidable.byContradiction
      intro hh
      have := mul_bd (a := 65535) (A := z - 1) (b := 1) (B := g.p - 1) (by omega) (by omega) (by omega) (by omega)
      omega
  have hr := mul_bd h0 hz (by omega : (0 : Int) ≤ g.p - 1) (show g.p - 1 ≤ 31 by omega)
  refine ⟨Rng.i64 (by omega) (by omega), Rng.i64 (by omega) (by omega), ?_⟩
  refine cond_d (fun hlt => ?_) (fun hge => ?_)
  · exact ⟨Rng.i64 (by omega) (by omega), ⟨by omega, .inr (by rw [show z + 1 - 1 = z by omega]; exact hlt), he, hb'⟩, by omega⟩
  · refine ⟨Rng.i64 (by omega) (by omega), ?_, he⟩
    show z + 2 = _
    rw [cei_uniq (by omega) (by omega) (by omega) h1]
    rfl

theorem chunks_c {w : World} {s : Int} (h : 32 ≤ s ∧ s ≤ 4096) : CallV Try.prog 50 #[.int .i64 s] w [.one (.int .i64)] fun r w' => r.1 = cei 624 s ∧ w' = w := by
  refine geometry_chunks.vc _ _ _ ?_
  unfold geometry_chunks.P
  have hd : Int.tdiv (((624 : Int) + s) - 1) s = cei 624 s := Int.tdiv_eq_ediv_of_nonneg (by omega)
  have := cei_bd (u := s) (m := 624) (by omega) (by omega)
  rw [hd]
  exact ⟨Rng.i64 (by omega) (by omega), Rng.i64 (by omega) (by omega), by omega, Rng.i64 (by omega) (by omega), rfl, rfl⟩

def Geo.rown (g : Geo) : Nat → Int
  | 0 => g.b | 1 => g.p | 2 => g.s | 3 => g.sp | 4 => g.wr | _ => g.ro
def rowf : Nat → Int
  | 0 => 7 | 1 => 4 | 2 => 32 | 3 => 0 | 4 => 1 | _ => 1
def rowt : Nat → Int
  | 0 => 64 | 1 => 32 | 2 => 4096 | 3 => 8 | 4 => 1000 | _ => 1000

theorem kept_iff (g : Geo) : (∀ i, i < 6 → rowf i ≤ g.rown i ∧ g.rown i ≤ rowt i) ∧ g.s % 16 = 0 ↔ Kept g := by
  unfold Kept
  constructor
  · rintro ⟨h, h'⟩
    exact ⟨h 0 (by omega), h 1 (by omega), h 2 (by omega), h 3 (by omega), h 4 (by omega), h 5 (by omega), h'⟩
  · rintro ⟨h0, h1, h2, h3, h4, h5, h6⟩
    refine ⟨fun i hi => ?_, h6⟩
    match i, hi with
    | 0, _ => exact h0
    | 1, _ => exact h1
    | 2, _ => exact h2
    | 3, _ => exact h3
    | 4, _ => exact h4
    | 5, _ => exact h5

theorem kept_c {w : World} {g : Geo} : CallV Try.prog 49 #[g.val] w [.one .bool] fun r w' => r.1 = decide (Kept g) ∧ Ext w w' := by
  refine geometry_kept.vc _ _ _ _ _ _ _ _ ?_
  unfold geometry_kept.P
  rintro b1 w1 rfl rfl
  have hb : Box (w.alloc (.cells g.vs.toArray 28)) w.heap.size w.heap.size 28 g.vs := Box.new (Nat.le_refl _) _ _
  refine hb.ld (i := 0) (h := .int .i64) (x := g.b) rfl ?_
  refine hb.ld (i := 1) (h := .int .i64) (x := g.p) rfl ?_
  refine hb.ld (i := 2) (h := .int .i64) (x := g.s) rfl ?_
  refine hb.ld (i := 3) (h := .int .i64) (x := g.sp) rfl ?_
  refine hb.ld (i := 4) (h := .int .i64) (x := g.wr) rfl ?_
  refine hb.ld (i := 5) (h := .int .i64) (x := g.ro) rfl ?_
  refine Loop1 (fun (y : Int × Unit) w' => ∃ i : Nat, y.1 = (i : Int) ∧ i ≤ 6 ∧ (∀ j, j < i → rowf j ≤ g.rown j ∧ g.rown j ≤ rowt j) ∧ Ext w w' ∧ Box w' w.heap.size w.heap.size 28 g.vs) (fun (y : Int × Unit) _ => (6 - y.1).toNat) ⟨0, rfl, by omega, fun j hj => absurd hj (by omega), Ext.alloc _ _, hb⟩ ?_
  rintro ⟨(z : Int), ⟨⟩⟩ w' ⟨i, hz, h6, hr, he, hb'⟩
  dsimp only at hz ⊢
  subst hz
  refine cond_d (fun hlt => ?_) (fun hge => ?_)
  · refine ⟨⟨by omega, hlt⟩, (g.rown i, rowf i, rowt i, ()), ?_, ?_⟩
    · rw [Int.toNat_natCast]
      match i, hlt with
      | 0, _ => rfl
      | 1, _ => rfl
      | 2, _ => rfl
      | 3, _ => rfl
      | 4, _ => rfl
      | 5, _ => rfl
      | n + 6, h => exact absurd h (by omega)
    · rintro b2 w2 rfl rfl
      dsimp only
      have hb2 := Box.new (w := w') (B := w'.heap.size) (Nat.le_refl _) 67 [.int .i64 0, .int .i64 0, .int .i64 0]
      refine hb2.store 0 (by simp) fun w3 hb3 bl3 _ _ => ?_
      have e3 : Ext w' w3 := Below.trans (Ext.alloc w' _) bl3
      refine hb3.ld (i := 0) (h := .int .i64) (x := g.rown i) rfl ?_
      refine hb3.ld (i := 1) (h := .int .i64) (x := rowf i) rfl ?_
      refine cond_d (fun hc => ?_) (fun hc => ?_)
      · refine ⟨?_, he.trans e3⟩
        show false = _
        exact (decide_eq_false (fun hk => by have := ((kept_iff g).2 hk).1 i (by omega); omega)).symm
      refine hb3.ld (i := 0) (h := .int .i64) (x := g.rown i) rfl ?_
      refine hb3.ld (i := 2) (h := .int .i64) (x := rowt i) rfl ?_
      refine cond_d (fun hc' => ?_) (fun hc' => ?_)
      · refine ⟨?_, he.trans e3⟩
        show false = _
        exact (decide_eq_false (fun hk => by have := ((kept_iff g).2 hk).1 i (by omega); omega)).symm
      refine ⟨Rng.i64 (by omega) (by omega), ⟨i + 1, by push_cast; rfl, by omega, fun j hj => ?_, he.trans e3, hb'.ext e3⟩, by omega⟩
      by_cases hji : j = i
      · subst hji; omega
      · exact hr j (by omega)
  · have : i = 6 := by omega
    subst this
    refine hb'.ld (i := 2) (h := .int .i64) (x := g.s) rfl ?_
    refine ⟨by omega, ?_, he⟩
    show (Int.tmod g.s 16 == 0) = _
    have h2 := hr 2 (by omega)
    have h2' : 0 ≤ g.s := by have : (32 : Int) ≤ g.s := h2.1; omega
    rw [Int.tmod_eq_emod_of_nonneg h2']
    by_cases hm : g.s % 16 = 0
    · rw [hm, decide_eq_true ((kept_iff g).1 ⟨hr, hm⟩)]; rfl
    · rw [decide_eq_false (fun hk => hm ((kept_iff g).2 hk).2)]
      simpa using hm

end Go.Proofs.Ytimbomieepefcaa.Vc
