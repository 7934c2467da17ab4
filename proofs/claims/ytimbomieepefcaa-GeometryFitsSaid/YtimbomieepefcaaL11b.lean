/- The law GeometryFewer of layer 11: each call gives true, and what it read stays. -/
import Derived.Test.YtimbomieepefcaaL11a
import Derived.Test.YtimbomieepefcaaC11c
namespace Go.Proofs.Ytimbomieepefcaa.Vc
open Go Go.Eng Go.RowKit
set_option linter.unusedVariables false
set_option linter.unusedSimpArgs false

theorem appI {w : World} {a a2 : Option Addr} {n c m c2 : Nat} {xs ys : List Int} {B : Nat} {K : Option Addr → Nat → Nat → World → Prop} (ho : Own w B 3 1 a n c (xs.map (Value.int .i64))) (hy : Ints w .i64 a2 m c2 ys) (hB : B ≤ w.heap.size) (hn : n + m ≤ 1000000)
    (hk : ∀ a' c' w', Own w' B 3 1 a' (n + m) c' ((xs ++ ys).map (Value.int .i64)) → Below B w w' → K a' (n + m) c' w') :
    AppS w a2 m 1 fun ns => AppV w 3 1 8 a n c ns m K := by
  refine AppS.of (news := ys.map (Value.int .i64)) (by rw [List.length_map, hy.len]; omega) hy.rd ?_
  refine AppV.own ho hB (by rw [List.length_map, hy.len]; omega) (oneAll.ints _ _) (by omega) (by omega) fun a' c' w' h1 h2 _ _ => ?_
  refine hk a' c' w' ?_ h2
  rw [List.map_append]
  exact h1
theorem newNil {w : World} {e : TypeId} {K : Nat → World → Prop} (h : ∀ b w1, Ext w w1 → Own w1 w.heap.size e 1 (some ⟨b, 0, none⟩) 0 0 [] → K b w1) : NewV #[] e w K := by
  rintro b w1 rfl rfl
  exact h _ _ (Ext.alloc _ _) (Own.zeros (w := w) (B := w.heap.size) (e := e) (n := 0) (c := 0) (z := .int .u8 0) (Nat.le_refl _) (Nat.zero_le _) (by omega) rfl)
theorem newOne {w : World} {e : TypeId} {k : IntKind} {x : Int} {K : Nat → World → Prop} (h : ∀ b w1, Ext w w1 → Ints w1 k (some ⟨b, 0, none⟩) 1 1 [x] → K b w1) : NewV #[.int k x] e w K := by
  rintro b w1 rfl rfl
  exact h _ _ (Ext.alloc _ _) ⟨rfl, Nat.le_refl _, by omega, .inr ⟨_, rfl, CellsAt.new (cs := [.int k x])⟩⟩

theorem cei_mono {u m m' : Int} (hu : 0 < u) (h : m ≤ m') : cei m u ≤ cei m' u := by
  unfold cei
  exact Int.ediv_le_ediv hu (by omega)
theorem mem_set {l : List Int} {i : Nat} {v x : Int} (h : x ∈ l.set i v) : x ∈ l ∨ x = v := List.mem_or_eq_of_mem_set h
theorem qs_set {g : Geo} {l : List Int} {i : Nat} (hi : i < l.length) (v : Int) : qs g (l.set i v) + quo g (l.getD i 0) = qs g l + quo g v := by
  induction l generalizing i with
  | nil => simp at hi
  | cons x l ih =>
    cases i with
    | zero => simp only [List.set_cons_zero, qs, List.getD_cons_zero]; omega
    | succ i =>
      have := ih (i := i) (by simpa using hi)
      simp only [List.set_cons_succ, qs, List.getD_cons_succ]; omega
theorem qs_cut {g : Geo} {l : List Int} {i : Nat} (hi : i < l.length) : qs g (l.take i ++ l.drop (i + 1)) + quo g (l.getD i 0) = qs g l := by
  induction l generalizing i with
  | nil => simp at hi
  | cons x l ih =>
    cases i with
    | zero => simp only [List.take_zero, List.nil_append, List.drop_succ_cons, List.drop_zero, qs, List.getD_cons_zero]; omega
    | succ i =>
      have := ih (i := i) (by simpa using hi)
      simp only [List.take_succ_cons, List.drop_succ_cons, List.cons_append, qs, List.getD_cons_succ]; omega

theorem GeometryFewer_law {w : World} {g : Geo} {at' less : Int} {a : Option Addr} {n c : Nat} {l : List Int} (hl : Ints w .i64 a n c l) :
    CallV Try.prog 10 #[g.val, .slice a n c, .agg #[.int .i64 at', .int .i64 less]] w [.one .bool] fun r w' => r.1 = true ∧ Ext w w' := by
  refine law11_GeometryFewer.vc _ _ _ _ _ _ _ _ _ _ _ _ _ ?_
  unfold law11_GeometryFewer.P
  have ln := hl.len
  have lc := hl.cap
  refine newG fun b1 w1 e1 hb => ?_
  refine newBox (vs := [.int .i64 at', .int .i64 less]) fun b2 w2 e2 hb2 => ?_
  have aw : ∀ {w' : World}, Ext w w' → CallV Try.prog 23 #[] w' [.one .bool] fun r w3 => r.1 = true ∧ Ext w w3 := fun he => awake11_c.mono fun r w3 ⟨h, e⟩ => ⟨h, he.trans e⟩
  have E2 := e1.trans e2
  refine ⟨by omega, hb2.ld (i := 0) (h := .int .i64) (x := at') rfl ⟨by omega, hb2.ld (i := 1) (h := .int .i64) (x := less) rfl ?_⟩⟩
  refine cond_d (fun _ => aw E2) (fun h100 => ?_)
  refine ldG (hb.ext e2) ?_
  refine (Fit_c (g := g) (hl.ext E2)).mono ?_
  rintro ⟨(r3 : Int), ⟨⟩⟩ w3 ⟨h3, e3⟩
  dsimp only at h3 ⊢
  subst h3
  have E3 := E2.trans e3
  refine cond_ne (fun _ => aw E3) (fun hz => ?_)
  obtain ⟨hr, hok, h4, htot⟩ := fitE_zero.1 hz
  refine cond_d (fun _ => aw E3) (fun c1 => cond_d (fun _ => aw E3) (fun c2 => cond_d (fun _ => aw E3) (fun c3 => ?_)))
  have hl3 := hl.ext E3
  refine hl3.idx (by omega) (by omega) ?_
  obtain ⟨i, rfl⟩ : ∃ i : Nat, at' = (i : Int) := ⟨at'.toNat, by omega⟩
  rw [Int.toNat_natCast]
  have hi : i < n := by omega
  have hmem : l.getD i 0 ∈ l := by rw [getD_get (by omega)]; exact List.getElem_mem _
  have hin := hok _ hmem
  refine cond_d (fun _ => aw E3) (fun c4 => ?_)
  refine DrawV.old w3 fun D hD hkeep => ?_
  refine ⟨by omega, ?_⟩
  unfold SubK
  intro a5 ha5
  refine ⟨Rng.i64 (by omega) (by omega), by omega, ?_⟩
  intro a6 ha6
  have x3 := Ext.drew w3
  rw [show ((i : Int) + 1).toNat = i + 1 by omega] at ha6 ⊢
  have s5 := (hl3.ext x3).sub (Nat.zero_le i) (by omega) (by omega) ha5
  have s6 := (hl3.ext x3).sub (l := i + 1) (hh := n) (by omega) (Nat.le_refl _) lc ha6
  rw [List.drop_zero, Nat.sub_zero] at s5
  rw [List.take_of_length_le (by rw [List.length_drop]; omega)] at s6
  refine newNil fun b7 w7 e7 o7 => ?_
  have x7 := x3.trans e7
  refine ⟨hkeep _ x7, ?_⟩
  refine appI (xs := []) o7 (s5.ext e7) e7.size (by omega) fun a8 c8 w8 o8 b8 => ?_
  have x8 : Ext w3.drew w8 := Below.trans e7 b8
  refine ⟨hkeep _ (x3.trans x8), ?_⟩
  refine appI o8 (s6.ext x8) x8.size (by omega) fun a9 c9 w9 o9 b9 => ?_
  have x9 : Ext w3.drew w9 := Below.trans x8 b9
  have X9 := x3.trans x9
  refine ⟨hkeep _ X9, ?_⟩
  refine newNil fun b10 w10 e10 o10 => ?_
  refine appI (xs := []) o10 (hl3.ext (X9.trans e10)) e10.size (by omega) fun a11 c11 w11 o11 b11 => ?_
  have e11 : Ext w9 w11 := Below.trans e10 b11
  refine (hl3.ext (X9.trans e11)).idx (by omega) (by omega) ?_
  rw [Int.toNat_natCast]
  refine ⟨Rng.i64 (by omega) (by omega), ?_⟩
  refine o11.store (by omega) (by omega) rfl fun w12 o12 b12 _ _ => ?_
  have e12 : Ext w9 w12 := Below.trans e11 b12
  rw [Int.toNat_natCast] at o12
  have hset : (([] ++ l).map (Value.int .i64)).set i (.int .i64 (l.getD i 0 - less)) = (l.set i (l.getD i 0 - less)).map (Value.int .i64) := by rw [List.nil_append, List.map_set]
  rw [hset] at o12
  have E12 := E3.trans (X9.trans e12)
  refine ldG (hb.ext (e2.trans (e3.trans (X9.trans e12)))) ?_
  have i9 := (o9.ext e12).ints
  refine (Fit_c (g := g) i9).mono ?_
  rintro ⟨(r13 : Int), ⟨⟩⟩ w13 ⟨h13, e13⟩
  dsimp only at h13 ⊢
  have q1 := qs_cut (g := g) (l := l) (i := i) (by omega)
  have q2 := qs_set (g := g) (l := l) (i := i) (by omega) (l.getD i 0 - less)
  have qb := quo_bd hr hin
  have hr' := hr
  unfold Right Kept at hr'
  have qm : quo g (l.getD i 0 - less) ≤ quo g (l.getD i 0) := by unfold quo; have := cei_mono (u := g.p - 1) (m := l.getD i 0 - less) (m' := l.getD i 0) (by omega) (by omega); omega
  have f1 : fitE g (([] ++ l.take i) ++ l.drop (i + 1)) = 0 := fitE_zero.2 ⟨hr, fun x hx => by
    rcases List.mem_append.1 hx with h | h
    · exact hok _ (List.mem_of_mem_take (by simpa using h))
    · exact hok _ (List.mem_of_mem_drop h), by simp; omega, by rw [List.nil_append]; omega⟩
  have f2 : fitE g (l.set i (l.getD i 0 - less)) = 0 := fitE_zero.2 ⟨hr, fun x hx => by
    rcases mem_set hx with h | h
    · exact hok _ h
    · rw [h]; omega, by simp; omega, by omega⟩
  refine cond_t (by rw [h13, f1]; rfl) ?_
  refine ldG (hb.ext (e2.trans (e3.trans (X9.trans (e12.trans e13))))) ?_
  refine (Fit_c (g := g) (o12.ext e13).ints).mono ?_
  rintro ⟨(r14 : Int), ⟨⟩⟩ w14 ⟨h14, e14⟩
  dsimp only at h14 ⊢
  exact cond_t (by rw [h14, f2]; rfl) (aw (E12.trans (e13.trans e14)))

theorem GeometryFewer_of {w : World} {x : TGeo.T} {y : TPair.T} {a : Option Addr} {n c b : Nat} {l : List Int} (g0 : TGeo.ok w x) (g1 : SlI w .i64 a n c l b) (g2 : TPair.ok w y) :
    CallV Try.prog 10 #[.agg (TGeo.vs x).toArray, .slice a n c, .agg (TPair.vs y).toArray] w [.one .bool] fun r w' => r.1 = true ∧ Ext w w' := by
  rw [geoT_val, pairT_val]
  exact GeometryFewer_law g1.ints

end Go.Proofs.Ytimbomieepefcaa.Vc
