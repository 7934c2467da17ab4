/- The law GeometryFits of layer 11: each call gives true, and what it read stays. -/
import Derived.Test.YtimbomieepefcaaL11b
namespace Go.Proofs.Ytimbomieepefcaa.Vc
open Go Go.Eng Go.RowKit
set_option linter.unusedVariables false
set_option linter.unusedSimpArgs false

theorem appB {w : World} {a a2 : Option Addr} {n c m c2 : Nat} {xs ys : List Int} {B : Nat} {K : Option Addr → Nat → Nat → World → Prop} (ho : Own w B 3 1 a n c (xs.map (Value.int .i64))) (hy : Ints w .i64 a2 m c2 ys) (hB : B ≤ w.heap.size) (hn : n + m ≤ 1000000)
    (hk : ∀ a' c' w', Own w' B 3 1 a' (n + m) c' ((xs ++ ys).map (Value.int .i64)) → Below B w w' → But a w w' → K a' (n + m) c' w') :
    AppS w a2 m 1 fun ns => AppV w 3 1 8 a n c ns m K := by
  refine AppS.of (news := ys.map (Value.int .i64)) (by rw [List.length_map, hy.len]; omega) hy.rd ?_
  refine AppV.own ho hB (by rw [List.length_map, hy.len]; omega) (oneAll.ints _ _) (by omega) (by omega) fun a' c' w' h1 h2 h3 _ => ?_
  refine hk a' c' w' ?_ h2 h3
  rw [List.map_append]
  exact h1
theorem ints_but {w w' : World} {k : IntKind} {a a2 : Option Addr} {n c : Nat} {xs : List Int} (h : Ints w k a n c xs) (x : But a2 w w') (hne : ∀ p q, a = some p → a2 = some q → p.block ≠ q.block) : Ints w' k a n c xs := by
  refine ⟨h.len, h.cap, h.lim, ?_⟩
  rcases h.rd with h1 | ⟨p, h1, h2⟩
  · exact .inl h1
  · refine .inr ⟨p, h1, ?_⟩
    cases hx : xs.map (Value.int k) with
    | nil => intro j v hv; simp at hv
    | cons v vs =>
      rw [hx] at h2
      exact cells_same (x _ (cells_lt h2) (fun q hq => hne p q h1 hq)) h2

theorem newOneB {w : World} {e : TypeId} {k : IntKind} {x : Int} {K : Nat → World → Prop} (h : ∀ w1, Ext w w1 → Ints w1 k (some ⟨w.heap.size, 0, none⟩) 1 1 [x] → K w.heap.size w1) : NewV #[.int k x] e w K := by
  rintro b w1 rfl rfl
  exact h _ (Ext.alloc _ _) ⟨rfl, Nat.le_refl _, by omega, .inr ⟨_, rfl, CellsAt.new (cs := [.int k x])⟩⟩
theorem newNilB {w : World} {e : TypeId} {K : Nat → World → Prop} (h : ∀ w1, Ext w w1 → w.heap.size < w1.heap.size → Own w1 w.heap.size e 1 (some ⟨w.heap.size, 0, none⟩) 0 0 [] → K w.heap.size w1) : NewV #[] e w K := by
  rintro b w1 rfl rfl
  exact h _ (Ext.alloc _ _) (show w.heap.size < (w.heap.push _).size by rw [Array.size_push]; omega) (Own.zeros (w := w) (B := w.heap.size) (e := e) (n := 0) (c := 0) (z := .int .u8 0) (Nat.le_refl _) (Nat.zero_le _) (by omega) rfl)

/-- One more sector size behind a copy of the sizes, in each of the three orders. -/
theorem ord3 {g : Geo} {wD : World} {a : Option Addr} {n c : Nat} {l : List Int} {v : Int} {D : Nat → Prop} {Q : Int × Unit → World → Prop} (hr : Right g) (hl : Ints wD .i64 a n c l) (hn : n ≤ 100)
    (hkeep : ∀ w', Ext wD w' → KeepOn D wD w') (hQ : ∀ (r : Int × Unit) w', r.1 = fitE g (l ++ [v]) → Ext wD w' → Q r w') :
    (NewV #[] 3 wD fun b w24 => KeepOn D wD w24 ∧
      ((AppS w24 a n 1 fun ns29 => AppV w24 3 1 8 (some ⟨b, 0, none⟩) 0 0 ns29 n fun a25 n26 c27 w28 => KeepOn D wD w28 ∧
        NewV #[.int .i64 v] 3 w28 fun b30 w31 => KeepOn D wD w31 ∧
        AppS w31 (some ⟨b30, 0, none⟩) 1 1 fun ns36 => AppV w31 3 1 8 a25 n26 c27 ns36 1 fun a32 n33 c34 w35 => KeepOn D wD w35 ∧
        CallV Try.prog 47 #[g.val, .slice a32 n33 c34] w35 [.one (.int .i64)] fun (r37 : Int × Unit) w38 => KeepOn D wD w38 ∧ Q r37 w38) ∧
       (NewV #[.int .i64 v] 3 w24 fun b99 w100 => KeepOn D wD w100 ∧
        AppS w100 a n 1 fun ns105 => AppV w100 3 1 8 (some ⟨b, 0, none⟩) 0 0 ns105 n fun a101 n102 c103 w104 => KeepOn D wD w104 ∧
        AppS w104 (some ⟨b99, 0, none⟩) 1 1 fun ns110 => AppV w104 3 1 8 a101 n102 c103 ns110 1 fun a106 n107 c108 w109 => KeepOn D wD w109 ∧
        CallV Try.prog 47 #[g.val, .slice a106 n107 c108] w109 [.one (.int .i64)] fun (r111 : Int × Unit) w112 => KeepOn D wD w112 ∧ Q r111 w112))) ∧
    (NewV #[.int .i64 v] 3 wD fun b81 w82 => KeepOn D wD w82 ∧
      NewV #[] 3 w82 fun b83 w84 => KeepOn D wD w84 ∧
      AppS w84 a n 1 fun ns89 => AppV w84 3 1 8 (some ⟨b83, 0, none⟩) 0 0 ns89 n fun a85 n86 c87 w88 => KeepOn D wD w88 ∧
      AppS w88 (some ⟨b81, 0, none⟩) 1 1 fun ns94 => AppV w88 3 1 8 a85 n86 c87 ns94 1 fun a90 n91 c92 w93 => KeepOn D wD w93 ∧
      CallV Try.prog 47 #[g.val, .slice a90 n91 c92] w93 [.one (.int .i64)] fun (r95 : Int × Unit) w96 => KeepOn D wD w96 ∧ Q r95 w96) := by
  have fin : ∀ {a' : Option Addr} {m c' B : Nat} {w' : World}, Ext wD w' → Own w' B 3 1 a' m c' ((([] ++ l) ++ [v]).map (Value.int .i64)) →
      CallV Try.prog 47 #[g.val, .slice a' m c'] w' [.one (.int .i64)] fun (r : Int × Unit) w2 => KeepOn D wD w2 ∧ Q r w2 := fun e o => by
    refine (rFit_c (g := g) hr o.ints).mono ?_
    rintro r w2 ⟨h, e2⟩
    rw [List.nil_append] at h
    exact ⟨hkeep _ (e.trans e2), hQ _ _ h (e.trans e2)⟩
  refine ⟨?_, ?_⟩
  · refine newNilB fun w1 e1 z1 o1 => ⟨hkeep _ e1, ?_, ?_⟩
    · refine appI (xs := []) o1 (hl.ext e1) e1.size (by omega) fun a2 c2 w2 o2 b2 => ?_
      have e2 : Ext wD w2 := Below.trans e1 b2
      refine ⟨hkeep _ e2, newOne fun b3 w3 e3 i3 => ⟨hkeep _ (e2.trans e3), ?_⟩⟩
      refine appI (o2.ext e3) i3 (e2.trans e3).size (by omega) fun a4 c4 w4 o4 b4 => ?_
      have e4 : Ext wD w4 := Below.trans (e2.trans e3) b4
      exact ⟨hkeep _ e4, fin e4 o4⟩
    · refine newOneB fun w3 e3 i3 => ⟨hkeep _ (e1.trans e3), ?_⟩
      refine appB (xs := []) (o1.ext e3) (hl.ext (e1.trans e3)) (e1.trans e3).size (by omega) fun a4 c4 w4 o4 b4 but4 => ?_
      have e4 : Ext wD w4 := Below.trans (e1.trans e3) b4
      have i4 := ints_but i3 but4 (fun p q hp hq => by
        have hp' : (⟨w1.heap.size, 0, none⟩ : Addr) = p := Option.some.inj hp
        have hq' : (⟨wD.heap.size, 0, none⟩ : Addr) = q := Option.some.inj hq
        subst hp'; subst hq'
        show w1.heap.size ≠ wD.heap.size
        omega)
      refine ⟨hkeep _ e4, ?_⟩
      refine appI o4 i4 e4.size (by omega) fun a5 c5 w5 o5 b5 => ?_
      have e5 : Ext wD w5 := Below.trans e4 b5
      exact ⟨hkeep _ e5, fin e5 o5⟩
  · refine newOneB fun w1 e1 i1 => ⟨hkeep _ e1, newNil fun b w2 e2 o2 => ⟨hkeep _ (e1.trans e2), ?_⟩⟩
    refine appI (xs := []) o2 (hl.ext (e1.trans e2)) e2.size (by omega) fun a3 c3 w3 o3 b3 => ?_
    have e3 : Ext w1 w3 := Below.trans e2 b3
    refine ⟨hkeep _ (e1.trans e3), ?_⟩
    refine appI o3 (i1.ext e3) e3.size (by omega) fun a4 c4 w4 o4 b4 => ?_
    have e4 : Ext w1 w4 := Below.trans e3 b4
    exact ⟨hkeep _ (e1.trans e4), fin (e1.trans e4) o4⟩

/-- The last question of the law: at the greatest size, or one more sector does not fit. -/
theorem last11 {g : Geo} {w wX : World} {a : Option Addr} {n c b1 B : Nat} {l : List Int} {v : Int} (hr : Right g) (hX : Ext w wX) (hb : Box wX B b1 28 g.vs) (hl : Ints wX .i64 a n c l) (hn : n ≤ 100) (hv : 0 ≤ v ∧ v ≤ 65535)
    (hne : v ≠ 65535 → fitE g (l ++ [v + 1]) ≠ 0) :
    DrawV fun D39 =>
      cond (v == 65535)
        (((((CallV Try.prog 23 #[] wX.drew [.one .bool] fun (r40 : Bool × Unit) w41 => KeepOn D39 wX.drew w41 ∧ (r40.1 = true ∧ Ext w w41)) ∧
          (CallV Try.prog 23 #[] wX.drew [.one .bool] fun (r42 : Bool × Unit) w43 => KeepOn D39 wX.drew w43 ∧ (r42.1 = true ∧ Ext w w43)))) ∧
          (CallV Try.prog 23 #[] wX.drew [.one .bool] fun (r44 : Bool × Unit) w45 => KeepOn D39 wX.drew w45 ∧ (r44.1 = true ∧ Ext w w45))))
        ((D39 b1 ∧ LoadA wX.drew ⟨b1, 0, none⟩ [.int .i64, .int .i64, .int .i64, .int .i64, .int .i64, .int .i64] fun (x46 : Int × Int × Int × Int × Int × Int × Unit) =>
          Rng .i64 (v + 1) ∧
    ((NewV #[] 3 wX.drew fun b w24 => KeepOn D39 wX.drew w24 ∧
      ((AppS w24 a n 1 fun ns29 => AppV w24 3 1 8 (some ⟨b, 0, none⟩) 0 0 ns29 n fun a25 n26 c27 w28 => KeepOn D39 wX.drew w28 ∧
        NewV #[.int .i64 (v + 1)] 3 w28 fun b30 w31 => KeepOn D39 wX.drew w31 ∧
        AppS w31 (some ⟨b30, 0, none⟩) 1 1 fun ns36 => AppV w31 3 1 8 a25 n26 c27 ns36 1 fun a32 n33 c34 w35 => KeepOn D39 wX.drew w35 ∧
        CallV Try.prog 47 #[.agg #[.int .i64 x46.1, .int .i64 x46.2.1, .int .i64 x46.2.2.1, .int .i64 x46.2.2.2.1, .int .i64 x46.2.2.2.2.1, .int .i64 x46.2.2.2.2.2.1], .slice a32 n33 c34] w35 [.one (.int .i64)] fun (r37 : Int × Unit) w38 => KeepOn D39 wX.drew w38 ∧
          cond (r37.1 != 0) (CallV Try.prog 23 #[] w38 [.one .bool] fun (r63 : Bool × Unit) w64 => KeepOn D39 wX.drew w64 ∧ (r63.1 = true ∧ Ext w w64)) (false = true ∧ Ext w w38)) ∧
       (NewV #[.int .i64 (v + 1)] 3 w24 fun b99 w100 => KeepOn D39 wX.drew w100 ∧
        AppS w100 a n 1 fun ns105 => AppV w100 3 1 8 (some ⟨b, 0, none⟩) 0 0 ns105 n fun a101 n102 c103 w104 => KeepOn D39 wX.drew w104 ∧
        AppS w104 (some ⟨b99, 0, none⟩) 1 1 fun ns110 => AppV w104 3 1 8 a101 n102 c103 ns110 1 fun a106 n107 c108 w109 => KeepOn D39 wX.drew w109 ∧
        CallV Try.prog 47 #[.agg #[.int .i64 x46.1, .int .i64 x46.2.1, .int .i64 x46.2.2.1, .int .i64 x46.2.2.2.1, .int .i64 x46.2.2.2.2.1, .int .i64 x46.2.2.2.2.2.1], .slice a106 n107 c108] w109 [.one (.int .i64)] fun (r111 : Int × Unit) w112 => KeepOn D39 wX.drew w112 ∧
          cond (r111.1 != 0) (CallV Try.prog 23 #[] w112 [.one .bool] fun (r63 : Bool × Unit) w64 => KeepOn D39 wX.drew w64 ∧ (r63.1 = true ∧ Ext w w64)) (false = true ∧ Ext w w112)))) ∧
    (NewV #[.int .i64 (v + 1)] 3 wX.drew fun b81 w82 => KeepOn D39 wX.drew w82 ∧
      NewV #[] 3 w82 fun b83 w84 => KeepOn D39 wX.drew w84 ∧
      AppS w84 a n 1 fun ns89 => AppV w84 3 1 8 (some ⟨b83, 0, none⟩) 0 0 ns89 n fun a85 n86 c87 w88 => KeepOn D39 wX.drew w88 ∧
      AppS w88 (some ⟨b81, 0, none⟩) 1 1 fun ns94 => AppV w88 3 1 8 a85 n86 c87 ns94 1 fun a90 n91 c92 w93 => KeepOn D39 wX.drew w93 ∧
      CallV Try.prog 47 #[.agg #[.int .i64 x46.1, .int .i64 x46.2.1, .int .i64 x46.2.2.1, .int .i64 x46.2.2.2.1, .int .i64 x46.2.2.2.2.1, .int .i64 x46.2.2.2.2.2.1], .slice a90 n91 c92] w93 [.one (.int .i64)] fun (r95 : Int × Unit) w96 => KeepOn D39 wX.drew w96 ∧
          cond (r95.1 != 0) (CallV Try.prog 23 #[] w96 [.one .bool] fun (r63 : Bool × Unit) w64 => KeepOn D39 wX.drew w64 ∧ (r63.1 = true ∧ Ext w w64)) (false = true ∧ Ext w w96))))) := by
  refine DrawV.old wX fun D hD hkeep => ?_
  have aw : ∀ {w' : World}, Ext wX w' → CallV Try.prog 23 #[] w' [.one .bool] fun r w3 => KeepOn D wX.drew w3 ∧ (r.1 = true ∧ Ext w w3) := fun he => awake11_c.mono fun r w3 ⟨h, e⟩ => ⟨hkeep _ (he.trans e), h, hX.trans (he.trans e)⟩
  refine cond_eq (fun hv' => ⟨⟨aw (Ext.drew _), aw (Ext.drew _)⟩, aw (Ext.drew _)⟩) (fun hv' => ?_)
  refine ⟨hD _ hb.lt, ldG (hb.ext (Ext.drew _)) ⟨Rng.i64 (by omega) (by omega), ?_⟩⟩
  exact ord3 (g := g) (v := v + 1) (Q := fun (r : Int × Unit) w' => cond (r.1 != 0) (CallV Try.prog 23 #[] w' [.one .bool] fun (r63 : Bool × Unit) w64 => KeepOn D wX.drew w64 ∧ (r63.1 = true ∧ Ext w w64)) (false = true ∧ Ext w w'))
    hr (hl.ext (Ext.drew _)) hn (fun w' e => hkeep _ ((Ext.drew _).trans e)) fun r w' hrr e =>
      cond_t (by rw [hrr]; have := hne hv'; simpa using this) (aw ((Ext.drew _).trans e))

theorem room_bd (g : Geo) (l : List Int) : 0 ≤ roomE g l ∧ roomE g l ≤ 65535 := by unfold roomE; split <;> omega
theorem room_fits {g : Geo} {l : List Int} (hz : fitE g l = 0) (h : 0 < roomE g l) : fitE g (l ++ [roomE g l]) = 0 := by
  obtain ⟨hr, hok, h4, htot⟩ := fitE_zero.1 hz
  have hb := room_bd g l
  have hlen : l.length < 4 := by
    apply Decidable.byContradiction
    intro hh
    unfold roomE at h
    rw [if_neg (fun x => hh x.2)] at h
    omega
  have hr' := hr
  unfold Right Kept at hr'
  refine fitE_zero.2 ⟨hr, szOk_append.2 ⟨hok, szOk_one.2 (by omega)⟩, by simp; omega, ?_⟩
  rw [qs_append, qs_one]
  have hle : roomE g l ≤ (g.b - 4 - g.sp - 2 - qs g l) * (g.p - 1) := by
    have : roomE g l = min (max 0 ((g.b - 4 - g.sp - 2 - qs g l) * (g.p - 1))) 65535 := by unfold roomE; rw [if_pos ⟨hz, hlen⟩]
    omega
  have hc : cei (roomE g l) (g.p - 1) ≤ g.b - 4 - g.sp - 2 - qs g l := by
    unfold cei
    have : (roomE g l + (g.p - 1) - 1) / (g.p - 1) < (g.b - 4 - g.sp - 2 - qs g l) + 1 := Int.ediv_lt_of_lt_mul (by omega) (by rw [Int.add_mul, Int.one_mul]; omega)
    omega
  unfold quo
  omega
theorem room_last {g : Geo} {l : List Int} (hz : fitE g l = 0) (h : roomE g l ≠ 65535) : fitE g (l ++ [roomE g l + 1]) ≠ 0 := by
  intro hf
  obtain ⟨hr, hok, h4, htot⟩ := fitE_zero.1 hf
  rw [qs_append, qs_one] at htot
  rw [List.length_append, List.length_singleton] at h4
  have hb := room_bd g l
  have hr' := hr
  unfold Right Kept at hr'
  have he : roomE g l = min (max 0 ((g.b - 4 - g.sp - 2 - qs g l) * (g.p - 1))) 65535 := by unfold roomE; rw [if_pos ⟨hz, by omega⟩]
  generalize hm : roomE g l = m at *
  generalize hL : g.b - 4 - g.sp - 2 - qs g l = L at *
  have hc : L + 1 ≤ cei (m + 1) (g.p - 1) := by
    unfold cei
    refine Int.le_ediv_of_mul_le (by omega) ?_
    rw [Int.add_mul, Int.one_mul]
    omega
  unfold quo at htot
  omega

theorem GeometryFits_law {w : World} {g : Geo} {a : Option Addr} {n c : Nat} {l : List Int} (hl : Ints w .i64 a n c l) :
    CallV Try.prog 11 #[g.val, .slice a n c] w [.one .bool] fun r w' => r.1 = true ∧ Ext w w' := by
  refine law11_GeometryFits.vc _ _ _ _ _ _ _ _ _ _ _ ?_
  unfold law11_GeometryFits.P
  have ln := hl.len
  refine newG fun b1 w1 e1 hb => ?_
  have aw : ∀ {w' : World}, Ext w w' → CallV Try.prog 23 #[] w' [.one .bool] fun r w3 => r.1 = true ∧ Ext w w3 := fun he => awake11_c.mono fun r w3 ⟨h, e⟩ => ⟨h, he.trans e⟩
  refine cond_d (fun _ => aw e1) (fun h100 => ?_)
  refine ldG hb ?_
  refine (Fit_c (g := g) (hl.ext e1)).mono ?_
  rintro ⟨(r2 : Int), ⟨⟩⟩ w2 ⟨h2, e2⟩
  dsimp only at h2 ⊢
  subst h2
  have E2 := e1.trans e2
  refine ldG (hb.ext e2) ?_
  refine (Room_c (g := g) (hl.ext E2)).mono ?_
  rintro ⟨(r3 : Int), ⟨⟩⟩ w3 ⟨h3, e3⟩
  dsimp only at h3 ⊢
  subst h3
  have E3 := E2.trans e3
  refine ldG (hb.ext (e2.trans e3)) ?_
  refine (Right_c (g := g)).mono ?_
  rintro ⟨(r4 : Bool), ⟨⟩⟩ w4 ⟨h4, e4⟩
  dsimp only at h4 ⊢
  subst h4
  have E4 := E3.trans e4
  by_cases hr : ¬ Right g
  · have f2 : fitE g l = 2 := by unfold fitE; rw [if_neg hr]
    have r0 : roomE g l = 0 := by unfold roomE; rw [if_neg (by rw [f2]; omega)]
    exact cond_t (by rw [decide_eq_false hr]; rfl) (cond_t (by rw [f2]; rfl) (cond_t (by rw [r0]; rfl) (aw E4)))
  have hr := Decidable.not_not.1 hr
  refine cond_f (by rw [decide_eq_true hr]; rfl) ?_
  have hb4 := hb.ext (e2.trans (e3.trans e4))
  refine ldG hb4 ?_
  refine (rFit_c (g := g) hr (hl.ext E4)).mono ?_
  rintro ⟨(r5 : Int), ⟨⟩⟩ w5 ⟨h5, e5⟩
  dsimp only at h5 ⊢
  subst h5
  have E5 := E4.trans e5
  refine cond_ne (fun h => absurd rfl h) (fun _ => ?_)
  by_cases hz : fitE g l = 0
  · refine cond_ne (fun h => absurd hz h) (fun _ => ?_)
    have hv := room_bd g l
    refine cond_d (fun h => by omega) (fun _ => cond_d (fun h => by omega) (fun _ => ?_))
    refine DrawV.old w5 fun D hD hkeep => ?_
    have hb5 := hb4.ext e5
    have x5 := Ext.drew w5
    have lst : ∀ {wX : World}, Ext w5 wX → _ := fun {wX : World} (e : Ext w5 wX) => last11 (g := g) (w := w) (wX := wX) hr (E5.trans e) (hb5.ext e) (hl.ext (E5.trans e)) (by omega) hv (room_last hz)
    refine cond_d (fun hp => ?_) (fun hp => ?_)
    · refine ⟨hD _ hb5.lt, ldG (hb5.ext x5) ?_⟩
      exact ord3 (g := g) (v := roomE g l) (Q := fun (r : Int × Unit) w' => cond (r.1 != 0) (false = true ∧ Ext w w') _)
        hr (hl.ext (E5.trans x5)) (by omega) (fun w' e => hkeep _ (x5.trans e)) fun r w' hrr e => cond_f (by rw [hrr, room_fits hz hp]; rfl) (lst (x5.trans e))
    · exact ⟨⟨lst x5, lst x5⟩, lst x5⟩
  · have r0 : roomE g l = 0 := by unfold roomE; rw [if_neg (fun h => hz h.1)]
    refine cond_ne (fun _ => cond_t (by rw [r0]; rfl) (aw E5)) (fun h => absurd h hz)

theorem GeometryFits_of {w : World} {x : TGeo.T} {a : Option Addr} {n c b : Nat} {l : List Int} (g0 : TGeo.ok w x) (g1 : SlI w .i64 a n c l b) :
    CallV Try.prog 11 #[.agg (TGeo.vs x).toArray, .slice a n c] w [.one .bool] fun r w' => r.1 = true ∧ Ext w w' := by
  rw [geoT_val]
  exact GeometryFits_law g1.ints

end Go.Proofs.Ytimbomieepefcaa.Vc
