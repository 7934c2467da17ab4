/- The laws GeometryChecks, GeometryIndexes and GeometryQuotas of layer 11: each call gives true, and what it read stays. -/
import Derived.Test.YtimbomieepefcaaC11b
import Derived.Test.YtimbomieepefcaaVL11
import Derived.Test.YtimbomieepefcaaOpenG
namespace Go.Proofs.Ytimbomieepefcaa.Vc
open Go Go.Eng Go.RowKit
set_option linter.unusedVariables false
set_option linter.unusedSimpArgs false

theorem Right_c {w : World} {g : Geo} : CallV Try.prog 16 #[g.val] w [.one .bool] fun r w' => r.1 = decide (Right g) ∧ Ext w w' := by
  refine ref11_Right.vc _ _ _ _ _ _ _ _ ?_
  unfold ref11_Right.P
  refine newG fun b1 w1 e1 hb => ?_
  have no : ∀ {w' : World}, ¬ Right g → Ext w w' → (false = decide (Right g) ∧ Ext w w') := fun hr he => ⟨(decide_eq_false hr).symm, he⟩
  refine hb.ld (i := 0) (h := .int .i64) (x := g.b) rfl ?_
  refine in11_c.mono ?_
  rintro ⟨(r1 : Bool), ⟨⟩⟩ w' ⟨h1, rfl⟩
  dsimp only at h1 ⊢
  subst h1
  refine cond_of (fun hc => no (fun hr => by unfold Right Kept at hr; simp at hc; omega) e1) (fun c1 => ?_)
  simp at c1
  refine hb.ld (i := 1) (h := .int .i64) (x := g.p) rfl ?_
  refine in11_c.mono ?_
  rintro ⟨(r1 : Bool), ⟨⟩⟩ w' ⟨h1, rfl⟩
  dsimp only at h1 ⊢
  subst h1
  refine cond_of (fun hc => no (fun hr => by unfold Right Kept at hr; simp at hc; omega) e1) (fun c2 => ?_)
  simp at c2
  refine hb.ld (i := 2) (h := .int .i64) (x := g.s) rfl ?_
  refine in11_c.mono ?_
  rintro ⟨(r1 : Bool), ⟨⟩⟩ w' ⟨h1, rfl⟩
  dsimp only at h1 ⊢
  subst h1
  refine cond_of (fun hc => no (fun hr => by unfold Right Kept at hr; simp at hc; omega) e1) (fun c3 => ?_)
  simp at c3
  refine hb.ld (i := 3) (h := .int .i64) (x := g.sp) rfl ?_
  refine in11_c.mono ?_
  rintro ⟨(r1 : Bool), ⟨⟩⟩ w' ⟨h1, rfl⟩
  dsimp only at h1 ⊢
  subst h1
  refine cond_of (fun hc => no (fun hr => by unfold Right Kept at hr; simp at hc; omega) e1) (fun c4 => ?_)
  simp at c4
  refine hb.ld (i := 4) (h := .int .i64) (x := g.wr) rfl ?_
  refine in11_c.mono ?_
  rintro ⟨(r1 : Bool), ⟨⟩⟩ w' ⟨h1, rfl⟩
  dsimp only at h1 ⊢
  subst h1
  refine cond_of (fun hc => no (fun hr => by unfold Right Kept at hr; simp at hc; omega) e1) (fun c5 => ?_)
  simp at c5
  refine hb.ld (i := 5) (h := .int .i64) (x := g.ro) rfl ?_
  refine in11_c.mono ?_
  rintro ⟨(r1 : Bool), ⟨⟩⟩ w' ⟨h1, rfl⟩
  dsimp only at h1 ⊢
  subst h1
  refine cond_of (fun hc => no (fun hr => by unfold Right Kept at hr; simp at hc; omega) e1) (fun c6 => ?_)
  simp at c6
  refine DrawV.old w' fun D hD hkeep => ?_
  have hD1 := hD _ hb.lt
  have hd := hb.ext (Ext.drew _)
  have e1' := e1.trans (Ext.drew w')
  refine ⟨hD1, hd.ld (i := 2) (h := .int .i64) (x := g.s) rfl ?_⟩
  have hm : Int.tmod g.s 16 = g.s % 16 := Int.tmod_eq_emod_of_nonneg (by omega)
  rw [hm]
  refine ⟨by omega, cond_eq (fun h16 => ?_) (fun h16 => no (fun hr => by unfold Right Kept at hr; omega) e1')⟩
  refine ⟨hD1, ldG hd ?_⟩
  refine ⟨hD1, hd.ld (i := 1) (h := .int .i64) (x := g.p) rfl ?_⟩
  refine (rChunks_c (g := g) (by omega)).mono ?_
  rintro ⟨(r2 : Int), ⟨⟩⟩ w2 ⟨h2, e2⟩
  have E2 := (Ext.drew w').trans e2
  refine ⟨hkeep _ E2, ?_⟩
  dsimp only at h2 ⊢
  subst h2
  have F2 := e1.trans E2
  refine cond_d (fun hle => ?_) (fun hle => no (fun hr => by unfold Right at hr; omega) F2)
  refine ⟨hD1, hd.ld (i := 0) (h := .int .i64) (x := g.b) rfl ?_⟩
  refine ⟨Rng.i64 (by omega) (by omega), ?_⟩
  refine ⟨hD1, hd.ld (i := 3) (h := .int .i64) (x := g.sp) rfl ?_⟩
  refine ⟨Rng.i64 (by omega) (by omega), ?_, F2⟩
  apply decide_eq_decide.2
  unfold Right Kept
  omega

theorem awake11_c {w : World} : CallV Try.prog 23 #[] w [.one .bool] fun r w' => r.1 = true ∧ Ext w w' := by
  refine law11_awake.vc _ _ ?_
  unfold law11_awake.P
  refine newG (g := ⟨0, 0, 0, 0, 0, 0⟩) fun b1 w1 e1 hb => ?_
  refine hb.store 0 (by simp) fun w2 hb2 bl2 _ _ => ?_
  have e2 : Ext w w2 := Below.trans e1 bl2
  refine ldG (g := ⟨10, 16, 64, 1, 4, 1⟩) hb2 ?_
  refine (Data_c (g := ⟨10, 16, 64, 1, 4, 1⟩)).mono ?_
  rintro ⟨(r1 : Int), ⟨⟩⟩ w3 ⟨h1, e3⟩
  dsimp only at h1 ⊢
  rw [if_pos (by decide)] at h1
  refine cond_t (by rw [h1]; rfl) ?_
  refine ldG (g := ⟨10, 16, 64, 1, 4, 1⟩) (hb2.ext e3) ?_
  refine (Check_c (g := ⟨10, 16, 64, 1, 4, 1⟩)).mono ?_
  rintro ⟨(r2 : Int), ⟨⟩⟩ w4 ⟨h2, e4⟩
  dsimp only at h2 ⊢
  refine cond_t (by rw [h2]; decide) ?_
  refine (Check_c (g := ⟨0, 0, 0, 0, 0, 0⟩)).mono ?_
  rintro ⟨(r3 : Int), ⟨⟩⟩ w5 ⟨h3, e5⟩
  dsimp only at h3 ⊢
  exact ⟨by rw [h3]; rfl, e2.trans (e3.trans (e4.trans e5))⟩

theorem GeometryQuotas_law {w : World} {g : Geo} {m : Int} : CallV Try.prog 6 #[g.val, .int .i64 m] w [.one .bool] fun r w' => r.1 = true ∧ Ext w w' := by
  refine law11_GeometryQuotas.vc _ _ _ _ _ _ _ _ _ ?_
  unfold law11_GeometryQuotas.P
  refine newG fun b1 w1 e1 hb => ?_
  refine ldG hb ?_
  refine (Quota_c (g := g)).mono ?_
  rintro ⟨(q : Int), (e : Int), ⟨⟩⟩ w2 ⟨h1, h2, e2⟩
  refine ldG (hb.ext e2) ?_
  refine (Right_c (g := g)).mono ?_
  rintro ⟨(r3 : Bool), ⟨⟩⟩ w3 ⟨h3, e3⟩
  dsimp only at h1 h2 h3 ⊢
  subst h3
  have E3 := e1.trans (e2.trans e3)
  have aw : ∀ {w' : World}, Ext w w' → CallV Try.prog 23 #[] w' [.one .bool] fun r w2 => r.1 = true ∧ Ext w w2 := fun he => awake11_c.mono fun r w2 ⟨h, e⟩ => ⟨h, he.trans e⟩
  by_cases hr : Right g
  · refine cond_f (by rw [decide_eq_true hr]; rfl) ?_
    by_cases hm : 1 ≤ m ∧ m ≤ 65535
    · have hq : quoE g m = 0 := by unfold quoE; rw [if_pos hr, if_pos hm]
      rw [if_pos hq] at h1
      rw [hq] at h2
      refine cond_d (fun h => by omega) (fun _ => cond_d (fun h => by omega) (fun _ => ?_))
      refine cond_t (by rw [h2]; rfl) ?_
      refine ldG (hb.ext (e2.trans e3)) ?_
      have hr' := hr
      unfold Right Kept at hr'
      refine (rQuota_c (g := g) (by omega) hm).mono ?_
      rintro ⟨(r4 : Int), ⟨⟩⟩ w4 ⟨h4, e4⟩
      dsimp only at h4 ⊢
      refine cond_t (by rw [h1, h4]; exact beq_self_eq_true (quo g m)) (aw (E3.trans e4))
    · have hq : quoE g m = 13 := by unfold quoE; rw [if_pos hr, if_neg hm]
      rw [hq, if_neg (by omega)] at h1
      rw [hq] at h2
      refine cond_d (fun _ => cond_t (by rw [h2]; rfl) (cond_t (by rw [h1]; rfl) (aw E3))) (fun _ => ?_)
      exact cond_d (fun _ => cond_t (by rw [h2]; rfl) (cond_t (by rw [h1]; rfl) (aw E3))) (fun _ => by omega)
  · have hq : quoE g m = 2 := by unfold quoE; rw [if_neg hr]
    rw [hq, if_neg (by omega)] at h1
    rw [hq] at h2
    exact cond_t (by rw [decide_eq_false hr]; rfl) (cond_t (by rw [h2]; rfl) (cond_t (by rw [h1]; rfl) (aw E3)))

theorem GeometryIndexes_law {w : World} {g : Geo} {b p : Int} : CallV Try.prog 5 #[g.val, .agg #[.int .i64 b, .int .i64 p]] w [.one .bool] fun r w' => r.1 = true ∧ Ext w w' := by
  refine law11_GeometryIndexes.vc _ _ _ _ _ _ _ _ _ _ ?_
  unfold law11_GeometryIndexes.P
  refine newG fun b1 w1 e1 hb => ?_
  refine newBox (vs := [.int .i64 b, .int .i64 p]) fun b2 w1' e1' hb2 => ?_
  have hb' := hb.ext e1'
  refine ldG hb' ?_
  refine hb2.lda (l := [.int .i64, .int .i64]) (b, p, ()) rfl ?_
  refine (Index_c (g := g)).mono ?_
  rintro ⟨(q : Int), (e : Int), ⟨⟩⟩ w2 ⟨h1, h2, e2⟩
  refine ldG (hb'.ext e2) ?_
  refine (Right_c (g := g)).mono ?_
  rintro ⟨(r3 : Bool), ⟨⟩⟩ w3 ⟨h3, e3⟩
  dsimp only at h1 h2 h3 ⊢
  subst h3
  have E3 := e1.trans (e1'.trans (e2.trans e3))
  have i1 := hb'.ext (e2.trans e3)
  have i2 := hb2.ext (e2.trans e3)
  have aw : ∀ {w' : World}, Ext w w' → CallV Try.prog 23 #[] w' [.one .bool] fun r w2 => r.1 = true ∧ Ext w w2 := fun he => awake11_c.mono fun r w2 ⟨h, e⟩ => ⟨h, he.trans e⟩
  by_cases hok : plOk g b p
  · rw [if_pos hok] at h1 h2
    obtain ⟨hr, hb3, hp3⟩ := hok
    refine cond_f (by rw [decide_eq_true hr]; rfl) ?_
    refine i2.ld (i := 0) (h := .int .i64) (x := b) rfl (cond_d (fun h => by omega) (fun _ => ?_))
    refine i2.ld (i := 0) (h := .int .i64) (x := b) rfl (i1.ld (i := 0) (h := .int .i64) (x := g.b) rfl (cond_d (fun h => by omega) (fun _ => ?_)))
    refine i2.ld (i := 1) (h := .int .i64) (x := p) rfl (cond_d (fun h => by omega) (fun _ => ?_))
    refine i2.ld (i := 1) (h := .int .i64) (x := p) rfl (i1.ld (i := 1) (h := .int .i64) (x := g.p) rfl (cond_d (fun h => by omega) (fun _ => ?_)))
    refine cond_t (by rw [h2]; rfl) ?_
    refine i2.ld (i := 0) (h := .int .i64) (x := b) rfl (i1.ld (i := 1) (h := .int .i64) (x := g.p) rfl ?_)
    unfold Right Kept at hr
    have hm := mul_bd (show (0 : Int) ≤ b by omega) (show b ≤ 64 by omega) (show (0 : Int) ≤ g.p by omega) (show g.p ≤ 32 by omega)
    refine ⟨Rng.i64 (by omega) (by omega), ?_⟩
    refine i2.ld (i := 1) (h := .int .i64) (x := p) rfl ⟨Rng.i64 (by omega) (by omega), ?_⟩
    exact cond_t (by rw [h1]; simp) (aw E3)
  · rw [if_neg hok] at h1 h2
    have done : cond (e == 2) (cond (q == 0) (CallV Try.prog 23 #[] w3 [.one .bool] fun (r : Bool × Unit) w2 => r.1 = true ∧ Ext w w2) (false = true ∧ Ext w w3)) (false = true ∧ Ext w w3) :=
      cond_t (by rw [h2]; rfl) (cond_t (by rw [h1]; rfl) (aw E3))
    by_cases hr : Right g
    · refine cond_f (by rw [decide_eq_true hr]; rfl) ?_
      refine i2.ld (i := 0) (h := .int .i64) (x := b) rfl (cond_d (fun h => done) (fun _ => ?_))
      refine i2.ld (i := 0) (h := .int .i64) (x := b) rfl (i1.ld (i := 0) (h := .int .i64) (x := g.b) rfl (cond_d (fun h => done) (fun _ => ?_)))
      refine i2.ld (i := 1) (h := .int .i64) (x := p) rfl (cond_d (fun h => done) (fun _ => ?_))
      refine i2.ld (i := 1) (h := .int .i64) (x := p) rfl (i1.ld (i := 1) (h := .int .i64) (x := g.p) rfl (cond_d (fun h => done) (fun _ => ?_)))
      exact absurd ⟨hr, by omega, by omega⟩ hok
    · exact cond_t (by rw [decide_eq_false hr]; rfl) done

theorem GeometryChecks_law {w : World} {g : Geo} : CallV Try.prog 4 #[g.val] w [.one .bool] fun r w' => r.1 = true ∧ Ext w w' := by
  refine law11_GeometryChecks.vc _ _ _ _ _ _ _ _ ?_
  unfold law11_GeometryChecks.P
  refine newG fun b1 w1 e1 hb => ?_
  refine ldG hb ?_
  refine (Right_c (g := g)).mono ?_
  rintro ⟨(r2 : Bool), ⟨⟩⟩ w2 ⟨h2, e2⟩
  dsimp only at h2 ⊢
  subst h2
  have E2 := e1.trans e2
  have hb' := hb.ext e2
  have aw : ∀ {w' : World} {D : Nat → Prop}, (∀ w', Ext w2 w' → KeepOn D w2.drew w') → Ext w2 w' → CallV Try.prog 23 #[] w' [.one .bool] fun r w3 => KeepOn D w2.drew w3 ∧ r.1 = true ∧ Ext w w3 := fun hk he => awake11_c.mono fun r w3 ⟨h, e⟩ => ⟨hk _ (he.trans e), h, E2.trans (he.trans e)⟩
  by_cases hr : Right g
  · refine cond_f (by rw [decide_eq_true hr]; rfl) ?_
    refine DrawV.old w2 fun D hD hkeep => ?_
    have hD1 := hD _ hb'.lt
    have hd := hb'.ext (Ext.drew _)
    have hr' := hr
    unfold Right Kept at hr'
    refine ⟨hD1, ldG hd ?_⟩
    refine (Check_c (g := g)).mono ?_
    rintro ⟨(r3 : Int), ⟨⟩⟩ w3 ⟨h3, e3⟩
    have E3 := (Ext.drew w2).trans e3
    refine ⟨hkeep _ E3, ?_⟩
    dsimp only at h3 ⊢
    refine cond_t (by rw [h3]; unfold chkE; rw [if_pos hr]; rfl) ?_
    refine ⟨hD1, ldG hd ⟨hD1, hd.ld (i := 0) (h := .int .i64) (x := g.b) rfl ⟨Rng.i64 (by omega) (by omega), ?_⟩⟩⟩
    refine (Data_c (g := g)).mono ?_
    rintro ⟨(r4 : Int), ⟨⟩⟩ w4 ⟨h4, e4⟩
    have E4 := E3.trans e4
    refine ⟨hkeep _ E4, ?_⟩
    dsimp only at h4 ⊢
    refine cond_t (by rw [h4, if_pos hr]; simp) ?_
    refine ⟨hD1, ldG hd ⟨hD1, hd.ld (i := 1) (h := .int .i64) (x := g.p) rfl ⟨Rng.i64 (by omega) (by omega), ?_⟩⟩⟩
    refine (Unit_c (g := g)).mono ?_
    rintro ⟨(r5 : Int), ⟨⟩⟩ w5 ⟨h5, e5⟩
    have E5 := E4.trans e5
    refine ⟨hkeep _ E5, ?_⟩
    dsimp only at h5 ⊢
    refine cond_t (by rw [h5, if_pos hr]; simp) ?_
    refine ⟨hD1, ldG hd ⟨hD1, hd.ld (i := 2) (h := .int .i64) (x := g.s) rfl ⟨Rng.i64 (by omega) (by omega), ?_⟩⟩⟩
    refine (PageSize_c (g := g)).mono ?_
    rintro ⟨(r6 : Int), ⟨⟩⟩ w6 ⟨h6, e6⟩
    have E6 := E5.trans e6
    refine ⟨hkeep _ E6, ?_⟩
    dsimp only at h6 ⊢
    refine cond_t (by rw [h6, if_pos hr]; simp) ?_
    refine ⟨hD1, ldG hd ⟨hD1, ldG hd ?_⟩⟩
    refine (Chunks_c (g := g)).mono ?_
    rintro ⟨(r7 : Int), ⟨⟩⟩ w7 ⟨h7, e7⟩
    have E7 := E6.trans e7
    refine ⟨hkeep _ E7, ?_⟩
    dsimp only at h7 ⊢
    refine (rChunks_c (g := g) (by omega)).mono ?_
    rintro ⟨(r8 : Int), ⟨⟩⟩ w8 ⟨h8, e8⟩
    have E8 := E7.trans e8
    refine ⟨hkeep _ E8, ?_⟩
    dsimp only at h8 ⊢
    refine cond_t (by rw [h7, h8, if_pos hr]; simp) ?_
    obtain ⟨q1, q2, q3, q4⟩ := bnd_rng hr
    refine ⟨hD1, ldG hd ?_⟩
    refine ⟨hD1, hd.ld (i := 0) (h := .int .i64) (x := g.b) rfl ⟨Rng.i64 (by omega) (by omega), ?_⟩⟩
    refine ⟨hD1, hd.ld (i := 0) (h := .int .i64) (x := g.b) rfl ⟨Rng.i64 (by omega) (by omega), ?_⟩⟩
    refine ⟨hD1, hd.ld (i := 1) (h := .int .i64) (x := g.p) rfl ⟨Rng.i64 (by omega) (by omega), ?_⟩⟩
    refine ⟨hD1, hd.ld (i := 1) (h := .int .i64) (x := g.p) rfl ⟨Rng.i64 (by omega) (by omega), ?_⟩⟩
    refine (Bound_c (g := g)).mono ?_
    rintro ⟨(r9 : Int), ⟨⟩⟩ w9 ⟨h9, e9⟩
    have E9 := E8.trans e9
    refine ⟨hkeep _ E9, ?_⟩
    dsimp only at h9 ⊢
    exact cond_t (by rw [h9, if_pos hr]; unfold bnd; simp) (aw hkeep E9)
  · refine cond_t (by rw [decide_eq_false hr]; rfl) ?_
    refine DrawV.old w2 fun D hD hkeep => ?_
    have hD1 := hD _ hb'.lt
    have hd := hb'.ext (Ext.drew _)
    refine ⟨hD1, ldG hd ?_⟩
    refine (Check_c (g := g)).mono ?_
    rintro ⟨(r3 : Int), ⟨⟩⟩ w3 ⟨h3, e3⟩
    have E3 := (Ext.drew w2).trans e3
    refine ⟨hkeep _ E3, ?_⟩
    dsimp only at h3 ⊢
    refine cond_t (by rw [h3]; unfold chkE; rw [if_neg hr]; rfl) ?_
    refine ⟨hD1, ldG hd ⟨hD1, ldG hd ⟨hD1, ldG hd ⟨hD1, ldG hd ⟨hD1, ldG hd ?_⟩⟩⟩⟩⟩
    refine (Data_c (g := g)).mono ?_
    rintro ⟨(r4 : Int), ⟨⟩⟩ w4 ⟨h4, e4⟩
    have E4 := E3.trans e4
    refine ⟨hkeep _ E4, ?_⟩
    dsimp only at h4 ⊢
    rw [if_neg hr] at h4
    subst h4
    refine (Unit_c (g := g)).mono ?_
    rintro ⟨(r5 : Int), ⟨⟩⟩ w5 ⟨h5, e5⟩
    have E5 := E4.trans e5
    refine ⟨hkeep _ E5, ?_⟩
    dsimp only at h5 ⊢
    rw [if_neg hr] at h5
    subst h5
    refine ⟨Rng.i64 (by omega) (by omega), ?_⟩
    refine (PageSize_c (g := g)).mono ?_
    rintro ⟨(r6 : Int), ⟨⟩⟩ w6 ⟨h6, e6⟩
    have E6 := E5.trans e6
    refine ⟨hkeep _ E6, ?_⟩
    dsimp only at h6 ⊢
    rw [if_neg hr] at h6
    subst h6
    refine ⟨Rng.i64 (by omega) (by omega), ?_⟩
    refine (Chunks_c (g := g)).mono ?_
    rintro ⟨(r7 : Int), ⟨⟩⟩ w7 ⟨h7, e7⟩
    have E7 := E6.trans e7
    refine ⟨hkeep _ E7, ?_⟩
    dsimp only at h7 ⊢
    rw [if_neg hr] at h7
    subst h7
    refine ⟨Rng.i64 (by omega) (by omega), ?_⟩
    refine (Bound_c (g := g)).mono ?_
    rintro ⟨(r9 : Int), ⟨⟩⟩ w9 ⟨h9, e9⟩
    have E9 := E7.trans e9
    refine ⟨hkeep _ E9, ?_⟩
    dsimp only at h9 ⊢
    rw [if_neg hr] at h9
    subst h9
    refine ⟨Rng.i64 (by omega) (by omega), ?_⟩
    exact cond_t rfl (aw hkeep E9)

abbrev TGeo : Ty := .cons (.int .i64) (.cons (.int .i64) (.cons (.int .i64) (.cons (.int .i64) (.cons (.int .i64) (.cons (.int .i64) .nil)))))
abbrev TPair : Ty := .cons (.int .i64) (.cons (.int .i64) .nil)
def geoT (x : TGeo.T) : Geo := ⟨x.1, x.2.1, x.2.2.1, x.2.2.2.1, x.2.2.2.2.1, x.2.2.2.2.2.1⟩
theorem geoT_val (x : TGeo.T) : (.agg (TGeo.vs x).toArray : Value) = (geoT x).val := rfl
theorem pairT_val (x : TPair.T) : (.agg (TPair.vs x).toArray : Value) = .agg #[.int .i64 x.1, .int .i64 x.2.1] := rfl
theorem GeometryChecks_of {w : World} {x : TGeo.T} (g0 : TGeo.ok w x) : CallV Try.prog 4 #[.agg (TGeo.vs x).toArray] w [.one .bool] fun r w' => r.1 = true ∧ Ext w w' := by
  rw [geoT_val]
  exact GeometryChecks_law
theorem GeometryIndexes_of {w : World} {x : TGeo.T} {y : TPair.T} (g0 : TGeo.ok w x) (g1 : TPair.ok w y) : CallV Try.prog 5 #[.agg (TGeo.vs x).toArray, .agg (TPair.vs y).toArray] w [.one .bool] fun r w' => r.1 = true ∧ Ext w w' := by
  rw [geoT_val, pairT_val]
  exact GeometryIndexes_law
theorem GeometryQuotas_of {w : World} {x : TGeo.T} {m : Int} (g0 : TGeo.ok w x) (g1 : Rng .i64 m) : CallV Try.prog 6 #[.agg (TGeo.vs x).toArray, .int .i64 m] w [.one .bool] fun r w' => r.1 = true ∧ Ext w w' := by
  rw [geoT_val]
  exact GeometryQuotas_law

end Go.Proofs.Ytimbomieepefcaa.Vc
