/- The contracts of layer 11 (geometry), second part. -/
import Derived.Test.YtimbomieepefcaaC11a
namespace Go.Proofs.Ytimbomieepefcaa.Vc
open Go Go.Eng Go.RowKit
set_option linter.unusedVariables false
set_option linter.unusedSimpArgs false

theorem newG {w : World} {g : Geo} {K : Nat → World → Prop} (h : ∀ b w1, Ext w w1 → Box w1 w.heap.size b 28 g.vs → K b w1) : NewV #[.int .i64 g.b, .int .i64 g.p, .int .i64 g.s, .int .i64 g.sp, .int .i64 g.wr, .int .i64 g.ro] 28 w K := newBox h
theorem ldG {w : World} {g : Geo} {B b : Nat} {e : TypeId} (hb : Box w B b e g.vs) {K : Int × Int × Int × Int × Int × Int × Unit → Prop} (hk : K g.tup) : LoadA w ⟨b, 0, none⟩ [.int .i64, .int .i64, .int .i64, .int .i64, .int .i64, .int .i64] K := hb.lda (l := [.int .i64, .int .i64, .int .i64, .int .i64, .int .i64, .int .i64]) g.tup rfl hk
def chkE (g : Geo) : Int := if Right g then 0 else 2

theorem Check_c {w : World} {g : Geo} : CallV Try.prog 17 #[g.val] w [.one (.int .i64)] fun r w' => r.1 = chkE g ∧ Ext w w' := by
  refine geometry_Check.vc _ _ _ _ _ _ _ _ ?_
  unfold geometry_Check.P
  refine newG fun b1 w1 e1 hb => ?_
  refine DrawV.old w1 fun D hD hkeep => ?_
  have hD1 := hD _ hb.lt
  have hd := hb.ext (Ext.drew _)
  have no : ∀ {w' : World}, ¬ Right g → Ext w w' → ((2 : Int) = chkE g ∧ Ext w w') := fun hr he => ⟨by unfold chkE; rw [if_neg hr], he⟩
  refine ⟨hD1, ldG hd ?_⟩
  dsimp only
  refine (kept_c (g := g)).mono ?_
  rintro ⟨(r1 : Bool), ⟨⟩⟩ w2 ⟨h1, e2⟩
  have E2 := (Ext.drew _).trans e2
  refine ⟨hkeep _ E2, ?_⟩
  dsimp only at h1 ⊢
  subst h1
  have F2 := e1.trans E2
  by_cases hk : Kept g
  · refine cond_f (by rw [decide_eq_true hk]; rfl) ?_
    refine ⟨hD1, hd.ld (i := 2) (h := .int .i64) (x := g.s) rfl ?_⟩
    refine ⟨hD1, hd.ld (i := 1) (h := .int .i64) (x := g.p) rfl ?_⟩
    have hk' := hk
    unfold Kept at hk'
    refine (chunks_c (by omega)).mono ?_
    rintro ⟨(r2 : Int), ⟨⟩⟩ w3 ⟨h2, rfl⟩
    refine ⟨hkeep _ E2, ?_⟩
    dsimp only at h2 ⊢
    subst h2
    refine cond_d (fun hc => no (fun hr => by unfold Right at hr; omega) F2) (fun hc => ?_)
    refine ⟨hD1, hd.ld (i := 0) (h := .int .i64) (x := g.b) rfl ?_⟩
    refine ⟨Rng.i64 (by omega) (by omega), ?_⟩
    refine ⟨hD1, hd.ld (i := 3) (h := .int .i64) (x := g.sp) rfl ?_⟩
    refine ⟨Rng.i64 (by omega) (by omega), ?_⟩
    refine cond_d (fun hc2 => no (fun hr => by unfold Right at hr; omega) F2) (fun hc2 => ?_)
    have hr : Right g := ⟨hk, by omega, by omega⟩
    exact ⟨by unfold chkE; rw [if_pos hr], F2⟩
  · refine cond_t (by rw [decide_eq_false hk]; rfl) (no (fun hr => hk hr.1) F2)

theorem told_c {w : World} {g : Geo} {f : FuncId} {cap : Array Value} {v : Int} (hf : okf f = true) (h : Right g → ∀ w', Ext w w' → CallV Try.prog f cap w' [.one (.int .i64)] fun r w2 => r.1 = v ∧ Ext w' w2) :
    CallV Try.prog 51 #[g.val, .func (.func f) #[] cap] w [.one (.int .i64)] fun r w' => r.1 = (if Right g then v else (0 : Int)) ∧ Ext w w' := by
  refine geometry_told.vc _ _ _ _ _ _ _ _ _ _ ?_
  unfold geometry_told.P
  refine newG fun b1 w1 e1 hb => ?_
  refine ldG hb ?_
  refine (Check_c (g := g)).mono ?_
  rintro ⟨(r1 : Int), ⟨⟩⟩ w2 ⟨h1, e2⟩
  have E2 := e1.trans e2
  dsimp only at h1 ⊢
  subst h1
  by_cases hr : Right g
  · refine cond_f (by unfold chkE; rw [if_pos hr]; rfl) (cond_t hf ?_)
    have hcap : (([] : List Value) ++ (([] : List Value) ++ cap.toList)).toArray = cap := by simp
    have := h hr w2 E2
    rw [← hcap] at this
    refine this.mono ?_
    rintro ⟨(r2 : Int), ⟨⟩⟩ w3 ⟨h2, e3⟩
    exact ⟨by rw [if_pos hr]; exact h2, E2.trans e3⟩
  · refine cond_t (by unfold chkE; rw [if_neg hr]; rfl) ⟨by rw [if_neg hr], E2⟩

theorem Data_c {w : World} {g : Geo} : CallV Try.prog 18 #[g.val] w [.one (.int .i64)] fun r w' => r.1 = (if Right g then g.b - 4 else (0 : Int)) ∧ Ext w w' := by
  refine geometry_Data.vc _ _ _ _ _ _ _ _ ?_
  unfold geometry_Data.P
  refine newG fun b1 w1 e1 hb => ?_
  refine ldG hb ?_
  refine (told_c (g := g) (v := g.b - 4) (by kernel_rfl) fun hr w' e => ?_).mono ?_
  · refine geometry_Data_1.vc _ _ _ ?_
    unfold geometry_Data_1.P
    unfold Right Kept at hr
    refine (hb.ext e).ld (i := 0) (h := .int .i64) (x := g.b) rfl ?_
    exact ⟨Rng.i64 (by omega) (by omega), rfl, Ext.refl _⟩
  · rintro ⟨(r2 : Int), ⟨⟩⟩ w3 ⟨h2, e3⟩
    exact ⟨h2, e1.trans e3⟩
theorem Unit_c {w : World} {g : Geo} : CallV Try.prog 19 #[g.val] w [.one (.int .i64)] fun r w' => r.1 = (if Right g then g.p - 1 else (0 : Int)) ∧ Ext w w' := by
  refine geometry_Unit.vc _ _ _ _ _ _ _ _ ?_
  unfold geometry_Unit.P
  refine newG fun b1 w1 e1 hb => ?_
  refine ldG hb ?_
  refine (told_c (g := g) (v := g.p - 1) (by kernel_rfl) fun hr w' e => ?_).mono ?_
  · refine geometry_Unit_1.vc _ _ _ ?_
    unfold geometry_Unit_1.P
    unfold Right Kept at hr
    refine ldp (hb.ext e).cells 1 (h := .int .i64) (x := g.p) rfl ?_
    exact ⟨Rng.i64 (by omega) (by omega), rfl, Ext.refl _⟩
  · rintro ⟨(r2 : Int), ⟨⟩⟩ w3 ⟨h2, e3⟩
    exact ⟨h2, e1.trans e3⟩
theorem PageSize_c {w : World} {g : Geo} : CallV Try.prog 20 #[g.val] w [.one (.int .i64)] fun r w' => r.1 = (if Right g then g.s + 88 else (0 : Int)) ∧ Ext w w' := by
  refine geometry_PageSize.vc _ _ _ _ _ _ _ _ ?_
  unfold geometry_PageSize.P
  refine newG fun b1 w1 e1 hb => ?_
  refine ldG hb ?_
  refine (told_c (g := g) (v := g.s + 88) (by kernel_rfl) fun hr w' e => ?_).mono ?_
  · refine geometry_PageSize_1.vc _ _ _ ?_
    unfold geometry_PageSize_1.P
    unfold Right Kept at hr
    refine ldp (hb.ext e).cells 2 (h := .int .i64) (x := g.s) rfl ?_
    exact ⟨Rng.i64 (by omega) (by omega), rfl, Ext.refl _⟩
  · rintro ⟨(r2 : Int), ⟨⟩⟩ w3 ⟨h2, e3⟩
    exact ⟨h2, e1.trans e3⟩
theorem Chunks_c {w : World} {g : Geo} : CallV Try.prog 21 #[g.val] w [.one (.int .i64)] fun r w' => r.1 = (if Right g then cei 624 g.s else (0 : Int)) ∧ Ext w w' := by
  refine geometry_Chunks.vc _ _ _ _ _ _ _ _ ?_
  unfold geometry_Chunks.P
  refine newG fun b1 w1 e1 hb => ?_
  refine ldG hb ?_
  refine (told_c (g := g) (v := cei 624 g.s) (by kernel_rfl) fun hr w' e => ?_).mono ?_
  · refine geometry_Chunks_1.vc _ _ _ ?_
    unfold geometry_Chunks_1.P
    unfold Right Kept at hr
    refine ldp (hb.ext e).cells 2 (h := .int .i64) (x := g.s) rfl ?_
    refine (chunks_c (by omega)).mono ?_
    rintro ⟨(r2 : Int), ⟨⟩⟩ w3 ⟨h2, rfl⟩
    exact ⟨h2, Ext.refl _⟩
  · rintro ⟨(r2 : Int), ⟨⟩⟩ w3 ⟨h2, e3⟩
    exact ⟨h2, e1.trans e3⟩
def bnd (g : Geo) : Int := 40 * g.b * g.b * g.p * g.p
theorem bnd_rng {g : Geo} (hr : Right g) : (0 ≤ 40 * g.b ∧ 40 * g.b ≤ 2560) ∧ (0 ≤ 40 * g.b * g.b ∧ 40 * g.b * g.b ≤ 163840) ∧ (0 ≤ 40 * g.b * g.b * g.p ∧ 40 * g.b * g.b * g.p ≤ 5242880) ∧ (0 ≤ 40 * g.b * g.b * g.p * g.p ∧ 40 * g.b * g.b * g.p * g.p ≤ 167772160) := by
  unfold Right Kept at hr
  have a1 := mul_bd (a := 40) (A := 40) (b := g.b) (B := 64) (by omega) (by omega) (by omega) (by omega)
  have a2 := mul_bd a1.1 a1.2 (show (0 : Int) ≤ g.b by omega) (show g.b ≤ 64 by omega)
  have a3 := mul_bd a2.1 a2.2 (show (0 : Int) ≤ g.p by omega) (show g.p ≤ 32 by omega)
  have a4 := mul_bd a3.1 a3.2 (show (0 : Int) ≤ g.p by omega) (show g.p ≤ 32 by omega)
  refine ⟨⟨a1.1, by omega⟩, ⟨a2.1, by omega⟩, ⟨a3.1, by omega⟩, ⟨a4.1, by omega⟩⟩
theorem Bound_c {w : World} {g : Geo} : CallV Try.prog 22 #[g.val] w [.one (.int .i64)] fun r w' => r.1 = (if Right g then bnd g else (0 : Int)) ∧ Ext w w' := by
  refine geometry_Bound.vc _ _ _ _ _ _ _ _ ?_
  unfold geometry_Bound.P
  refine newG fun b1 w1 e1 hb => ?_
  refine ldG hb ?_
  refine (told_c (g := g) (v := bnd g) (by kernel_rfl) fun hr w' e => ?_).mono ?_
  · refine geometry_Bound_1.vc _ _ _ ?_
    unfold geometry_Bound_1.P
    obtain ⟨r1, r2, r3, r4⟩ := bnd_rng hr
    have hc := (hb.ext e).cells
    refine (hb.ext e).ld (i := 0) (h := .int .i64) (x := g.b) rfl ⟨Rng.i64 (by omega) (by omega), ?_⟩
    refine (hb.ext e).ld (i := 0) (h := .int .i64) (x := g.b) rfl ⟨Rng.i64 (by omega) (by omega), ?_⟩
    refine ldp hc 1 (h := .int .i64) (x := g.p) rfl ⟨Rng.i64 (by omega) (by omega), ?_⟩
    refine ldp hc 1 (h := .int .i64) (x := g.p) rfl ⟨Rng.i64 (by omega) (by omega), ?_⟩
    exact ⟨rfl, Ext.refl _⟩
  · rintro ⟨(r2 : Int), ⟨⟩⟩ w3 ⟨h2, e3⟩
    exact ⟨h2, e1.trans e3⟩

def plOk (g : Geo) (b p : Int) : Prop := Right g ∧ (0 ≤ b ∧ b < g.b) ∧ (0 ≤ p ∧ p < g.p)
instance (g : Geo) (b p : Int) : Decidable (plOk g b p) := by unfold plOk; infer_instance
theorem Index_c {w : World} {g : Geo} {b p : Int} : CallV Try.prog 25 #[g.val, .agg #[.int .i64 b, .int .i64 p]] w [.one (.int .i64), .one (.int .i64)] fun r w' =>
    r.1 = (if plOk g b p then b * g.p + p else (0 : Int)) ∧ r.2.1 = (if plOk g b p then (0 : Int) else 2) ∧ Ext w w' := by
  refine geometry_Index.vc _ _ _ _ _ _ _ _ _ _ ?_
  unfold geometry_Index.P
  refine newG fun b1 w1 e1 hb => ?_
  refine newBox (vs := [.int .i64 b, .int .i64 p]) fun b2 w1' e1' hb2 => ?_
  have hb' := hb.ext e1'
  refine ldG hb' ?_
  refine (Check_c (g := g)).mono ?_
  rintro ⟨(r1 : Int), ⟨⟩⟩ w2 ⟨h1, e2⟩
  dsimp only at h1 ⊢
  subst h1
  have E2 : Ext w w2 := e1.trans (e1'.trans e2)
  have i1 := hb'.ext e2
  have i2 := hb2.ext e2
  have no : ¬ plOk g b p → ((0 : Int) = (if plOk g b p then b * g.p + p else 0) ∧ (2 : Int) = (if plOk g b p then 0 else 2) ∧ Ext w w2) := fun hr => by rw [if_neg hr, if_neg hr]; exact ⟨rfl, rfl, E2⟩
  by_cases hr : Right g
  · refine cond_f (by unfold chkE; rw [if_pos hr]; rfl) ?_
    refine i2.ld (i := 0) (h := .int .i64) (x := b) rfl ?_
    refine cond_d (fun hc => no (fun h => by unfold plOk at h; omega)) (fun h3 => ?_)
    refine i2.ld (i := 0) (h := .int .i64) (x := b) rfl ?_
    refine i1.ld (i := 0) (h := .int .i64) (x := g.b) rfl ?_
    refine cond_d (fun hc => no (fun h => by unfold plOk at h; omega)) (fun h4 => ?_)
    refine i2.ld (i := 1) (h := .int .i64) (x := p) rfl ?_
    refine cond_d (fun hc => no (fun h => by unfold plOk at h; omega)) (fun h5 => ?_)
    refine i2.ld (i := 1) (h := .int .i64) (x := p) rfl ?_
    refine i1.ld (i := 1) (h := .int .i64) (x := g.p) rfl ?_
    refine cond_d (fun hc => no (fun h => by unfold plOk at h; omega)) (fun h6 => ?_)
    refine i2.ld (i := 0) (h := .int .i64) (x := b) rfl ?_
    refine i1.ld (i := 1) (h := .int .i64) (x := g.p) rfl ?_
    have hok : plOk g b p := ⟨hr, by omega, by omega⟩
    unfold Right Kept at hr
    have hm := mul_bd (show (0 : Int) ≤ b by omega) (show b ≤ 64 by omega) (show (0 : Int) ≤ g.p by omega) (show g.p ≤ 32 by omega)
    refine ⟨Rng.i64 (by omega) (by omega), ?_⟩
    refine i2.ld (i := 1) (h := .int .i64) (x := p) rfl ?_
    refine ⟨Rng.i64 (by omega) (by omega), ?_⟩
    rw [if_pos hok, if_pos hok]
    exact ⟨rfl, rfl, E2⟩
  · exact cond_t (by unfold chkE; rw [if_neg hr]; rfl) (no (fun h => hr h.1))

def quo (g : Geo) (m : Int) : Int := cei m (g.p - 1) + 2
def quoE (g : Geo) (m : Int) : Int := if Right g then (if 1 ≤ m ∧ m ≤ 65535 then 0 else 13) else 2
theorem quo_bd {g : Geo} (hr : Right g) {m : Int} (hm : 1 ≤ m ∧ m ≤ 65535) : 3 ≤ quo g m ∧ quo g m ≤ 65537 := by
  unfold Right Kept at hr
  have := cei_bd (u := g.p - 1) (m := m) (by omega) (by omega)
  unfold quo
  omega
theorem Quota_c {w : World} {g : Geo} {m : Int} : CallV Try.prog 26 #[g.val, .int .i64 m] w [.one (.int .i64), .one (.int .i64)] fun r w' =>
    r.1 = (if quoE g m = 0 then quo g m else (0 : Int)) ∧ r.2.1 = quoE g m ∧ Ext w w' := by
  refine geometry_Quota.vc _ _ _ _ _ _ _ _ _ ?_
  unfold geometry_Quota.P
  refine newG fun b1 w1 e1 hb => ?_
  refine ldG hb ?_
  refine (Check_c (g := g)).mono ?_
  rintro ⟨(r1 : Int), ⟨⟩⟩ w2 ⟨h1, e2⟩
  dsimp only at h1 ⊢
  subst h1
  have E2 : Ext w w2 := e1.trans e2
  by_cases hr : Right g
  · refine cond_f (by unfold chkE; rw [if_pos hr]; rfl) ?_
    have no : ¬ (1 ≤ m ∧ m ≤ 65535) → ((0 : Int) = (if quoE g m = 0 then quo g m else 0) ∧ (13 : Int) = quoE g m ∧ Ext w w2) := fun h => by
      have : quoE g m = 13 := by unfold quoE; rw [if_pos hr, if_neg h]
      rw [this]; exact ⟨rfl, rfl, E2⟩
    refine cond_d (fun hc => no (by omega)) (fun h3 => cond_d (fun hc => no (by omega)) (fun h4 => ?_))
    have hm : 1 ≤ m ∧ m ≤ 65535 := by omega
    have hq : quoE g m = 0 := by unfold quoE; rw [if_pos hr, if_pos hm]
    have hqb := quo_bd hr hm
    unfold quo at hqb
    refine (hb.ext e2).ld (i := 1) (h := .int .i64) (x := g.p) rfl ?_
    have hr' := hr
    unfold Right Kept at hr'
    have hd : Int.tdiv ((m + (g.p - 1)) - 1) (g.p - 1) = cei m (g.p - 1) := Int.tdiv_eq_ediv_of_nonneg (by omega)
    rw [hd]
    refine ⟨Rng.i64 (by omega) (by omega), Rng.i64 (by omega) (by omega), Rng.i64 (by omega) (by omega), by omega, Rng.i64 (by omega) (by omega), Rng.i64 (by omega) (by omega), ?_⟩
    rw [hq]
    exact ⟨rfl, rfl, E2⟩
  · refine cond_t (by unfold chkE; rw [if_neg hr]; rfl) ?_
    have : quoE g m = 2 := by unfold quoE; rw [if_neg hr]
    rw [this]
    refine ⟨rfl, ?_, E2⟩
    show chkE g = 2
    unfold chkE; rw [if_neg hr]

end Go.Proofs.Ytimbomieepefcaa.Vc
