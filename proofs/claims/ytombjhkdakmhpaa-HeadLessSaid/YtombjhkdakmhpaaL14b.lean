/- The law HeadLess of layer 14: each call gives true, and what it read stays. -/
import Derived.Test.YtombjhkdakmhpaaL14a
namespace Go.Proofs.Ytombjhkdakmhpaa.Vc
open Go Go.Eng Go.RowKit
set_option linter.unusedVariables false
set_option linter.unusedSimpArgs false

def lessB (h g : Hd) : Bool := if h.e = g.e then decide (h.t < g.t) else decide (h.e < g.e)
theorem Less_c {w : World} {h g : Hd} : CallV Try.prog 22 #[h.val, g.val] w [.one .bool] fun r w' => r.1 = lessB h g ∧ Ext w w' := by
  refine head_Less.vc _ _ _ _ _ _ _ _ _ _ _ _ _ _ ?_
  unfold head_Less.P
  refine newH fun b1 w1 e1 hb => ?_
  refine newH fun b2 w2 e2 hb2 => ?_
  have i1 := hb.ext e2
  have i2 := hb2
  refine i1.ld (i := 4) (h := .int .u64) (x := h.e) rfl (i2.ld (i := 4) (h := .int .u64) (x := g.e) rfl ?_)
  refine cond_ne (fun hne => ?_) (fun heq => ?_)
  · refine i1.ld (i := 4) (h := .int .u64) (x := h.e) rfl (i2.ld (i := 4) (h := .int .u64) (x := g.e) rfl ?_)
    exact ⟨by unfold lessB; rw [if_neg hne], e1.trans e2⟩
  · refine i1.ld (i := 5) (h := .int .u64) (x := h.t) rfl (i2.ld (i := 5) (h := .int .u64) (x := g.t) rfl ?_)
    exact ⟨by unfold lessB; rw [if_pos heq], e1.trans e2⟩

theorem HeadLess_law {w : World} {h g : Hd} : CallV Try.prog 5 #[h.val, g.val] w [.one .bool] fun r w' => r.1 = true ∧ Ext w w' := by
  refine law14_HeadLess.vc _ _ _ _ _ _ _ _ _ _ _ _ _ _ ?_
  unfold law14_HeadLess.P
  refine newH fun b1 w1 e1 hb => ?_
  refine newH fun b2 w2 e2 hb2 => ?_
  have i1 := hb.ext e2
  have i2 := hb2
  have aw : ∀ {w' : World}, Ext w2 w' → CallV Try.prog 16 #[] w' [.one .bool] fun r w3 => r.1 = true ∧ Ext w w3 := fun he => awake14_c.mono fun r w3 ⟨h, e⟩ => ⟨h, e1.trans (e2.trans (he.trans e))⟩
  have L1 : h.e < g.e → lessB h g = true ∧ lessB g h = false := fun hh => ⟨by unfold lessB; rw [if_neg (by omega), decide_eq_true hh], by unfold lessB; rw [if_neg (by omega), decide_eq_false (by omega)]⟩
  have L2 : g.e < h.e → lessB h g = false ∧ lessB g h = true := fun hh => ⟨by unfold lessB; rw [if_neg (by omega), decide_eq_false (by omega)], by unfold lessB; rw [if_neg (by omega), decide_eq_true hh]⟩
  have L3 : h.e = g.e → lessB h g = decide (h.t < g.t) ∧ lessB g h = decide (g.t < h.t) := fun hh => ⟨by unfold lessB; rw [if_pos hh], by unfold lessB; rw [if_pos hh.symm]⟩
  refine i1.ld (i := 4) (h := .int .u64) (x := h.e) rfl (i2.ld (i := 4) (h := .int .u64) (x := g.e) rfl ?_)
  refine cond_d (fun hlt => ?_) (fun hge => ?_)
  · refine i1.ld (i := 4) (h := .int .u64) (x := h.e) rfl (i2.ld (i := 4) (h := .int .u64) (x := g.e) rfl ?_)
    refine cond_eq (fun heq => by omega) (fun hne => ?_)
    refine ldH i1 (ldH i2 ?_)
    refine (Less_c (h := h) (g := g)).mono ?_
    rintro ⟨(r1 : Bool), ⟨⟩⟩ w3 ⟨h3, x3⟩
    dsimp only at h3 ⊢
    refine cond_t (by rw [h3, (L1 hlt).1]; rfl) ?_
    refine ldH (i2.ext x3) (ldH (i1.ext x3) ?_)
    refine (Less_c (h := g) (g := h)).mono ?_
    rintro ⟨(r2 : Bool), ⟨⟩⟩ w4 ⟨h4, x4⟩
    dsimp only at h4 ⊢
    refine cond_t (by rw [h4, (L1 hlt).2]; rfl) (aw (x3.trans x4))
  · refine i1.ld (i := 4) (h := .int .u64) (x := h.e) rfl (i2.ld (i := 4) (h := .int .u64) (x := g.e) rfl ?_)
    refine cond_eq (fun heq => ?_) (fun hne => ?_)
    · refine i1.ld (i := 5) (h := .int .u64) (x := h.t) rfl (i2.ld (i := 5) (h := .int .u64) (x := g.t) rfl ?_)
      refine i1.ld (i := 4) (h := .int .u64) (x := h.e) rfl (i2.ld (i := 4) (h := .int .u64) (x := g.e) rfl ?_)
      refine cond_eq (fun heq2 => ?_) (fun hne2 => absurd heq hne2)
      refine i1.ld (i := 5) (h := .int .u64) (x := h.t) rfl (i2.ld (i := 5) (h := .int .u64) (x := g.t) rfl ?_)
      refine ldH i1 (ldH i2 ?_)
      refine (Less_c (h := h) (g := g)).mono ?_
      rintro ⟨(r1 : Bool), ⟨⟩⟩ w3 ⟨h3, x3⟩
      dsimp only at h3 ⊢
      refine cond_t (by rw [h3, (L3 heq).1]; exact beq_self_eq_true _) ?_
      refine ldH (i2.ext x3) (ldH (i1.ext x3) ?_)
      refine (Less_c (h := g) (g := h)).mono ?_
      rintro ⟨(r2 : Bool), ⟨⟩⟩ w4 ⟨h4, x4⟩
      dsimp only at h4 ⊢
      by_cases ht : h.t < g.t
      · refine cond_f (by rw [decide_eq_true ht]; rfl) (cond_t (by rw [h4, (L3 heq).2, decide_eq_false (by omega)]; rfl) (aw (x3.trans x4)))
      · refine cond_t (by rw [decide_eq_false ht]; rfl) (cond_t ?_ (aw (x3.trans x4)))
        rw [h4, (L3 heq).2]
        by_cases ht2 : h.t = g.t
        · rw [decide_eq_false (by omega), ht2, beq_self_eq_true]; rfl
        · rw [decide_eq_true (by omega), beq_eq_false_iff_ne.2 ht2]; rfl
    · have hgt : g.e < h.e := by omega
      refine i1.ld (i := 4) (h := .int .u64) (x := h.e) rfl (i2.ld (i := 4) (h := .int .u64) (x := g.e) rfl ?_)
      refine cond_eq (fun heq2 => absurd heq2 hne) (fun hne2 => ?_)
      refine ldH i1 (ldH i2 ?_)
      refine (Less_c (h := h) (g := g)).mono ?_
      rintro ⟨(r1 : Bool), ⟨⟩⟩ w3 ⟨h3, x3⟩
      dsimp only at h3 ⊢
      refine cond_t (by rw [h3, (L2 hgt).1]; rfl) ?_
      refine ldH (i2.ext x3) (ldH (i1.ext x3) ?_)
      refine (Less_c (h := g) (g := h)).mono ?_
      rintro ⟨(r2 : Bool), ⟨⟩⟩ w4 ⟨h4, x4⟩
      dsimp only at h4 ⊢
      refine cond_t (by rw [h4, (L2 hgt).2]; rfl) (aw (x3.trans x4))

theorem HeadLess_of {w : World} {x y : THd.T} (g0 : THd.ok w x) (g1 : THd.ok w y) : CallV Try.prog 5 #[.agg (THd.vs x).toArray, .agg (THd.vs y).toArray] w [.one .bool] fun r w' => r.1 = true ∧ Ext w w' := by
  rw [hdT_val, hdT_val]
  exact HeadLess_law

end Go.Proofs.Ytombjhkdakmhpaa.Vc
