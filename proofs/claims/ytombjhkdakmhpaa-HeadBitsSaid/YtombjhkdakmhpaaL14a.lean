/- The law HeadBytes of layer 14: each call gives true, and what it read stays. -/
import Derived.Test.YtombjhkdakmhpaaC14a
import Derived.Test.YtombjhkdakmhpaaVL14
import Derived.Test.YtombjhkdakmhpaaOpenG
namespace Go.Proofs.Ytombjhkdakmhpaa.Vc
open Go Go.Eng Go.RowKit
set_option linter.unusedVariables false
set_option linter.unusedSimpArgs false

theorem MarkLen_c {w : World} {n : Int} (h : 88 ≤ n ∧ n ≤ 4184) : CallV Try.prog 41 #[.int .i64 n] w [.one .sl] fun r w' => Res w w' r.1 (List.replicate (n - 8).toNat 255 ++ List.replicate 8 0) := by
  refine head_Mark.vc _ _ _ ?_
  unfold head_Mark.P
  refine cond_d (fun h => by omega) (fun _ => cond_d (fun h => by omega) (fun _ => ⟨Rng.i64 (by omega) (by omega), ?_⟩))
  refine Fill_c.mono ?_
  rintro ⟨(s1 : SlV), ⟨⟩⟩ w1 h1
  refine Fill_c.mono ?_
  rintro ⟨(s2 : SlV), ⟨⟩⟩ w2 h2
  dsimp only at h1 h2 ⊢
  generalize hL : (65536 : Int) = L at h1 h2
  rw [show max 0 (min L (n - 8)) = n - 8 by omega] at h1
  rw [show (max 0 (min L 8)).toNat = 8 by omega] at h2
  have l1 := h1.ints.len
  have l2 := h2.ints.len
  rw [List.length_replicate] at l1 l2
  refine appL (h1.own.ext h2.ext) h2.ints (Nat.le_trans h1.ext.size h2.ext.size) (by omega) fun a' c' w' o b => ?_
  exact ⟨Below.trans (h1.ext.trans h2.ext) b, o⟩

theorem awake14_c {w : World} : CallV Try.prog 16 #[] w [.one .bool] fun r w' => r.1 = true ∧ Ext w w' := by
  refine law14_awake.vc _ _ ?_
  unfold law14_awake.P
  refine (Bytes_c (h := ⟨1, 2, 0, 0, 0, 5⟩) (by unfold Hd.rng; dsimp only; omega)).mono ?_
  rintro ⟨(s1 : SlV), (e1 : Int), ⟨⟩⟩ w1 ⟨x1, h1, -⟩
  obtain ⟨h1, h2⟩ := h1 (by decide)
  dsimp only at h1 h2 ⊢
  have l1 := h1.ints.len
  rw [hdL_length] at l1
  refine cond_t (by rw [h2]; rfl) (cond_t (by rw [← l1]; rfl) ?_)
  refine h1.ints.idx (by omega) (by omega) ?_
  refine cond_t (by decide +kernel) ?_
  refine (MarkLen_c (by omega)).mono ?_
  rintro ⟨(s2 : SlV), ⟨⟩⟩ w2 h3
  have l3 := h3.ints.len
  rw [List.length_append, List.length_replicate, List.length_replicate] at l3
  dsimp only at l3 ⊢
  exact ⟨by rw [← l3]; rfl, x1.trans h3.ext⟩

theorem HeadBytes_law {w : World} {h : Hd} (hg : h.rng) : CallV Try.prog 3 #[h.val] w [.one .bool] fun r w' => r.1 = true ∧ Ext w w' := by
  refine law14_HeadBytes.vc _ _ _ _ _ _ _ _ ?_
  unfold law14_HeadBytes.P
  refine newH fun b1 w1 e1 hb => ?_
  refine ldH hb ?_
  refine (Bytes_c (h := h) hg).mono ?_
  rintro ⟨(s2 : SlV), (e2 : Int), ⟨⟩⟩ w2 ⟨x2, h2, h2'⟩
  refine ldH (hb.ext x2) ?_
  refine (HRight_c (h := h)).mono ?_
  rintro ⟨(r3 : Bool), ⟨⟩⟩ w3 ⟨h3, x3⟩
  dsimp only at h2 h2' h3 ⊢
  subst h3
  have E3 := e1.trans (x2.trans x3)
  by_cases hR : HRight h
  · obtain ⟨k1, k2⟩ := h2 hR
    refine cond_f (by rw [decide_eq_true hR]; rfl) (cond_t (by rw [k2]; rfl) ?_)
    refine ldH (hb.ext (x2.trans x3)) ?_
    refine (rBytes_c (h := h) hg hR).mono ?_
    rintro ⟨(s4 : SlV), ⟨⟩⟩ w4 h4
    dsimp only at h4 ⊢
    refine (SameBytes_c (k1.ints.ext (x3.trans h4.ext)) h4.ints).mono ?_
    rintro ⟨(r5 : Bool), ⟨⟩⟩ w5 ⟨h5, x5⟩
    dsimp only at h5 ⊢
    refine cond_t (by rw [h5]; simp) ?_
    refine awake14_c.mono ?_
    rintro ⟨(r6 : Bool), ⟨⟩⟩ w6 ⟨h6, x6⟩
    exact ⟨h6, E3.trans (h4.ext.trans (x5.trans x6))⟩
  · obtain ⟨k1, k2⟩ := h2' hR
    refine cond_t (by rw [decide_eq_false hR]; rfl) (cond_t (by rw [k2]; rfl) (cond_t (by rw [k1]; rfl) ?_))
    refine awake14_c.mono ?_
    rintro ⟨(r6 : Bool), ⟨⟩⟩ w6 ⟨h6, x6⟩
    exact ⟨h6, E3.trans x6⟩

abbrev THd : Ty := .cons (.int .i64) (.cons (.int .i64) (.cons (.int .i64) (.cons (.int .u32) (.cons (.int .u64) (.cons (.int .u64) .nil)))))
def hdT (x : THd.T) : Hd := ⟨x.1, x.2.1, x.2.2.1, x.2.2.2.1, x.2.2.2.2.1, x.2.2.2.2.2.1⟩
theorem hdT_val (x : THd.T) : (.agg (THd.vs x).toArray : Value) = (hdT x).val := rfl
theorem rng_u32 {x : Int} (h : Rng .u32 x) : 0 ≤ x ∧ x < 4294967296 := by
  unfold Rng at h
  have e1 : IntKind.u32.min = 0 := by decide
  have e2 : IntKind.u32.max = 4294967295 := by decide
  omega
theorem hdT_rng {w : World} {x : THd.T} (g : THd.ok w x) : (hdT x).rng :=
  ⟨rng_u32 g.2.2.2.1, rng_u64 g.2.2.2.2.1, rng_u64 g.2.2.2.2.2.1⟩
theorem HeadBytes_of {w : World} {x : THd.T} (g0 : THd.ok w x) : CallV Try.prog 3 #[.agg (THd.vs x).toArray] w [.one .bool] fun r w' => r.1 = true ∧ Ext w w' := by
  rw [hdT_val]
  exact HeadBytes_law (hdT_rng g0)

end Go.Proofs.Ytombjhkdakmhpaa.Vc
