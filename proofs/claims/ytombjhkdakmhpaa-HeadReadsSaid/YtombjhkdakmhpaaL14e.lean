/- The law HeadReads of layer 14: each call gives true, and what it read stays. -/
import Derived.Test.YtombjhkdakmhpaaC14e
import Derived.Test.YtombjhkdakmhpaaEqH
import Derived.Test.YtombjhkdakmhpaaVM14
namespace Go.Proofs.Ytombjhkdakmhpaa.Vc
open Go Go.Eng Go.RowKit
set_option linter.unusedVariables false
set_option linter.unusedSimpArgs false

theorem HeadReads_of {w : World} {a : Option Addr} {n c b : Nat} {xs : List Int} (g0 : SlI w .u8 a n c xs b) :
    CallV Try.prog 10 #[.slice a n c] w [.one .bool] fun r w' => r.1 = true ∧ Ext w w' := by
  have hx := g0.ints
  have bx : Byt xs := g0.byt
  have lx := hx.len
  have hcap := hx.cap
  refine law14_HeadReads.vc _ _ _ _ _ ?_
  unfold law14_HeadReads.P
  have aw : ∀ {w' : World}, Ext w w' → CallV Try.prog 16 #[] w' [.one .bool] fun r w3 => r.1 = true ∧ Ext w w3 := fun he => awake14_c.mono fun r w3 ⟨h, e⟩ => ⟨h, he.trans e⟩
  refine (Read_c hx bx).mono ?_
  rintro ⟨(q1 : Int × Int × Int × Int × Int × Int × Unit), (s1 : SlV), (e1 : Int), ⟨⟩⟩ w1 ⟨x1, hA, hB, hC⟩
  dsimp only at hA hB hC ⊢
  by_cases h88 : xs.length ≠ 88
  · obtain ⟨k1, k2, k3⟩ := hA h88
    subst k1
    refine newH (h := zeroH) fun b3 w3 e3 hb3 => ?_
    refine hb3.store 0 (by simp) fun w4 hb4 bel4 _ _ => ?_
    have X4 : Ext w w4 := x1.trans (Below.trans e3 bel4)
    refine cond_ne (fun _ => ?_) (fun hh => absurd (by omega) h88)
    refine cond_t (by rw [k3]; rfl) ?_
    refine ldH (h := zeroH) hb4 ?_
    refine eqHd (g := zeroH) (h := zeroH) ?_
    refine cond_t (by simp) (cond_t (by rw [k2]; rfl) ?_)
    refine (Committed_c (hx.ext X4) bx).mono ?_
    rintro ⟨(r5 : Bool), ⟨⟩⟩ w5 ⟨h5, e5⟩
    dsimp only at h5 ⊢
    exact cond_t (by rw [h5]; unfold comm; rw [decide_eq_false (fun hh => h88 hh.1)]; rfl) (aw (X4.trans e5))
  have h88 := Decidable.not_not.1 h88
  have hn : n = 88 := by omega
  by_cases hok : okR xs
  · obtain ⟨k1, k2, k3⟩ := hB h88 hok
    subst k1
    refine newH (h := zeroH) fun b3 w3 e3 hb3 => ?_
    refine hb3.store 0 (by simp) fun w4 hb4 bel4 _ _ => ?_
    have x4 : Ext w1 w4 := Below.trans e3 bel4
    have X4 := x1.trans x4
    refine cond_ne (fun hh => absurd (by omega) hh) (fun _ => ?_)
    refine (Committed_c (hx.ext X4) bx).mono ?_
    rintro ⟨(r5 : Bool), ⟨⟩⟩ w5 ⟨h5, e5⟩
    dsimp only at h5 ⊢
    refine (rCommitted_c (hx.ext (X4.trans e5)) hn).mono ?_
    rintro ⟨(r6 : Bool), ⟨⟩⟩ w6 ⟨h6, e6⟩
    dsimp only at h6 ⊢
    have x6 := e5.trans e6
    have X6 := X4.trans x6
    refine cond_f (by rw [h5, h6]; simp) ?_
    refine (rRead_c (hx.ext X6) bx hn).mono ?_
    rintro ⟨(q7 : Int × Int × Int × Int × Int × Int × Unit), (o7 : Bool), ⟨⟩⟩ w7 ⟨x7, h7, -⟩
    obtain ⟨m1, m2⟩ := h7 hok
    dsimp only at m1 m2 ⊢
    subst m1
    refine newH (h := zeroH) fun b8 w8 e8 hb8 => ?_
    refine hb8.store 0 (by simp) fun w9 hb9 bel9 _ _ => ?_
    have x9 : Ext w4 w9 := x6.trans (x7.trans (Below.trans e8 bel9))
    have X9 := X4.trans x9
    refine cond_f (by rw [m2]; rfl) (cond_t (by rw [k3]; rfl) ?_)
    refine ldH (h := hdOf xs) (hb4.ext x9) (ldH (h := hdOf xs) hb9 ?_)
    refine eqHd (g := hdOf xs) (h := hdOf xs) ?_
    refine cond_t (by simp) ⟨by omega, ?_⟩
    intro a10 ha10
    have i10 := sub_part (hx.ext X9) (i := 48) (j := 80) (m := c) (by omega) (by omega) (by omega) ha10
    refine (SameBytes_c (k2.ints.ext (x4.trans x9)) i10).mono ?_
    rintro ⟨(r11 : Bool), ⟨⟩⟩ w11 ⟨h11, x11⟩
    dsimp only at h11 ⊢
    exact cond_t (by rw [h11]; simp) (aw (X9.trans x11))
  · obtain ⟨k1, k2, k3⟩ := hC h88 hok
    subst k1
    refine newH (h := zeroH) fun b3 w3 e3 hb3 => ?_
    refine hb3.store 0 (by simp) fun w4 hb4 bel4 _ _ => ?_
    have x4 : Ext w1 w4 := Below.trans e3 bel4
    have X4 := x1.trans x4
    refine cond_ne (fun hh => absurd (by omega) hh) (fun _ => ?_)
    refine (Committed_c (hx.ext X4) bx).mono ?_
    rintro ⟨(r5 : Bool), ⟨⟩⟩ w5 ⟨h5, e5⟩
    dsimp only at h5 ⊢
    refine (rCommitted_c (hx.ext (X4.trans e5)) hn).mono ?_
    rintro ⟨(r6 : Bool), ⟨⟩⟩ w6 ⟨h6, e6⟩
    dsimp only at h6 ⊢
    have x6 := e5.trans e6
    have X6 := X4.trans x6
    refine cond_f (by rw [h5, h6]; simp) ?_
    refine (rRead_c (hx.ext X6) bx hn).mono ?_
    rintro ⟨(q7 : Int × Int × Int × Int × Int × Int × Unit), (o7 : Bool), ⟨⟩⟩ w7 ⟨x7, -, h7⟩
    obtain ⟨m1, m2⟩ := h7 hok
    dsimp only at m1 m2 ⊢
    subst m1
    refine newH (h := zeroH) fun b8 w8 e8 hb8 => ?_
    refine hb8.store 0 (by simp) fun w9 hb9 bel9 _ _ => ?_
    have x9 : Ext w4 w9 := x6.trans (x7.trans (Below.trans e8 bel9))
    refine cond_t (by rw [m2]; rfl) (cond_t (by rw [k3]; rfl) ?_)
    refine ldH (h := zeroH) (hb4.ext x9) ?_
    refine eqHd (g := zeroH) (h := zeroH) ?_
    exact cond_t (by simp) (cond_t (by rw [k2]; rfl) (aw (X4.trans x9)))

end Go.Proofs.Ytombjhkdakmhpaa.Vc
