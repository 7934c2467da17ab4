/- The law HeadEnds of layer 14: each call gives true, and what it read stays. -/
import Derived.Test.YtombjhkdakmhpaaC14d
import Derived.Test.YtombjhkdakmhpaaEqH
import Derived.Test.YtombjhkdakmhpaaVM14
namespace Go.Proofs.Ytombjhkdakmhpaa.Vc
open Go Go.Eng Go.RowKit
set_option linter.unusedVariables false
set_option linter.unusedSimpArgs false

theorem tagL_length {tg : List Int} (hl : tg.length = 0 ∨ tg.length = 32) : (tagL tg).length = 32 := by
  unfold tagL
  split
  · simp
  · omega
theorem endL_length (h : Hd) {tg : List Int} (hl : tg.length = 0 ∨ tg.length = 32) : (endL h tg).length = 88 := by
  unfold endL
  rw [List.length_append, List.length_append, List.length_append, invL_length, hdL_length, tagL_length hl, List.length_replicate]
theorem big_byt (n : Int) (k : Nat) : Byt (big n k) := (leL_byt n k).reverse
theorem hdL_byt {h : Hd} (hR : HRight h) : Byt (hdL h) := by
  unfold HRight at hR
  unfold hdL
  refine (((Byt.cons (by omega) (Byt.cons (by omega) (Byt.cons (by omega) (Byt.cons (by omega) Byt.nil)))).append (big_byt _ _)).append (big_byt _ _)).append (big_byt _ _)
theorem endL_byt {h : Hd} (hg : h.rng) (hR : HRight h) {tg : List Int} (bt : Byt tg) : Byt (endL h tg) := by
  unfold endL
  refine (((hdL_byt hR).append (invL_byt _)).append ?_).append (Byt.replicate (by omega) (by omega) _)
  unfold tagL
  split
  · exact Byt.replicate (by omega) (by omega) _
  · exact bt
theorem endL_hd (h : Hd) (hg : h.rng) (tg : List Int) : hdOf (endL h tg) = h := by
  unfold endL
  rw [List.append_assoc, List.append_assoc]
  exact part_hdL h hg _
theorem endL_ok (h : Hd) {tg : List Int} (hl : tg.length = 0 ∨ tg.length = 32) (hg : h.rng) (hR : HRight h) : okR (endL h tg) := by
  refine ⟨hR.1, rfl, ?_⟩
  have p1 : part (endL h tg) 0 24 = hdL h := by
    unfold part endL
    rw [List.drop_zero, List.append_assoc, List.append_assoc, List.take_left' (by rw [hdL_length])]
  have p2 : part (endL h tg) 24 48 = invL (hdL h) := by
    unfold part endL
    rw [List.append_assoc, List.append_assoc, List.drop_left' (by rw [hdL_length]), List.take_left' (by rw [invL_length, hdL_length])]
  rw [p1, p2]
theorem endL_comm {h : Hd} {tg : List Int} (hl : tg.length = 0 ∨ tg.length = 32) : comm (endL h tg) = false := by
  refine decide_eq_false fun hh => ?_
  have h2 := hh.2
  unfold endL at h2
  rw [List.drop_left' (by rw [List.length_append, List.length_append, invL_length, hdL_length, tagL_length hl])] at h2
  exact absurd h2 (by decide)

theorem HeadEnds_law {w : World} {h : Hd} {a : Option Addr} {n c : Nat} {tg : List Int} (hg : h.rng) (ht : Ints w .u8 a n c tg) (bt : Byt tg) :
    CallV Try.prog 12 #[h.val, .slice a n c] w [.one .bool] fun r w' => r.1 = true ∧ Ext w w' := by
  refine law14_HeadEnds.vc _ _ _ _ _ _ _ _ _ _ _ ?_
  unfold law14_HeadEnds.P
  have lt := ht.len
  have aw : ∀ {w' : World}, Ext w w' → CallV Try.prog 16 #[] w' [.one .bool] fun r w3 => r.1 = true ∧ Ext w w3 := fun he => awake14_c.mono fun r w3 ⟨h, e⟩ => ⟨h, he.trans e⟩
  refine newH fun b1 w1 e1 hb => ?_
  refine ldH hb ?_
  refine (End_c (h := h) hg (ht.ext e1)).mono ?_
  rintro ⟨(s2 : SlV), (e2 : Int), ⟨⟩⟩ w2 ⟨x2, h2, h2'⟩
  refine ldH (hb.ext x2) ?_
  refine (HRight_c (h := h)).mono ?_
  rintro ⟨(r3 : Bool), ⟨⟩⟩ w3 ⟨h3, x3⟩
  dsimp only at h2 h2' h3 ⊢
  subst h3
  have E2 := e1.trans x2
  have E3 := E2.trans x3
  have fail : ¬ ERight h n → cond (e2 == 2) (cond (((s2.n : Nat) : Int) == 0) (CallV Try.prog 16 #[] w3 [.one .bool] fun (r : Bool × Unit) w2 => r.1 = true ∧ Ext w w2) (false = true ∧ Ext w w3)) (false = true ∧ Ext w w3) := fun hn => by
    obtain ⟨k1, k2⟩ := h2' hn
    exact cond_t (by rw [k2]; rfl) (cond_t (by rw [k1]; rfl) (aw E3))
  by_cases hR : ¬ HRight h
  · exact cond_t (by rw [decide_eq_false hR]; rfl) (fail (fun hh => hR hh.1))
  have hR := Decidable.not_not.1 hR
  refine cond_f (by rw [decide_eq_true hR]; rfl) ?_
  refine cond_ne (fun hn0 => cond_ne (fun hn1 => fail (fun hh => by unfold ERight at hh; omega)) (fun hn1 => ?_)) (fun hn0 => ?_)
  · have hE : ERight h n := ⟨hR, .inr (by omega)⟩
    have hlen : tg.length = 0 ∨ tg.length = 32 := .inr (by omega)
    obtain ⟨k1, k2⟩ := h2 hE
    refine cond_ne (fun h => absurd k2 h) (fun _ => ?_)
    refine ldH (hb.ext (x2.trans x3)) ?_
    refine (rEnd_c (h := h) hg (ht.ext E3) hE).mono ?_
    rintro ⟨(s4 : SlV), ⟨⟩⟩ w4 h4
    dsimp only at h4 ⊢
    refine (SameBytes_c (k1.ints.ext (x3.trans h4.ext)) h4.ints).mono ?_
    rintro ⟨(r5 : Bool), ⟨⟩⟩ w5 ⟨h5, x5⟩
    dsimp only at h5 ⊢
    refine cond_f (by rw [h5]; simp) ?_
    have X5 := x3.trans (h4.ext.trans x5)
    have bE := endL_byt hg hE.1 bt
    have i5 := k1.ints.ext X5
    refine (Committed_c i5 bE).mono ?_
    rintro ⟨(r6 : Bool), ⟨⟩⟩ w6 ⟨h6, x6⟩
    dsimp only at h6 ⊢
    refine cond_f (by rw [h6]; exact endL_comm hlen) ?_
    refine (Read_c (i5.ext x6) bE).mono ?_
    rintro ⟨(q7 : Int × Int × Int × Int × Int × Int × Unit), (s7 : SlV), (e7 : Int), ⟨⟩⟩ w7 ⟨x7, -, h7, -⟩
    obtain ⟨h7a, h7b, h7c⟩ := h7 (endL_length h hlen) (endL_ok h hlen hg hE.1)
    rw [endL_hd h hg tg] at h7a
    dsimp only at h7a h7b h7c ⊢
    subst h7a
    refine newH (h := zeroH) fun b8 w8 e8 hb8 => ?_
    refine hb8.store 0 (by simp) fun w9 hb9 bel9 _ _ => ?_
    have x9 : Ext w7 w9 := Below.trans e8 bel9
    have X9 := X5.trans (x6.trans (x7.trans x9))
    refine cond_t (by rw [h7c]; rfl) ?_
    refine ldH (h := h) hb9 (ldH (h := h) (hb.ext (x2.trans X9)) ?_)
    refine eqHd ?_
    refine cond_t (by simp) ?_
    have cc := k1.ints.cap
    have ll := k1.ints.len
    rw [endL_length h hlen] at ll
    refine ⟨by omega, ?_⟩
    intro a10 ha10
    have i10 := sub_part (k1.ints.ext X9) (i := 48) (j := 80) (m := s2.c) (by omega) (by omega) (by omega) ha10
    refine (SameBytes_c (h7b.ints.ext x9) i10).mono ?_
    rintro ⟨(r11 : Bool), ⟨⟩⟩ w11 ⟨h11, x11⟩
    dsimp only at h11 ⊢
    exact cond_t (by rw [h11]; simp) (aw (E2.trans (X9.trans x11)))
  · have hE : ERight h n := ⟨hR, .inl (by omega)⟩
    have hlen : tg.length = 0 ∨ tg.length = 32 := .inl (by omega)
    obtain ⟨k1, k2⟩ := h2 hE
    refine cond_ne (fun h => absurd k2 h) (fun _ => ?_)
    refine ldH (hb.ext (x2.trans x3)) ?_
    refine (rEnd_c (h := h) hg (ht.ext E3) hE).mono ?_
    rintro ⟨(s4 : SlV), ⟨⟩⟩ w4 h4
    dsimp only at h4 ⊢
    refine (SameBytes_c (k1.ints.ext (x3.trans h4.ext)) h4.ints).mono ?_
    rintro ⟨(r5 : Bool), ⟨⟩⟩ w5 ⟨h5, x5⟩
    dsimp only at h5 ⊢
    refine cond_f (by rw [h5]; simp) ?_
    have X5 := x3.trans (h4.ext.trans x5)
    have bE := endL_byt hg hE.1 bt
    have i5 := k1.ints.ext X5
    refine (Committed_c i5 bE).mono ?_
    rintro ⟨(r6 : Bool), ⟨⟩⟩ w6 ⟨h6, x6⟩
    dsimp only at h6 ⊢
    refine cond_f (by rw [h6]; exact endL_comm hlen) ?_
    refine (Read_c (i5.ext x6) bE).mono ?_
    rintro ⟨(q7 : Int × Int × Int × Int × Int × Int × Unit), (s7 : SlV), (e7 : Int), ⟨⟩⟩ w7 ⟨x7, -, h7, -⟩
    obtain ⟨h7a, h7b, h7c⟩ := h7 (endL_length h hlen) (endL_ok h hlen hg hE.1)
    rw [endL_hd h hg tg] at h7a
    dsimp only at h7a h7b h7c ⊢
    subst h7a
    refine newH (h := zeroH) fun b8 w8 e8 hb8 => ?_
    refine hb8.store 0 (by simp) fun w9 hb9 bel9 _ _ => ?_
    have x9 : Ext w7 w9 := Below.trans e8 bel9
    have X9 := X5.trans (x6.trans (x7.trans x9))
    refine cond_t (by rw [h7c]; rfl) ?_
    refine ldH (h := h) hb9 (ldH (h := h) (hb.ext (x2.trans X9)) ?_)
    refine eqHd ?_
    refine cond_t (by simp) ?_
    have cc := k1.ints.cap
    have ll := k1.ints.len
    rw [endL_length h hlen] at ll
    refine ⟨by omega, ?_⟩
    intro a10 ha10
    have i10 := sub_part (k1.ints.ext X9) (i := 48) (j := 80) (m := s2.c) (by omega) (by omega) (by omega) ha10
    refine (SameBytes_c (h7b.ints.ext x9) i10).mono ?_
    rintro ⟨(r11 : Bool), ⟨⟩⟩ w11 ⟨h11, x11⟩
    dsimp only at h11 ⊢
    exact cond_t (by rw [h11]; simp) (aw (E2.trans (X9.trans x11)))

theorem HeadEnds_of {w : World} {x : THd.T} {a : Option Addr} {n c b : Nat} {tg : List Int} (g0 : THd.ok w x) (g1 : SlI w .u8 a n c tg b) :
    CallV Try.prog 12 #[.agg (THd.vs x).toArray, .slice a n c] w [.one .bool] fun r w' => r.1 = true ∧ Ext w w' := by
  rw [hdT_val]
  exact HeadEnds_law (hdT_rng g0) g1.ints g1.byt

end Go.Proofs.Ytombjhkdakmhpaa.Vc
