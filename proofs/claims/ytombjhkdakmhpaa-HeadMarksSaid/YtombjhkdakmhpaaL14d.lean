/- The law HeadMarks of layer 14: each call gives true, and what it read stays. -/
import Derived.Test.YtombjhkdakmhpaaL14c
import Derived.Test.YtombjhkdakmhpaaC12a
namespace Go.Proofs.Ytombjhkdakmhpaa.Vc
open Go Go.Eng Go.RowKit
set_option linter.unusedVariables false
set_option linter.unusedSimpArgs false

def core (h : Hd) (tg : List Int) : List Int := (hdL h ++ invL (hdL h)) ++ tagL tg
def markL (h : Hd) (tg : List Int) : List Int := core h tg ++ List.replicate 8 0
theorem core_length (h : Hd) {tg : List Int} (hl : tg.length = 0 ∨ tg.length = 32) : (core h tg).length = 80 := by
  unfold core
  rw [List.length_append, List.length_append, invL_length, hdL_length, tagL_length hl]
theorem core_byt {h : Hd} (hR : HRight h) {tg : List Int} (bt : Byt tg) : Byt (core h tg) := by
  unfold core
  refine ((hdL_byt hR).append (invL_byt _)).append ?_
  unfold tagL
  split
  · exact Byt.replicate (by omega) (by omega) _
  · exact bt
theorem markL_length (h : Hd) {tg : List Int} (hl : tg.length = 0 ∨ tg.length = 32) : (markL h tg).length = 88 := by
  unfold markL
  rw [List.length_append, core_length h hl, List.length_replicate]
theorem markL_byt {h : Hd} (hR : HRight h) {tg : List Int} (bt : Byt tg) : Byt (markL h tg) := (core_byt hR bt).append (Byt.replicate (by omega) (by omega) _)
theorem markL_hd (h : Hd) (hg : h.rng) (tg : List Int) : hdOf (markL h tg) = h := by
  unfold markL core
  rw [List.append_assoc, List.append_assoc]
  exact part_hdL h hg _
theorem markL_ok (h : Hd) {tg : List Int} (hR : HRight h) : okR (markL h tg) := by
  refine ⟨hR.1, rfl, ?_⟩
  have p1 : part (markL h tg) 0 24 = hdL h := by
    unfold part markL core
    rw [List.drop_zero, List.append_assoc, List.append_assoc, List.take_left' (by rw [hdL_length])]
  have p2 : part (markL h tg) 24 48 = invL (hdL h) := by
    unfold part markL core
    rw [List.append_assoc, List.append_assoc, List.drop_left' (by rw [hdL_length]), List.take_left' (by rw [invL_length, hdL_length])]
  rw [p1, p2]
theorem part_core (h : Hd) {tg : List Int} (hl : tg.length = 0 ∨ tg.length = 32) : part (markL h tg) 48 80 = part (endL h tg) 48 80 := by
  unfold part markL endL
  rw [show ((hdL h ++ invL (hdL h)) ++ tagL tg) = core h tg from rfl, List.drop_append_of_le_length (by rw [core_length h hl]; omega), List.drop_append_of_le_length (by rw [core_length h hl]; omega),
    List.take_left' (by rw [List.length_drop, core_length h hl]), List.take_left' (by rw [List.length_drop, core_length h hl])]
theorem markL_comm (h : Hd) {tg : List Int} (hl : tg.length = 0 ∨ tg.length = 32) : comm (markL h tg) = true := by
  refine decide_eq_true ⟨markL_length h hl, ?_⟩
  unfold markL
  rw [List.drop_left' (by rw [core_length h hl])]
theorem and255 : ∀ x : Fin 256, Go.bits .and .u8 ((x.val : Nat) : Int) 255 = ((x.val : Nat) : Int) := by decide +kernel
theorem getD_left {xs ys : List Int} {i : Nat} (h : i < xs.length) : (xs ++ ys).getD i 0 = xs.getD i 0 := by
  rw [List.getD_eq_getElem?_getD, List.getElem?_append_left h, ← List.getD_eq_getElem?_getD]
theorem getD_right {xs ys : List Int} {i : Nat} (h : xs.length ≤ i) : (xs ++ ys).getD i 0 = ys.getD (i - xs.length) 0 := by
  rw [List.getD_eq_getElem?_getD, List.getElem?_append_right h, ← List.getD_eq_getElem?_getD]
theorem and_mark {h : Hd} (hR : HRight h) {tg : List Int} (bt : Byt tg) (hl : tg.length = 0 ∨ tg.length = 32) : andL (endL h tg) (List.replicate 80 255 ++ List.replicate 8 0) = markL h tg := by
  refine List.ext_getElem (by rw [andL_length, endL_length h hl, markL_length h hl]) fun i h1 h2 => ?_
  have hc := core_length h hl
  rw [← getD_get h2]
  rw [markL_length h hl] at h2
  rw [show (andL (endL h tg) (List.replicate 80 255 ++ List.replicate 8 0))[i] = Go.bits .and .u8 ((endL h tg).getD i 0) ((List.replicate 80 255 ++ List.replicate 8 0 : List Int).getD i 0) by simp [andL]]
  unfold endL markL
  rw [show ((hdL h ++ invL (hdL h)) ++ tagL tg) = core h tg from rfl]
  by_cases hi : i < 80
  · rw [getD_left (xs := core h tg) (by omega), getD_left (xs := List.replicate 80 255) (by simpa using hi), getD_left (xs := core h tg) (by omega), getD_get (xs := List.replicate 80 255) (by simpa using hi), List.getElem_replicate, getD_get (xs := core h tg) (by omega)]
    obtain ⟨x, hx⟩ := byte_nat ((core_byt hR bt) _ (List.getElem_mem (by omega : i < (core h tg).length)))
    rw [hx]
    exact and255 x
  · rw [getD_right (xs := core h tg) (by omega), getD_right (xs := List.replicate 80 255) (by simp; omega), getD_right (xs := core h tg) (by omega), hc, List.length_replicate,
      getD_get (xs := List.replicate 8 (255 : Int)) (by simp; omega), List.getElem_replicate, getD_get (xs := List.replicate 8 (0 : Int)) (by simp; omega), List.getElem_replicate]
    decide +kernel

theorem MarkLow_c {w : World} {n : Int} (h : ¬ (88 ≤ n ∧ n ≤ 4184)) : CallV Try.prog 41 #[.int .i64 n] w [.one .sl] fun r w' => r.1 = (⟨none, 0, 0⟩ : SlV) ∧ w' = w := by
  refine head_Mark.vc _ _ _ ?_
  unfold head_Mark.P
  exact cond_d (fun h => ⟨rfl, rfl⟩) (fun _ => cond_d (fun h => ⟨rfl, rfl⟩) (fun _ => by omega))

theorem HeadMarks_law {w : World} {p : Int} {h : Hd} {a : Option Addr} {n c : Nat} {tg : List Int} (hg : h.rng) (ht : Ints w .u8 a n c tg) (bt : Byt tg) :
    CallV Try.prog 13 #[.int .i64 p, h.val, .slice a n c] w [.one .bool] fun r w' => r.1 = true ∧ Ext w w' := by
  refine law14_HeadMarks.vc _ _ _ _ _ _ _ _ _ _ _ _ ?_
  unfold law14_HeadMarks.P
  have lt := ht.len
  have aw : ∀ {w' : World}, Ext w w' → CallV Try.prog 16 #[] w' [.one .bool] fun r w3 => r.1 = true ∧ Ext w w3 := fun he => awake14_c.mono fun r w3 ⟨h, e⟩ => ⟨h, he.trans e⟩
  refine newH fun b1 w1 e1 hb => ?_
  by_cases hp : ¬ (88 ≤ p ∧ p ≤ 4184)
  · refine (MarkLow_c hp).mono ?_
    rintro ⟨(s2 : SlV), ⟨⟩⟩ w2 ⟨h2, rfl⟩
    dsimp only at h2 ⊢
    subst h2
    exact cond_d (fun _ => cond_t rfl (aw e1)) (fun _ => cond_d (fun _ => cond_t rfl (aw e1)) (fun _ => by omega))
  have hp := Decidable.not_not.1 hp
  refine (MarkLen_c hp).mono ?_
  rintro ⟨⟨ma, mn, mc⟩, ⟨⟩⟩ w2 h2
  dsimp only at h2 ⊢
  have l2 := h2.ints.len
  rw [List.length_append, List.length_replicate, List.length_replicate] at l2
  dsimp only at l2
  have c2 := h2.ints.cap
  dsimp only at c2
  have E2 := e1.trans h2.ext
  refine cond_d (fun _ => by omega) (fun _ => cond_d (fun _ => by omega) (fun _ => ?_))
  refine DrawV.old w2 fun D hD hkeep => ?_
  refine cond_ne (fun hh => absurd (by omega) hh) (fun _ => ?_)
  refine ⟨Rng.i64 (by omega) (by omega), ⟨by omega, by omega⟩, ?_⟩
  intro a3 ha3
  have x2 := Ext.drew w2
  have i3 := sub_part (h2.ints.ext x2) (i := 0) (j := (p - 8).toNat) (m := mc) (by omega) (by dsimp only; omega) (by omega) ha3
  have q3 : part (List.replicate (p - 8).toNat (255 : Int) ++ List.replicate 8 0) 0 (p - 8).toNat = List.replicate (p - 8).toNat 255 := by
    unfold part
    rw [List.drop_zero, Nat.sub_zero, List.take_left' (by rw [List.length_replicate])]
  rw [q3] at i3
  refine ⟨Rng.i64 (by omega) (by omega), ?_⟩
  refine rFill_c.mono ?_
  rintro ⟨(s4 : SlV), ⟨⟩⟩ w4 h4
  dsimp only at h4 ⊢
  have f4 : (max 0 (min (65536 : Int) (p - 8))).toNat = (p - 8).toNat := by generalize hL : (65536 : Int) = L; omega
  rw [f4] at h4
  have x4 := x2.trans h4.ext
  refine ⟨hkeep _ x4, ?_⟩
  refine (SameBytes_c (i3.ext h4.ext) h4.ints).mono ?_
  rintro ⟨(r5 : Bool), ⟨⟩⟩ w5 ⟨h5, e5⟩
  dsimp only at h5 ⊢
  have x5 := x4.trans e5
  refine ⟨hkeep _ x5, ?_⟩
  refine cond_f (by rw [h5]; simp) ?_
  refine ⟨Rng.i64 (by omega) (by omega), ⟨by omega, by omega⟩, ?_⟩
  intro a6 ha6
  have i6 := sub_part (h2.ints.ext x5) (i := (p - 8).toNat) (j := mn) (m := mc) (by omega) (by dsimp only; omega) (by omega) ha6
  have q6 : part (List.replicate (p - 8).toNat (255 : Int) ++ List.replicate 8 0) (p - 8).toNat mn = List.replicate 8 0 := by
    unfold part
    rw [List.drop_left' (by rw [List.length_replicate]), List.take_of_length_le (by rw [List.length_replicate]; omega)]
  rw [q6] at i6
  refine rFill_c.mono ?_
  rintro ⟨(s7 : SlV), ⟨⟩⟩ w7 h7
  dsimp only at h7 ⊢
  rw [fill8] at h7
  have x7 := x5.trans h7.ext
  refine ⟨hkeep _ x7, ?_⟩
  refine (SameBytes_c (i6.ext h7.ext) h7.ints).mono ?_
  rintro ⟨(r8 : Bool), ⟨⟩⟩ w8 ⟨h8, e8⟩
  dsimp only at h8 ⊢
  have x8 := x7.trans e8
  refine ⟨hkeep _ x8, ?_⟩
  refine cond_f (by rw [h8]; simp) ?_
  have E8 := E2.trans x8
  refine ldH (hb.ext (h2.ext.trans x8)) ?_
  refine (End_c (h := h) hg (ht.ext E8)).mono ?_
  rintro ⟨(s9 : SlV), (e9 : Int), ⟨⟩⟩ w9 ⟨x9, h9, h9'⟩
  dsimp only at h9 h9' ⊢
  have E9 := E8.trans x9
  by_cases hE : ¬ ERight h n
  · obtain ⟨_, k2⟩ := h9' hE
    exact cond_t (by rw [k2]; rfl) (aw E9)
  have hE := Decidable.not_not.1 hE
  obtain ⟨k1, k2⟩ := h9 hE
  have hlen : tg.length = 0 ∨ tg.length = 32 := by have := hE.2; omega
  refine cond_f (by rw [k2]; rfl) ?_
  refine ⟨Rng.i64 (by omega) (by omega), ⟨by omega, by omega⟩, ?_⟩
  have q10 : part (List.replicate (p - 8).toNat (255 : Int) ++ List.replicate 8 0) (p - 88).toNat mn = List.replicate 80 255 ++ List.replicate 8 0 := by
    unfold part
    rw [List.drop_append_of_le_length (by rw [List.length_replicate]; omega), List.drop_replicate, show (p - 8).toNat - (p - 88).toNat = 80 by omega, List.take_of_length_le (by rw [List.length_append, List.length_replicate, List.length_replicate]; omega)]
  have mk : ∀ {w' : World} {a' : Option Addr}, Ext w9 w' → a' = (if mc = (p - 88).toNat then ma else ma.map (·.add ((p - 88).toNat * 1))) → CallV Try.prog 26 #[.slice s9.a s9.n s9.c, .slice a' (mn - (p - 88).toNat) (mc - (p - 88).toNat)] w' [.one .sl] fun r w2 => Res w' w2 r.1 (markL h tg) := fun {w' a'} e ha => by
    have i10 := sub_part (h2.ints.ext (x8.trans (x9.trans e))) (i := (p - 88).toNat) (j := mn) (m := mc) (by omega) (by dsimp only; omega) (by omega) ha
    rw [q10] at i10
    have l9 := k1.ints.len
    rw [endL_length h hlen] at l9
    have := And_c (k1.ints.ext e) i10 (by omega) (by omega)
    rw [and_mark hE.1 bt hlen] at this
    exact this
  intro a10 ha10
  refine (mk (Ext.refl _) ha10).mono ?_
  rintro ⟨(s11 : SlV), ⟨⟩⟩ w11 h11
  dsimp only at h11 ⊢
  have bM := markL_byt hE.1 bt
  refine (Read_c h11.ints bM).mono ?_
  rintro ⟨(q12 : Int × Int × Int × Int × Int × Int × Unit), (s12 : SlV), (e12 : Int), ⟨⟩⟩ w12 ⟨x12, -, h12, -⟩
  obtain ⟨h12a, h12b, h12c⟩ := h12 (markL_length h hlen) (markL_ok h hE.1)
  rw [markL_hd h hg tg] at h12a
  dsimp only at h12a h12b h12c ⊢
  subst h12a
  rw [part_core h hlen] at h12b
  refine newH (h := zeroH) fun b13 w13 e13 hb13 => ?_
  refine hb13.store 0 (by simp) fun w14 hb14 bel14 _ _ => ?_
  have x14 : Ext w12 w14 := Below.trans e13 bel14
  have X14 := h11.ext.trans (x12.trans x14)
  refine cond_t (by rw [h12c]; rfl) ?_
  refine ldH (h := h) hb14 (ldH (h := h) (hb.ext (h2.ext.trans (x8.trans (x9.trans X14)))) ?_)
  refine eqHd ?_
  refine cond_t (by simp) ?_
  have cc := k1.ints.cap
  have ll := k1.ints.len
  rw [endL_length h hlen] at ll
  refine ⟨by omega, ?_⟩
  intro a15 ha15
  have i15 := sub_part (k1.ints.ext X14) (i := 48) (j := 80) (m := s9.c) (by omega) (by omega) (by omega) ha15
  refine (SameBytes_c (h12b.ints.ext x14) i15).mono ?_
  rintro ⟨(r16 : Bool), ⟨⟩⟩ w16 ⟨h16, e16⟩
  dsimp only at h16 ⊢
  refine cond_t (by rw [h16]; simp) ?_
  refine ⟨Rng.i64 (by omega) (by omega), ⟨by omega, by omega⟩, ?_⟩
  intro a17 ha17
  refine (mk (X14.trans e16) ha17).mono ?_
  rintro ⟨(s18 : SlV), ⟨⟩⟩ w18 h18
  dsimp only at h18 ⊢
  refine (Committed_c h18.ints bM).mono ?_
  rintro ⟨(r19 : Bool), ⟨⟩⟩ w19 ⟨h19, e19⟩
  dsimp only at h19 ⊢
  exact cond_t (by rw [h19]; exact markL_comm h hlen) (aw (E9.trans (X14.trans (e16.trans (h18.ext.trans e19)))))

theorem HeadMarks_of {w : World} {p : Int} {x : THd.T} {a : Option Addr} {n c b : Nat} {tg : List Int} (g0 : Rng .i64 p) (g1 : THd.ok w x) (g2 : SlI w .u8 a n c tg b) :
    CallV Try.prog 13 #[.int .i64 p, .agg (THd.vs x).toArray, .slice a n c] w [.one .bool] fun r w' => r.1 = true ∧ Ext w w' := by
  rw [hdT_val]
  exact HeadMarks_law (hdT_rng g1) g2.ints g2.byt

end Go.Proofs.Ytombjhkdakmhpaa.Vc
