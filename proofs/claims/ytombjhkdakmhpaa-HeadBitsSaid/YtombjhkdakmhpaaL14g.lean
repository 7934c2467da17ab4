/- The law HeadBits of layer 14: each call gives true, and what it read stays. -/
import Derived.Test.YtombjhkdakmhpaaL14f
namespace Go.Proofs.Ytombjhkdakmhpaa.Vc
open Go Go.Eng Go.RowKit
set_option linter.unusedVariables false
set_option linter.unusedSimpArgs false

theorem end_first (h : Hd) (tg : List Int) : part (endL h tg) 0 48 = firsts h := by
  unfold part endL
  rw [show hdL h ++ invL (hdL h) = firsts h from rfl, List.drop_zero, List.append_assoc, List.take_left' (by rw [firsts_length])]
theorem end_join (h : Hd) (tg : List Int) : firsts h ++ (endL h tg).drop 48 = endL h tg := by
  have e := List.take_append_drop 48 (endL h tg)
  have p := end_first h tg
  unfold part at p
  rw [List.drop_zero, Nat.sub_zero] at p
  rw [p] at e
  exact e
theorem bits_key {h : Hd} (hg : h.rng) (hR : HRight h) (f : Nat → Bool) (v : Bool) (hf : ∀ i, i < 384 → f i = true → hasL (firsts h) i = v) :
    okR (turn (firsts h) f 384 ++ (endL h []).drop 48) ↔ turn (firsts h) f 384 = part (endL h []) 0 48 := by
  rw [end_first]
  constructor
  · intro hok
    exact one_way (firsts_byt hR) (firsts_length h) (firsts_compl h) f v hf (okR_firsts _ (by rw [turn_length, firsts_length]) hok)
  · intro he
    rw [he, end_join]
    exact endL_ok h (.inl rfl) hg hR

theorem prF_was' {xs ys ms : List Int} {fl : Bool} {n i : Nat} (h : prF xs ys ms fl n i = true) : hasL xs i = true := by
  unfold prF prC at h
  cases hh : hasL xs i
  · rw [hh] at h; simp at h
  · rfl

theorem HeadBits_law {w : World} {h : Hd} {a : Option Addr} {n c : Nat} {ms : List Int} {p : Bool} (hg : h.rng) (hm : Ints w .u8 a n c ms) (bm : Byt ms) :
    CallV Try.prog 11 #[h.val, .slice a n c, .bool p] w [.one .bool] fun r w' => r.1 = true ∧ Ext w w' := by
  refine law14_HeadBits.vc _ _ _ _ _ _ _ _ _ _ _ _ ?_
  unfold law14_HeadBits.P
  have aw : ∀ {w' : World}, Ext w w' → CallV Try.prog 16 #[] w' [.one .bool] fun r w3 => r.1 = true ∧ Ext w w3 := fun he => awake14_c.mono fun r w3 ⟨h, e⟩ => ⟨h, he.trans e⟩
  refine newH fun b1 w1 e1 hb => ?_
  refine ldH hb ?_
  have nilI : Ints w1 .u8 none 0 0 [] := ⟨rfl, Nat.le_refl _, by omega, .inl ⟨rfl, rfl⟩⟩
  refine (End_c (h := h) hg nilI).mono ?_
  rintro ⟨(s2 : SlV), (e2 : Int), ⟨⟩⟩ w2 ⟨x2, h2, h2'⟩
  dsimp only at h2 h2' ⊢
  have E2 := e1.trans x2
  by_cases hR : ¬ HRight h
  · obtain ⟨k1, k2⟩ := h2' (fun hh => hR hh.1)
    refine cond_t (by rw [k2]; rfl) ?_
    refine ldH (hb.ext x2) ?_
    refine (HRight_c (h := h)).mono ?_
    rintro ⟨(r3 : Bool), ⟨⟩⟩ w3 ⟨h3, x3⟩
    dsimp only at h3 ⊢
    exact cond_t (by rw [h3, decide_eq_false hR]; rfl) (cond_t (by rw [k2]; rfl) (aw (E2.trans x3)))
  have hR := Decidable.not_not.1 hR
  obtain ⟨k1, k2⟩ := h2 ⟨hR, .inl rfl⟩
  have lE := endL_length h (tg := []) (.inl rfl)
  have ls := k1.ints.len
  rw [lE] at ls
  have cs := k1.ints.cap
  refine cond_f (by rw [k2]; rfl) ?_
  refine cond_ne (fun hh => absurd (by omega) hh) (fun _ => ?_)
  have bE : Byt (endL h []) := endL_byt hg hR Byt.nil
  refine ⟨by omega, ?_⟩
  intro a16 ha16
  have i16 := sub_part k1.ints (i := 0) (j := 48) (m := s2.c) (by omega) (by omega) (by omega) ha16
  rw [end_first] at i16
  have bF := firsts_byt hR
  refine (Erase_c i16 bF (hm.ext E2) bm (by omega)).mono ?_
  rintro ⟨(s3 : SlV), ⟨⟩⟩ w3 h3
  dsimp only at h3 ⊢
  rw [show 8 * (48 - 0) = 384 from rfl] at h3
  have E3 := E2.trans h3.ext
  cases p
  · refine cond_t rfl ?_
    refine DrawV.old w3 fun D hD hkeep => ?_
    refine ⟨by omega, ?_⟩
    intro a20 ha20
    have xd := Ext.drew w3
    have i20 := sub_part (k1.ints.ext (h3.ext.trans xd)) (i := 0) (j := 48) (m := s2.c) (by omega) (by omega) (by omega) ha20
    rw [end_first] at i20
    refine rFill_c.mono ?_
    rintro ⟨⟨ta, tn, tc⟩, ⟨⟩⟩ w4 h4
    dsimp only at h4 ⊢
    have f4 : (max 0 (min (65536 : Int) 48)).toNat = 48 := by generalize hL : (65536 : Int) = L; omega
    rw [f4] at h4
    have l4 := h4.ints.len
    rw [List.length_replicate] at l4
    dsimp only at l4
    subst l4
    have x4 := xd.trans h4.ext
    refine ⟨hkeep _ x4, ?_⟩
    refine (Program_c (fails := false) (i20.ext h4.ext) bF h4.ints (Byt.replicate (by omega) (by omega) _) (hm.ext (E3.trans x4)) bm (by omega)).mono ?_
    rintro ⟨(s5 : SlV), ⟨⟩⟩ w5 h5
    dsimp only at h5 ⊢
    rw [show 8 * (48 - 0) = 384 from rfl, show (48 - 0 : Nat) = 48 from rfl] at h5
    have x5 := x4.trans h5.ext
    refine ⟨hkeep _ x5, ?_⟩
    exact bitsTail (r4 := (s2, e2, ())) (r23 := (s5, ())) (E := endL h []) (E3.trans x5) (k1.ints.ext (h3.ext.trans x5)) lE bE h5.ints (by rw [turn_length, firsts_length]) (turn_byt bF _ _)
      (bits_key hg hR _ true (fun i _ hi => prF_was' hi))
  · refine cond_f rfl ?_
    exact bitsTail (r4 := (s2, e2, ())) (r23 := (s3, ())) (E := endL h []) E3 (k1.ints.ext h3.ext) lE bE h3.ints (by rw [turn_length, firsts_length]) (turn_byt bF _ _)
      (bits_key hg hR _ false (fun i _ hi => by
        unfold erF at hi
        cases hh : hasL (firsts h) i
        · rfl
        · rw [hh] at hi; simp at hi))

theorem HeadBits_of {w : World} {x : THd.T} {a : Option Addr} {n c b : Nat} {ms : List Int} (g0 : THd.ok w x) (g1 : SlI w .u8 a n c ms b) (p : Bool) :
    CallV Try.prog 11 #[.agg (THd.vs x).toArray, .slice a n c, .bool p] w [.one .bool] fun r w' => r.1 = true ∧ Ext w w' := by
  rw [hdT_val]
  exact HeadBits_law (hdT_rng g0) g1.ints g1.byt

end Go.Proofs.Ytombjhkdakmhpaa.Vc
