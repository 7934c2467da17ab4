/- The laws FaultBits, FaultSets, FaultClears and FaultWhole of layer 12: each call gives true, and what it read stays. -/
import Derived.Test.YtombjhkdakmhpaaC12c
import Derived.Test.YtombjhkdakmhpaaVL12
import Derived.Test.YtombjhkdakmhpaaOpenG
namespace Go.Proofs.Ytombjhkdakmhpaa.Vc
open Go Go.Eng Go.RowKit
set_option linter.unusedVariables false
set_option linter.unusedSimpArgs false

theorem nilU {w : World} : Ints w .u8 none 0 0 [] := ⟨rfl, Nat.le_refl _, by omega, .inl ⟨rfl, rfl⟩⟩
theorem newOneU {w : World} {x : Int} {K : Nat → World → Prop} (h : ∀ b w1, Ext w w1 → Ints w1 .u8 (some ⟨b, 0, none⟩) 1 1 [x] → K b w1) : NewV #[.int .u8 x] 5 w K := by
  rintro b w1 rfl rfl
  exact h _ _ (Ext.alloc _ _) ⟨rfl, Nat.le_refl _, by omega, .inr ⟨_, rfl, CellsAt.new (cs := [.int .u8 x])⟩⟩

theorem awake12_c {w : World} : CallV Try.prog 21 #[] w [.one .bool] fun r w' => r.1 = true ∧ Ext w w' := by
  refine law12_awake.vc _ _ ?_
  unfold law12_awake.P
  refine newOneU fun b1 w1 e1 i1 => newOneU fun b2 w2 e2 i2 => newOneU fun b3 w3 e3 i3 => ?_
  refine (Clear_c (i1.ext (e2.trans e3)) (by unfold Byt; decide) (i2.ext e3) (by unfold Byt; decide) i3 (by unfold Byt; decide) (by omega)).mono ?_
  rintro ⟨(s4 : SlV), (r4 : Int), ⟨⟩⟩ w4 ⟨h4, h4'⟩
  dsimp only at h4 h4' ⊢
  have hv : turn [255] (prF [255] [15] [48] false 1) (8 * 1) = [207] := by decide +kernel
  rw [hv] at h4
  have l4 := h4.ints.len
  refine cond_t (by rw [h4']; rfl) (cond_t (by rw [← l4]; rfl) ?_)
  refine h4.ints.idx (by omega) (by rw [← l4]; decide) ?_
  refine cond_t rfl ?_
  refine (Bit_c (i := 3) nilU (by unfold Byt; decide) (by omega)).mono ?_
  rintro ⟨(r5 : Bool), ⟨⟩⟩ w5 ⟨h5, rfl⟩
  exact ⟨h5, e1.trans (e2.trans (e3.trans h4.ext))⟩

theorem FaultBits_of {w : World} {a : Option Addr} {n c b : Nat} {ms : List Int} {i : Int} (g0 : SlI w .u8 a n c ms b) (g1 : Rng .i64 i) :
    CallV Try.prog 4 #[.slice a n c, .int .i64 i] w [.one .bool] fun r w' => r.1 = true ∧ Ext w w' := by
  refine law12_FaultBits.vc _ _ _ _ _ _ ?_
  unfold law12_FaultBits.P
  have hi := (rng_i64 g1).2
  refine (Bit_c g0.ints g0.byt hi).mono ?_
  rintro ⟨(r1 : Bool), ⟨⟩⟩ w1 ⟨h1, rfl⟩
  refine (rBit_c g0.ints g0.byt hi).mono ?_
  rintro ⟨(r2 : Bool), ⟨⟩⟩ w2 ⟨h2, e2⟩
  dsimp only at h1 h2 ⊢
  refine cond_t (by rw [h1, h2]; simp) ?_
  exact awake12_c.mono fun r w3 ⟨h, e⟩ => ⟨h, e2.trans e⟩

theorem and_was {xs : List Int} (bx : Byt xs) {f : Nat → Bool} {n : Nat} (hl : xs.length = n) (hf : ∀ i, i < 8 * n → f i = true → hasL xs i = true) : andL (turn xs f (8 * n)) xs = turn xs f (8 * n) := by
  refine bits_ext (andL_byt _ _) (turn_byt bx f _) (andL_length _ _) fun i hi => ?_
  rw [andL_length, turn_length] at hi
  rw [hasL_and (turn_byt bx f _) bx (by rw [turn_length]; exact hi), hasL_turn bx f hi (8 * n) (by omega)]
  by_cases h : i < 8 * n ∧ f i = true
  · rw [if_pos h, hf i h.1 h.2]; rfl
  · rw [if_neg h, Bool.and_self]
theorem was_and {xs : List Int} (bx : Byt xs) {f : Nat → Bool} {n : Nat} (hl : xs.length = n) (hf : ∀ i, i < 8 * n → f i = true → hasL xs i = false) : andL (turn xs f (8 * n)) xs = xs := by
  refine bits_ext (andL_byt _ _) bx (by rw [andL_length, turn_length]) fun i hi => ?_
  rw [andL_length, turn_length] at hi
  rw [hasL_and (turn_byt bx f _) bx (by rw [turn_length]; exact hi), hasL_turn bx f hi (8 * n) (by omega)]
  by_cases h : i < 8 * n ∧ f i = true
  · rw [if_pos h, hf i h.1 h.2]; rfl
  · rw [if_neg h, Bool.and_self]
theorem erase_whole {xs : List Int} (bx : Byt xs) {n : Nat} (hl : xs.length = n) : turn xs (erF xs []) (8 * n) = List.replicate n 255 := by
  refine bits_ext (turn_byt bx _ _) (Byt.replicate (by omega) (by omega) _) (by rw [turn_length, List.length_replicate]; exact hl) fun i hi => ?_
  rw [turn_length] at hi
  rw [hasL_turn bx _ hi (8 * n) (by omega)]
  have hr : hasL (List.replicate n 255) i = true := by
    unfold hasL
    rw [getD_get (by rw [List.length_replicate]; omega), List.getElem_replicate]
    exact bit_255 ⟨i % 8, mod8 i⟩
  rw [hr]
  have hm : mBit [] i = true := rfl
  by_cases h : hasL xs i = true
  · rw [if_neg (fun hh => by have := hh.2; unfold erF at this; rw [h] at this; simp at this), h]
  · have h' : hasL xs i = false := by simpa using h
    rw [if_pos ⟨by omega, by unfold erF; rw [h', hm]; rfl⟩, h']; rfl
theorem prF_was {xs ys ms : List Int} {fl : Bool} {n i : Nat} (h : prF xs ys ms fl n i = true) : hasL xs i = true := by
  unfold prF prC at h
  cases hh : hasL xs i
  · rw [hh] at h; simp at h
  · rfl

theorem FaultSets_of {w : World} {a a1 : Option Addr} {n c b n1 c1 b1 : Nat} {xs ms : List Int} (g0 : SlI w .u8 a n c xs b) (g1 : SlI w .u8 a1 n1 c1 ms b1) :
    CallV Try.prog 8 #[.slice a n c, .slice a1 n1 c1] w [.one .bool] fun r w' => r.1 = true ∧ Ext w w' := by
  have hx := g0.ints
  have bx : Byt xs := g0.byt
  have hm := g1.ints
  have bm : Byt ms := g1.byt
  have lx := hx.len
  refine law12_FaultSets.vc _ _ _ _ _ _ _ _ ?_
  unfold law12_FaultSets.P
  have aw : ∀ {w' : World}, Ext w w' → CallV Try.prog 21 #[] w' [.one .bool] fun r w3 => r.1 = true ∧ Ext w w3 := fun he => awake12_c.mono fun r w3 ⟨h, e⟩ => ⟨h, he.trans e⟩
  refine cond_d (fun _ => aw (Ext.refl _)) (fun hn => ?_)
  refine (Set_c hx bx hm bm (by omega)).mono ?_
  rintro ⟨⟨sa, sn, sc⟩, ⟨⟩⟩ w1 h1
  refine (Set_c (hx.ext h1.ext) bx nilU Byt.nil (by omega)).mono ?_
  rintro ⟨(s2 : SlV), ⟨⟩⟩ w2 h2
  dsimp only at h1 h2 ⊢
  have E2 := h1.ext.trans h2.ext
  refine (Erase_c (hx.ext E2) bx (hm.ext E2) bm (by omega)).mono ?_
  rintro ⟨(s3 : SlV), ⟨⟩⟩ w3 h3
  dsimp only at h3 ⊢
  have E3 := E2.trans h3.ext
  refine (SameBytes_c (h1.ints.ext (h2.ext.trans h3.ext)) h3.ints).mono ?_
  rintro ⟨(r4 : Bool), ⟨⟩⟩ w4 ⟨h4, e4⟩
  dsimp only at h4 ⊢
  refine cond_t (by rw [h4]; simp) ?_
  have E4 := E3.trans e4
  have l1 := h1.ints.len
  rw [turn_length, lx] at l1
  dsimp only at l1
  subst l1
  refine (And_c (h1.ints.ext (h2.ext.trans (h3.ext.trans e4))) (hx.ext E4) (Nat.le_refl _) (by dsimp only; omega)).mono ?_
  rintro ⟨(s5 : SlV), ⟨⟩⟩ w5 h5
  dsimp only at h5 ⊢
  have E5 := E4.trans h5.ext
  refine (SameBytes_c h5.ints (hx.ext E5)).mono ?_
  rintro ⟨(r6 : Bool), ⟨⟩⟩ w6 ⟨h6, e6⟩
  dsimp only at h6 ⊢
  refine cond_t (by
    rw [h6, was_and bx lx (fun i _ h => by
      unfold erF at h
      cases hh : hasL xs i
      · rfl
      · rw [hh] at h; simp at h)]
    simp) ?_
  have E6 := E5.trans e6
  refine rFill_c.mono ?_
  rintro ⟨(s7 : SlV), ⟨⟩⟩ w7 h7
  dsimp only at h7 ⊢
  generalize hL : (65536 : Int) = L at h7
  rw [show (max 0 (min L ((n : Nat) : Int))).toNat = n by omega] at h7
  have E7 := E6.trans h7.ext
  refine (SameBytes_c (h2.ints.ext (h3.ext.trans (e4.trans (h5.ext.trans (e6.trans h7.ext))))) h7.ints).mono ?_
  rintro ⟨(r8 : Bool), ⟨⟩⟩ w8 ⟨h8, e8⟩
  dsimp only at h8 ⊢
  refine cond_t (by rw [h8, erase_whole bx lx]; simp) (aw (E7.trans e8))

theorem FaultClears_of {w : World} {a a1 a2 : Option Addr} {n c b n1 c1 b1 n2 c2 b2 : Nat} {xs ys ms : List Int} (g0 : SlI w .u8 a n c xs b) (g1 : SlI w .u8 a1 n1 c1 ys b1) (g2 : SlI w .u8 a2 n2 c2 ms b2) :
    CallV Try.prog 6 #[.slice a n c, .slice a1 n1 c1, .slice a2 n2 c2] w [.one .bool] fun r w' => r.1 = true ∧ Ext w w' := by
  have hx := g0.ints
  have bx : Byt xs := g0.byt
  have hy := g1.ints
  have by' : Byt ys := g1.byt
  have hm := g2.ints
  have bm : Byt ms := g2.byt
  have lx := hx.len
  refine law12_FaultClears.vc _ _ _ _ _ _ _ _ _ _ _ ?_
  unfold law12_FaultClears.P
  have aw : ∀ {w' : World}, Ext w w' → CallV Try.prog 21 #[] w' [.one .bool] fun r w3 => r.1 = true ∧ Ext w w3 := fun he => awake12_c.mono fun r w3 ⟨h, e⟩ => ⟨h, he.trans e⟩
  refine cond_d (fun _ => aw (Ext.refl _)) (fun hn => cond_d (fun _ => aw (Ext.refl _)) (fun hn1 => ?_))
  by_cases hne : n ≠ n1
  · refine (Clear_ne hne).mono ?_
    rintro ⟨(s1 : SlV), (e1 : Int), ⟨⟩⟩ w1 ⟨h1, h1', rfl⟩
    refine (Fail_ne hne).mono ?_
    rintro ⟨(s2 : SlV), (e2 : Int), ⟨⟩⟩ w2 ⟨h2, h2', rfl⟩
    dsimp only at h1 h1' h2 h2' ⊢
    subst h1; subst h2
    refine cond_ne (fun _ => ?_) (fun h => by omega)
    exact cond_t (by rw [h1']; rfl) (cond_t (by rw [h2']; rfl) ⟨Rng.i64 (by dsimp only; omega) (by dsimp only; omega), cond_t rfl (aw (Ext.refl _))⟩)
  · have hne : n = n1 := by omega
    subst hne
    refine (Clear_c hx bx hy by' hm bm (by omega)).mono ?_
    rintro ⟨⟨sa, sn, sc⟩, (e1 : Int), ⟨⟩⟩ w1 ⟨h1, h1'⟩
    refine (Fail_c (hx.ext h1.ext) bx (hy.ext h1.ext) by' (hm.ext h1.ext) bm (by omega)).mono ?_
    rintro ⟨⟨ta, tn, tc⟩, (e2 : Int), ⟨⟩⟩ w2 ⟨h2, h2'⟩
    dsimp only at h1 h1' h2 h2' ⊢
    have E2 := h1.ext.trans h2.ext
    refine cond_ne (fun h => absurd rfl h) (fun _ => ?_)
    refine cond_f (by rw [h1']; rfl) (cond_f (by rw [h2']; rfl) ?_)
    refine (Program_c (fails := false) (hx.ext E2) bx (hy.ext E2) by' (hm.ext E2) bm (by omega)).mono ?_
    rintro ⟨(s3 : SlV), ⟨⟩⟩ w3 h3
    dsimp only at h3 ⊢
    refine (SameBytes_c (h1.ints.ext (h2.ext.trans h3.ext)) h3.ints).mono ?_
    rintro ⟨(r4 : Bool), ⟨⟩⟩ w4 ⟨h4, e4⟩
    dsimp only at h4 ⊢
    have E4 := E2.trans (h3.ext.trans e4)
    refine cond_f (by rw [h4]; simp) ?_
    refine (Program_c (fails := true) (hx.ext E4) bx (hy.ext E4) by' (hm.ext E4) bm (by omega)).mono ?_
    rintro ⟨(s5 : SlV), ⟨⟩⟩ w5 h5
    dsimp only at h5 ⊢
    refine (SameBytes_c (h2.ints.ext (h3.ext.trans (e4.trans h5.ext))) h5.ints).mono ?_
    rintro ⟨(r6 : Bool), ⟨⟩⟩ w6 ⟨h6, e6⟩
    dsimp only at h6 ⊢
    have E6 := E4.trans (h5.ext.trans e6)
    refine cond_f (by rw [h6]; simp) ?_
    have l1 := h1.ints.len
    rw [turn_length, lx] at l1
    dsimp only at l1
    have l2 := h2.ints.len
    rw [turn_length, lx] at l2
    dsimp only at l2
    have X6 := h3.ext.trans (e4.trans (h5.ext.trans e6))
    refine (And_c (h1.ints.ext (h2.ext.trans X6)) (hx.ext E6) (by dsimp only; omega) (by dsimp only; omega)).mono ?_
    rintro ⟨(s7 : SlV), ⟨⟩⟩ w7 h7
    dsimp only at h7 ⊢
    refine (SameBytes_c h7.ints (h1.ints.ext (h2.ext.trans (X6.trans h7.ext)))).mono ?_
    rintro ⟨(r8 : Bool), ⟨⟩⟩ w8 ⟨h8, e8⟩
    dsimp only at h8 ⊢
    refine cond_t (by rw [h8, and_was bx lx (fun i _ h => prF_was h)]; simp) ?_
    have E8 := E6.trans (h7.ext.trans e8)
    refine (And_c (h2.ints.ext (X6.trans (h7.ext.trans e8))) (hx.ext E8) (by dsimp only; omega) (by dsimp only; omega)).mono ?_
    rintro ⟨(s9 : SlV), ⟨⟩⟩ w9 h9
    dsimp only at h9 ⊢
    refine (SameBytes_c h9.ints (h2.ints.ext (X6.trans (h7.ext.trans (e8.trans h9.ext))))).mono ?_
    rintro ⟨(r10 : Bool), ⟨⟩⟩ w10 ⟨h10, e10⟩
    dsimp only at h10 ⊢
    exact cond_t (by rw [h10, and_was bx lx (fun i _ h => prF_was h)]; simp) (aw (E8.trans (h9.ext.trans e10)))

theorem hasL_whole {xs ys : List Int} (bx : Byt xs) (by' : Byt ys) {n i : Nat} (hl : xs.length = n) (hi : i < 8 * n) : hasL (andL xs ys) i = if prC xs ys i then false else hasL xs i := by
  rw [hasL_and bx by' (by omega)]
  unfold prC
  cases hasL xs i <;> cases hasL ys i <;> rfl
theorem clear_whole {xs ys : List Int} (bx : Byt xs) (by' : Byt ys) {n : Nat} (hl : xs.length = n) : turn xs (prF xs ys [] false n) (8 * n) = andL xs ys := by
  refine bits_ext (turn_byt bx _ _) (andL_byt _ _) (by rw [turn_length, andL_length]) fun i hi => ?_
  rw [turn_length] at hi
  rw [hasL_turn bx _ hi (8 * n) (by omega), hasL_whole bx by' hl (by omega)]
  have hF : prF xs ys [] false n i = prC xs ys i := by
    unfold prF
    have : mBit [] i = true := rfl
    rw [this]
    cases prC xs ys i <;> rfl
  rw [hF]
  by_cases h : prC xs ys i = true
  · rw [if_pos ⟨by omega, h⟩, if_pos h]
    have : hasL xs i = true := by
      unfold prC at h
      cases hh : hasL xs i
      · rw [hh] at h; simp at h
      · rfl
    rw [this]; rfl
  · rw [if_neg (fun hh => h hh.2), if_neg h]
theorem fail_whole {xs ys ms : List Int} (bx : Byt xs) (by' : Byt ys) {n : Nat} (hl : xs.length = n) : turn xs (prF xs ys ms true n) (8 * n) = andL xs ys ↔ xs = andL xs ys := by
  have hbit : ∀ i, i < 8 * n → hasL (turn xs (prF xs ys ms true n) (8 * n)) i = if i < 8 * n ∧ prF xs ys ms true n i = true then !hasL xs i else hasL xs i := fun i hi => hasL_turn bx _ (by omega) (8 * n) (by omega)
  constructor
  · intro h
    refine bits_ext bx (andL_byt _ _) (andL_length _ _).symm fun i hi => ?_
    rw [hasL_whole bx by' hl (by omega)]
    by_cases hc : prC xs ys i = true
    · exfalso
      obtain ⟨m, hm, hml, hmc⟩ := lastOf_some (c := prC xs ys) (k := 8 * n) (i := i) (by omega) hc
      have h1 := hbit m hm
      have h2 := hasL_whole bx by' hl hm
      rw [h] at h1
      rw [h2, if_pos hmc, if_neg (fun hh => by
        have := hh.2
        unfold prF at this
        rw [hml, decide_eq_true rfl] at this
        simp at this)] at h1
      unfold prC at hmc
      rw [← h1] at hmc
      simp at hmc
    · rw [if_neg hc]
  · intro h
    have hc : ∀ i, i < 8 * n → prC xs ys i = false := fun i hi => by
      have h2 := hasL_whole bx by' hl hi
      rw [← h] at h2
      cases hp : prC xs ys i
      · rfl
      · rw [hp, if_pos rfl] at h2
        unfold prC at hp
        rw [h2] at hp
        simp at hp
    rw [← h]
    refine bits_ext (turn_byt bx _ _) bx (turn_length _ _ _) fun i hi => ?_
    rw [turn_length] at hi
    rw [hbit i (by omega), if_neg (fun hh => by
      have := hh.2
      unfold prF at this
      rw [hc i (by omega)] at this
      simp at this)]

theorem FaultWhole_of {w : World} {a a1 a2 : Option Addr} {n c b n1 c1 b1 n2 c2 b2 : Nat} {xs ys ms : List Int} (g0 : SlI w .u8 a n c xs b) (g1 : SlI w .u8 a1 n1 c1 ys b1) (g2 : SlI w .u8 a2 n2 c2 ms b2) :
    CallV Try.prog 7 #[.slice a n c, .slice a1 n1 c1, .slice a2 n2 c2] w [.one .bool] fun r w' => r.1 = true ∧ Ext w w' := by
  have hx := g0.ints
  have bx : Byt xs := g0.byt
  have hy := g1.ints
  have by' : Byt ys := g1.byt
  have hm := g2.ints
  have bm : Byt ms := g2.byt
  have lx := hx.len
  refine law12_FaultWhole.vc _ _ _ _ _ _ _ _ _ _ _ ?_
  unfold law12_FaultWhole.P
  have aw : ∀ {w' : World}, Ext w w' → CallV Try.prog 21 #[] w' [.one .bool] fun r w3 => r.1 = true ∧ Ext w w3 := fun he => awake12_c.mono fun r w3 ⟨h, e⟩ => ⟨h, he.trans e⟩
  refine cond_ne (fun _ => aw (Ext.refl _)) (fun heq => cond_d (fun _ => aw (Ext.refl _)) (fun hn => ?_))
  have heq : n = n1 := by omega
  subst heq
  refine (And_c hx hy (Nat.le_refl _) (by omega)).mono ?_
  rintro ⟨(s1 : SlV), ⟨⟩⟩ w1 h1
  refine (Clear_c (hx.ext h1.ext) bx (hy.ext h1.ext) by' nilU Byt.nil (by omega)).mono ?_
  rintro ⟨(s2 : SlV), (e2 : Int), ⟨⟩⟩ w2 ⟨h2, h2'⟩
  dsimp only at h1 h2 h2' ⊢
  have E2 := h1.ext.trans h2.ext
  refine (Fail_c (hx.ext E2) bx (hy.ext E2) by' (hm.ext E2) bm (by omega)).mono ?_
  rintro ⟨(s3 : SlV), (e3 : Int), ⟨⟩⟩ w3 ⟨h3, h3'⟩
  dsimp only at h3 h3' ⊢
  have E3 := E2.trans h3.ext
  refine (SameBytes_c (hx.ext E3) (h1.ints.ext (h2.ext.trans h3.ext))).mono ?_
  rintro ⟨(r4 : Bool), ⟨⟩⟩ w4 ⟨h4, e4⟩
  dsimp only at h4 ⊢
  have E4 := E3.trans e4
  refine cond_t (by rw [h2']; rfl) (cond_t (by rw [h3']; rfl) ?_)
  refine (SameBytes_c (h2.ints.ext (h3.ext.trans e4)) (h1.ints.ext (h2.ext.trans (h3.ext.trans e4)))).mono ?_
  rintro ⟨(r5 : Bool), ⟨⟩⟩ w5 ⟨h5, e5⟩
  dsimp only at h5 ⊢
  refine cond_t (by rw [h5, clear_whole bx by' lx]; simp) ?_
  refine (SameBytes_c (h3.ints.ext (e4.trans e5)) (h1.ints.ext (h2.ext.trans (h3.ext.trans (e4.trans e5))))).mono ?_
  rintro ⟨(r6 : Bool), ⟨⟩⟩ w6 ⟨h6, e6⟩
  dsimp only at h6 ⊢
  have hs : r6 = r4 := by rw [h6, h4]; exact decide_eq_decide.2 (fail_whole bx by' lx)
  exact cond_t (by rw [hs]; simp) (aw (E4.trans (e5.trans e6)))

end Go.Proofs.Ytombjhkdakmhpaa.Vc
