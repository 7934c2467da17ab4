/- The contracts of layer 14 (head): an end's bytes, and is it committed. -/
import Derived.Test.YtombjhkdakmhpaaC14a
import Derived.Test.YtombjhkdakmhpaaL14a
namespace Go.Proofs.Ytombjhkdakmhpaa.Vc
open Go Go.Eng Go.RowKit
set_option linter.unusedVariables false
set_option linter.unusedSimpArgs false

theorem appLB {w : World} {a a2 : Option Addr} {n c m c2 : Nat} {xs ys : List Int} {B : Nat} {K : Option Addr → Nat → Nat → World → Prop} (ho : Own w B 5 1 a n c (xs.map (Value.int .u8))) (hy : Ints w .u8 a2 m c2 ys) (hB : B ≤ w.heap.size) (hn : n + m ≤ 100000000)
    (hk : ∀ a' c' w', Own w' B 5 1 a' (n + m) c' ((xs ++ ys).map (Value.int .u8)) → Below B w w' → But a w w' → K a' (n + m) c' w') :
    AppS w a2 m 1 fun ns => AppV w 5 1 1 a n c ns m K := by
  refine AppS.of (news := ys.map (Value.int .u8)) (by rw [List.length_map, hy.len]; omega) hy.rd ?_
  refine AppV.own ho hB (by rw [List.length_map, hy.len]; omega) (oneAll.ints _ _) (by omega) (by omega) fun a' c' w' h1 h2 h3 _ => ?_
  refine hk a' c' w' ?_ h2 h3
  rw [List.map_append]
  exact h1
theorem intsU_but {w w' : World} {a a2 : Option Addr} {n c : Nat} {xs : List Int} (h : Ints w .u8 a n c xs) (x : But a2 w w') (hne : ∀ p q, a = some p → a2 = some q → p.block ≠ q.block) : Ints w' .u8 a n c xs := by
  refine ⟨h.len, h.cap, h.lim, ?_⟩
  rcases h.rd with h1 | ⟨p, h1, h2⟩
  · exact .inl h1
  · refine .inr ⟨p, h1, ?_⟩
    cases hx : xs.map (Value.int .u8) with
    | nil => intro j v hv; simp at hv
    | cons v vs =>
      rw [hx] at h2
      exact cells_same (x _ (cells_lt h2) (fun q hq => hne p q h1 hq)) h2
theorem Res.apart {w0 w1 w2 : World} {s t : SlV} {xs ys : List Int} (h : Res w0 w1 s xs) (k : Res w1 w2 t ys) : ∀ p q, t.a = some p → s.a = some q → p.block ≠ q.block := by
  intro p q hp hq
  rcases h.own.at_ with ⟨h1, _⟩ | ⟨b, cs, h1, _, h3, _⟩
  · rw [h1] at hq; cases hq
  · rcases k.own.at_ with ⟨k1, _⟩ | ⟨b', cs', k1, k2, _⟩
    · rw [k1] at hp; cases hp
    · rw [k1] at hp; rw [h1] at hq
      have e1 := Option.some.inj hp
      have e2 := Option.some.inj hq
      subst e1; subst e2
      have hlt : b < w1.heap.size := (Array.getElem?_eq_some_iff.1 h3).1
      show b' ≠ b
      omega

def tagL (tg : List Int) : List Int := if tg.length = 0 then List.replicate 32 255 else tg
def endL (h : Hd) (tg : List Int) : List Int := ((hdL h ++ invL (hdL h)) ++ tagL tg) ++ List.replicate 8 255
def ERight (h : Hd) (n : Nat) : Prop := HRight h ∧ (n = 0 ∨ n = 32)
instance (h : Hd) (n : Nat) : Decidable (ERight h n) := by unfold ERight; infer_instance
theorem invL_length (xs : List Int) : (invL xs).length = xs.length := by simp [invL]
theorem fill32 : (max 0 (min (65536 : Int) 32)).toNat = 32 := by generalize hL : (65536 : Int) = L; omega
theorem fill8 : (max 0 (min (65536 : Int) 8)).toNat = 8 := by generalize hL : (65536 : Int) = L; omega

theorem End_c {w : World} {h : Hd} {a : Option Addr} {n c : Nat} {tg : List Int} (hg : h.rng) (ht : Ints w .u8 a n c tg) :
    CallV Try.prog 39 #[h.val, .slice a n c] w [.one .sl, .one (.int .i64)] fun r w' => Ext w w' ∧ (ERight h n → Res w w' r.1 (endL h tg) ∧ r.2.1 = (0 : Int)) ∧ (¬ ERight h n → r.1 = (⟨none, 0, 0⟩ : SlV) ∧ r.2.1 = (2 : Int)) := by
  refine head_End.vc _ _ _ _ _ _ _ _ _ _ _ ?_
  unfold head_End.P
  have lt := ht.len
  refine newH fun b1 w1 e1 hb => ?_
  refine ldH hb ?_
  refine (Bytes_c (h := h) hg).mono ?_
  rintro ⟨⟨sa, sn, sc⟩, (e2 : Int), ⟨⟩⟩ w2 ⟨x2, h2, h2'⟩
  dsimp only at h2 h2' ⊢
  have E2 := e1.trans x2
  have no : ∀ {w' : World}, ¬ ERight h n → Ext w w' → (Ext w w' ∧ (ERight h n → Res w w' (⟨none, 0, 0⟩ : SlV) (endL h tg) ∧ (2 : Int) = (0 : Int)) ∧ (¬ ERight h n → (⟨none, 0, 0⟩ : SlV) = (⟨none, 0, 0⟩ : SlV) ∧ (2 : Int) = (2 : Int))) := fun hr he => ⟨he, fun h => absurd h hr, fun _ => ⟨rfl, rfl⟩⟩
  by_cases hR : ¬ HRight h
  · obtain ⟨_, k2⟩ := h2' hR
    refine cond_t (by rw [k2]; rfl) ?_
    have := no (w' := w2) (fun hh => hR hh.1) E2
    rw [k2]
    exact this
  have hR := Decidable.not_not.1 hR
  obtain ⟨k1, k2⟩ := h2 hR
  have l1 := k1.ints.len
  rw [hdL_length] at l1
  dsimp only at l1
  subst l1
  refine cond_f (by rw [k2]; rfl) ?_
  have fin : ∀ {w' : World} {a' : Option Addr} {m c' : Nat}, Ext w w' → Own w' w1.heap.size 5 1 a' m c' ((endL h tg).map (Value.int .u8)) → ERight h n →
      (Ext w w' ∧ (ERight h n → Res w w' (⟨a', m, c'⟩ : SlV) (endL h tg) ∧ (0 : Int) = (0 : Int)) ∧ (¬ ERight h n → (⟨a', m, c'⟩ : SlV) = (⟨none, 0, 0⟩ : SlV) ∧ (0 : Int) = (2 : Int))) := fun e o hr =>
    ⟨e, fun _ => ⟨⟨e, o.mono e1.size⟩, rfl⟩, fun hn => absurd hr hn⟩
  refine cond_eq (fun h0 => ?_) (fun h0 => ?_)
  · refine Fill_c.mono ?_
    rintro ⟨⟨ta, tn, tc⟩, ⟨⟩⟩ w3 h3
    dsimp only at h3 ⊢
    rw [fill32] at h3
    have l3 := h3.ints.len
    rw [List.length_replicate] at l3
    dsimp only at l3
    subst l3
    refine cond_ne (fun hh => absurd rfl hh) (fun _ => ?_)
    refine (Invert_c (k1.ints.ext h3.ext) (by dsimp only; omega)).mono ?_
    rintro ⟨⟨va, vn, vc⟩, ⟨⟩⟩ w4 h4
    dsimp only at h4 ⊢
    have l4 := h4.ints.len
    rw [invL_length, hdL_length] at l4
    dsimp only at l4
    subst l4
    have x4 := h3.ext.trans h4.ext
    have X4 : Ext w1 w4 := x2.trans x4
    refine appLB (k1.own.ext x4) h4.ints X4.size (by omega) fun a5 c5 w5 o5 b5 but5 => ?_
    have X5 : Ext w1 w5 := Below.trans X4 b5
    have i5 := intsU_but (h3.ints.ext h4.ext) but5 (Res.apart k1 h3)
    refine appL o5 i5 X5.size (by omega) fun a6 c6 w6 o6 b6 => ?_
    have X6 : Ext w1 w6 := Below.trans X5 b6
    refine Fill_c.mono ?_
    rintro ⟨⟨ua, un, uc⟩, ⟨⟩⟩ w7 h7
    dsimp only at h7 ⊢
    rw [fill8] at h7
    have l7 := h7.ints.len
    rw [List.length_replicate] at l7
    dsimp only at l7
    subst l7
    have X7 := X6.trans h7.ext
    refine appL (o6.ext h7.ext) h7.ints X7.size (by omega) fun a8 c8 w8 o8 b8 => ?_
    have X8 : Ext w1 w8 := Below.trans X7 b8
    have ht0 : tagL tg = List.replicate 32 255 := by unfold tagL; rw [if_pos (by omega)]
    refine fin (e1.trans X8) ?_ ⟨hR, .inl (by omega)⟩
    unfold endL
    rw [ht0]
    exact o8
  · refine cond_ne (fun hh => no (fun hr => by unfold ERight at hr; omega) E2) (fun h32 => ?_)
    refine (Invert_c k1.ints (by dsimp only; omega)).mono ?_
    rintro ⟨⟨va, vn, vc⟩, ⟨⟩⟩ w4 h4
    dsimp only at h4 ⊢
    have l4 := h4.ints.len
    rw [invL_length, hdL_length] at l4
    dsimp only at l4
    subst l4
    have X4 : Ext w1 w4 := x2.trans h4.ext
    refine appL (k1.own.ext h4.ext) h4.ints X4.size (by omega) fun a5 c5 w5 o5 b5 => ?_
    have X5 : Ext w1 w5 := Below.trans X4 b5
    refine appL o5 (ht.ext (e1.trans X5)) X5.size (by omega) fun a6 c6 w6 o6 b6 => ?_
    have X6 : Ext w1 w6 := Below.trans X5 b6
    refine Fill_c.mono ?_
    rintro ⟨⟨ua, un, uc⟩, ⟨⟩⟩ w7 h7
    dsimp only at h7 ⊢
    rw [fill8] at h7
    have l7 := h7.ints.len
    rw [List.length_replicate] at l7
    dsimp only at l7
    subst l7
    have X7 := X6.trans h7.ext
    refine appL (o6.ext h7.ext) h7.ints X7.size (by omega) fun a8 c8 w8 o8 b8 => ?_
    have X8 : Ext w1 w8 := Below.trans X7 b8
    have ht0 : tagL tg = tg := by unfold tagL; rw [if_neg (by omega)]
    refine fin (e1.trans X8) ?_ ⟨hR, .inr (by omega)⟩
    unfold endL
    rw [ht0]
    exact o8

theorem rEnd_c {w : World} {h : Hd} {a : Option Addr} {n c : Nat} {tg : List Int} (hg : h.rng) (ht : Ints w .u8 a n c tg) (hE : ERight h n) :
    CallV Try.prog 40 #[h.val, .slice a n c] w [.one .sl] fun r w' => Res w w' r.1 (endL h tg) := by
  have hR := hE.1
  have hE' := hE.2
  refine ref14_End.vc _ _ _ _ _ _ _ _ _ _ _ ?_
  unfold ref14_End.P
  have lt := ht.len
  refine newH fun b1 w1 e1 hb => ?_
  refine DrawV.old w1 fun D hD hkeep => ?_
  have hD1 := hD _ hb.lt
  have hd := hb.ext (Ext.drew w1)
  refine ⟨hD1, ldH hd ⟨hD1, ldH hd ?_⟩⟩
  refine (rBytes_c (h := h) hg hR).mono ?_
  rintro ⟨⟨sa, sn, sc⟩, ⟨⟩⟩ w2 h2
  have x2 := (Ext.drew w1).trans h2.ext
  refine ⟨hkeep _ x2, ?_⟩
  refine (rBytes_c (h := h) hg hR).mono ?_
  rintro ⟨(s3 : SlV), ⟨⟩⟩ w3 h3
  dsimp only at h2 h3 ⊢
  have l2 := h2.ints.len
  rw [hdL_length] at l2
  dsimp only at l2
  subst l2
  have l3 := h3.ints.len
  rw [hdL_length] at l3
  have x3 := x2.trans h3.ext
  refine ⟨hkeep _ x3, ?_⟩
  refine (rInvert_c h3.ints (by omega)).mono ?_
  rintro ⟨⟨va, vn, vc⟩, ⟨⟩⟩ w4 h4
  dsimp only at h4 ⊢
  have l4 := h4.ints.len
  rw [invL_length, hdL_length] at l4
  dsimp only at l4
  subst l4
  have x4 := x3.trans h4.ext
  refine ⟨hkeep _ x4, ?_⟩
  have o4 := (h2.own.ext (h3.ext.trans h4.ext)).mono (Ext.drew w1).size
  refine appL o4 h4.ints x4.size (by omega) fun a5 c5 w5 o5 b5 => ?_
  have X5 : Ext w1 w5 := Below.trans x4 b5
  refine ⟨hkeep _ X5, ?_⟩
  refine cond_eq (fun h0 => ?_) (fun h0 => ?_)
  · refine rFill_c.mono ?_
    rintro ⟨⟨ta, tn, tc⟩, ⟨⟩⟩ w6 h6
    dsimp only at h6 ⊢
    rw [fill32] at h6
    have l6 := h6.ints.len
    rw [List.length_replicate] at l6
    dsimp only at l6
    subst l6
    have X6 := X5.trans h6.ext
    refine appL (o5.ext h6.ext) h6.ints X6.size (by omega) fun a7 c7 w7 o7 b7 => ?_
    have X7 : Ext w1 w7 := Below.trans X6 b7
    refine rFill_c.mono ?_
    rintro ⟨⟨ua, un, uc⟩, ⟨⟩⟩ w8 h8
    dsimp only at h8 ⊢
    rw [fill8] at h8
    have l8 := h8.ints.len
    rw [List.length_replicate] at l8
    dsimp only at l8
    subst l8
    have X8 := X7.trans h8.ext
    refine appL (o7.ext h8.ext) h8.ints X8.size (by omega) fun a9 c9 w9 o9 b9 => ?_
    have ht0 : tagL tg = List.replicate 32 255 := by unfold tagL; rw [if_pos (by omega)]
    refine ⟨e1.trans (Below.trans X8 b9), ?_⟩
    unfold endL
    rw [ht0]
    exact o9.mono e1.size
  · refine appL o5 (ht.ext (e1.trans X5)) X5.size (by omega) fun a7 c7 w7 o7 b7 => ?_
    have X7 : Ext w1 w7 := Below.trans X5 b7
    refine rFill_c.mono ?_
    rintro ⟨⟨ua, un, uc⟩, ⟨⟩⟩ w8 h8
    dsimp only at h8 ⊢
    rw [fill8] at h8
    have l8 := h8.ints.len
    rw [List.length_replicate] at l8
    dsimp only at l8
    subst l8
    have X8 := X7.trans h8.ext
    refine appL (o7.ext h8.ext) h8.ints X8.size (by omega) fun a9 c9 w9 o9 b9 => ?_
    have ht0 : tagL tg = tg := by unfold tagL; rw [if_neg (by omega)]
    refine ⟨e1.trans (Below.trans X8 b9), ?_⟩
    unfold endL
    rw [ht0]
    exact o9.mono e1.size

def comm (xs : List Int) : Bool := decide (xs.length = 88 ∧ xs.drop 80 = List.replicate 8 0)
theorem Committed_c {w : World} {a : Option Addr} {n c : Nat} {xs : List Int} (hx : Ints w .u8 a n c xs) (bx : Byt xs) :
    CallV Try.prog 36 #[.slice a n c] w [.one .bool] fun r w' => r.1 = comm xs ∧ Ext w w' := by
  refine head_Committed.vc _ _ _ _ _ ?_
  unfold head_Committed.P
  have lx := hx.len
  refine DrawV.old w fun D hD hkeep => ?_
  refine cond_eq (fun h88 => ?_) (fun h88 => ⟨(decide_eq_false (fun hh => h88 (by omega))).symm, Ext.drew w⟩)
  refine ⟨by omega, ?_⟩
  intro a2 ha2
  have hs := (hx.ext (Ext.drew w)).sub (l := 80) (hh := n) (m := c) (by omega) (Nat.le_refl _) hx.cap ha2
  rw [List.take_of_length_le (by rw [List.length_drop]; omega)] at hs
  refine Fill_c.mono ?_
  rintro ⟨(s3 : SlV), ⟨⟩⟩ w3 h3
  dsimp only at h3 ⊢
  rw [fill8] at h3
  have x3 := (Ext.drew w).trans h3.ext
  refine ⟨hkeep _ x3, ?_⟩
  refine (Same_c (hs.ext h3.ext) h3.ints (bx.drop 80) (Byt.replicate (by omega) (by omega) _)).mono ?_
  rintro ⟨(r4 : Bool), ⟨⟩⟩ w4 ⟨h4, e4⟩
  refine ⟨hkeep _ (x3.trans e4), ?_, x3.trans e4⟩
  dsimp only at h4 ⊢
  rw [h4]
  unfold comm
  exact decide_eq_decide.2 ⟨fun h => ⟨by omega, h⟩, fun h => h.2⟩
theorem rCommitted_c {w : World} {a : Option Addr} {n c : Nat} {xs : List Int} (hx : Ints w .u8 a n c xs) (hn : n = 88) :
    CallV Try.prog 37 #[.slice a n c] w [.one .bool] fun r w' => r.1 = comm xs ∧ Ext w w' := by
  refine ref14_Committed.vc _ _ _ _ _ ?_
  unfold ref14_Committed.P
  have lx := hx.len
  refine DrawV.old w fun D hD hkeep => ?_
  refine ⟨by omega, ?_⟩
  intro a2 ha2
  have hs := (hx.ext (Ext.drew w)).sub (l := 80) (hh := n) (m := c) (by omega) (Nat.le_refl _) hx.cap ha2
  rw [List.take_of_length_le (by rw [List.length_drop]; omega)] at hs
  refine rFill_c.mono ?_
  rintro ⟨(s3 : SlV), ⟨⟩⟩ w3 h3
  dsimp only at h3 ⊢
  rw [fill8] at h3
  have x3 := (Ext.drew w).trans h3.ext
  refine ⟨hkeep _ x3, ?_⟩
  refine (SameBytes_c (hs.ext h3.ext) h3.ints).mono ?_
  rintro ⟨(r4 : Bool), ⟨⟩⟩ w4 ⟨h4, e4⟩
  refine ⟨hkeep _ (x3.trans e4), ?_, x3.trans e4⟩
  dsimp only at h4 ⊢
  rw [h4]
  unfold comm
  exact decide_eq_decide.2 ⟨fun h => ⟨by omega, h⟩, fun h => h.2⟩

end Go.Proofs.Ytombjhkdakmhpaa.Vc
