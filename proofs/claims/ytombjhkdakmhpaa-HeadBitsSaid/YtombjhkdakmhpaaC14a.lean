/- The contracts of layer 14 (head): a head's bytes. -/
import Derived.Test.YtombjhkdakmhpaaC01d
import Derived.Test.YtombjhkdakmhpaaLib2
import Derived.Test.YtombjhkdakmhpaaV14
namespace Go.Proofs.Ytombjhkdakmhpaa.Vc
open Go Go.Eng Go.RowKit
set_option linter.unusedVariables false
set_option linter.unusedSimpArgs false

/-- Bytes behind bytes of one's own. -/
theorem appL {w : World} {a a2 : Option Addr} {n c m c2 : Nat} {xs ys : List Int} {B : Nat} {K : Option Addr → Nat → Nat → World → Prop} (ho : Own w B 5 1 a n c (xs.map (Value.int .u8))) (hy : Ints w .u8 a2 m c2 ys) (hB : B ≤ w.heap.size) (hn : n + m ≤ 100000000)
    (hk : ∀ a' c' w', Own w' B 5 1 a' (n + m) c' ((xs ++ ys).map (Value.int .u8)) → Below B w w' → K a' (n + m) c' w') :
    AppS w a2 m 1 fun ns => AppV w 5 1 1 a n c ns m K := by
  refine AppS.of (news := ys.map (Value.int .u8)) (by rw [List.length_map, hy.len]; omega) hy.rd ?_
  refine AppV.own ho hB (by rw [List.length_map, hy.len]; omega) (oneAll.ints _ _) (by omega) (by omega) fun a' c' w' h1 h2 _ _ => ?_
  refine hk a' c' w' ?_ h2
  rw [List.map_append]
  exact h1
theorem Box.keep {w w' : World} {B B' b : Nat} {e : TypeId} {vs : List Value} (h : Box w B b e vs) (x : Below B' w w') (hb : b < B') : Box w' B b e vs := ⟨h.base, by rw [x.block b hb]; exact h.heap⟩

/-- A head's numbers. -/
structure Hd where
  k : Int
  n : Int
  c : Int
  l : Int
  e : Int
  t : Int
abbrev Hd.vs (h : Hd) : List Value := [.int .i64 h.k, .int .i64 h.n, .int .i64 h.c, .int .u32 h.l, .int .u64 h.e, .int .u64 h.t]
abbrev Hd.val (h : Hd) : Value := .agg #[.int .i64 h.k, .int .i64 h.n, .int .i64 h.c, .int .u32 h.l, .int .u64 h.e, .int .u64 h.t]
abbrev Hd.tup (h : Hd) : Int × Int × Int × Int × Int × Int × Unit := (h.k, h.n, h.c, h.l, h.e, h.t, ())
def Hd.rng (h : Hd) : Prop := (0 ≤ h.l ∧ h.l < 4294967296) ∧ (0 ≤ h.e ∧ h.e < 18446744073709551616) ∧ (0 ≤ h.t ∧ h.t < 18446744073709551616)
def HRight (h : Hd) : Prop := (1 ≤ h.k ∧ h.k ≤ 4) ∧ (0 ≤ h.n ∧ h.n ≤ 255) ∧ (0 ≤ h.c ∧ h.c ≤ 255)
instance (h : Hd) : Decidable (HRight h) := by unfold HRight; infer_instance
def big (n : Int) (k : Nat) : List Int := (leL n k).reverse
def hdL (h : Hd) : List Int := [h.k, h.n, h.c, 0] ++ big h.l 4 ++ big h.e 8 ++ big h.t 8
theorem big_length (n : Int) (k : Nat) : (big n k).length = k := by simp [big, leL_length]
theorem hdL_length (h : Hd) : (hdL h).length = 24 := by simp [hdL, big_length]

theorem newH {w : World} {h : Hd} {K : Nat → World → Prop} (hk : ∀ b w1, Ext w w1 → Box w1 w.heap.size b 25 h.vs → K b w1) : NewV #[.int .i64 h.k, .int .i64 h.n, .int .i64 h.c, .int .u32 h.l, .int .u64 h.e, .int .u64 h.t] 25 w K := newBox hk
theorem ldH {w : World} {h : Hd} {B b : Nat} {e : TypeId} (hb : Box w B b e h.vs) {K : Int × Int × Int × Int × Int × Int × Unit → Prop} (hk : K h.tup) : LoadA w ⟨b, 0, none⟩ [.int .i64, .int .i64, .int .i64, .int .u32, .int .u64, .int .u64] K := hb.lda (l := [.int .i64, .int .i64, .int .i64, .int .u32, .int .u64, .int .u64]) h.tup rfl hk
theorem Own.list {w : World} {xs : List Int} {n : Nat} (hn : n = xs.length) (h9 : n ≤ 9223372036854775807) : Own (w.alloc (.cells (xs.map (Value.int .u8)).toArray 5)) w.heap.size 5 1 (some ⟨w.heap.size, 0, none⟩) n n (xs.map (Value.int .u8)) := by
  have := Own.new (w := w) (B := w.heap.size) (e := 5) (sz := 1) (n := n) (c := n) (cs := xs.map (Value.int .u8)) (Nat.le_refl _) (by simp [hn]) (Nat.le_refl _) h9 (oneAll.ints _ _)
  rwa [List.take_of_length_le (by simp [hn])] at this

theorem wrap_u8 {x : Int} (h : 0 ≤ x ∧ x ≤ 255) : IntKind.u8.wrap x = x := by rw [u8_wrap]; omega

theorem HRight_c {w : World} {h : Hd} : CallV Try.prog 15 #[h.val] w [.one .bool] fun r w' => r.1 = decide (HRight h) ∧ Ext w w' := by
  refine ref14_Right.vc _ _ _ _ _ _ _ _ ?_
  unfold ref14_Right.P
  refine newH fun b1 w1 e1 hb => ?_
  have no : ¬ HRight h → (false = decide (HRight h) ∧ Ext w w1) := fun hr => ⟨(decide_eq_false hr).symm, e1⟩
  refine hb.ld (i := 0) (h := .int .i64) (x := h.k) rfl (cond_d (fun c1 => ?_) (fun hc => no (fun hr => by unfold HRight at hr; omega)))
  refine hb.ld (i := 0) (h := .int .i64) (x := h.k) rfl (cond_d (fun c2 => ?_) (fun hc => no (fun hr => by unfold HRight at hr; omega)))
  refine hb.ld (i := 1) (h := .int .i64) (x := h.n) rfl (cond_d (fun c3 => ?_) (fun hc => no (fun hr => by unfold HRight at hr; omega)))
  refine hb.ld (i := 1) (h := .int .i64) (x := h.n) rfl (cond_d (fun c4 => ?_) (fun hc => no (fun hr => by unfold HRight at hr; omega)))
  refine hb.ld (i := 2) (h := .int .i64) (x := h.c) rfl (cond_d (fun c5 => ?_) (fun hc => no (fun hr => by unfold HRight at hr; omega)))
  refine hb.ld (i := 2) (h := .int .i64) (x := h.c) rfl ?_
  refine ⟨?_, e1⟩
  apply decide_eq_decide.2
  unfold HRight
  omega

theorem c4 : cl8 4 = 4 := by decide
theorem c8 : cl8 8 = 8 := by decide

theorem Bytes_c {w : World} {h : Hd} (hg : h.rng) : CallV Try.prog 14 #[h.val] w [.one .sl, .one (.int .i64)] fun r w' => Ext w w' ∧ (HRight h → Res w w' r.1 (hdL h) ∧ r.2.1 = (0 : Int)) ∧ (¬ HRight h → r.1 = (⟨none, 0, 0⟩ : SlV) ∧ r.2.1 = (2 : Int)) := by
  unfold Hd.rng at hg
  refine head_Bytes.vc _ _ _ _ _ _ _ _ ?_
  unfold head_Bytes.P
  refine newH fun b1 w1 e1 hb => ?_
  have no : ∀ {w' : World}, ¬ HRight h → Ext w w' → (Ext w w' ∧ (HRight h → Res w w' (⟨none, 0, 0⟩ : SlV) (hdL h) ∧ (2 : Int) = (0 : Int)) ∧ (¬ HRight h → (⟨none, 0, 0⟩ : SlV) = (⟨none, 0, 0⟩ : SlV) ∧ (2 : Int) = (2 : Int))) := fun hr he => ⟨he, fun h => absurd h hr, fun _ => ⟨rfl, rfl⟩⟩
  refine hb.ld (i := 0) (h := .int .i64) (x := h.k) rfl ?_
  refine hb.ld (i := 1) (h := .int .i64) (x := h.n) rfl ?_
  refine hb.ld (i := 2) (h := .int .i64) (x := h.c) rfl ?_
  refine Loop1 (fun (y : Int × Unit) w' => ∃ i : Nat, y.1 = (i : Int) ∧ i ≤ 3 ∧ (∀ j, j < i → 0 ≤ [h.k, h.n, h.c].getD j 0 ∧ [h.k, h.n, h.c].getD j 0 ≤ 255) ∧ w' = w1) (fun (y : Int × Unit) _ => (3 - y.1).toNat) ⟨0, rfl, by omega, fun j hj => absurd hj (by omega), rfl⟩ ?_
  rintro ⟨(z : Int), ⟨⟩⟩ w' ⟨i, hz, h3, hr, rfl⟩
  dsimp only at hz ⊢
  subst hz
  refine cond_d (fun hlt => ?_) (fun hge => ?_)
  · refine ⟨⟨by omega, hlt⟩, [h.k, h.n, h.c].getD i 0, ?_, ?_⟩
    · rw [Int.toNat_natCast]
      match i, hlt with
      | 0, _ => rfl
      | 1, _ => rfl
      | 2, _ => rfl
      | n + 3, hh => exact absurd hh (by omega)
    · have bad : ¬ (0 ≤ [h.k, h.n, h.c].getD i 0 ∧ [h.k, h.n, h.c].getD i 0 ≤ 255) → ¬ HRight h := fun hb hrr => hb (by
        unfold HRight at hrr
        match i, hlt with
        | 0, _ => show 0 ≤ h.k ∧ h.k ≤ 255; omega
        | 1, _ => exact hrr.2.1
        | 2, _ => exact hrr.2.2
        | n + 3, hh => exact absurd hh (by omega))
      refine cond_d (fun hc => no (bad (by omega)) e1) (fun hc => cond_d (fun hc' => no (bad (by omega)) e1) (fun hc' => ?_))
      refine ⟨Rng.i64 (by omega) (by omega), ⟨i + 1, by push_cast; rfl, by omega, fun j hj => ?_, rfl⟩, by omega⟩
      by_cases hji : j = i
      · subst hji; omega
      · exact hr j (by omega)
  · have : i = 3 := by omega
    subst this
    have k0 : 0 ≤ h.k ∧ h.k ≤ 255 := hr 0 (by omega)
    have k1 : 0 ≤ h.n ∧ h.n ≤ 255 := hr 1 (by omega)
    have k2 : 0 ≤ h.c ∧ h.c ≤ 255 := hr 2 (by omega)
    refine hb.ld (i := 0) (h := .int .i64) (x := h.k) rfl (cond_d (fun hc => no (fun hr => by unfold HRight at hr; omega) e1) (fun c1 => ?_))
    refine hb.ld (i := 0) (h := .int .i64) (x := h.k) rfl (cond_d (fun hc => no (fun hr => by unfold HRight at hr; omega) e1) (fun c2 => ?_))
    have hR : HRight h := ⟨by omega, k1, k2⟩
    refine hb.ld (i := 0) (h := .int .i64) (x := h.k) rfl ?_
    refine hb.ld (i := 1) (h := .int .i64) (x := h.n) rfl ?_
    refine hb.ld (i := 2) (h := .int .i64) (x := h.c) rfl ?_
    rw [wrap_u8 k0, wrap_u8 k1, wrap_u8 k2]
    rintro b2 w2 rfl rfl
    have ho := Own.list (w := w') (xs := [h.k, h.n, h.c, 0]) (n := 4) rfl (by omega)
    have x2 : Ext w' (w'.alloc (.cells #[.int .u8 h.k, .int .u8 h.n, .int .u8 h.c, .int .u8 0] 5)) := Ext.alloc _ _
    generalize hw2 : w'.alloc (.cells #[.int .u8 h.k, .int .u8 h.n, .int .u8 h.c, .int .u8 0] 5) = w2 at x2 ⊢
    have ho2 : Own w2 w'.heap.size 5 1 (some ⟨w'.heap.size, 0, none⟩) 4 4 ([h.k, h.n, h.c, 0].map (Value.int .u8)) := by rw [← hw2]; exact ho
    refine (hb.ext x2).ld (i := 3) (h := .int .u32) (x := h.l) rfl ?_
    rw [show IntKind.u64.wrap h.l = h.l from u64_id (by omega) (by omega)]
    refine (Big_c (by omega)).mono ?_
    rintro ⟨(s3 : SlV), ⟨⟩⟩ w3 h3
    dsimp only at h3 ⊢
    rw [c4] at h3
    have l3 := h3.ints.len
    rw [List.length_reverse, leL_length] at l3
    have x3 := x2.trans h3.ext
    refine appL (ho2.ext h3.ext) h3.ints x3.size (by omega) fun a4 c4' w4 o4 b4 => ?_
    have x4 : Ext w' w4 := Below.trans x3 b4
    refine (hb.ext x4).ld (i := 4) (h := .int .u64) (x := h.e) rfl ?_
    refine (Big_c (by omega)).mono ?_
    rintro ⟨(s5 : SlV), ⟨⟩⟩ w5 h5
    dsimp only at h5 ⊢
    rw [c8] at h5
    have l5 := h5.ints.len
    rw [List.length_reverse, leL_length] at l5
    have x5 := x4.trans h5.ext
    refine appL (o4.ext h5.ext) h5.ints x5.size (by omega) fun a6 c6' w6 o6 b6 => ?_
    have x6 : Ext w' w6 := Below.trans x5 b6
    refine (hb.ext x6).ld (i := 5) (h := .int .u64) (x := h.t) rfl ?_
    refine (Big_c (by omega)).mono ?_
    rintro ⟨(s7 : SlV), ⟨⟩⟩ w7 h7
    dsimp only at h7 ⊢
    rw [c8] at h7
    have l7 := h7.ints.len
    rw [List.length_reverse, leL_length] at l7
    have x7 := x6.trans h7.ext
    refine appL (o6.ext h7.ext) h7.ints x7.size (by omega) fun a8 c8' w8 o8 b8 => ?_
    have x8 : Ext w' w8 := Below.trans x7 b8
    exact ⟨e1.trans x8, fun _ => ⟨⟨e1.trans x8, o8.mono e1.size⟩, rfl⟩, fun hn => absurd hR hn⟩

theorem rBytes_c {w : World} {h : Hd} (hg : h.rng) (hR : HRight h) : CallV Try.prog 18 #[h.val] w [.one .sl] fun r w' => Res w w' r.1 (hdL h) := by
  unfold Hd.rng at hg
  have hR' := hR
  unfold HRight at hR'
  refine ref14_Bytes.vc _ _ _ _ _ _ _ _ ?_
  unfold ref14_Bytes.P
  refine newH fun b1 w1 e1 hb => ?_
  refine DrawV.old w1 fun D hD hkeep => ?_
  have hD1 := hD _ hb.lt
  have hd := hb.ext (Ext.drew w1)
  refine ⟨hD1, hd.ld (i := 0) (h := .int .i64) (x := h.k) rfl ⟨hD1, hd.ld (i := 1) (h := .int .i64) (x := h.n) rfl ⟨hD1, hd.ld (i := 2) (h := .int .i64) (x := h.c) rfl ⟨hD1, hd.ld (i := 3) (h := .int .u32) (x := h.l) rfl ?_⟩⟩⟩⟩
  rw [show IntKind.u64.wrap h.l = h.l from u64_id (by omega) (by omega), wrap_u8 (by omega : 0 ≤ h.k ∧ h.k ≤ 255), wrap_u8 hR'.2.1, wrap_u8 hR'.2.2]
  have tail : ∀ (a : Option Addr) (c : Nat) (w4 : World), Ext w1 w4 → Own w4 w1.heap.size 5 1 a (4 + 4) c (([h.k, h.n, h.c, 0] ++ big h.l 4).map (Value.int .u8)) → LoadS w4 ⟨b1, 4, none⟩ (.int .u64) fun (x17 : Int) =>
      CallV Try.prog 43 #[.int .u64 x17, .int .i64 8] w4 [.one .sl] fun (r18 : SlV × Unit) w19 =>
      AppS w19 r18.1.a r18.1.n 1 fun ns24 =>
      AppV w19 5 1 1 a (4 + 4) c ns24 r18.1.n fun a20 n21 c22 w23 =>
      LoadS w23 ⟨b1, 5, none⟩ (.int .u64) fun (x25 : Int) =>
      CallV Try.prog 43 #[.int .u64 x25, .int .i64 8] w23 [.one .sl] fun (r26 : SlV × Unit) w27 =>
      AppS w27 r26.1.a r26.1.n 1 fun ns32 =>
      AppV w27 5 1 1 a20 n21 c22 ns32 r26.1.n fun a28 n29 c30 w31 => Res w w31 (⟨a28, n29, c30⟩ : SlV) (hdL h) := by
    intro a c w4 x4 o4
    refine (hb.ext x4).ld (i := 4) (h := .int .u64) (x := h.e) rfl ?_
    refine (rBig_c (by omega) (by omega)).mono ?_
    rintro ⟨(s5 : SlV), ⟨⟩⟩ w5 h5
    dsimp only at h5 ⊢
    rw [c8] at h5
    have l5 := h5.ints.len
    rw [List.length_reverse, leL_length] at l5
    have x5 := x4.trans h5.ext
    refine appL (o4.ext h5.ext) h5.ints x5.size (by omega) fun a6 c6' w6 o6 b6 => ?_
    have x6 : Ext w1 w6 := Below.trans x5 b6
    refine (hb.ext x6).ld (i := 5) (h := .int .u64) (x := h.t) rfl ?_
    refine (rBig_c (by omega) (by omega)).mono ?_
    rintro ⟨(s7 : SlV), ⟨⟩⟩ w7 h7
    dsimp only at h7 ⊢
    rw [c8] at h7
    have l7 := h7.ints.len
    rw [List.length_reverse, leL_length] at l7
    have x7 := x6.trans h7.ext
    refine appL (o6.ext h7.ext) h7.ints x7.size (by omega) fun a8 c8' w8 o8 b8 => ?_
    have x8 : Ext w1 w8 := Below.trans x7 b8
    exact ⟨e1.trans x8, o8.mono e1.size⟩
  constructor
  · rintro b2 w2 rfl rfl
    have ho := Own.list (w := w1.drew) (xs := [h.k, h.n, h.c, 0]) (n := 4) rfl (by omega)
    have x2 : Ext w1 (w1.drew.alloc (.cells #[.int .u8 h.k, .int .u8 h.n, .int .u8 h.c, .int .u8 0] 5)) := (Ext.drew w1).trans (Ext.alloc _ _)
    refine ⟨hkeep _ x2, ?_⟩
    refine (rBig_c (by omega) (by omega)).mono ?_
    rintro ⟨⟨sa, sn, sc⟩, ⟨⟩⟩ w3 h3
    dsimp only at h3 ⊢
    rw [c4] at h3
    have l3 := h3.ints.len
    rw [List.length_reverse, leL_length] at l3
    dsimp only at l3
    subst l3
    have x3 := x2.trans h3.ext
    refine ⟨hkeep _ x3, ?_⟩
    refine appL (ho.ext h3.ext) h3.ints x3.size (by omega) fun a4 c4' w4 o4 b4 => ?_
    have x4 : Ext w1 w4 := Below.trans x3 b4
    refine ⟨hkeep _ x4, ?_⟩
    exact tail a4 c4' w4 x4 o4
  · refine (rBig_c (by omega) (by omega)).mono ?_
    rintro ⟨⟨sa, sn, sc⟩, ⟨⟩⟩ w3 h3
    dsimp only at h3 ⊢
    rw [c4] at h3
    have l3 := h3.ints.len
    rw [List.length_reverse, leL_length] at l3
    dsimp only at l3
    subst l3
    have x3 := (Ext.drew w1).trans h3.ext
    refine ⟨hkeep _ x3, ?_⟩
    rintro b2 w2 rfl rfl
    have ho := Own.list (w := w3) (xs := [h.k, h.n, h.c, 0]) (n := 4) rfl (by omega)
    have x2 : Ext w3 (w3.alloc (.cells #[.int .u8 h.k, .int .u8 h.n, .int .u8 h.c, .int .u8 0] 5)) := Ext.alloc _ _
    refine ⟨hkeep _ (x3.trans x2), ?_⟩
    refine appL ho (h3.ints.ext x2) x2.size (by omega) fun a4 c4' w4 o4 b4 => ?_
    have x4 : Ext w1 w4 := x3.trans (Below.trans x2 b4)
    refine ⟨hkeep _ x4, ?_⟩
    exact tail a4 c4' w4 x4 (o4.mono x3.size)

end Go.Proofs.Ytombjhkdakmhpaa.Vc
