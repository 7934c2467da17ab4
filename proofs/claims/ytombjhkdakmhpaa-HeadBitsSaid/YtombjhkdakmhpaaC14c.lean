/- The contracts of layer 14 (head): what an end tells. -/
import Derived.Test.YtombjhkdakmhpaaPl14
import Derived.Test.YtombjhkdakmhpaaV14r
namespace Go.Proofs.Ytombjhkdakmhpaa.Vc
open Go Go.Eng Go.RowKit
set_option linter.unusedVariables false
set_option linter.unusedSimpArgs false

theorem DrawV.but {body : (Nat → Prop) → Prop} (w : World) (b : Nat) (h : ∀ D : Nat → Prop, (∀ k, k < w.heap.size → k ≠ b → D k) → (∀ w', (∀ k, k < w.heap.size → k ≠ b → w'.heap[k]? = w.heap[k]?) → KeepOn D w.drew w') → body D) : DrawV body :=
  ⟨fun k => k < w.heap.size ∧ k ≠ b, h _ (fun _ h h' => ⟨h, h'⟩) fun w' e k hk => e k hk.1 hk.2⟩

theorem newU' {w : World} {K : Nat → World → Prop} (h : ∀ b w1, Ext w w1 → Own w1 w.heap.size 5 1 (some ⟨b, 0, none⟩) 0 0 [] → K b w1) : NewV #[] 5 w K := by
  rintro b w1 rfl rfl
  exact h _ _ (Ext.alloc _ _) (Own.zeros (w := w) (B := w.heap.size) (e := 5) (n := 0) (c := 0) (z := .int .u8 0) (Nat.le_refl _) (Nat.zero_le _) (by omega) rfl)

abbrev zeroH : Hd := ⟨0, 0, 0, 0, 0, 0⟩
def RPost (w : World) (xs : List Int) (r : (Int × Int × Int × Int × Int × Int × Unit) × SlV × Int × Unit) (w' : World) : Prop :=
  Ext w w' ∧ (xs.length ≠ 88 → r.1 = zeroH.tup ∧ r.2.1 = (⟨none, 0, 0⟩ : SlV) ∧ r.2.2.1 = 2) ∧ (xs.length = 88 → okR xs → r.1 = (hdOf xs).tup ∧ Res w w' r.2.1 (part xs 48 80) ∧ r.2.2.1 = 0) ∧
    (xs.length = 88 → ¬ okR xs → r.1 = zeroH.tup ∧ r.2.1 = (⟨none, 0, 0⟩ : SlV) ∧ r.2.2.1 = 1)

theorem readTail {w w26 : World} {xs : List Int} {a0 a6 a7 : Option Addr} {c0 b1 b24 : Nat} {c6 c7 : Nat} (x26 : Ext w w26) (hb1 : Box w26 w.heap.size b1 25 zeroH.vs) (hb24 : Box w26 w.heap.size b24 25 (hdOf xs).vs) (hne : b1 ≠ b24)
    (hx : Ints w .u8 a0 88 c0 xs) (bx : Byt xs) (h6 : Ints w .u8 a6 24 (c0 - 0) (part xs 0 24)) (h7 : Ints w .u8 a7 (80 - 48) c7 (part xs 48 80)) : head_Read.T c0 a0 a6 w26 b1 (RPost w xs) b24 a7 := by
  have hl := hx.len
  have hcap := hx.cap
  unfold head_Read.T
  refine DrawV.old w26 fun D hD hkeep => ?_
  have x26' := x26.trans (Ext.drew w26)
  refine ⟨by omega, ?_⟩
  intro a28 ha28
  have h28 := (hx.ext x26').sub (l := 24) (hh := 48) (m := c0) (by omega) (by omega) (by omega) ha28
  refine (Invert_c (h6.ext x26') (by omega)).mono ?_
  rintro ⟨(s1 : SlV), ⟨⟩⟩ w1 h1
  dsimp only at h1 ⊢
  have x1 := (Ext.drew w26).trans h1.ext
  refine ⟨hkeep _ x1, ?_⟩
  refine (Same_c h1.ints (h28.ext h1.ext) (invL_byt _) ((bx.drop 24).take _)).mono ?_
  rintro ⟨(r2 : Bool), ⟨⟩⟩ w2 ⟨h2, e2⟩
  dsimp only at h2 ⊢
  have x2 := x1.trans e2
  have X2 := x26.trans x2
  refine ⟨hkeep _ x2, ?_⟩
  have b1' := hb1.ext x2
  have fail : ¬ okR xs → StoreV w2 ⟨b1, 0, none⟩ [.int .i64 0, .int .i64 0, .int .i64 0, .int .u32 0, .int .u64 0, .int .u64 0] fun w33 =>
      LoadA w33 ⟨b1, 0, none⟩ [.int .i64, .int .i64, .int .i64, .int .u32, .int .u64, .int .u64] fun (x34 : Int × Int × Int × Int × Int × Int × Unit) =>
      RPost w xs ((x34.1, x34.2.1, x34.2.2.1, x34.2.2.2.1, x34.2.2.2.2.1, x34.2.2.2.2.2.1, ()), (⟨none, 0, 0⟩ : SlV), (1 : Int), ()) w33 := fun hno => by
    refine b1'.store 0 (by simp) fun w3 hb3 bel3 _ _ => ?_
    refine ldH (h := zeroH) hb3 ?_
    exact ⟨Below.trans X2 bel3, fun h => absurd hl h, fun _ h => absurd h hno, fun _ _ => ⟨rfl, rfl, rfl⟩⟩
  refine cond_of (fun hc => fail (fun hok => by
    have := hok.2.2
    unfold part at this
    simp at hc
    rw [h2] at hc
    simp at hc
    exact hc this)) (fun hc => ?_)
  have hsame : invL (part xs 0 24) = part xs 24 48 := by simp at hc; rw [h2] at hc; simpa [part] using hc
  have h3 : (part xs 0 24).getD 3 0 = xs.getD 3 0 := by
    unfold part
    rw [List.drop_zero, List.getD_eq_getElem?_getD, List.getElem?_take, if_pos (by omega), ← List.getD_eq_getElem?_getD]
  refine (h6.ext x26).idxD (Ext.drew w26) (i := 3) (by omega) (by omega) hD ?_
  rw [show (3 : Int).toNat = 3 from rfl, h3]
  refine cond_ne (fun hz => fail (fun hok => hz hok.2.1)) (fun hz => ?_)
  have hD24 := hD _ hb24.lt
  have d24 := hb24.ext (Ext.drew w26)
  refine ⟨hD24, d24.ld (i := 0) (h := .int .i64) (x := xs.getD 0 0) rfl ?_⟩
  refine cond_d (fun h1 => fail (fun hok => by have := hok.1; omega)) (fun k1 => ?_)
  refine ⟨hD24, d24.ld (i := 0) (h := .int .i64) (x := xs.getD 0 0) rfl ?_⟩
  refine cond_d (fun h1 => fail (fun hok => by have := hok.1; omega)) (fun k2 => ?_)
  have hok : okR xs := ⟨by omega, hz, hsame⟩
  refine DrawV.but w2 b1 fun D2 hD2 hkeep2 => ?_
  have e24 := hb24.ext x2
  refine ⟨hD2 _ e24.lt (fun h => hne h.symm), ldH (h := hdOf xs) (e24.ext (Ext.drew w2)) ?_⟩
  refine newU' fun b5 w5 e5 o5 => ?_
  have keepB : ∀ {w' : World}, Ext w2 w' → KeepOn D2 w2.drew w' := fun e => hkeep2 _ fun k hk _ => e.block k hk
  have x5 := (Ext.drew w2).trans e5
  refine ⟨keepB x5, ?_⟩
  refine appL (xs := []) (o5.mono (Ext.drew w2).size) (h7.ext (X2.trans x5)) x5.size (by omega) fun a6' c6' w6 o6 b6 => ?_
  have x6 : Ext w2 w6 := Below.trans x5 b6
  refine ⟨keepB x6, ?_⟩
  have b1'' := b1'.ext x6
  refine b1''.store 0 (by simp) fun w7 hb7 bel7 oth7 _ => ?_
  refine ⟨hkeep2 _ fun k hk hkb => by rw [oth7 k hkb]; exact x6.block k hk, ?_⟩
  refine ldH (h := hdOf xs) hb7 ?_
  refine ⟨Below.trans (X2.trans x6) bel7, fun h => absurd hl h, fun _ _ => ⟨rfl, ⟨Below.trans (X2.trans x6) bel7, ?_⟩, rfl⟩, fun _ h => absurd hok h⟩
  rw [Nat.zero_add, List.nil_append] at *
  refine (o6.other fun p hp => oth7 _ ?_).mono X2.size
  rcases o6.at_ with ⟨h1, _⟩ | ⟨b, cs, h1, h2, _⟩
  · rw [h1] at hp; cases hp
  · rw [h1] at hp
    have := Option.some.inj hp
    subst this
    have := b1'.lt
    show b ≠ b1
    omega

end Go.Proofs.Ytombjhkdakmhpaa.Vc
