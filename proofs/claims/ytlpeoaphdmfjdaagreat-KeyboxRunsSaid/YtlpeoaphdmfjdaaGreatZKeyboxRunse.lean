/- Texts in one: Parts of plans, cut out by wip/tools/vccut.py. The contract of the document's Read (layer 14). The contracts of layer 15 (page): what commits a page, and what a page tells. The contracts of layer 15 (page): what bytes tell. The contracts of layer 15 (page): the document's, and small ones. The laws PageMakes and PageBlank of layer 15: each call gives true, and what it read stays. The law PageReads of layer 15: each call gives true, and what it read stays. The law HeadMarks of layer 14: each call gives true, and what it read stays. The law PageBack of layer 15: each call gives true, and what it read stays. Plain laws of layer 19 (chunk): a record's pages, and what they hold. The plans of functions as plain statements, printed by wip/tools/vcgen.py; the kernel holds each to the code. The contracts of layer 19 (chunk): a record's pages. The contract of Hold of layer 19 (chunk): the record that pages hold. The contracts of the document's Pages and Hold of layer 19 (chunk). The contracts of Current of layer 19 (chunk), and small ones. Plain laws of layer 19: a block whose last page lacks its mark holds nothing, one that has it holds its record. Plain data of layer 20 (keybox): what each of its operations makes. The plans of functions as plain statements, printed by wip/tools/vcgen.py; the kernel holds each to the code. The order of the parts. The contracts of keybox (layer 20). -/
import Derived.Test.YtlpeoaphdmfjdaaGreatZKeyboxRunsd

set_option linter.unusedVariables false
set_option linter.unusedSimpArgs false
/-! Parts of plans, cut out by wip/tools/vccut.py. -/
namespace Go.Proofs.YtlpeoaphdmfjdaaGreat.Vc
open Go Go.Eng
def ref14_Read.T (w21 : World) (b19 : Nat) (b1 : Nat) (K : (Int × Int × Int × Int × Int × Int × Unit) × Bool × Unit → World → Prop) (c0 : Nat) (a0 : Option Addr) : Prop :=
LoadA w21 ⟨b19, 0, none⟩ [.int .i64, .int .i64, .int .i64, .int .u32, .int .u64, .int .u64] fun (x22 : Int × Int × Int × Int × Int × Int × Unit) =>
  CallV Tryz.prog 86 #[.agg #[.int .i64 x22.1, .int .i64 x22.2.1, .int .i64 x22.2.2.1, .int .u32 x22.2.2.2.1, .int .u64 x22.2.2.2.2.1, .int .u64 x22.2.2.2.2.2.1]] w21 [.one .bool] fun (r23 : Bool × Unit) w24 =>
  cond (!r23.1)
  (StoreV w24 ⟨b1, 0, none⟩ [.int .i64 0, .int .i64 0, .int .i64 0, .int .u32 0, .int .u64 0, .int .u64 0] fun w25 =>
  LoadA w25 ⟨b1, 0, none⟩ [.int .i64, .int .i64, .int .i64, .int .u32, .int .u64, .int .u64] fun (x26 : Int × Int × Int × Int × Int × Int × Unit) =>
  K ((x26.1, x26.2.1, x26.2.2.1, x26.2.2.2.1, x26.2.2.2.2.1, x26.2.2.2.2.2.1, ()), false, ()) w25)
  (DrawV fun D27 =>
  (D27 b19 ∧ LoadA w24.drew ⟨b19, 0, none⟩ [.int .i64, .int .i64, .int .i64, .int .u32, .int .u64, .int .u64] fun (x28 : Int × Int × Int × Int × Int × Int × Unit) =>
  (D27 b19 ∧ LoadA w24.drew ⟨b19, 0, none⟩ [.int .i64, .int .i64, .int .i64, .int .u32, .int .u64, .int .u64] fun (x29 : Int × Int × Int × Int × Int × Int × Unit) =>
  ((0 : Int) ≤ (48 : Int) ∧ (48 : Int) ≤ ((c0 : Nat) : Int)) ∧
  SubK a0 0 c0 1 fun a30 =>
  CallV Tryz.prog 160 #[.agg #[.int .i64 x28.1, .int .i64 x28.2.1, .int .i64 x28.2.2.1, .int .u32 x28.2.2.2.1, .int .u64 x28.2.2.2.2.1, .int .u64 x28.2.2.2.2.2.1]] w24.drew [.one .sl] fun (r31 : SlV × Unit) w32 =>
  KeepOn D27 w24.drew w32 ∧
  CallV Tryz.prog 160 #[.agg #[.int .i64 x29.1, .int .i64 x29.2.1, .int .i64 x29.2.2.1, .int .u32 x29.2.2.2.1, .int .u64 x29.2.2.2.2.1, .int .u64 x29.2.2.2.2.2.1]] w32 [.one .sl] fun (r33 : SlV × Unit) w34 =>
  KeepOn D27 w24.drew w34 ∧
  CallV Tryz.prog 161 #[.slice r33.1.a r33.1.n r33.1.c] w34 [.one .sl] fun (r35 : SlV × Unit) w36 =>
  KeepOn D27 w24.drew w36 ∧
  AppS w36 r35.1.a r35.1.n 1 fun ns41 =>
  AppV w36 5 1 1 r31.1.a r31.1.n r31.1.c ns41 r35.1.n fun a37 n38 c39 w40 =>
  KeepOn D27 w24.drew w40 ∧
  CallV Tryz.prog 25 #[.slice a37 n38 c39, .slice a30 (48 - 0) (c0 - 0)] w40 [.one .bool] fun (r42 : Bool × Unit) w43 =>
  KeepOn D27 w24.drew w43 ∧
  cond (!r42.1)
  (StoreV w43 ⟨b1, 0, none⟩ [.int .i64 0, .int .i64 0, .int .i64 0, .int .u32 0, .int .u64 0, .int .u64 0] fun w44 =>
  LoadA w44 ⟨b1, 0, none⟩ [.int .i64, .int .i64, .int .i64, .int .u32, .int .u64, .int .u64] fun (x45 : Int × Int × Int × Int × Int × Int × Unit) =>
  K ((x45.1, x45.2.1, x45.2.2.1, x45.2.2.2.1, x45.2.2.2.2.1, x45.2.2.2.2.2.1, ()), false, ()) w44)
  (LoadA w43 ⟨b19, 0, none⟩ [.int .i64, .int .i64, .int .i64, .int .u32, .int .u64, .int .u64] fun (x46 : Int × Int × Int × Int × Int × Int × Unit) =>
  StoreV w43 ⟨b1, 0, none⟩ [.int .i64 x46.1, .int .i64 x46.2.1, .int .i64 x46.2.2.1, .int .u32 x46.2.2.2.1, .int .u64 x46.2.2.2.2.1, .int .u64 x46.2.2.2.2.2.1] fun w47 =>
  LoadA w47 ⟨b1, 0, none⟩ [.int .i64, .int .i64, .int .i64, .int .u32, .int .u64, .int .u64] fun (x48 : Int × Int × Int × Int × Int × Int × Unit) =>
  K ((x48.1, x48.2.1, x48.2.2.1, x48.2.2.2.1, x48.2.2.2.2.1, x48.2.2.2.2.2.1, ()), true, ()) w47))))
end Go.Proofs.YtlpeoaphdmfjdaaGreat.Vc
/-! The contract of the document's Read (layer 14). -/
namespace Go.Proofs.YtlpeoaphdmfjdaaGreat.Vc
open Go Go.Eng Go.RowKit
def rRPost (w : World) (xs : List Int) (r : (Int × Int × Int × Int × Int × Int × Unit) × Bool × Unit) (w' : World) : Prop :=
  Ext w w' ∧ (okR xs → r.1 = (hdOf xs).tup ∧ r.2.1 = true) ∧ (¬ okR xs → r.1 = zeroH.tup ∧ r.2.1 = false)
theorem rReadTail {w w21 : World} {xs : List Int} {a0 : Option Addr} {c0 b1 b19 : Nat} (x21 : Ext w w21) (hb1 : Box w21 w.heap.size b1 46 zeroH.vs) (hb19 : Box w21 w.heap.size b19 46 (hdOf xs).vs) (hne : b1 ≠ b19)
    (hx : Ints w .u8 a0 88 c0 xs) (bx : Byt xs) : ref14_Read.T w21 b19 b1 (rRPost w xs) c0 a0 := by
  have hl := hx.len
  have hcap := hx.cap
  have hg := hdOf_rng bx (by omega)
  unfold ref14_Read.T
  refine ldH (h := hdOf xs) hb19 ?_
  refine (HRight_c (h := hdOf xs)).mono ?_
  rintro ⟨(r1 : Bool), ⟨⟩⟩ w1 ⟨h1, x1⟩
  dsimp only at h1 ⊢
  subst h1
  have fail : ∀ {w' : World}, Ext w21 w' → ¬ okR xs → StoreV w' ⟨b1, 0, none⟩ [.int .i64 0, .int .i64 0, .int .i64 0, .int .u32 0, .int .u64 0, .int .u64 0] fun w33 =>
      LoadA w33 ⟨b1, 0, none⟩ [.int .i64, .int .i64, .int .i64, .int .u32, .int .u64, .int .u64] fun (x34 : Int × Int × Int × Int × Int × Int × Unit) =>
      rRPost w xs ((x34.1, x34.2.1, x34.2.2.1, x34.2.2.2.1, x34.2.2.2.2.1, x34.2.2.2.2.2.1, ()), false, ()) w33 := fun e hno => by
    refine (hb1.ext e).store 0 (by simp) fun w3 hb3 bel3 _ _ => ?_
    refine ldH (h := zeroH) hb3 ?_
    exact ⟨Below.trans (x21.trans e) bel3, fun h => absurd h hno, fun _ => ⟨rfl, rfl⟩⟩
  have iff := okR_iff bx hl
  by_cases hR : ¬ HRight (hdOf xs)
  · exact cond_t (by rw [decide_eq_false hR]; rfl) (fail x1 (fun h => hR (iff.1 h).1))
  have hR := Decidable.not_not.1 hR
  refine cond_f (by rw [decide_eq_true hR]; rfl) ?_
  refine DrawV.old w1 fun D hD hkeep => ?_
  have b19' := hb19.ext x1
  have hD1 := hD _ b19'.lt
  have xd := Ext.drew w1
  have X1 := x21.trans x1
  refine ⟨hD1, ldH (h := hdOf xs) (b19'.ext xd) ⟨hD1, ldH (h := hdOf xs) (b19'.ext xd) ⟨by omega, ?_⟩⟩⟩
  intro a30 ha30
  have i30 := sub_part (hx.ext X1) (i := 0) (j := 48) (m := c0) (by omega) (by omega) (by omega) ha30
  refine (rBytes_c (h := hdOf xs) hg hR).mono ?_
  rintro ⟨⟨sa, sn, sc⟩, ⟨⟩⟩ w2 h2
  dsimp only at h2 ⊢
  have x2 := xd.trans h2.ext
  refine ⟨hkeep _ x2, ?_⟩
  refine (rBytes_c (h := hdOf xs) hg hR).mono ?_
  rintro ⟨(s3 : SlV), ⟨⟩⟩ w3 h3
  dsimp only at h3 ⊢
  have x3 := x2.trans h3.ext
  refine ⟨hkeep _ x3, ?_⟩
  have l2 := h2.ints.len
  rw [hdL_length] at l2
  dsimp only at l2
  subst l2
  have l3 := h3.ints.len
  rw [hdL_length] at l3
  refine (rInvert_c h3.ints (by omega)).mono ?_
  rintro ⟨⟨va, vn, vc⟩, ⟨⟩⟩ w4 h4
  dsimp only at h4 ⊢
  have l4 := h4.ints.len
  rw [show (invL (hdL (hdOf xs))).length = 24 by simp [invL, hdL_length]] at l4
  dsimp only at l4
  subst l4
  have x4 := x3.trans h4.ext
  refine ⟨hkeep _ x4, ?_⟩
  have o4 := (h2.own.ext (h3.ext.trans h4.ext)).mono xd.size
  refine appL o4 h4.ints x4.size (by omega) fun a5 c5 w5 o5 b5 => ?_
  have x5 : Ext w1 w5 := Below.trans x4 b5
  refine ⟨hkeep _ x5, ?_⟩
  refine (SameBytes_c o5.ints (i30.ext x5)).mono ?_
  rintro ⟨(r6 : Bool), ⟨⟩⟩ w6 ⟨h6, x6⟩
  dsimp only at h6 ⊢
  have X6 := x5.trans x6
  refine ⟨hkeep _ X6, ?_⟩
  refine cond_of (fun hc => fail (x1.trans X6) (fun hok => by
    rw [h6, decide_eq_true (iff.1 hok).2] at hc
    cases hc)) (fun hc => ?_)
  have hok : okR xs := iff.2 ⟨hR, by
    rw [h6] at hc
    simpa using hc⟩
  refine ldH (h := hdOf xs) (b19'.ext X6) ?_
  refine (hb1.ext (x1.trans X6)).store 0 (by simp) fun w7 hb7 bel7 _ _ => ?_
  refine ldH (h := hdOf xs) hb7 ?_
  exact ⟨Below.trans (X1.trans X6) bel7, fun _ => ⟨rfl, rfl⟩, fun h => absurd hok h⟩
theorem rRead_c {w : World} {a0 : Option Addr} {n0 c0 : Nat} {xs : List Int} (hx : Ints w .u8 a0 n0 c0 xs) (bx : Byt xs) (h88 : n0 = 88) :
    CallV Tryz.prog 112 #[.slice a0 n0 c0] w [.agg [.int .i64, .int .i64, .int .i64, .int .u32, .int .u64, .int .u64], .one .bool] fun r w' => rRPost w xs r w' := by
  subst h88
  refine ref14_Read.vc _ _ _ _ _ ?_
  unfold ref14_Read.P
  have lx := hx.len
  have hcap := hx.cap
  refine newH (h := zeroH) fun b1 w2 e2 hb1 => ?_
  refine DrawV.old w2 fun D hD hkeep => ?_
  have b0 := bx.getD 0
  have b1' := bx.getD 1
  have b2 := bx.getD 2
  have x2 := Ext.drew w2
  have y2 := e2.trans x2
  refine (hx.ext e2).idxD x2 (i := 0) (by omega) (by omega) hD ?_
  refine (hx.ext e2).idxD x2 (i := 1) (by omega) (by omega) hD ?_
  refine (hx.ext e2).idxD x2 (i := 2) (by omega) (by omega) hD ?_
  rw [show (0 : Int).toNat = 0 from rfl, show (1 : Int).toNat = 1 from rfl, show (2 : Int).toNat = 2 from rfl]
  rw [i64_id (by omega : -9223372036854775808 ≤ xs.getD 0 0) (by omega), i64_id (by omega : -9223372036854775808 ≤ xs.getD 1 0) (by omega), i64_id (by omega : -9223372036854775808 ≤ xs.getD 2 0) (by omega)]
  refine ⟨by omega, ?_⟩
  intro a10 ha10
  refine ⟨by omega, ?_⟩
  intro a11 ha11
  refine ⟨by omega, ?_⟩
  intro a12 ha12
  have h10 := sub_part hx (i := 4) (j := 8) (m := c0) (by omega) (by omega) (by omega) ha10
  have h11 := sub_part hx (i := 8) (j := 16) (m := c0) (by omega) (by omega) (by omega) ha11
  have h12 := sub_part hx (i := 16) (j := 24) (m := c0) (by omega) (by omega) (by omega) ha12
  generalize hW : w2.drew = W at *
  have nbl := numB_bd (part_byt bx 4 8) (part_length (by omega) (by omega)) (by omega)
  have hu : IntKind.u32.wrap (numB (part xs 4 8)) = numB (part xs 4 8) := by rw [u32_wrap]; exact Int.emod_eq_of_lt nbl.1 (by have := nbl.2; simpa using this)
  have keepW : ∀ {w' : World}, Ext W w' → KeepOn D W w' := fun e => hkeep _ (x2.trans e)
  have hb1W := hb1.ext x2
  have done : ∀ {w25 : World} {b24 : Nat}, Ext W w25 → Box w25 W.heap.size b24 46 zeroH.vs → StoreV w25 ⟨b24, 0, none⟩ (hdOf xs).vs fun w26 => KeepOn D W w26 ∧ ref14_Read.T w26 b24 b1 (rRPost w xs) c0 a0 := fun {w25 b24} e25 hb24 => by
    refine hb24.store 0 (by simp) fun w26 hb26 bel26 _ _ => ?_
    have X26 : Ext W w26 := Below.trans e25 bel26
    refine ⟨keepW X26, ?_⟩
    refine rReadTail (y2.trans X26) (hb1W.ext X26) ⟨Nat.le_trans y2.size hb26.base, hb26.heap⟩ (fun h => ?_) hx bx
    have := hb1W.lt
    have := hb24.base
    omega
  have N10 : ∀ {w' : World}, Ext W w' → CallV Tryz.prog 159 #[.slice a10 (8 - 4) (c0 - 4)] w' [.one (.int .u64)] fun r w2 => r.1 = numB (part xs 4 8) ∧ Ext w' w2 := fun e => rNum_c (h10.ext (y2.trans e)) (part_byt bx 4 8) (by omega)
  have N11 : ∀ {w' : World}, Ext W w' → CallV Tryz.prog 159 #[.slice a11 (16 - 8) (c0 - 8)] w' [.one (.int .u64)] fun r w2 => r.1 = numB (part xs 8 16) ∧ Ext w' w2 := fun e => rNum_c (h11.ext (y2.trans e)) (part_byt bx 8 16) (by omega)
  have N12 : ∀ {w' : World}, Ext W w' → CallV Tryz.prog 159 #[.slice a12 (24 - 16) (c0 - 16)] w' [.one (.int .u64)] fun r w2 => r.1 = numB (part xs 16 24) ∧ Ext w' w2 := fun e => rNum_c (h12.ext (y2.trans e)) (part_byt bx 16 24) (by omega)
  have newZ : ∀ {w' : World} {K : Nat → World → Prop}, Ext W w' → (∀ b w1, Ext w' w1 → Ext W w1 → Box w1 W.heap.size b 46 zeroH.vs → K b w1) → NewV #[.int .i64 0, .int .i64 0, .int .i64 0, .int .u32 0, .int .u64 0, .int .u64 0] 46 w' K := fun e hk => newH (h := zeroH) fun b w1 e1 hb => hk b w1 e1 (e.trans e1) ⟨Nat.le_trans e.size hb.base, hb.heap⟩
  refine ⟨?_, ?_⟩
  · refine (N10 (Ext.refl _)).mono ?_
    rintro ⟨(r1 : Int), ⟨⟩⟩ w3 ⟨q1, e3⟩
    dsimp only at q1 ⊢
    subst q1
    rw [hu]
    refine ⟨keepW e3, ?_, ?_⟩
    · refine (N11 e3).mono ?_
      rintro ⟨(r2 : Int), ⟨⟩⟩ w4 ⟨q2, e4⟩
      dsimp only at q2 ⊢
      subst q2
      have X4 := e3.trans e4
      refine ⟨keepW X4, ?_, ?_⟩
      · refine (N12 X4).mono ?_
        rintro ⟨(r3 : Int), ⟨⟩⟩ w5 ⟨q3, e5⟩
        dsimp only at q3 ⊢
        subst q3
        exact ⟨keepW (X4.trans e5), newZ (X4.trans e5) fun b24 w25 _ e25 hb24 => ⟨keepW e25, done e25 hb24⟩⟩
      · refine newZ X4 fun b24 w25 _ e25 hb24 => ⟨keepW e25, ?_⟩
        refine (N12 e25).mono ?_
        rintro ⟨(r3 : Int), ⟨⟩⟩ w5 ⟨q3, e5⟩
        dsimp only at q3 ⊢
        subst q3
        exact ⟨keepW (e25.trans e5), done (e25.trans e5) (hb24.ext e5)⟩
    · refine newZ e3 fun b24 w25 _ e25 hb24 => ⟨keepW e25, ?_⟩
      refine (N11 e25).mono ?_
      rintro ⟨(r2 : Int), ⟨⟩⟩ w4 ⟨q2, e4⟩
      dsimp only at q2 ⊢
      subst q2
      have X4 := e25.trans e4
      refine ⟨keepW X4, ?_⟩
      refine (N12 X4).mono ?_
      rintro ⟨(r3 : Int), ⟨⟩⟩ w5 ⟨q3, e5⟩
      dsimp only at q3 ⊢
      subst q3
      exact ⟨keepW (X4.trans e5), done (X4.trans e5) (hb24.ext (e4.trans e5))⟩
  · refine newZ (Ext.refl _) fun b24 w25 _ e25 hb24 => ⟨keepW e25, ?_⟩
    refine (N10 e25).mono ?_
    rintro ⟨(r1 : Int), ⟨⟩⟩ w3 ⟨q1, e3⟩
    dsimp only at q1 ⊢
    subst q1
    rw [hu]
    have X3 := e25.trans e3
    refine ⟨keepW X3, ?_⟩
    refine (N11 X3).mono ?_
    rintro ⟨(r2 : Int), ⟨⟩⟩ w4 ⟨q2, e4⟩
    dsimp only at q2 ⊢
    subst q2
    have X4 := X3.trans e4
    refine ⟨keepW X4, ?_⟩
    refine (N12 X4).mono ?_
    rintro ⟨(r3 : Int), ⟨⟩⟩ w5 ⟨q3, e5⟩
    dsimp only at q3 ⊢
    subst q3
    exact ⟨keepW (X4.trans e5), done (X4.trans e5) (hb24.ext (e3.trans (e4.trans e5)))⟩
end Go.Proofs.YtlpeoaphdmfjdaaGreat.Vc
/-! The contracts of layer 15 (page): what commits a page, and what a page tells. -/
namespace Go.Proofs.YtlpeoaphdmfjdaaGreat.Vc
open Go Go.Eng Go.RowKit
theorem PCommit_c {w : World} {g : Geo} : CallV Tryz.prog 91 #[g.val] w [.one .sl, .one (.int .i64)] fun r w' => Ext w w' ∧ (Right g → Res w w' r.1 (comL g) ∧ r.2.1 = (0 : Int)) ∧ (¬ Right g → r.1 = (⟨none, 0, 0⟩ : SlV) ∧ r.2.1 = (2 : Int)) := by
  apply page_Commit.vc
  unfold page_Commit.P
  have S := Sep.start NoB w
  (repeat ((first | refine S.newB fun _ _ S f _ => ?_ | refine S.la0 rfl ?_ | refine S.la1 rfl ?_ | refine S.la2 rfl ?_ | refine S.la3 rfl ?_ | refine S.la4 rfl ?_ | refine S.la5 rfl ?_ | refine S.ld0 rfl rfl ?_ | refine S.ld1 rfl rfl ?_ | refine S.ld2 rfl rfl ?_ | refine S.ld3 rfl rfl ?_ | refine S.ld4 rfl rfl ?_ | refine S.ld5 rfl rfl ?_ | refine S.st0 (by rfl) fun _ S f => ?_ | refine S.st1 (by rfl) fun _ S f => ?_ | refine S.st2 (by rfl) fun _ S f => ?_ | refine S.st3 (by rfl) fun _ S f => ?_ | refine S.st4 (by rfl) fun _ S f => ?_ | refine S.st5 (by rfl) fun _ S f => ?_ | refine S.su0 (by rfl) fun _ S f => ?_ | refine S.su1 (by rfl) fun _ S f => ?_ | refine S.su2 (by rfl) fun _ S f => ?_ | refine S.su3 (by rfl) fun _ S f => ?_ | refine S.su4 (by rfl) fun _ S f => ?_ | refine S.su5 (by rfl) fun _ S f => ?_ | refine ⟨by decide, ?_⟩); try dsimp only [List.set_cons_zero, List.set_cons_succ, cond_true, cond_false, Bool.not_true, Bool.not_false]))
  refine (Check_c (g := g)).mono ?_
  rintro ⟨(r : Int), ⟨⟩⟩ w2 ⟨h2, e2⟩
  dsimp only at h2 ⊢
  have S := S.stepE e2
  subst h2
  by_cases hR : Right g
  · refine cond_f (by unfold chkE; rw [if_pos hR]; rfl) ?_
    have hs := hR.sec
    (repeat ((first | refine S.newB fun _ _ S f _ => ?_ | refine S.la0 rfl ?_ | refine S.la1 rfl ?_ | refine S.la2 rfl ?_ | refine S.la3 rfl ?_ | refine S.la4 rfl ?_ | refine S.la5 rfl ?_ | refine S.ld0 rfl rfl ?_ | refine S.ld1 rfl rfl ?_ | refine S.ld2 rfl rfl ?_ | refine S.ld3 rfl rfl ?_ | refine S.ld4 rfl rfl ?_ | refine S.ld5 rfl rfl ?_ | refine S.st0 (by rfl) fun _ S f => ?_ | refine S.st1 (by rfl) fun _ S f => ?_ | refine S.st2 (by rfl) fun _ S f => ?_ | refine S.st3 (by rfl) fun _ S f => ?_ | refine S.st4 (by rfl) fun _ S f => ?_ | refine S.st5 (by rfl) fun _ S f => ?_ | refine S.su0 (by rfl) fun _ S f => ?_ | refine S.su1 (by rfl) fun _ S f => ?_ | refine S.su2 (by rfl) fun _ S f => ?_ | refine S.su3 (by rfl) fun _ S f => ?_ | refine S.su4 (by rfl) fun _ S f => ?_ | refine S.su5 (by rfl) fun _ S f => ?_ | refine ⟨by decide, ?_⟩); try dsimp only [List.set_cons_zero, List.set_cons_succ, cond_true, cond_false, Bool.not_true, Bool.not_false]))
    refine (PageSize_c (g := g)).mono ?_
    rintro ⟨(r3 : Int), ⟨⟩⟩ w3 ⟨h3, e3⟩
    dsimp only at h3 ⊢
    have S := S.stepE e3
    rw [if_pos hR] at h3
    subst h3
    refine (MarkLen_c (by omega)).mono ?_
    rintro ⟨(r4 : SlV), ⟨⟩⟩ w4 h4
    have E := S.ext.trans h4.ext
    rw [show g.s + 88 - 8 = g.s + 80 by omega] at h4
    exact ⟨E, fun _ => ⟨h4.after S.ext, rfl⟩, fun hn => absurd hR hn⟩
  · exact cond_t (by unfold chkE; rw [if_neg hR]; rfl) ⟨S.ext, fun h => absurd h hR, fun _ => ⟨rfl, rfl⟩⟩
theorem rCommit15_c {w : World} {g : Geo} (hR : Right g) : CallV Tryz.prog 95 #[g.val] w [.one .sl] fun r w' => Res w w' r.1 (comL g) := by
  apply ref15_Commit.vc
  unfold ref15_Commit.P
  have hs := hR.sec
  have S := Sep.start NoB w
  (repeat ((first | refine S.newB fun _ _ S f _ => ?_ | refine S.la0 rfl ?_ | refine S.la1 rfl ?_ | refine S.la2 rfl ?_ | refine S.la3 rfl ?_ | refine S.la4 rfl ?_ | refine S.la5 rfl ?_ | refine S.ld0 rfl rfl ?_ | refine S.ld1 rfl rfl ?_ | refine S.ld2 rfl rfl ?_ | refine S.ld3 rfl rfl ?_ | refine S.ld4 rfl rfl ?_ | refine S.ld5 rfl rfl ?_ | refine S.st0 (by rfl) fun _ S f => ?_ | refine S.st1 (by rfl) fun _ S f => ?_ | refine S.st2 (by rfl) fun _ S f => ?_ | refine S.st3 (by rfl) fun _ S f => ?_ | refine S.st4 (by rfl) fun _ S f => ?_ | refine S.st5 (by rfl) fun _ S f => ?_ | refine S.su0 (by rfl) fun _ S f => ?_ | refine S.su1 (by rfl) fun _ S f => ?_ | refine S.su2 (by rfl) fun _ S f => ?_ | refine S.su3 (by rfl) fun _ S f => ?_ | refine S.su4 (by rfl) fun _ S f => ?_ | refine S.su5 (by rfl) fun _ S f => ?_ | refine ⟨by decide, ?_⟩); try dsimp only [List.set_cons_zero, List.set_cons_succ, cond_true, cond_false, Bool.not_true, Bool.not_false]))
  refine ⟨Rng.i64 (by omega) (by omega), ?_⟩
  refine rFill_c.mono ?_
  rintro ⟨⟨sa, sn, sc⟩, ⟨⟩⟩ w3 h3
  dsimp only at h3 ⊢
  have l3 := h3.ints.len
  have hf : (max 0 (min (65536 : Int) (g.s + 80))).toNat = (g.s + 80).toNat := by generalize hL : (65536 : Int) = L; omega
  rw [List.length_replicate, hf] at l3
  have S := S.res h3
  rw [hf] at S
  dsimp only at l3 S
  subst l3
  refine rFill_c.mono ?_
  rintro ⟨⟨ua, un, uc⟩, ⟨⟩⟩ w4 h4
  dsimp only at h4 ⊢
  have l4 := h4.ints.len
  rw [List.length_replicate, fill8] at l4
  have S := S.res h4
  rw [fill8] at S
  dsimp only at l4 S
  subst l4
  refine S.ab1 S.in0 (by omega) fun a6 c6 w6 S f6 => ?_
  have S := S.tail
  exact S.out
theorem rMake_c {w : World} {g : Geo} {h : Hd} {a a2 : Option Addr} {n c m c2 : Nat} {xs ts : List Int} (hg : h.rng) (hx : Ints w .u8 a n c xs) (ht : Ints w .u8 a2 m c2 ts) (hp : PRight g h n m) :
    CallV Tryz.prog 88 #[g.val, h.val, .slice a n c, .slice a2 m c2] w [.one .sl] fun r w' => Res w w' r.1 (mkL g h xs ts) := by
  apply ref15_Make.vc
  unfold ref15_Make.P
  obtain ⟨hR, hE, hn⟩ := hp
  have S := Sep.start NoB w
  have hs := hR.sec
  have lx := hx.len
  have lt := ht.len
  have l4' : (endL h ts).length = 88 := endL_length h (by have := hE.2; omega)
  (repeat ((first | refine S.newB fun _ _ S f _ => ?_ | refine S.la0 rfl ?_ | refine S.la1 rfl ?_ | refine S.la2 rfl ?_ | refine S.la3 rfl ?_ | refine S.la4 rfl ?_ | refine S.la5 rfl ?_ | refine S.ld0 rfl rfl ?_ | refine S.ld1 rfl rfl ?_ | refine S.ld2 rfl rfl ?_ | refine S.ld3 rfl rfl ?_ | refine S.ld4 rfl rfl ?_ | refine S.ld5 rfl rfl ?_ | refine S.st0 (by rfl) fun _ S f => ?_ | refine S.st1 (by rfl) fun _ S f => ?_ | refine S.st2 (by rfl) fun _ S f => ?_ | refine S.st3 (by rfl) fun _ S f => ?_ | refine S.st4 (by rfl) fun _ S f => ?_ | refine S.st5 (by rfl) fun _ S f => ?_ | refine S.su0 (by rfl) fun _ S f => ?_ | refine S.su1 (by rfl) fun _ S f => ?_ | refine S.su2 (by rfl) fun _ S f => ?_ | refine S.su3 (by rfl) fun _ S f => ?_ | refine S.su4 (by rfl) fun _ S f => ?_ | refine S.su5 (by rfl) fun _ S f => ?_ | refine ⟨by decide, ?_⟩); try dsimp only [List.set_cons_zero, List.set_cons_succ, cond_true, cond_false, Bool.not_true, Bool.not_false]))
  refine cond_eq (fun h0 => ?_) (fun h0 => ?_)
  · (repeat ((first | refine S.newB fun _ _ S f _ => ?_ | refine S.la0 rfl ?_ | refine S.la1 rfl ?_ | refine S.la2 rfl ?_ | refine S.la3 rfl ?_ | refine S.la4 rfl ?_ | refine S.la5 rfl ?_ | refine S.ld0 rfl rfl ?_ | refine S.ld1 rfl rfl ?_ | refine S.ld2 rfl rfl ?_ | refine S.ld3 rfl rfl ?_ | refine S.ld4 rfl rfl ?_ | refine S.ld5 rfl rfl ?_ | refine S.st0 (by rfl) fun _ S f => ?_ | refine S.st1 (by rfl) fun _ S f => ?_ | refine S.st2 (by rfl) fun _ S f => ?_ | refine S.st3 (by rfl) fun _ S f => ?_ | refine S.st4 (by rfl) fun _ S f => ?_ | refine S.st5 (by rfl) fun _ S f => ?_ | refine S.su0 (by rfl) fun _ S f => ?_ | refine S.su1 (by rfl) fun _ S f => ?_ | refine S.su2 (by rfl) fun _ S f => ?_ | refine S.su3 (by rfl) fun _ S f => ?_ | refine S.su4 (by rfl) fun _ S f => ?_ | refine S.su5 (by rfl) fun _ S f => ?_ | refine ⟨by decide, ?_⟩); try dsimp only [List.set_cons_zero, List.set_cons_succ, cond_true, cond_false, Bool.not_true, Bool.not_false]))
    refine rFill_c.mono ?_
    rintro ⟨⟨sa, sn, sc⟩, ⟨⟩⟩ w3 h3
    dsimp only at h3 ⊢
    have l3 := h3.ints.len
    rw [List.length_replicate, fill_sec hs] at l3
    have S := S.res h3
    rw [fill_sec hs] at S
    dsimp only at l3 S
    subst l3
    refine S.reg fun D hD hkeep Sd T => ?_
    (repeat ((first | refine ⟨hD _ (by first | exact Sd.bl0 | exact Sd.bl1 | exact Sd.bl2 | exact Sd.bl3 | exact Sd.bl4 | exact Sd.bl5 | exact Sd.bl6 | exact Sd.bl7), ?_⟩ | refine (Sd.step0 T.fr).la0 rfl ?_ | refine (Sd.step0 T.fr).la1 rfl ?_ | refine (Sd.step0 T.fr).la2 rfl ?_ | refine (Sd.step0 T.fr).la3 rfl ?_ | refine (Sd.step0 T.fr).la4 rfl ?_ | refine (Sd.step0 T.fr).la5 rfl ?_ | refine (Sd.step0 T.fr).la6 rfl ?_ | refine (Sd.step0 T.fr).la7 rfl ?_ | refine (Sd.step0 T.fr).ld0 rfl rfl ?_ | refine (Sd.step0 T.fr).ld1 rfl rfl ?_ | refine (Sd.step0 T.fr).ld2 rfl rfl ?_ | refine (Sd.step0 T.fr).ld3 rfl rfl ?_ | refine (Sd.step0 T.fr).ld4 rfl rfl ?_ | refine (Sd.step0 T.fr).ld5 rfl rfl ?_ | refine (Sd.step0 T.fr).ld6 rfl rfl ?_ | refine (Sd.step0 T.fr).ld7 rfl rfl ?_ | refine ⟨by decide, ?_⟩ | refine ⟨hkeep _ T.fr, ?_⟩); try dsimp only))
    refine T.newB fun b5 w5 T f _ => ?_
    (repeat ((first | refine ⟨hD _ (by first | exact Sd.bl0 | exact Sd.bl1 | exact Sd.bl2 | exact Sd.bl3 | exact Sd.bl4 | exact Sd.bl5 | exact Sd.bl6 | exact Sd.bl7), ?_⟩ | refine (Sd.step0 T.fr).la0 rfl ?_ | refine (Sd.step0 T.fr).la1 rfl ?_ | refine (Sd.step0 T.fr).la2 rfl ?_ | refine (Sd.step0 T.fr).la3 rfl ?_ | refine (Sd.step0 T.fr).la4 rfl ?_ | refine (Sd.step0 T.fr).la5 rfl ?_ | refine (Sd.step0 T.fr).la6 rfl ?_ | refine (Sd.step0 T.fr).la7 rfl ?_ | refine (Sd.step0 T.fr).ld0 rfl rfl ?_ | refine (Sd.step0 T.fr).ld1 rfl rfl ?_ | refine (Sd.step0 T.fr).ld2 rfl rfl ?_ | refine (Sd.step0 T.fr).ld3 rfl rfl ?_ | refine (Sd.step0 T.fr).ld4 rfl rfl ?_ | refine (Sd.step0 T.fr).ld5 rfl rfl ?_ | refine (Sd.step0 T.fr).ld6 rfl rfl ?_ | refine (Sd.step0 T.fr).ld7 rfl rfl ?_ | refine ⟨by decide, ?_⟩ | refine ⟨hkeep _ T.fr, ?_⟩); try dsimp only))
    have T := T.asOwn (sz := 1) (n := 0) rfl (by omega) oneAll.nil
    refine T.ab0 (xs := []) (Sd.step0 T.fr).in0 (by omega) fun a5 c5 w5 T f5 => ?_
    (repeat ((first | refine ⟨hD _ (by first | exact Sd.bl0 | exact Sd.bl1 | exact Sd.bl2 | exact Sd.bl3 | exact Sd.bl4 | exact Sd.bl5 | exact Sd.bl6 | exact Sd.bl7), ?_⟩ | refine (Sd.step0 T.fr).la0 rfl ?_ | refine (Sd.step0 T.fr).la1 rfl ?_ | refine (Sd.step0 T.fr).la2 rfl ?_ | refine (Sd.step0 T.fr).la3 rfl ?_ | refine (Sd.step0 T.fr).la4 rfl ?_ | refine (Sd.step0 T.fr).la5 rfl ?_ | refine (Sd.step0 T.fr).la6 rfl ?_ | refine (Sd.step0 T.fr).la7 rfl ?_ | refine (Sd.step0 T.fr).ld0 rfl rfl ?_ | refine (Sd.step0 T.fr).ld1 rfl rfl ?_ | refine (Sd.step0 T.fr).ld2 rfl rfl ?_ | refine (Sd.step0 T.fr).ld3 rfl rfl ?_ | refine (Sd.step0 T.fr).ld4 rfl rfl ?_ | refine (Sd.step0 T.fr).ld5 rfl rfl ?_ | refine (Sd.step0 T.fr).ld6 rfl rfl ?_ | refine (Sd.step0 T.fr).ld7 rfl rfl ?_ | refine ⟨by decide, ?_⟩ | refine ⟨hkeep _ T.fr, ?_⟩); try dsimp only))
    refine (rEnd_c hg (ht.ext (Sd.ext.trans T.ext)) hE).mono ?_
    rintro ⟨⟨ea, en, ec⟩, ⟨⟩⟩ w6 h6
    have l4 := h6.ints.len
    dsimp only at h6 l4 ⊢
    have T := T.res h6
    dsimp only at T
    (repeat ((first | refine ⟨hD _ (by first | exact Sd.bl0 | exact Sd.bl1 | exact Sd.bl2 | exact Sd.bl3 | exact Sd.bl4 | exact Sd.bl5 | exact Sd.bl6 | exact Sd.bl7), ?_⟩ | refine (Sd.step0 T.fr).la0 rfl ?_ | refine (Sd.step0 T.fr).la1 rfl ?_ | refine (Sd.step0 T.fr).la2 rfl ?_ | refine (Sd.step0 T.fr).la3 rfl ?_ | refine (Sd.step0 T.fr).la4 rfl ?_ | refine (Sd.step0 T.fr).la5 rfl ?_ | refine (Sd.step0 T.fr).la6 rfl ?_ | refine (Sd.step0 T.fr).la7 rfl ?_ | refine (Sd.step0 T.fr).ld0 rfl rfl ?_ | refine (Sd.step0 T.fr).ld1 rfl rfl ?_ | refine (Sd.step0 T.fr).ld2 rfl rfl ?_ | refine (Sd.step0 T.fr).ld3 rfl rfl ?_ | refine (Sd.step0 T.fr).ld4 rfl rfl ?_ | refine (Sd.step0 T.fr).ld5 rfl rfl ?_ | refine (Sd.step0 T.fr).ld6 rfl rfl ?_ | refine (Sd.step0 T.fr).ld7 rfl rfl ?_ | refine ⟨by decide, ?_⟩ | refine ⟨hkeep _ T.fr, ?_⟩); try dsimp only))
    refine T.ab1 T.in0 (by omega) fun a7 c7 w7 T f7 => ?_
    (repeat ((first | refine ⟨hD _ (by first | exact Sd.bl0 | exact Sd.bl1 | exact Sd.bl2 | exact Sd.bl3 | exact Sd.bl4 | exact Sd.bl5 | exact Sd.bl6 | exact Sd.bl7), ?_⟩ | refine (Sd.step0 T.fr).la0 rfl ?_ | refine (Sd.step0 T.fr).la1 rfl ?_ | refine (Sd.step0 T.fr).la2 rfl ?_ | refine (Sd.step0 T.fr).la3 rfl ?_ | refine (Sd.step0 T.fr).la4 rfl ?_ | refine (Sd.step0 T.fr).la5 rfl ?_ | refine (Sd.step0 T.fr).la6 rfl ?_ | refine (Sd.step0 T.fr).la7 rfl ?_ | refine (Sd.step0 T.fr).ld0 rfl rfl ?_ | refine (Sd.step0 T.fr).ld1 rfl rfl ?_ | refine (Sd.step0 T.fr).ld2 rfl rfl ?_ | refine (Sd.step0 T.fr).ld3 rfl rfl ?_ | refine (Sd.step0 T.fr).ld4 rfl rfl ?_ | refine (Sd.step0 T.fr).ld5 rfl rfl ?_ | refine (Sd.step0 T.fr).ld6 rfl rfl ?_ | refine (Sd.step0 T.fr).ld7 rfl rfl ?_ | refine ⟨by decide, ?_⟩ | refine ⟨hkeep _ T.fr, ?_⟩); try dsimp only))
    have R := (T.tail).out
    have hq : [] ++ List.replicate g.s.toNat 255 ++ endL h ts = mkL g h xs ts := by unfold mkL payL; rw [if_pos (by omega)]; rfl
    rw [hq] at R
    exact R.after Sd.ext
  · refine S.reg fun D hD hkeep Sd T => ?_
    (repeat ((first | refine ⟨hD _ (by first | exact Sd.bl0 | exact Sd.bl1 | exact Sd.bl2 | exact Sd.bl3 | exact Sd.bl4 | exact Sd.bl5 | exact Sd.bl6 | exact Sd.bl7), ?_⟩ | refine (Sd.step0 T.fr).la0 rfl ?_ | refine (Sd.step0 T.fr).la1 rfl ?_ | refine (Sd.step0 T.fr).la2 rfl ?_ | refine (Sd.step0 T.fr).la3 rfl ?_ | refine (Sd.step0 T.fr).la4 rfl ?_ | refine (Sd.step0 T.fr).la5 rfl ?_ | refine (Sd.step0 T.fr).la6 rfl ?_ | refine (Sd.step0 T.fr).la7 rfl ?_ | refine (Sd.step0 T.fr).ld0 rfl rfl ?_ | refine (Sd.step0 T.fr).ld1 rfl rfl ?_ | refine (Sd.step0 T.fr).ld2 rfl rfl ?_ | refine (Sd.step0 T.fr).ld3 rfl rfl ?_ | refine (Sd.step0 T.fr).ld4 rfl rfl ?_ | refine (Sd.step0 T.fr).ld5 rfl rfl ?_ | refine (Sd.step0 T.fr).ld6 rfl rfl ?_ | refine (Sd.step0 T.fr).ld7 rfl rfl ?_ | refine ⟨by decide, ?_⟩ | refine ⟨hkeep _ T.fr, ?_⟩); try dsimp only))
    refine T.newB fun b5 w5 T f _ => ?_
    (repeat ((first | refine ⟨hD _ (by first | exact Sd.bl0 | exact Sd.bl1 | exact Sd.bl2 | exact Sd.bl3 | exact Sd.bl4 | exact Sd.bl5 | exact Sd.bl6 | exact Sd.bl7), ?_⟩ | refine (Sd.step0 T.fr).la0 rfl ?_ | refine (Sd.step0 T.fr).la1 rfl ?_ | refine (Sd.step0 T.fr).la2 rfl ?_ | refine (Sd.step0 T.fr).la3 rfl ?_ | refine (Sd.step0 T.fr).la4 rfl ?_ | refine (Sd.step0 T.fr).la5 rfl ?_ | refine (Sd.step0 T.fr).la6 rfl ?_ | refine (Sd.step0 T.fr).la7 rfl ?_ | refine (Sd.step0 T.fr).ld0 rfl rfl ?_ | refine (Sd.step0 T.fr).ld1 rfl rfl ?_ | refine (Sd.step0 T.fr).ld2 rfl rfl ?_ | refine (Sd.step0 T.fr).ld3 rfl rfl ?_ | refine (Sd.step0 T.fr).ld4 rfl rfl ?_ | refine (Sd.step0 T.fr).ld5 rfl rfl ?_ | refine (Sd.step0 T.fr).ld6 rfl rfl ?_ | refine (Sd.step0 T.fr).ld7 rfl rfl ?_ | refine ⟨by decide, ?_⟩ | refine ⟨hkeep _ T.fr, ?_⟩); try dsimp only))
    have T := T.asOwn (sz := 1) (n := 0) rfl (by omega) oneAll.nil
    refine T.ab0 (xs := []) (hx.ext (Sd.ext.trans T.ext)) (by omega) fun a5 c5 w5 T f5 => ?_
    (repeat ((first | refine ⟨hD _ (by first | exact Sd.bl0 | exact Sd.bl1 | exact Sd.bl2 | exact Sd.bl3 | exact Sd.bl4 | exact Sd.bl5 | exact Sd.bl6 | exact Sd.bl7), ?_⟩ | refine (Sd.step0 T.fr).la0 rfl ?_ | refine (Sd.step0 T.fr).la1 rfl ?_ | refine (Sd.step0 T.fr).la2 rfl ?_ | refine (Sd.step0 T.fr).la3 rfl ?_ | refine (Sd.step0 T.fr).la4 rfl ?_ | refine (Sd.step0 T.fr).la5 rfl ?_ | refine (Sd.step0 T.fr).la6 rfl ?_ | refine (Sd.step0 T.fr).la7 rfl ?_ | refine (Sd.step0 T.fr).ld0 rfl rfl ?_ | refine (Sd.step0 T.fr).ld1 rfl rfl ?_ | refine (Sd.step0 T.fr).ld2 rfl rfl ?_ | refine (Sd.step0 T.fr).ld3 rfl rfl ?_ | refine (Sd.step0 T.fr).ld4 rfl rfl ?_ | refine (Sd.step0 T.fr).ld5 rfl rfl ?_ | refine (Sd.step0 T.fr).ld6 rfl rfl ?_ | refine (Sd.step0 T.fr).ld7 rfl rfl ?_ | refine ⟨by decide, ?_⟩ | refine ⟨hkeep _ T.fr, ?_⟩); try dsimp only))
    refine (rEnd_c hg (ht.ext (Sd.ext.trans T.ext)) hE).mono ?_
    rintro ⟨⟨ea, en, ec⟩, ⟨⟩⟩ w6 h6
    have l4 := h6.ints.len
    dsimp only at h6 l4 ⊢
    have T := T.res h6
    dsimp only at T
    (repeat ((first | refine ⟨hD _ (by first | exact Sd.bl0 | exact Sd.bl1 | exact Sd.bl2 | exact Sd.bl3 | exact Sd.bl4 | exact Sd.bl5 | exact Sd.bl6 | exact Sd.bl7), ?_⟩ | refine (Sd.step0 T.fr).la0 rfl ?_ | refine (Sd.step0 T.fr).la1 rfl ?_ | refine (Sd.step0 T.fr).la2 rfl ?_ | refine (Sd.step0 T.fr).la3 rfl ?_ | refine (Sd.step0 T.fr).la4 rfl ?_ | refine (Sd.step0 T.fr).la5 rfl ?_ | refine (Sd.step0 T.fr).la6 rfl ?_ | refine (Sd.step0 T.fr).la7 rfl ?_ | refine (Sd.step0 T.fr).ld0 rfl rfl ?_ | refine (Sd.step0 T.fr).ld1 rfl rfl ?_ | refine (Sd.step0 T.fr).ld2 rfl rfl ?_ | refine (Sd.step0 T.fr).ld3 rfl rfl ?_ | refine (Sd.step0 T.fr).ld4 rfl rfl ?_ | refine (Sd.step0 T.fr).ld5 rfl rfl ?_ | refine (Sd.step0 T.fr).ld6 rfl rfl ?_ | refine (Sd.step0 T.fr).ld7 rfl rfl ?_ | refine ⟨by decide, ?_⟩ | refine ⟨hkeep _ T.fr, ?_⟩); try dsimp only))
    refine T.ab1 T.in0 (by omega) fun a7 c7 w7 T f7 => ?_
    (repeat ((first | refine ⟨hD _ (by first | exact Sd.bl0 | exact Sd.bl1 | exact Sd.bl2 | exact Sd.bl3 | exact Sd.bl4 | exact Sd.bl5 | exact Sd.bl6 | exact Sd.bl7), ?_⟩ | refine (Sd.step0 T.fr).la0 rfl ?_ | refine (Sd.step0 T.fr).la1 rfl ?_ | refine (Sd.step0 T.fr).la2 rfl ?_ | refine (Sd.step0 T.fr).la3 rfl ?_ | refine (Sd.step0 T.fr).la4 rfl ?_ | refine (Sd.step0 T.fr).la5 rfl ?_ | refine (Sd.step0 T.fr).la6 rfl ?_ | refine (Sd.step0 T.fr).la7 rfl ?_ | refine (Sd.step0 T.fr).ld0 rfl rfl ?_ | refine (Sd.step0 T.fr).ld1 rfl rfl ?_ | refine (Sd.step0 T.fr).ld2 rfl rfl ?_ | refine (Sd.step0 T.fr).ld3 rfl rfl ?_ | refine (Sd.step0 T.fr).ld4 rfl rfl ?_ | refine (Sd.step0 T.fr).ld5 rfl rfl ?_ | refine (Sd.step0 T.fr).ld6 rfl rfl ?_ | refine (Sd.step0 T.fr).ld7 rfl rfl ?_ | refine ⟨by decide, ?_⟩ | refine ⟨hkeep _ T.fr, ?_⟩); try dsimp only))
    have R := (T.tail).out
    have hq : [] ++ xs ++ endL h ts = mkL g h xs ts := by unfold mkL payL; rw [if_neg (by omega)]; rfl
    rw [hq] at R
    exact R.after Sd.ext
end Go.Proofs.YtlpeoaphdmfjdaaGreat.Vc
/-! The contracts of layer 15 (page): what bytes tell. -/
namespace Go.Proofs.YtlpeoaphdmfjdaaGreat.Vc
open Go Go.Eng Go.RowKit
abbrev PgT : Type := Int × Int × Int × Int × Int × Int × SlV × SlV × Bool × Unit
abbrev zPg : PgT := ((0 : Int), (0 : Int), (0 : Int), (0 : Int), (0 : Int), (0 : Int), (⟨none, 0, 0⟩ : SlV), (⟨none, 0, 0⟩ : SlV), false, ())
abbrev pgT (h : Hd) (s t : SlV) (d : Bool) : PgT := (h.k, h.n, h.c, h.l, h.e, h.t, s, t, d, ())
def endP (g : Geo) (xs : List Int) : List Int := xs.drop g.s.toNat
def lenP (g : Geo) (xs : List Int) : Prop := Right g ∧ (xs.length : Int) = g.s + 88
instance (g : Geo) (xs : List Int) : Decidable (lenP g xs) := by unfold lenP; infer_instance
abbrev pays (g : Geo) (xs : List Int) : List Int := xs.take g.s.toNat
abbrev tags (g : Geo) (xs : List Int) : List Int := part (endP g xs) 48 80
def PgIs (w w' : World) (g : Geo) (xs : List Int) (q : PgT) : Prop := ∃ s t : SlV, q = pgT (hdOf (endP g xs)) s t (comm (endP g xs)) ∧ s.n = g.s.toNat ∧ t.n = 32 ∧ Sep NoB w w' [OwnA 5 1 s.a s.n s.c ((pays g xs).map (Value.int .u8)), OwnA 5 1 t.a t.n t.c ((tags g xs).map (Value.int .u8))]
theorem cut_c {w0 w : World} {g : Geo} {a : Option Addr} {n c : Nat} {xs : List Int} (hx : Ints w0 .u8 a n c xs) (hl : lenP g xs) :
    CallV Tryz.prog 175 #[g.val, .slice a n c] w [.agg [.sl, .sl]] fun r w' => Ext w w' ∧ Ints w0 .u8 r.1.1.a r.1.1.n r.1.1.c (pays g xs) ∧ Ints w0 .u8 r.1.2.1.a r.1.2.1.n r.1.2.1.c (endP g xs) := by
  apply page_cut.vc
  unfold page_cut.P
  have hs := hl.1.sec
  have hn := hl.2
  have lx := hx.len
  have hc := hx.cap
  have S := Sep.start NoB w
  refine S.newB fun b1 w1 S f _ => ?_
  refine S.newB fun b3 w2 S f _ => ?_
  have hb := S.ne 0 1 (by omega) rfl rfl
  refine S.regX (fun k => k = b3) fun D hD hkeep S _ => ?_
  have D1 := hD b1 S.bl1 (fun e => hb e.symm)
  refine ⟨D1, S.ld1 rfl rfl ⟨⟨by omega, by omega⟩, ?_⟩⟩
  intro a7 ha7
  refine ⟨D1, S.ld1 rfl rfl ⟨⟨by omega, by omega⟩, ?_⟩⟩
  intro a9 ha9
  dsimp only
  refine S.st0 (by rfl) fun w3 S f3 => ⟨hkeep _ f3, S.la0 rfl ?_⟩
  have i7 := hx.sub (l := 0) (hh := g.s.toNat) (m := c) (by omega) (by omega) (by omega) ha7
  have i9 := hx.sub (l := g.s.toNat) (hh := n) (m := c) (by omega) (by omega) (by omega) ha9
  rw [List.drop_zero, Nat.sub_zero] at i7
  rw [List.take_of_length_le (by rw [List.length_drop]; omega)] at i9
  exact ⟨S.ext, i7, i9⟩
theorem PRead_c {w : World} {g : Geo} {a : Option Addr} {n c : Nat} {xs : List Int} (hx : Ints w .u8 a n c xs) (bx : Byt xs) :
    CallV Tryz.prog 162 #[g.val, .slice a n c] w [.agg [.int .i64, .int .i64, .int .i64, .int .u32, .int .u64, .int .u64, .sl, .sl, .bool], .one (.int .i64)] fun r w' =>
      Ext w w' ∧ (¬ lenP g xs → r.1 = zPg ∧ r.2.1 = (2 : Int)) ∧ (lenP g xs → ¬ okR (endP g xs) → r.1 = zPg ∧ r.2.1 = (1 : Int)) ∧ (lenP g xs → okR (endP g xs) → r.2.1 = (0 : Int) ∧ PgIs w w' g xs r.1) := by
  apply page_Read.vc
  unfold page_Read.P
  have lx := hx.len
  have S := Sep.start NoB w
  refine S.newB fun b1 w1 S f _ => ?_
  refine S.newB fun b3 w2 S f _ => ?_
  (repeat ((first | refine S.newB fun _ _ S f _ => ?_ | refine S.la0 rfl ?_ | refine S.la1 rfl ?_ | refine S.la2 rfl ?_ | refine S.la3 rfl ?_ | refine S.la4 rfl ?_ | refine S.la5 rfl ?_ | refine S.ld0 rfl rfl ?_ | refine S.ld1 rfl rfl ?_ | refine S.ld2 rfl rfl ?_ | refine S.ld3 rfl rfl ?_ | refine S.ld4 rfl rfl ?_ | refine S.ld5 rfl rfl ?_ | refine S.st0 (by rfl) fun _ S f => ?_ | refine S.st1 (by rfl) fun _ S f => ?_ | refine S.st2 (by rfl) fun _ S f => ?_ | refine S.st3 (by rfl) fun _ S f => ?_ | refine S.st4 (by rfl) fun _ S f => ?_ | refine S.st5 (by rfl) fun _ S f => ?_ | refine S.su0 (by rfl) fun _ S f => ?_ | refine S.su1 (by rfl) fun _ S f => ?_ | refine S.su2 (by rfl) fun _ S f => ?_ | refine S.su3 (by rfl) fun _ S f => ?_ | refine S.su4 (by rfl) fun _ S f => ?_ | refine S.su5 (by rfl) fun _ S f => ?_ | refine ⟨by decide, ?_⟩); try dsimp only [List.set_cons_zero, List.set_cons_succ, cond_true, cond_false, Bool.not_true, Bool.not_false]))
  refine (Check_c (g := g)).mono ?_
  rintro ⟨(r : Int), ⟨⟩⟩ w2 ⟨h2, e2⟩
  dsimp only at h2 ⊢
  have S := S.stepE e2
  subst h2
  by_cases hR : Right g
  case neg =>
    refine cond_t (by unfold chkE; rw [if_neg hR]; rfl) ?_
    (repeat ((first | refine S.newB fun _ _ S f _ => ?_ | refine S.la0 rfl ?_ | refine S.la1 rfl ?_ | refine S.la2 rfl ?_ | refine S.la3 rfl ?_ | refine S.la4 rfl ?_ | refine S.la5 rfl ?_ | refine S.ld0 rfl rfl ?_ | refine S.ld1 rfl rfl ?_ | refine S.ld2 rfl rfl ?_ | refine S.ld3 rfl rfl ?_ | refine S.ld4 rfl rfl ?_ | refine S.ld5 rfl rfl ?_ | refine S.st0 (by rfl) fun _ S f => ?_ | refine S.st1 (by rfl) fun _ S f => ?_ | refine S.st2 (by rfl) fun _ S f => ?_ | refine S.st3 (by rfl) fun _ S f => ?_ | refine S.st4 (by rfl) fun _ S f => ?_ | refine S.st5 (by rfl) fun _ S f => ?_ | refine S.su0 (by rfl) fun _ S f => ?_ | refine S.su1 (by rfl) fun _ S f => ?_ | refine S.su2 (by rfl) fun _ S f => ?_ | refine S.su3 (by rfl) fun _ S f => ?_ | refine S.su4 (by rfl) fun _ S f => ?_ | refine S.su5 (by rfl) fun _ S f => ?_ | refine ⟨by decide, ?_⟩); try dsimp only [List.set_cons_zero, List.set_cons_succ, cond_true, cond_false, Bool.not_true, Bool.not_false]))
    exact ⟨S.ext, fun _ => ⟨rfl, rfl⟩, fun h => absurd h.1 hR, fun h => absurd h.1 hR⟩
  refine cond_f (by unfold chkE; rw [if_pos hR]; rfl) ?_
  have hs := hR.sec
  (repeat ((first | refine S.newB fun _ _ S f _ => ?_ | refine S.la0 rfl ?_ | refine S.la1 rfl ?_ | refine S.la2 rfl ?_ | refine S.la3 rfl ?_ | refine S.la4 rfl ?_ | refine S.la5 rfl ?_ | refine S.ld0 rfl rfl ?_ | refine S.ld1 rfl rfl ?_ | refine S.ld2 rfl rfl ?_ | refine S.ld3 rfl rfl ?_ | refine S.ld4 rfl rfl ?_ | refine S.ld5 rfl rfl ?_ | refine S.st0 (by rfl) fun _ S f => ?_ | refine S.st1 (by rfl) fun _ S f => ?_ | refine S.st2 (by rfl) fun _ S f => ?_ | refine S.st3 (by rfl) fun _ S f => ?_ | refine S.st4 (by rfl) fun _ S f => ?_ | refine S.st5 (by rfl) fun _ S f => ?_ | refine S.su0 (by rfl) fun _ S f => ?_ | refine S.su1 (by rfl) fun _ S f => ?_ | refine S.su2 (by rfl) fun _ S f => ?_ | refine S.su3 (by rfl) fun _ S f => ?_ | refine S.su4 (by rfl) fun _ S f => ?_ | refine S.su5 (by rfl) fun _ S f => ?_ | refine ⟨by decide, ?_⟩); try dsimp only [List.set_cons_zero, List.set_cons_succ, cond_true, cond_false, Bool.not_true, Bool.not_false]))
  refine (PageSize_c (g := g)).mono ?_
  rintro ⟨(r3 : Int), ⟨⟩⟩ w3 ⟨h3, e3⟩
  dsimp only at h3 ⊢
  have S := S.stepE e3
  rw [if_pos hR] at h3
  subst h3
  refine cond_ne (fun hne => ?_) (fun heq => ?_)
  · have hn : ¬ lenP g xs := fun h => hne (by have := h.2; omega)
    (repeat ((first | refine S.newB fun _ _ S f _ => ?_ | refine S.la0 rfl ?_ | refine S.la1 rfl ?_ | refine S.la2 rfl ?_ | refine S.la3 rfl ?_ | refine S.la4 rfl ?_ | refine S.la5 rfl ?_ | refine S.ld0 rfl rfl ?_ | refine S.ld1 rfl rfl ?_ | refine S.ld2 rfl rfl ?_ | refine S.ld3 rfl rfl ?_ | refine S.ld4 rfl rfl ?_ | refine S.ld5 rfl rfl ?_ | refine S.st0 (by rfl) fun _ S f => ?_ | refine S.st1 (by rfl) fun _ S f => ?_ | refine S.st2 (by rfl) fun _ S f => ?_ | refine S.st3 (by rfl) fun _ S f => ?_ | refine S.st4 (by rfl) fun _ S f => ?_ | refine S.st5 (by rfl) fun _ S f => ?_ | refine S.su0 (by rfl) fun _ S f => ?_ | refine S.su1 (by rfl) fun _ S f => ?_ | refine S.su2 (by rfl) fun _ S f => ?_ | refine S.su3 (by rfl) fun _ S f => ?_ | refine S.su4 (by rfl) fun _ S f => ?_ | refine S.su5 (by rfl) fun _ S f => ?_ | refine ⟨by decide, ?_⟩); try dsimp only [List.set_cons_zero, List.set_cons_succ, cond_true, cond_false, Bool.not_true, Bool.not_false]))
    exact ⟨S.ext, fun _ => ⟨rfl, rfl⟩, fun h => absurd h hn, fun h => absurd h hn⟩
  have hL : lenP g xs := ⟨hR, by omega⟩
  (repeat ((first | refine S.newB fun _ _ S f _ => ?_ | refine S.la0 rfl ?_ | refine S.la1 rfl ?_ | refine S.la2 rfl ?_ | refine S.la3 rfl ?_ | refine S.la4 rfl ?_ | refine S.la5 rfl ?_ | refine S.ld0 rfl rfl ?_ | refine S.ld1 rfl rfl ?_ | refine S.ld2 rfl rfl ?_ | refine S.ld3 rfl rfl ?_ | refine S.ld4 rfl rfl ?_ | refine S.ld5 rfl rfl ?_ | refine S.st0 (by rfl) fun _ S f => ?_ | refine S.st1 (by rfl) fun _ S f => ?_ | refine S.st2 (by rfl) fun _ S f => ?_ | refine S.st3 (by rfl) fun _ S f => ?_ | refine S.st4 (by rfl) fun _ S f => ?_ | refine S.st5 (by rfl) fun _ S f => ?_ | refine S.su0 (by rfl) fun _ S f => ?_ | refine S.su1 (by rfl) fun _ S f => ?_ | refine S.su2 (by rfl) fun _ S f => ?_ | refine S.su3 (by rfl) fun _ S f => ?_ | refine S.su4 (by rfl) fun _ S f => ?_ | refine S.su5 (by rfl) fun _ S f => ?_ | refine ⟨by decide, ?_⟩); try dsimp only [List.set_cons_zero, List.set_cons_succ, cond_true, cond_false, Bool.not_true, Bool.not_false]))
  refine (cut_c hx hL).mono ?_
  rintro ⟨⟨⟨pa, pn, pc⟩, ⟨ta, tn, tc⟩, ⟨⟩⟩, ⟨⟩⟩ w4 ⟨e4, ip, it⟩
  dsimp only at ip it ⊢
  have S := S.stepE e4
  have e4w := S.ext
  refine S.newB fun b5 w5 S f _ => ?_
  (repeat ((first | refine S.newB fun _ _ S f _ => ?_ | refine S.la0 rfl ?_ | refine S.la1 rfl ?_ | refine S.la2 rfl ?_ | refine S.la3 rfl ?_ | refine S.la4 rfl ?_ | refine S.la5 rfl ?_ | refine S.ld0 rfl rfl ?_ | refine S.ld1 rfl rfl ?_ | refine S.ld2 rfl rfl ?_ | refine S.ld3 rfl rfl ?_ | refine S.ld4 rfl rfl ?_ | refine S.ld5 rfl rfl ?_ | refine S.st0 (by rfl) fun _ S f => ?_ | refine S.st1 (by rfl) fun _ S f => ?_ | refine S.st2 (by rfl) fun _ S f => ?_ | refine S.st3 (by rfl) fun _ S f => ?_ | refine S.st4 (by rfl) fun _ S f => ?_ | refine S.st5 (by rfl) fun _ S f => ?_ | refine S.su0 (by rfl) fun _ S f => ?_ | refine S.su1 (by rfl) fun _ S f => ?_ | refine S.su2 (by rfl) fun _ S f => ?_ | refine S.su3 (by rfl) fun _ S f => ?_ | refine S.su4 (by rfl) fun _ S f => ?_ | refine S.su5 (by rfl) fun _ S f => ?_ | refine ⟨by decide, ?_⟩); try dsimp only [List.set_cons_zero, List.set_cons_succ, cond_true, cond_false, Bool.not_true, Bool.not_false]))
  have bt : Byt (endP g xs) := bx.drop _
  have le : (endP g xs).length = 88 := by unfold endP; rw [List.length_drop]; omega
  refine (Read_c (it.ext S.ext) bt).mono ?_
  rintro ⟨⟨(k1 : Int), (k2 : Int), (k3 : Int), (k4 : Int), (k5 : Int), (k6 : Int), ⟨⟩⟩, ⟨sa, sn, sc⟩, (e6 : Int), ⟨⟩⟩ w6 ⟨x6, -, hok, hno⟩
  dsimp only at hok hno ⊢
  by_cases hO : okR (endP g xs)
  case neg =>
    obtain ⟨h1, -, h3⟩ := hno le hO
    have S := S.stepE x6
    subst h3
    (repeat ((first | refine S.newB fun _ _ S f _ => ?_ | refine S.la0 rfl ?_ | refine S.la1 rfl ?_ | refine S.la2 rfl ?_ | refine S.la3 rfl ?_ | refine S.la4 rfl ?_ | refine S.la5 rfl ?_ | refine S.ld0 rfl rfl ?_ | refine S.ld1 rfl rfl ?_ | refine S.ld2 rfl rfl ?_ | refine S.ld3 rfl rfl ?_ | refine S.ld4 rfl rfl ?_ | refine S.ld5 rfl rfl ?_ | refine S.st0 (by rfl) fun _ S f => ?_ | refine S.st1 (by rfl) fun _ S f => ?_ | refine S.st2 (by rfl) fun _ S f => ?_ | refine S.st3 (by rfl) fun _ S f => ?_ | refine S.st4 (by rfl) fun _ S f => ?_ | refine S.st5 (by rfl) fun _ S f => ?_ | refine S.su0 (by rfl) fun _ S f => ?_ | refine S.su1 (by rfl) fun _ S f => ?_ | refine S.su2 (by rfl) fun _ S f => ?_ | refine S.su3 (by rfl) fun _ S f => ?_ | refine S.su4 (by rfl) fun _ S f => ?_ | refine S.su5 (by rfl) fun _ S f => ?_ | refine ⟨by decide, ?_⟩); try dsimp only [List.set_cons_zero, List.set_cons_succ, cond_true, cond_false, Bool.not_true, Bool.not_false]))
    exact ⟨S.ext, fun h => absurd hL h, fun _ _ => ⟨rfl, rfl⟩, fun _ h => absurd h hO⟩
  obtain ⟨h1, h2, h3⟩ := hok le hO
  subst h3
  have h1 : (k1, k2, k3, k4, k5, k6, ()) = (hdOf (endP g xs)).tup := h1
  simp only [Prod.mk.injEq, and_true] at h1
  obtain ⟨rfl, rfl, rfl, rfl, rfl, rfl⟩ := h1
  have l2 := h2.ints.len
  rw [part_length (by omega) (by omega)] at l2
  have S := S.res h2
  dsimp only at S l2
  subst l2
  (repeat ((first | refine S.newB fun _ _ S f _ => ?_ | refine S.la0 rfl ?_ | refine S.la1 rfl ?_ | refine S.la2 rfl ?_ | refine S.la3 rfl ?_ | refine S.la4 rfl ?_ | refine S.la5 rfl ?_ | refine S.ld0 rfl rfl ?_ | refine S.ld1 rfl rfl ?_ | refine S.ld2 rfl rfl ?_ | refine S.ld3 rfl rfl ?_ | refine S.ld4 rfl rfl ?_ | refine S.ld5 rfl rfl ?_ | refine S.st0 (by rfl) fun _ S f => ?_ | refine S.st1 (by rfl) fun _ S f => ?_ | refine S.st2 (by rfl) fun _ S f => ?_ | refine S.st3 (by rfl) fun _ S f => ?_ | refine S.st4 (by rfl) fun _ S f => ?_ | refine S.st5 (by rfl) fun _ S f => ?_ | refine S.su0 (by rfl) fun _ S f => ?_ | refine S.su1 (by rfl) fun _ S f => ?_ | refine S.su2 (by rfl) fun _ S f => ?_ | refine S.su3 (by rfl) fun _ S f => ?_ | refine S.su4 (by rfl) fun _ S f => ?_ | refine S.su5 (by rfl) fun _ S f => ?_ | refine ⟨by decide, ?_⟩); try dsimp only [List.set_cons_zero, List.set_cons_succ, cond_true, cond_false, Bool.not_true, Bool.not_false]))
  have hne1 := S.ne 0 3 (by omega) rfl rfl
  have hne2 := S.ne 2 3 (by omega) rfl rfl
  refine S.regX (fun k => k = b3) fun D hD hkeep Sd T => ?_
  refine ⟨hD _ Sd.bl0 hne1, Sd.la0 rfl ⟨by decide, hD _ Sd.bl2 hne2, Sd.ld2 rfl rfl ⟨by decide, hD _ Sd.bl2 hne2, Sd.ld2 rfl rfl ?_⟩⟩⟩
  dsimp only
  refine T.newB fun b7 w7 T f _ => ⟨hkeep _ T.fr.any, ?_⟩
  have T := T.asOwn (sz := 1) (n := 0) rfl (by omega) oneAll.nil
  have lp := ip.len
  have lp' : (pays g xs).length = g.s.toNat := by rw [List.length_take]; have := hL.2; omega
  refine T.ab0 (xs := []) (ip.ext (Sd.ext.trans T.ext)) (by omega) fun a8 c8 w8 T f8 => ⟨hkeep _ T.fr.any, ?_⟩
  refine (Committed_c (it.ext (Sd.ext.trans T.ext)) bt).mono ?_
  rintro ⟨(r9 : Bool), ⟨⟩⟩ w9 ⟨h9, x9⟩
  dsimp only at h9 ⊢
  subst h9
  have T := T.stepE x9
  refine ⟨hkeep _ T.fr.any, ?_⟩
  have S := Sd.frame0 T
  dsimp only [List.cons_append, List.nil_append] at S
  refine S.st4 (by rfl) fun w10 S f10 => ⟨hkeep _ (T.fr.any.trans f10), S.la4 rfl ?_⟩
  refine ⟨S.ext, fun h => absurd hL h, fun _ h => absurd hO h, fun _ _ => ⟨rfl, ⟨a8, 0 + pn, c8⟩, ⟨sa, 80 - 48, sc⟩, rfl, by show 0 + pn = _; omega, rfl, ?_⟩⟩
  exact S.sel2 0 1 rfl rfl
end Go.Proofs.YtlpeoaphdmfjdaaGreat.Vc
/-! The contracts of layer 15 (page): the document's, and small ones. -/
namespace Go.Proofs.YtlpeoaphdmfjdaaGreat.Vc
open Go Go.Eng Go.RowKit
abbrev PgU : Type := Int × Int × Int × Int × Int × Int × SlV × SlV × Bool × Bool × Unit
abbrev zPu : PgU := ((0 : Int), (0 : Int), (0 : Int), (0 : Int), (0 : Int), (0 : Int), (⟨none, 0, 0⟩ : SlV), (⟨none, 0, 0⟩ : SlV), false, false, ())
abbrev pgU (h : Hd) (s t : SlV) (d : Bool) : PgU := (h.k, h.n, h.c, h.l, h.e, h.t, s, t, d, true, ())
theorem rPRead_c {w0 w : World} {g : Geo} {a : Option Addr} {n c : Nat} {xs : List Int} (hx : Ints w0 .u8 a n c xs) (e0 : Ext w0 w) (bx : Byt xs) (hL : lenP g xs) :
    CallV Tryz.prog 51 #[g.val, .slice a n c] w [.agg [.int .i64, .int .i64, .int .i64, .int .u32, .int .u64, .int .u64, .sl, .sl, .bool, .bool]] fun r w' =>
      Ext w w' ∧ (¬ okR (endP g xs) → r.1 = zPu) ∧ (okR (endP g xs) → ∃ s t : SlV, r.1 = pgU (hdOf (endP g xs)) s t (comm (endP g xs)) ∧ Ints w0 .u8 s.a s.n s.c (pays g xs) ∧ Ints w0 .u8 t.a t.n t.c (tags g xs)) := by
  apply ref15_Read.vc
  unfold ref15_Read.P
  have lx := hx.len
  have hc := hx.cap
  have hs := hL.1.sec
  have hl := hL.2
  have S := Sep.start NoB w
  refine S.newB fun b1 w1 S f _ => ?_
  refine S.newB fun b3 w2 S f _ => ?_
  (repeat ((first | refine S.newB fun _ _ S f _ => ?_ | refine S.la0 rfl ?_ | refine S.la1 rfl ?_ | refine S.la2 rfl ?_ | refine S.la3 rfl ?_ | refine S.la4 rfl ?_ | refine S.la5 rfl ?_ | refine S.ld0 rfl rfl ?_ | refine S.ld1 rfl rfl ?_ | refine S.ld2 rfl rfl ?_ | refine S.ld3 rfl rfl ?_ | refine S.ld4 rfl rfl ?_ | refine S.ld5 rfl rfl ?_ | refine S.st0 (by rfl) fun _ S f => ?_ | refine S.st1 (by rfl) fun _ S f => ?_ | refine S.st2 (by rfl) fun _ S f => ?_ | refine S.st3 (by rfl) fun _ S f => ?_ | refine S.st4 (by rfl) fun _ S f => ?_ | refine S.st5 (by rfl) fun _ S f => ?_ | refine S.su0 (by rfl) fun _ S f => ?_ | refine S.su1 (by rfl) fun _ S f => ?_ | refine S.su2 (by rfl) fun _ S f => ?_ | refine S.su3 (by rfl) fun _ S f => ?_ | refine S.su4 (by rfl) fun _ S f => ?_ | refine S.su5 (by rfl) fun _ S f => ?_ | refine ⟨by decide, ?_⟩); try dsimp only [List.set_cons_zero, List.set_cons_succ, cond_true, cond_false, Bool.not_true, Bool.not_false]))
  refine ⟨⟨by omega, by omega⟩, ?_⟩
  intro a6 ha6
  have i6 := hx.sub (l := g.s.toNat) (hh := n) (m := c) (by omega) (by omega) (by omega) ha6
  rw [List.take_of_length_le (by rw [List.length_drop]; omega)] at i6
  have i6 : Ints w0 .u8 a6 (n - g.s.toNat) (c - g.s.toNat) (endP g xs) := i6
  have bt : Byt (endP g xs) := bx.drop _
  have le : (endP g xs).length = 88 := by unfold endP; rw [List.length_drop]; omega
  refine (rRead_c (i6.ext (e0.trans S.ext)) bt (by omega)).mono ?_
  rintro ⟨⟨(k1 : Int), (k2 : Int), (k3 : Int), (k4 : Int), (k5 : Int), (k6 : Int), ⟨⟩⟩, (o : Bool), ⟨⟩⟩ w3 ⟨x3, hok, hno⟩
  dsimp only at hok hno ⊢
  have S := S.stepE x3
  by_cases hO : okR (endP g xs)
  case neg =>
    obtain ⟨-, h2⟩ := hno hO
    subst h2
    (repeat ((first | refine S.newB fun _ _ S f _ => ?_ | refine S.la0 rfl ?_ | refine S.la1 rfl ?_ | refine S.la2 rfl ?_ | refine S.la3 rfl ?_ | refine S.la4 rfl ?_ | refine S.la5 rfl ?_ | refine S.ld0 rfl rfl ?_ | refine S.ld1 rfl rfl ?_ | refine S.ld2 rfl rfl ?_ | refine S.ld3 rfl rfl ?_ | refine S.ld4 rfl rfl ?_ | refine S.ld5 rfl rfl ?_ | refine S.st0 (by rfl) fun _ S f => ?_ | refine S.st1 (by rfl) fun _ S f => ?_ | refine S.st2 (by rfl) fun _ S f => ?_ | refine S.st3 (by rfl) fun _ S f => ?_ | refine S.st4 (by rfl) fun _ S f => ?_ | refine S.st5 (by rfl) fun _ S f => ?_ | refine S.su0 (by rfl) fun _ S f => ?_ | refine S.su1 (by rfl) fun _ S f => ?_ | refine S.su2 (by rfl) fun _ S f => ?_ | refine S.su3 (by rfl) fun _ S f => ?_ | refine S.su4 (by rfl) fun _ S f => ?_ | refine S.su5 (by rfl) fun _ S f => ?_ | refine ⟨by decide, ?_⟩); try dsimp only [List.set_cons_zero, List.set_cons_succ, cond_true, cond_false, Bool.not_true, Bool.not_false]))
    exact ⟨S.ext, fun _ => rfl, fun h => absurd h hO⟩
  obtain ⟨h1, h2⟩ := hok hO
  subst h2
  have h1 : (k1, k2, k3, k4, k5, k6, ()) = (hdOf (endP g xs)).tup := h1
  simp only [Prod.mk.injEq, and_true] at h1
  obtain ⟨rfl, rfl, rfl, rfl, rfl, rfl⟩ := h1
  (repeat ((first | refine S.newB fun _ _ S f _ => ?_ | refine S.la0 rfl ?_ | refine S.la1 rfl ?_ | refine S.la2 rfl ?_ | refine S.la3 rfl ?_ | refine S.la4 rfl ?_ | refine S.la5 rfl ?_ | refine S.ld0 rfl rfl ?_ | refine S.ld1 rfl rfl ?_ | refine S.ld2 rfl rfl ?_ | refine S.ld3 rfl rfl ?_ | refine S.ld4 rfl rfl ?_ | refine S.ld5 rfl rfl ?_ | refine S.st0 (by rfl) fun _ S f => ?_ | refine S.st1 (by rfl) fun _ S f => ?_ | refine S.st2 (by rfl) fun _ S f => ?_ | refine S.st3 (by rfl) fun _ S f => ?_ | refine S.st4 (by rfl) fun _ S f => ?_ | refine S.st5 (by rfl) fun _ S f => ?_ | refine S.su0 (by rfl) fun _ S f => ?_ | refine S.su1 (by rfl) fun _ S f => ?_ | refine S.su2 (by rfl) fun _ S f => ?_ | refine S.su3 (by rfl) fun _ S f => ?_ | refine S.su4 (by rfl) fun _ S f => ?_ | refine S.su5 (by rfl) fun _ S f => ?_ | refine ⟨by decide, ?_⟩); try dsimp only [List.set_cons_zero, List.set_cons_succ, cond_true, cond_false, Bool.not_true, Bool.not_false]))
  have hne0 := S.ne 0 1 (by omega) rfl rfl
  have hne1 := S.ne 1 2 (by omega) rfl rfl
  refine S.regX (fun k => k = b3) fun D hD hkeep Sd T => ?_
  refine ⟨hD _ Sd.bl0 hne0, Sd.la0 rfl ⟨hD _ Sd.bl2 (fun e => hne1 e.symm), Sd.ld2 rfl rfl ⟨⟨by omega, by omega⟩, ?_⟩⟩⟩
  intro a17 ha17
  refine ⟨⟨by omega, by omega, by omega⟩, ?_⟩
  intro a18 ha18
  have i17 := hx.sub (l := 0) (hh := g.s.toNat) (m := c) (by omega) (by omega) (by omega) ha17
  rw [List.drop_zero, Nat.sub_zero] at i17
  have i18 := sub_part i6 (i := 48) (j := 80) (m := c - g.s.toNat) (by omega) (by omega) (by omega) ha18
  refine (rCommitted_c (i6.ext (e0.trans Sd.ext)) (by omega)).mono ?_
  rintro ⟨(r9 : Bool), ⟨⟩⟩ w9 ⟨h9, x9⟩
  dsimp only at h9 ⊢
  subst h9
  have S := Sd.stepE x9
  refine ⟨hkeep _ (Fr.of x9).any, ?_⟩
  refine S.st1 (by rfl) fun w10 S f10 => ⟨hkeep _ ((Fr.of x9).any.trans f10), S.la1 rfl ?_⟩
  exact ⟨S.ext, fun h => absurd hO h, fun _ => ⟨_, _, rfl, i17, i18⟩⟩
theorem mkL_byt {g : Geo} {h : Hd} {xs ts : List Int} (hg : h.rng) (hR : HRight h) (bx : Byt xs) (bt : Byt ts) : Byt (mkL g h xs ts) := by
  unfold mkL payL
  refine Byt.append ?_ (endL_byt hg hR bt)
  split
  · exact Byt.replicate (by omega) (by omega) _
  · exact bx
end Go.Proofs.YtlpeoaphdmfjdaaGreat.Vc
/-! The laws PageMakes and PageBlank of layer 15: each call gives true, and what it read stays. -/
namespace Go.Proofs.YtlpeoaphdmfjdaaGreat.Vc
open Go Go.Eng Go.RowKit
theorem blank_ok {n : Nat} (h : 0 < n) : ¬ okR (List.replicate n 255) := fun hh => by
  have := hh.1.2
  rw [getD_get (by simpa using h), List.getElem_replicate] at this
  omega
theorem endP_rep {g : Geo} {n : Nat} (x : Int) : endP g (List.replicate n x) = List.replicate (n - g.s.toNat) x := by unfold endP; rw [List.drop_replicate]
end Go.Proofs.YtlpeoaphdmfjdaaGreat.Vc
/-! The law PageReads of layer 15: each call gives true, and what it read stays. -/
namespace Go.Proofs.YtlpeoaphdmfjdaaGreat.Vc
open Go Go.Eng Go.RowKit
structure PgS where
  h : Hd
  d : Bool
  x : List Int
  t : List Int
abbrev zS : PgS := ⟨zeroH, false, [], []⟩
abbrev fS (g : Geo) (xs : List Int) : PgS := ⟨hdOf (endP g xs), comm (endP g xs), pays g xs, tags g xs⟩
def pSpec (g : Geo) (xs : List Int) : PgS := if lenP g xs ∧ okR (endP g xs) then fS g xs else zS
def rdE (g : Geo) (xs : List Int) : Int := if lenP g xs then (if okR (endP g xs) then 0 else 1) else 2
def PgN (w : World) (p : PgS) (o : Bool) (q : PgU) : Prop := ∃ s t : SlV, q = (p.h.k, p.h.n, p.h.c, p.h.l, p.h.e, p.h.t, s, t, p.d, o, ()) ∧ Ints w .u8 s.a s.n s.c p.x ∧ Ints w .u8 t.a t.n t.c p.t
theorem rPReadU_c {w0 w : World} {g : Geo} {a : Option Addr} {n c : Nat} {xs : List Int} (hx : Ints w0 .u8 a n c xs) (e0 : Ext w0 w) (bx : Byt xs) (hL : lenP g xs) :
    CallV Tryz.prog 51 #[g.val, .slice a n c] w [.agg [.int .i64, .int .i64, .int .i64, .int .u32, .int .u64, .int .u64, .sl, .sl, .bool, .bool]] fun r w' => Ext w w' ∧ PgN w0 (pSpec g xs) (decide (okR (endP g xs))) r.1 := by
  refine (rPRead_c hx e0 bx hL).mono ?_
  rintro r w' ⟨e, h1, h2⟩
  unfold pSpec
  by_cases h : okR (endP g xs)
  · rw [if_pos ⟨hL, h⟩, decide_eq_true h]
    exact ⟨e, h2 h⟩
  · rw [if_neg fun hh => h hh.2, decide_eq_false h, h1 h]
    exact ⟨e, ⟨none, 0, 0⟩, ⟨none, 0, 0⟩, rfl, intsNil, intsNil⟩
end Go.Proofs.YtlpeoaphdmfjdaaGreat.Vc
/-! The law HeadMarks of layer 14: each call gives true, and what it read stays. -/
namespace Go.Proofs.YtlpeoaphdmfjdaaGreat.Vc
open Go Go.Eng Go.RowKit
def core (h : Hd) (tg : List Int) : List Int := (hdL h ++ invL (hdL h)) ++ tagL tg
def markL (h : Hd) (tg : List Int) : List Int := core h tg ++ List.replicate 8 0
theorem core_length (h : Hd) {tg : List Int} (hl : tg.length = 0 ∨ tg.length = 32) : (core h tg).length = 80 := by
  unfold core
  rw [List.length_append, List.length_append, invL_length, hdL_length, tagL_length hl]
theorem core_byt {h : Hd} (hR : HRight h) {tg : List Int} (bt : Byt tg) : Byt (core h tg) := by
  unfold core
  refine ((hdL_byt hR).append (invL_byt _)).append ?_
  unfold tagL
  split
  · exact Byt.replicate (by omega) (by omega) _
  · exact bt
theorem markL_length (h : Hd) {tg : List Int} (hl : tg.length = 0 ∨ tg.length = 32) : (markL h tg).length = 88 := by
  unfold markL
  rw [List.length_append, core_length h hl, List.length_replicate]
theorem markL_hd (h : Hd) (hg : h.rng) (tg : List Int) : hdOf (markL h tg) = h := by
  unfold markL core
  rw [List.append_assoc, List.append_assoc]
  exact part_hdL h hg _
theorem markL_ok (h : Hd) {tg : List Int} (hR : HRight h) : okR (markL h tg) := by
  refine ⟨hR.1, rfl, ?_⟩
  have p1 : part (markL h tg) 0 24 = hdL h := by
    unfold part markL core
    rw [List.drop_zero, List.append_assoc, List.append_assoc, List.take_left' (by rw [hdL_length])]
  have p2 : part (markL h tg) 24 48 = invL (hdL h) := by
    unfold part markL core
    rw [List.append_assoc, List.append_assoc, List.drop_left' (by rw [hdL_length]), List.take_left' (by rw [invL_length, hdL_length])]
  rw [p1, p2]
theorem markL_comm (h : Hd) {tg : List Int} (hl : tg.length = 0 ∨ tg.length = 32) : comm (markL h tg) = true := by
  refine decide_eq_true ⟨markL_length h hl, ?_⟩
  unfold markL
  rw [List.drop_left' (by rw [core_length h hl])]
theorem and255 : ∀ x : Fin 256, Go.bits .and .u8 ((x.val : Nat) : Int) 255 = ((x.val : Nat) : Int) := by decide +kernel
theorem getD_left {xs ys : List Int} {i : Nat} (h : i < xs.length) : (xs ++ ys).getD i 0 = xs.getD i 0 := by
  rw [List.getD_eq_getElem?_getD, List.getElem?_append_left h, ← List.getD_eq_getElem?_getD]
theorem getD_right {xs ys : List Int} {i : Nat} (h : xs.length ≤ i) : (xs ++ ys).getD i 0 = ys.getD (i - xs.length) 0 := by
  rw [List.getD_eq_getElem?_getD, List.getElem?_append_right h, ← List.getD_eq_getElem?_getD]
theorem and_mark {h : Hd} (hR : HRight h) {tg : List Int} (bt : Byt tg) (hl : tg.length = 0 ∨ tg.length = 32) : andL (endL h tg) (List.replicate 80 255 ++ List.replicate 8 0) = markL h tg := by
  refine List.ext_getElem (by rw [andL_length, endL_length h hl, markL_length h hl]) fun i h1 h2 => ?_
  have hc := core_length h hl
  rw [← getD_get h2]
  rw [markL_length h hl] at h2
  rw [show (andL (endL h tg) (List.replicate 80 255 ++ List.replicate 8 0))[i] = Go.bits .and .u8 ((endL h tg).getD i 0) ((List.replicate 80 255 ++ List.replicate 8 0 : List Int).getD i 0) by simp [andL]]
  unfold endL markL
  rw [show ((hdL h ++ invL (hdL h)) ++ tagL tg) = core h tg from rfl]
  by_cases hi : i < 80
  · rw [getD_left (xs := core h tg) (by omega), getD_left (xs := List.replicate 80 255) (by simpa using hi), getD_left (xs := core h tg) (by omega), getD_get (xs := List.replicate 80 255) (by simpa using hi), List.getElem_replicate, getD_get (xs := core h tg) (by omega)]
    obtain ⟨x, hx⟩ := byte_nat ((core_byt hR bt) _ (List.getElem_mem (by omega : i < (core h tg).length)))
    rw [hx]
    exact and255 x
  · rw [getD_right (xs := core h tg) (by omega), getD_right (xs := List.replicate 80 255) (by simp; omega), getD_right (xs := core h tg) (by omega), hc, List.length_replicate,
      getD_get (xs := List.replicate 8 (255 : Int)) (by simp; omega), List.getElem_replicate, getD_get (xs := List.replicate 8 (0 : Int)) (by simp; omega), List.getElem_replicate]
    decide +kernel
end Go.Proofs.YtlpeoaphdmfjdaaGreat.Vc
/-! The law PageBack of layer 15: each call gives true, and what it read stays. -/
namespace Go.Proofs.YtlpeoaphdmfjdaaGreat.Vc
open Go Go.Eng Go.RowKit
abbrev pgC (h : Hd) (s t : SlV) (d : Bool) : List Value := [.int .i64 h.k, .int .i64 h.n, .int .i64 h.c, .int .u32 h.l, .int .u64 h.e, .int .u64 h.t, .slice s.a s.n s.c, .slice t.a t.n t.c, .bool d]
theorem payL_length {g : Geo} {xs : List Int} (hs : 32 ≤ g.s ∧ g.s ≤ 4096) (h : xs.length = 0 ∨ (xs.length : Int) = g.s) : (payL g xs).length = g.s.toNat := by
  unfold payL
  split
  · rw [List.length_replicate]
  · omega
theorem end_mk {g : Geo} {h : Hd} {xs ts : List Int} (hs : 32 ≤ g.s ∧ g.s ≤ 4096) (hx : xs.length = 0 ∨ (xs.length : Int) = g.s) : endP g (mkL g h xs ts) = endL h ts := by
  unfold endP mkL
  rw [List.drop_append_of_le_length (by rw [payL_length hs hx]; omega), List.drop_eq_nil_of_le (by rw [payL_length hs hx]; omega), List.nil_append]
theorem pays_mk {g : Geo} {h : Hd} {xs ts : List Int} (hs : 32 ≤ g.s ∧ g.s ≤ 4096) (hx : xs.length = 0 ∨ (xs.length : Int) = g.s) : pays g (mkL g h xs ts) = payL g xs := by
  unfold pays mkL
  rw [List.take_append_of_le_length (by rw [payL_length hs hx]; omega), List.take_of_length_le (by rw [payL_length hs hx]; omega)]
theorem and_full {x : Int} (h : 0 ≤ x ∧ x < 256) : Go.bits .and .u8 x 255 = x := by
  obtain ⟨y, rfl⟩ := byte_nat h
  exact and255 y
theorem andL_append {xs ys zs us : List Int} (h : xs.length = zs.length) : andL (xs ++ ys) (zs ++ us) = andL xs zs ++ andL ys us := by
  refine List.ext_getElem (by simp [andL]) fun i h1 h2 => ?_
  simp only [andL, List.getElem_map, List.getElem_range, List.getElem_append, List.length_map, List.length_range]
  split
  · rename_i hi
    rw [getD_left hi, getD_left (by omega)]
  · rename_i hi
    rw [getD_right (by omega), getD_right (by omega), h]
theorem andL_ones {xs : List Int} (bx : Byt xs) {n : Nat} (h : xs.length = n) : andL xs (List.replicate n 255) = xs := by
  refine List.ext_getElem (by simp [andL]) fun i h1 h2 => ?_
  simp only [andL, List.getElem_map, List.getElem_range]
  rw [getD_get (xs := List.replicate n 255) (by simp; omega), List.getElem_replicate, and_full (bx.getD i), getD_get h2]
theorem and_mk {g : Geo} {h : Hd} {xs ts : List Int} (hs : 32 ≤ g.s ∧ g.s ≤ 4096) (hx : xs.length = 0 ∨ (xs.length : Int) = g.s) (hR : HRight h) (bx : Byt xs) (bt : Byt ts) (ht : ts.length = 0 ∨ ts.length = 32) : andL (mkL g h xs ts) (comL g) = payL g xs ++ markL h ts := by
  unfold mkL comL
  rw [show (g.s + 80).toNat = g.s.toNat + 80 by omega, ← List.replicate_append_replicate, List.append_assoc, andL_append (by rw [payL_length hs hx, List.length_replicate]), and_mark hR bt ht, andL_ones _ (payL_length hs hx)]
  unfold payL
  split
  · exact Byt.replicate (by omega) (by omega) _
  · exact bx
theorem end_mark {g : Geo} {h : Hd} {xs ts : List Int} (hs : 32 ≤ g.s ∧ g.s ≤ 4096) (hx : xs.length = 0 ∨ (xs.length : Int) = g.s) : endP g (payL g xs ++ markL h ts) = markL h ts := by
  unfold endP
  rw [List.drop_append_of_le_length (by rw [payL_length hs hx]; omega), List.drop_eq_nil_of_le (by rw [payL_length hs hx]; omega), List.nil_append]
theorem pays_mark {g : Geo} {h : Hd} {xs ts : List Int} (hs : 32 ≤ g.s ∧ g.s ≤ 4096) (hx : xs.length = 0 ∨ (xs.length : Int) = g.s) : pays g (payL g xs ++ markL h ts) = payL g xs := by
  unfold pays
  rw [List.take_append_of_le_length (by rw [payL_length hs hx]; omega), List.take_of_length_le (by rw [payL_length hs hx]; omega)]
end Go.Proofs.YtlpeoaphdmfjdaaGreat.Vc
/-! Plain laws of layer 19 (chunk): a record's pages, and what they hold. -/
namespace Go.Proofs.YtlpeoaphdmfjdaaGreat.Vc
open Go Go.Eng Go.RowKit
def nCh (g : Geo) : Int := cei 624 g.s
def ownH (g : Geo) (i gen : Int) : Hd := ⟨4, i, 0, nCh g, gen, 0⟩
theorem nCh_bd {g : Geo} (h : Right g) : (1 ≤ nCh g ∧ nCh g ≤ 32) ∧ 624 ≤ nCh g * g.s ∧ (nCh g - 1) * g.s < 624 ∧ nCh g * g.s ≤ 5000 := by
  have hs := h.sec
  have h2 := h.2.1
  have h3 : g.p ≤ 32 := h.1.2.1.2
  have hb := cei_bd (u := g.s) (m := 624) (by omega) (by omega)
  unfold nCh
  have e : cei 624 g.s = (624 + g.s - 1) / g.s := rfl
  have d := Int.mul_ediv_add_emod (624 + g.s - 1) g.s
  have r1 := Int.emod_nonneg (624 + g.s - 1) (show g.s ≠ 0 by omega)
  have r2 := Int.emod_lt_of_pos (624 + g.s - 1) (show 0 < g.s by omega)
  rw [← e] at d
  have c1 : g.s * cei 624 g.s = cei 624 g.s * g.s := Int.mul_comm _ _
  have c2 : (cei 624 g.s - 1) * g.s = cei 624 g.s * g.s - g.s := by rw [Int.sub_mul, Int.one_mul]
  refine ⟨⟨hb.1, by omega⟩, by omega, by omega, by omega⟩
theorem ownH_rng {g : Geo} {i gen : Int} (h : Right g) (hgen : 0 ≤ gen ∧ gen < 18446744073709551616) : (ownH g i gen).rng := by
  have := nCh_bd h
  unfold Hd.rng ownH
  dsimp only
  omega
theorem ownH_right {g : Geo} {i gen : Int} (hi : 0 ≤ i ∧ i < 32) : HRight (ownH g i gen) := by
  unfold HRight ownH
  dsimp only
  omega
def allR (g : Geo) (rec : List Int) : List Int := rec ++ List.replicate (nCh g * g.s - 624).toNat 255
def chk (g : Geo) (rec : List Int) (i : Nat) : List Int := ((allR g rec).drop (i * g.s.toNat)).take g.s.toNat
def pgOf (g : Geo) (rec : List Int) (gen : Int) (i : Nat) : List Int := mkL g (ownH g i gen) (chk g rec i) []
def pagesL (g : Geo) (rec : List Int) (gen : Int) : List (List Int) := (List.range (nCh g).toNat).map (pgOf g rec gen)
theorem allR_length {g : Geo} (h : Right g) {rec : List Int} (hr : rec.length = 624) : (allR g rec).length = (nCh g).toNat * g.s.toNat := by
  have b := nCh_bd h
  have hs := h.sec
  unfold allR
  rw [List.length_append, hr, List.length_replicate]
  have e : ((nCh g).toNat * g.s.toNat : Nat) = (nCh g * g.s).toNat := by
    rw [Int.toNat_mul (by omega) (by omega)]
  omega
theorem chk_length {g : Geo} (h : Right g) {rec : List Int} (hr : rec.length = 624) {i : Nat} (hi : i < (nCh g).toNat) : (chk g rec i).length = g.s.toNat := by
  unfold chk
  rw [List.length_take, List.length_drop, allR_length h hr]
  have : (i + 1) * g.s.toNat ≤ (nCh g).toNat * g.s.toNat := Nat.mul_le_mul_right _ hi
  rw [Nat.add_mul] at this
  omega
theorem allR_byt {g : Geo} {rec : List Int} (br : Byt rec) : Byt (allR g rec) := br.append (Byt.replicate (by omega) (by omega) _)
theorem chk_byt {g : Geo} {rec : List Int} (br : Byt rec) (i : Nat) : Byt (chk g rec i) := ((allR_byt br).drop _).take _
def gen0 (g : Geo) (ps : List (List Int)) : Int := (hdOf (endP g (ps.getD 0 []))).e
def pageOk (g : Geo) (ps : List (List Int)) (i : Nat) : Prop :=
  lenP g (ps.getD i []) ∧ okR (endP g (ps.getD i [])) ∧ hdOf (endP g (ps.getD i [])) = ownH g i (gen0 g ps) ∧ ((i : Int) = nCh g - 1 → comm (endP g (ps.getD i [])) = true)
def holds (g : Geo) (ps : List (List Int)) : Prop := Right g ∧ (nCh g).toNat ≤ ps.length ∧ ∀ i : Nat, i < (nCh g).toNat → pageOk g ps i
def recOf (g : Geo) (ps : List (List Int)) : List Int := (((List.range (nCh g).toNat).map fun i => pays g (ps.getD i [])).flatten).take 624
open Classical in
noncomputable def holdS (g : Geo) (ps : List (List Int)) : Int × List Int × Bool := if holds g ps then (gen0 g ps, recOf g ps, true) else (0, [], false)
end Go.Proofs.YtlpeoaphdmfjdaaGreat.Vc
/-! The plans of functions as plain statements, printed by wip/tools/vcgen.py; the kernel holds each to the code. -/
namespace Go.Proofs.YtlpeoaphdmfjdaaGreat.Vc
open Go Go.Eng
def chunk_own.A : Ann := .no
def chunk_own.P (p0_0 p0_1 p0_2 p0_3 p0_4 p0_5 p1 p2 : Int) (w : World) (K : (Int × Int × Int × Int × Int × Int × Unit) × Unit → World → Prop) : Prop :=
  NewV #[.int .i64 p0_0, .int .i64 p0_1, .int .i64 p0_2, .int .i64 p0_3, .int .i64 p0_4, .int .i64 p0_5] 23 w fun b1 w2 =>
  NewV #[.int .i64 0, .int .i64 0, .int .i64 0, .int .u32 0, .int .u64 0, .int .u64 0] 46 w2 fun b3 w4 =>
  LoadA w4 ⟨b1, 0, none⟩ [.int .i64, .int .i64, .int .i64, .int .i64, .int .i64, .int .i64] fun (x5 : Int × Int × Int × Int × Int × Int × Unit) =>
  CallV Tryz.prog 62 #[.agg #[.int .i64 x5.1, .int .i64 x5.2.1, .int .i64 x5.2.2.1, .int .i64 x5.2.2.2.1, .int .i64 x5.2.2.2.2.1, .int .i64 x5.2.2.2.2.2.1]] w4 [.one (.int .i64)] fun (r6 : Int × Unit) w7 =>
  StoreV w7 ⟨b3, 0, none⟩ [.int .i64 4, .int .i64 p1, .int .i64 0, .int .u32 (IntKind.u32.wrap r6.1), .int .u64 p2, .int .u64 0] fun w8 =>
  LoadA w8 ⟨b3, 0, none⟩ [.int .i64, .int .i64, .int .i64, .int .u32, .int .u64, .int .u64] fun (x9 : Int × Int × Int × Int × Int × Int × Unit) =>
  K ((x9.1, x9.2.1, x9.2.2.1, x9.2.2.2.1, x9.2.2.2.2.1, x9.2.2.2.2.2.1, ()), ()) w8
theorem chunk_own.vc (p0_0 p0_1 p0_2 p0_3 p0_4 p0_5 p1 p2 : Int) (w : World) (K : (Int × Int × Int × Int × Int × Int × Unit) × Unit → World → Prop) (h : chunk_own.P p0_0 p0_1 p0_2 p0_3 p0_4 p0_5 p1 p2 w K) : CallV Tryz.prog 128 #[.agg #[.int .i64 p0_0, .int .i64 p0_1, .int .i64 p0_2, .int .i64 p0_3, .int .i64 p0_4, .int .i64 p0_5], .int .i64 p1, .int .u64 p2] w [.agg [.int .i64, .int .i64, .int .i64, .int .u32, .int .u64, .int .u64]] K := by
  refine vcFun.of (A := chunk_own.A) (wr := false) okf_ok follows h Tryz.func128 ?_
  kernel_rfl
def chunk_Pages.A : Ann := .two .no (.two .no (.two .no (.two (.draw (.take 1 (.take 3 (.take 4 (.take 5 (.take 6 (.take 7 (.take 8 (.take 9 (.eff 0 (.eff 2 (.eff 10 (.eff 11 (.take 12 (.done))))))))))))))) (.two .no (.two (.two .no (.one (.loop [6, 7, 10, 11, 12, 13, 37, 38, 39, 40, 41, 42, 43, 44, 45, 46, 47, 48, 49, 50, 51, 52, 53, 54, 55, 56, 57, 58, 59, 60, 61, 62, 63, 64, 65, 66, 67, 68, 69, 70, 71, 72] [(10, .one .sl), (37, .one (.int .i64))] (.two .no (.two .no (.two (.one (.two .no (.two (.draw (.take 0 (.take 1 (.take 2 (.take 3 (.take 5 (.take 6 (.take 7 (.take 8 (.take 9 (.take 10 (.take 11 (.take 12 (.take 13 (.take 14 (.take 15 (.take 16 (.take 17 (.take 18 (.take 19 (.take 20 (.eff 4 (.eff 21 (.take 22 (.take 23 (.take 24 (.take 25 (.take 26 (.done))))))))))))))))))))))))))))) .no))) .no)))))) .no)))))
def chunk_Pages.P (p0_0 p0_1 p0_2 p0_3 p0_4 p0_5 : Int) (a1 : Option Addr) (n1 c1 : Nat) (p2 : Int) (w : World) (K : SlV × Int × Unit → World → Prop) : Prop :=
  NewV #[.int .i64 p0_0, .int .i64 p0_1, .int .i64 p0_2, .int .i64 p0_3, .int .i64 p0_4, .int .i64 p0_5] 23 w fun b1 w2 =>
  LoadA w2 ⟨b1, 0, none⟩ [.int .i64, .int .i64, .int .i64, .int .i64, .int .i64, .int .i64] fun (x3 : Int × Int × Int × Int × Int × Int × Unit) =>
  CallV Tryz.prog 55 #[.agg #[.int .i64 x3.1, .int .i64 x3.2.1, .int .i64 x3.2.2.1, .int .i64 x3.2.2.2.1, .int .i64 x3.2.2.2.2.1, .int .i64 x3.2.2.2.2.2.1]] w2 [.one (.int .i64)] fun (r4 : Int × Unit) w5 =>
  cond (r4.1 != 0)
  (K ((⟨none, 0, 0⟩ : SlV), (2 : Int), ()) w5)
  (cond (((n1 : Nat) : Int) != 624)
  (K ((⟨none, 0, 0⟩ : SlV), (2 : Int), ()) w5)
  (LoadA w5 ⟨b1, 0, none⟩ [.int .i64, .int .i64, .int .i64, .int .i64, .int .i64, .int .i64] fun (x6 : Int × Int × Int × Int × Int × Int × Unit) =>
  CallV Tryz.prog 62 #[.agg #[.int .i64 x6.1, .int .i64 x6.2.1, .int .i64 x6.2.2.1, .int .i64 x6.2.2.2.1, .int .i64 x6.2.2.2.2.1, .int .i64 x6.2.2.2.2.2.1]] w5 [.one (.int .i64)] fun (r7 : Int × Unit) w8 =>
  DrawV fun D9 =>
  (D9 b1 ∧ LoadS w8.drew ⟨b1, 2, none⟩ (.int .i64) fun (x10 : Int) =>
  Rng .i64 (r7.1 * x10) ∧
  Rng .i64 ((r7.1 * x10) - ((n1 : Nat) : Int)) ∧
  NewV #[] 5 w8.drew fun b11 w12 =>
  KeepOn D9 w8.drew w12 ∧
  AppS w12 a1 n1 1 fun ns17 =>
  AppV w12 5 1 1 (some ⟨b11, 0, none⟩) 0 0 ns17 n1 fun a13 n14 c15 w16 =>
  KeepOn D9 w8.drew w16 ∧
  CallV Tryz.prog 126 #[.int .u8 255, .int .i64 ((r7.1 * x10) - ((n1 : Nat) : Int))] w16 [.one .sl] fun (r18 : SlV × Unit) w19 =>
  KeepOn D9 w8.drew w19 ∧
  AppS w19 r18.1.a r18.1.n 1 fun ns24 =>
  AppV w19 5 1 1 a13 n14 c15 ns24 r18.1.n fun a20 n21 c22 w23 =>
  KeepOn D9 w8.drew w23 ∧
  LoopV [.one .sl, .one (.int .i64)] ((⟨none, 0, 0⟩ : SlV), (0 : Int), ()) w23 fun (z25 : SlV × Int × Unit) w26 (K27 : SlV × Int × Unit → World → Prop) =>
  cond (decide (z25.2.1 < r7.1))
  (DrawV fun D28 =>
  (D28 b1 ∧ LoadA w26.drew ⟨b1, 0, none⟩ [.int .i64, .int .i64, .int .i64, .int .i64, .int .i64, .int .i64] fun (x29 : Int × Int × Int × Int × Int × Int × Unit) =>
  (D28 b1 ∧ LoadA w26.drew ⟨b1, 0, none⟩ [.int .i64, .int .i64, .int .i64, .int .i64, .int .i64, .int .i64] fun (x30 : Int × Int × Int × Int × Int × Int × Unit) =>
  (D28 b1 ∧ LoadS w26.drew ⟨b1, 2, none⟩ (.int .i64) fun (x31 : Int) =>
  Rng .i64 (z25.2.1 * x31) ∧
  Rng .i64 (z25.2.1 + 1) ∧
  (D28 b1 ∧ LoadS w26.drew ⟨b1, 2, none⟩ (.int .i64) fun (x32 : Int) =>
  Rng .i64 ((z25.2.1 + 1) * x32) ∧
  Rng .i64 (z25.2.1 + 1) ∧
  (D28 b1 ∧ LoadS w26.drew ⟨b1, 2, none⟩ (.int .i64) fun (x33 : Int) =>
  Rng .i64 ((z25.2.1 + 1) * x33) ∧
  ((0 : Int) ≤ (z25.2.1 * x31) ∧ (z25.2.1 * x31) ≤ ((z25.2.1 + 1) * x32) ∧ ((z25.2.1 + 1) * x32) ≤ ((z25.2.1 + 1) * x33) ∧ ((z25.2.1 + 1) * x33) ≤ ((c22 : Nat) : Int)) ∧
  SubK a20 ((z25.2.1 * x31).toNat) (((z25.2.1 + 1) * x33).toNat) 1 fun a34 =>
  CallV Tryz.prog 128 #[.agg #[.int .i64 x30.1, .int .i64 x30.2.1, .int .i64 x30.2.2.1, .int .i64 x30.2.2.2.1, .int .i64 x30.2.2.2.2.1, .int .i64 x30.2.2.2.2.2.1], .int .i64 z25.2.1, .int .u64 p2] w26.drew [.agg [.int .i64, .int .i64, .int .i64, .int .u32, .int .u64, .int .u64]] fun (r35 : (Int × Int × Int × Int × Int × Int × Unit) × Unit) w36 =>
  KeepOn D28 w26.drew w36 ∧
  CallV Tryz.prog 127 #[.agg #[.int .i64 x29.1, .int .i64 x29.2.1, .int .i64 x29.2.2.1, .int .i64 x29.2.2.2.1, .int .i64 x29.2.2.2.2.1, .int .i64 x29.2.2.2.2.2.1], .agg #[.int .i64 r35.1.1, .int .i64 r35.1.2.1, .int .i64 r35.1.2.2.1, .int .u32 r35.1.2.2.2.1, .int .u64 r35.1.2.2.2.2.1, .int .u64 r35.1.2.2.2.2.2.1], .slice a34 ((((z25.2.1 + 1) * x32).toNat) - ((z25.2.1 * x31).toNat)) ((((z25.2.1 + 1) * x33).toNat) - ((z25.2.1 * x31).toNat)), .slice none 0 0] w36 [.one .sl, .one (.int .i64)] fun (r37 : SlV × Int × Unit) w38 =>
  KeepOn D28 w26.drew w38 ∧
  cond (r37.2.1 != 0)
  (K ((⟨none, 0, 0⟩ : SlV), r37.2.1, ()) w38)
  (NewV #[.slice r37.1.a r37.1.n r37.1.c] 51 w38 fun b39 w40 =>
  AppS w40 (some ⟨b39, 0, none⟩) 1 1 fun ns45 =>
  AppV w40 51 1 24 z25.1.a z25.1.n z25.1.c ns45 1 fun a41 n42 c43 w44 =>
  Rng .i64 (z25.2.1 + 1) ∧
  K27 ((⟨a41, n42, c43⟩ : SlV), z25.2.1 + 1, ()) w44)))))))
  (K (z25.1, (0 : Int), ()) w26))))
theorem chunk_Pages.vc (p0_0 p0_1 p0_2 p0_3 p0_4 p0_5 : Int) (a1 : Option Addr) (n1 c1 : Nat) (p2 : Int) (w : World) (K : SlV × Int × Unit → World → Prop) (h : chunk_Pages.P p0_0 p0_1 p0_2 p0_3 p0_4 p0_5 a1 n1 c1 p2 w K) : CallV Tryz.prog 71 #[.agg #[.int .i64 p0_0, .int .i64 p0_1, .int .i64 p0_2, .int .i64 p0_3, .int .i64 p0_4, .int .i64 p0_5], .slice a1 n1 c1, .int .u64 p2] w [.one .sl, .one (.int .i64)] K := by
  refine vcFun.of (A := chunk_Pages.A) (wr := false) okf_ok follows h Tryz.func71 ?_
  kernel_rfl
def chunk_Hold.A : Ann := .two .no (.two .no (.two .no (.two .no (.two .no (.two (.two .no (.one (.loop [4, 5, 6, 8, 9, 10, 11, 12, 24, 25, 26, 27, 28, 29, 30, 31, 32, 33, 34, 35, 36, 37, 38, 39, 40, 41, 42, 43, 44, 45, 46, 47, 48, 49, 50, 51, 52, 53, 54, 55, 56, 57, 58, 59, 60, 61, 62, 63, 64, 65, 66, 67] [(8, .one .sl), (9, .one (.int .u64)), (24, .one (.int .i64))] (.two .no (.two .no (.two (.one (.two .no (.join [11, 12, 27, 28, 29, 30, 31, 32, 33, 34, 35] [(11, .one .ptr), (12, .one (.int .i64))] (.draw (.take 0 (.take 1 (.take 2 (.take 3 (.take 4 (.both 5 (.take 6 (.take 7 (.take 8 (.eff 9 (.eff 10 (.take 11 (.done))))))) 9 (.eff 5 (.take 6 (.take 7 (.take 8 (.eff 10 (.take 11 (.done)))))))))))))) (.join [9, 36, 37, 38, 39, 40] [(9, .one (.int .u64))] .no (.two (.two (.draw (.take 0 (.take 1 (.take 2 (.take 3 (.take 4 (.take 5 (.take 6 (.take 7 (.eff 8 (.take 9 (.take 10 (.take 11 (.take 12 (.take 13 (.take 14 (.take 15 (.take 16 (.take 17 (.take 18 (.take 19 (.take 20 (.take 21 (.done)))))))))))))))))))))))) .no) .no))))) .no)))))) (.two (.draw (.take 0 (.take 1 (.take 2 (.take 3 (.take 4 (.take 5 (.done)))))))) .no))))))
def chunk_Hold.P (p0_0 p0_1 p0_2 p0_3 p0_4 p0_5 : Int) (a1 : Option Addr) (n1 c1 : Nat) (w : World) (K : Int × SlV × Bool × Unit → World → Prop) : Prop :=
  NewV #[.int .i64 p0_0, .int .i64 p0_1, .int .i64 p0_2, .int .i64 p0_3, .int .i64 p0_4, .int .i64 p0_5] 23 w fun b1 w2 =>
  LoadA w2 ⟨b1, 0, none⟩ [.int .i64, .int .i64, .int .i64, .int .i64, .int .i64, .int .i64] fun (x3 : Int × Int × Int × Int × Int × Int × Unit) =>
  CallV Tryz.prog 62 #[.agg #[.int .i64 x3.1, .int .i64 x3.2.1, .int .i64 x3.2.2.1, .int .i64 x3.2.2.2.1, .int .i64 x3.2.2.2.2.1, .int .i64 x3.2.2.2.2.2.1]] w2 [.one (.int .i64)] fun (r4 : Int × Unit) w5 =>
  cond (r4.1 == 0)
  (K ((0 : Int), (⟨none, 0, 0⟩ : SlV), false, ()) w5)
  (cond (decide (((n1 : Nat) : Int) < r4.1))
  (K ((0 : Int), (⟨none, 0, 0⟩ : SlV), false, ()) w5)
  (LoopV [.one .sl, .one (.int .u64), .one (.int .i64)] ((⟨none, 0, 0⟩ : SlV), (0 : Int), (0 : Int), ()) w5 fun (z6 : SlV × Int × Int × Unit) w7 (K8 : SlV × Int × Int × Unit → World → Prop) =>
  cond (decide (z6.2.2.1 < r4.1))
  (JoinV [.one .ptr, .one (.int .i64)] (fun (v10 : (Option Addr) × Int × Unit) w11 =>
  JoinV [.one (.int .u64)] (fun (v13 : Int × Unit) w14 =>
  DrawV fun D15 =>
  cond (v10.2.1 != 0)
  (K ((0 : Int), (⟨none, 0, 0⟩ : SlV), false, ()) w14.drew)
  (PtrK v10.1 fun q16 =>
  (D15 q16.block ∧ LoadA w14.drew q16 [.int .i64, .int .i64, .int .i64, .int .u32, .int .u64, .int .u64] fun (x17 : Int × Int × Int × Int × Int × Int × Unit) =>
  (D15 b1 ∧ LoadA w14.drew ⟨b1, 0, none⟩ [.int .i64, .int .i64, .int .i64, .int .i64, .int .i64, .int .i64] fun (x18 : Int × Int × Int × Int × Int × Int × Unit) =>
  CallV Tryz.prog 128 #[.agg #[.int .i64 x18.1, .int .i64 x18.2.1, .int .i64 x18.2.2.1, .int .i64 x18.2.2.2.1, .int .i64 x18.2.2.2.2.1, .int .i64 x18.2.2.2.2.2.1], .int .i64 z6.2.2.1, .int .u64 v13.1] w14.drew [.agg [.int .i64, .int .i64, .int .i64, .int .u32, .int .u64, .int .u64]] fun (r19 : (Int × Int × Int × Int × Int × Int × Unit) × Unit) w20 =>
  KeepOn D15 w14.drew w20 ∧
  AggEq Tryz.prog 46 #[.int .i64 x17.1, .int .i64 x17.2.1, .int .i64 x17.2.2.1, .int .u32 x17.2.2.2.1, .int .u64 x17.2.2.2.2.1, .int .u64 x17.2.2.2.2.2.1] #[.int .i64 r19.1.1, .int .i64 r19.1.2.1, .int .i64 r19.1.2.2.1, .int .u32 r19.1.2.2.2.1, .int .u64 r19.1.2.2.2.2.1, .int .u64 r19.1.2.2.2.2.2.1] fun e21 =>
  cond (!e21)
  (K ((0 : Int), (⟨none, 0, 0⟩ : SlV), false, ()) w20)
  (Rng .i64 (r4.1 - 1) ∧
  cond (z6.2.2.1 == (r4.1 - 1))
  (PtrK v10.1 fun q22 =>
  (D15 (q22.add 8).block ∧ LoadS w14.drew (q22.add 8) .bool fun (x23 : Bool) =>
  cond (!x23)
  (K ((0 : Int), (⟨none, 0, 0⟩ : SlV), false, ()) w20)
  (PtrK v10.1 fun q24 =>
  LoadS w20 (q24.add 6) .sl fun (x25 : SlV) =>
  AppS w20 x25.a x25.n 1 fun ns30 =>
  AppV w20 5 1 1 z6.1.a z6.1.n z6.1.c ns30 x25.n fun a26 n27 c28 w29 =>
  Rng .i64 (z6.2.2.1 + 1) ∧
  K8 ((⟨a26, n27, c28⟩ : SlV), v13.1, z6.2.2.1 + 1, ()) w29)))
  (PtrK v10.1 fun q31 =>
  LoadS w20 (q31.add 6) .sl fun (x32 : SlV) =>
  AppS w20 x32.a x32.n 1 fun ns37 =>
  AppV w20 5 1 1 z6.1.a z6.1.n z6.1.c ns37 x32.n fun a33 n34 c35 w36 =>
  Rng .i64 (z6.2.2.1 + 1) ∧
  K8 ((⟨a33, n34, c35⟩ : SlV), v13.1, z6.2.2.1 + 1, ()) w36)))))) fun (J12 : Int × Unit → World → Prop) =>
  cond (z6.2.2.1 == 0)
  (PtrK v10.1 fun q38 =>
  LoadS w11 (q38.add 4) (.int .u64) fun (x39 : Int) =>
  J12 (x39, ()) w11)
  (J12 (z6.2.1, ()) w11)) fun (J9 : (Option Addr) × Int × Unit → World → Prop) =>
  DrawV fun D40 =>
  (D40 b1 ∧ LoadA w7.drew ⟨b1, 0, none⟩ [.int .i64, .int .i64, .int .i64, .int .i64, .int .i64, .int .i64] fun (x41 : Int × Int × Int × Int × Int × Int × Unit) =>
  (0 ≤ z6.2.2.1 ∧ z6.2.2.1 < ((n1 : Nat) : Int)) ∧ ∃ q42 : Addr, a1 = some q42 ∧
  (D40 (q42.add (z6.2.2.1.toNat * 1)).block ∧ LoadS w7.drew (q42.add (z6.2.2.1.toNat * 1)) .sl fun (x43 : SlV) =>
  ((CallV Tryz.prog 162 #[.agg #[.int .i64 x41.1, .int .i64 x41.2.1, .int .i64 x41.2.2.1, .int .i64 x41.2.2.2.1, .int .i64 x41.2.2.2.2.1, .int .i64 x41.2.2.2.2.2.1], .slice x43.a x43.n x43.c] w7.drew [.agg [.int .i64, .int .i64, .int .i64, .int .u32, .int .u64, .int .u64, .sl, .sl, .bool], .one (.int .i64)] fun (r44 : (Int × Int × Int × Int × Int × Int × SlV × SlV × Bool × Unit) × Int × Unit) w45 =>
  KeepOn D40 w7.drew w45 ∧
  NewV #[.int .i64 0, .int .i64 0, .int .i64 0, .int .u32 0, .int .u64 0, .int .u64 0, .slice none 0 0, .slice none 0 0, .bool false] 220 w45 fun b46 w47 =>
  KeepOn D40 w7.drew w47 ∧
  StoreV w47 ⟨b46, 0, none⟩ [.int .i64 r44.1.1, .int .i64 r44.1.2.1, .int .i64 r44.1.2.2.1, .int .u32 r44.1.2.2.2.1, .int .u64 r44.1.2.2.2.2.1, .int .u64 r44.1.2.2.2.2.2.1, .slice r44.1.2.2.2.2.2.2.1.a r44.1.2.2.2.2.2.2.1.n r44.1.2.2.2.2.2.2.1.c, .slice r44.1.2.2.2.2.2.2.2.1.a r44.1.2.2.2.2.2.2.2.1.n r44.1.2.2.2.2.2.2.2.1.c, .bool r44.1.2.2.2.2.2.2.2.2.1] fun w48 =>
  KeepOn D40 w7.drew w48 ∧
  J9 ((some ⟨b46, 0, none⟩), r44.2.1, ()) w48) ∧
  (NewV #[.int .i64 0, .int .i64 0, .int .i64 0, .int .u32 0, .int .u64 0, .int .u64 0, .slice none 0 0, .slice none 0 0, .bool false] 220 w7.drew fun b49 w50 =>
  KeepOn D40 w7.drew w50 ∧
  CallV Tryz.prog 162 #[.agg #[.int .i64 x41.1, .int .i64 x41.2.1, .int .i64 x41.2.2.1, .int .i64 x41.2.2.2.1, .int .i64 x41.2.2.2.2.1, .int .i64 x41.2.2.2.2.2.1], .slice x43.a x43.n x43.c] w50 [.agg [.int .i64, .int .i64, .int .i64, .int .u32, .int .u64, .int .u64, .sl, .sl, .bool], .one (.int .i64)] fun (r51 : (Int × Int × Int × Int × Int × Int × SlV × SlV × Bool × Unit) × Int × Unit) w52 =>
  KeepOn D40 w7.drew w52 ∧
  StoreV w52 ⟨b49, 0, none⟩ [.int .i64 r51.1.1, .int .i64 r51.1.2.1, .int .i64 r51.1.2.2.1, .int .u32 r51.1.2.2.2.1, .int .u64 r51.1.2.2.2.2.1, .int .u64 r51.1.2.2.2.2.2.1, .slice r51.1.2.2.2.2.2.2.1.a r51.1.2.2.2.2.2.2.1.n r51.1.2.2.2.2.2.2.1.c, .slice r51.1.2.2.2.2.2.2.2.1.a r51.1.2.2.2.2.2.2.2.1.n r51.1.2.2.2.2.2.2.2.1.c, .bool r51.1.2.2.2.2.2.2.2.2.1] fun w53 =>
  KeepOn D40 w7.drew w53 ∧
  J9 ((some ⟨b49, 0, none⟩), r51.2.1, ()) w53)))))
  (DrawV fun D54 =>
  ((0 : Int) ≤ (624 : Int) ∧ (624 : Int) ≤ (624 : Int) ∧ (624 : Int) ≤ ((z6.1.c : Nat) : Int)) ∧
  SubK z6.1.a 0 624 1 fun a55 =>
  K (z6.2.1, (⟨a55, 624 - 0, 624 - 0⟩ : SlV), true, ()) w7.drew)))
theorem chunk_Hold.vc (p0_0 p0_1 p0_2 p0_3 p0_4 p0_5 : Int) (a1 : Option Addr) (n1 c1 : Nat) (w : World) (K : Int × SlV × Bool × Unit → World → Prop) (h : chunk_Hold.P p0_0 p0_1 p0_2 p0_3 p0_4 p0_5 a1 n1 c1 w K) : CallV Tryz.prog 120 #[.agg #[.int .i64 p0_0, .int .i64 p0_1, .int .i64 p0_2, .int .i64 p0_3, .int .i64 p0_4, .int .i64 p0_5], .slice a1 n1 c1] w [.one (.int .u64), .one .sl, .one .bool] K := by
  refine vcFun.of (A := chunk_Hold.A) (wr := false) okf_ok follows h Tryz.func120 ?_
  kernel_rfl
def chunk_Current.A : Ann := .two .no (.two .no (.two (.two .no (.one (.loop [7, 8, 9, 10, 11, 12, 13, 14, 17, 18, 19, 20, 21, 22, 23, 24, 25, 26, 27, 28, 29, 30, 31, 32, 33, 34, 35, 36, 37, 38, 39, 40, 41, 42] [(7, .one (.int .i64)), (8, .one (.int .u64)), (9, .one .sl), (17, .one (.int .i64))] .no))) .no))
def chunk_Current.P (p0_0 p0_1 p0_2 p0_3 p0_4 p0_5 : Int) (a1 : Option Addr) (n1 c1 : Nat) (w : World) (K : Int × Int × SlV × Unit → World → Prop) : Prop :=
  NewV #[.int .i64 p0_0, .int .i64 p0_1, .int .i64 p0_2, .int .i64 p0_3, .int .i64 p0_4, .int .i64 p0_5] 23 w fun b1 w2 =>
  LoopV [.one (.int .i64), .one (.int .u64), .one .sl, .one (.int .i64)] (((-1) : Int), (0 : Int), (⟨none, 0, 0⟩ : SlV), (0 : Int), ()) w2 fun (z3 : Int × Int × SlV × Int × Unit) w4 (K5 : Int × Int × SlV × Int × Unit → World → Prop) =>
  cond (decide (z3.2.2.2.1 < ((n1 : Nat) : Int)))
  ((0 ≤ z3.2.2.2.1 ∧ z3.2.2.2.1 < ((n1 : Nat) : Int)) ∧ ∃ q6 : Addr, a1 = some q6 ∧
  LoadS w4 (q6.add (z3.2.2.2.1.toNat * 1)) .sl fun (x7 : SlV) =>
  LoadA w4 ⟨b1, 0, none⟩ [.int .i64, .int .i64, .int .i64, .int .i64, .int .i64, .int .i64] fun (x8 : Int × Int × Int × Int × Int × Int × Unit) =>
  CallV Tryz.prog 120 #[.agg #[.int .i64 x8.1, .int .i64 x8.2.1, .int .i64 x8.2.2.1, .int .i64 x8.2.2.2.1, .int .i64 x8.2.2.2.2.1, .int .i64 x8.2.2.2.2.2.1], .slice x7.a x7.n x7.c] w4 [.one (.int .u64), .one .sl, .one .bool] fun (r9 : Int × SlV × Bool × Unit) w10 =>
  cond r9.2.2.1
  (cond (decide (z3.1 < 0))
  (Rng .i64 (z3.2.2.2.1 + 1) ∧
  K5 (z3.2.2.2.1, r9.1, r9.2.1, z3.2.2.2.1 + 1, ()) w10)
  (cond (decide (r9.1 > z3.2.1))
  (Rng .i64 (z3.2.2.2.1 + 1) ∧
  K5 (z3.2.2.2.1, r9.1, r9.2.1, z3.2.2.2.1 + 1, ()) w10)
  (Rng .i64 (z3.2.2.2.1 + 1) ∧
  K5 (z3.1, z3.2.1, z3.2.2.1, z3.2.2.2.1 + 1, ()) w10)))
  (Rng .i64 (z3.2.2.2.1 + 1) ∧
  K5 (z3.1, z3.2.1, z3.2.2.1, z3.2.2.2.1 + 1, ()) w10))
  (K (z3.1, z3.2.1, z3.2.2.1, ()) w4)
theorem chunk_Current.vc (p0_0 p0_1 p0_2 p0_3 p0_4 p0_5 : Int) (a1 : Option Addr) (n1 c1 : Nat) (w : World) (K : Int × Int × SlV × Unit → World → Prop) (h : chunk_Current.P p0_0 p0_1 p0_2 p0_3 p0_4 p0_5 a1 n1 c1 w K) : CallV Tryz.prog 63 #[.agg #[.int .i64 p0_0, .int .i64 p0_1, .int .i64 p0_2, .int .i64 p0_3, .int .i64 p0_4, .int .i64 p0_5], .slice a1 n1 c1] w [.one (.int .i64), .one (.int .u64), .one .sl] K := by
  refine vcFun.of (A := chunk_Current.A) (wr := false) okf_ok follows h Tryz.func63 ?_
  kernel_rfl
def ref19_head.A : Ann := .no
def ref19_head.P (p0_0 p0_1 p0_2 p0_3 p0_4 p0_5 p1 p2 : Int) (w : World) (K : (Int × Int × Int × Int × Int × Int × Unit) × Unit → World → Prop) : Prop :=
  NewV #[.int .i64 p0_0, .int .i64 p0_1, .int .i64 p0_2, .int .i64 p0_3, .int .i64 p0_4, .int .i64 p0_5] 23 w fun b1 w2 =>
  NewV #[.int .i64 0, .int .i64 0, .int .i64 0, .int .u32 0, .int .u64 0, .int .u64 0] 46 w2 fun b3 w4 =>
  LoadA w4 ⟨b1, 0, none⟩ [.int .i64, .int .i64, .int .i64, .int .i64, .int .i64, .int .i64] fun (x5 : Int × Int × Int × Int × Int × Int × Unit) =>
  CallV Tryz.prog 76 #[.agg #[.int .i64 x5.1, .int .i64 x5.2.1, .int .i64 x5.2.2.1, .int .i64 x5.2.2.2.1, .int .i64 x5.2.2.2.2.1, .int .i64 x5.2.2.2.2.2.1]] w4 [.one (.int .i64)] fun (r6 : Int × Unit) w7 =>
  StoreV w7 ⟨b3, 0, none⟩ [.int .i64 4, .int .i64 p1, .int .i64 0, .int .u32 (IntKind.u32.wrap r6.1), .int .u64 p2, .int .u64 0] fun w8 =>
  LoadA w8 ⟨b3, 0, none⟩ [.int .i64, .int .i64, .int .i64, .int .u32, .int .u64, .int .u64] fun (x9 : Int × Int × Int × Int × Int × Int × Unit) =>
  K ((x9.1, x9.2.1, x9.2.2.1, x9.2.2.2.1, x9.2.2.2.2.1, x9.2.2.2.2.2.1, ()), ()) w8
theorem ref19_head.vc (p0_0 p0_1 p0_2 p0_3 p0_4 p0_5 p1 p2 : Int) (w : World) (K : (Int × Int × Int × Int × Int × Int × Unit) × Unit → World → Prop) (h : ref19_head.P p0_0 p0_1 p0_2 p0_3 p0_4 p0_5 p1 p2 w K) : CallV Tryz.prog 123 #[.agg #[.int .i64 p0_0, .int .i64 p0_1, .int .i64 p0_2, .int .i64 p0_3, .int .i64 p0_4, .int .i64 p0_5], .int .i64 p1, .int .u64 p2] w [.agg [.int .i64, .int .i64, .int .i64, .int .u32, .int .u64, .int .u64]] K := by
  refine vcFun.of (A := ref19_head.A) (wr := false) okf_ok follows h Tryz.func123 ?_
  kernel_rfl
def ref19_Pages.A : Ann := .two .no (.two .no (.two .no (.two (.draw (.take 1 (.take 3 (.take 4 (.take 5 (.take 6 (.take 7 (.eff 0 (.eff 2 (.eff 8 (.eff 9 (.take 10 (.done))))))))))))) (.two (.two .no (.one (.loop [7, 10, 24, 25, 26, 27, 28, 29, 30, 31, 32, 33, 34, 35, 36, 37, 38, 39, 40, 41, 42, 43, 44, 45, 46, 47, 48, 49, 50] [(7, .one .sl), (10, .one (.int .i64))] (.two .no (.two (.one (.draw (.take 0 (.take 1 (.take 2 (.take 3 (.take 4 (.take 6 (.take 7 (.take 8 (.take 9 (.take 10 (.take 11 (.take 12 (.take 13 (.take 14 (.take 15 (.take 16 (.take 17 (.take 18 (.eff 5 (.eff 19 (.eff 20 (.eff 21 (.take 22 (.done)))))))))))))))))))))))))) .no))))) .no))))
def ref19_Pages.P (p0_0 p0_1 p0_2 p0_3 p0_4 p0_5 : Int) (a1 : Option Addr) (n1 c1 : Nat) (p2 : Int) (w : World) (K : SlV × Unit → World → Prop) : Prop :=
  NewV #[.int .i64 p0_0, .int .i64 p0_1, .int .i64 p0_2, .int .i64 p0_3, .int .i64 p0_4, .int .i64 p0_5] 23 w fun b1 w2 =>
  NewV #[] 51 w2 fun b3 w4 =>
  LoadA w4 ⟨b1, 0, none⟩ [.int .i64, .int .i64, .int .i64, .int .i64, .int .i64, .int .i64] fun (x5 : Int × Int × Int × Int × Int × Int × Unit) =>
  CallV Tryz.prog 76 #[.agg #[.int .i64 x5.1, .int .i64 x5.2.1, .int .i64 x5.2.2.1, .int .i64 x5.2.2.2.1, .int .i64 x5.2.2.2.2.1, .int .i64 x5.2.2.2.2.2.1]] w4 [.one (.int .i64)] fun (r6 : Int × Unit) w7 =>
  DrawV fun D8 =>
  (D8 b1 ∧ LoadS w7.drew ⟨b1, 2, none⟩ (.int .i64) fun (x9 : Int) =>
  Rng .i64 (r6.1 * x9) ∧
  Rng .i64 ((r6.1 * x9) - 624) ∧
  NewV #[] 5 w7.drew fun b10 w11 =>
  KeepOn D8 w7.drew w11 ∧
  AppS w11 a1 n1 1 fun ns16 =>
  AppV w11 5 1 1 (some ⟨b10, 0, none⟩) 0 0 ns16 n1 fun a12 n13 c14 w15 =>
  KeepOn D8 w7.drew w15 ∧
  CallV Tryz.prog 122 #[.int .u8 255, .int .i64 ((r6.1 * x9) - 624)] w15 [.one .sl] fun (r17 : SlV × Unit) w18 =>
  KeepOn D8 w7.drew w18 ∧
  AppS w18 r17.1.a r17.1.n 1 fun ns23 =>
  AppV w18 5 1 1 a12 n13 c14 ns23 r17.1.n fun a19 n20 c21 w22 =>
  KeepOn D8 w7.drew w22 ∧
  LoopV [.one .sl, .one (.int .i64)] ((⟨(some ⟨b3, 0, none⟩), 0, 0⟩ : SlV), (0 : Int), ()) w22 fun (z24 : SlV × Int × Unit) w25 (K26 : SlV × Int × Unit → World → Prop) =>
  cond (decide (z24.2.1 < r6.1))
  (DrawV fun D27 =>
  (D27 b1 ∧ LoadA w25.drew ⟨b1, 0, none⟩ [.int .i64, .int .i64, .int .i64, .int .i64, .int .i64, .int .i64] fun (x28 : Int × Int × Int × Int × Int × Int × Unit) =>
  (D27 b1 ∧ LoadA w25.drew ⟨b1, 0, none⟩ [.int .i64, .int .i64, .int .i64, .int .i64, .int .i64, .int .i64] fun (x29 : Int × Int × Int × Int × Int × Int × Unit) =>
  (D27 b1 ∧ LoadS w25.drew ⟨b1, 2, none⟩ (.int .i64) fun (x30 : Int) =>
  Rng .i64 (z24.2.1 * x30) ∧
  (D27 b1 ∧ LoadS w25.drew ⟨b1, 2, none⟩ (.int .i64) fun (x31 : Int) =>
  Rng .i64 (z24.2.1 * x31) ∧
  (D27 b1 ∧ LoadS w25.drew ⟨b1, 2, none⟩ (.int .i64) fun (x32 : Int) =>
  Rng .i64 ((z24.2.1 * x31) + x32) ∧
  ((0 : Int) ≤ (z24.2.1 * x30) ∧ (z24.2.1 * x30) ≤ ((z24.2.1 * x31) + x32) ∧ ((z24.2.1 * x31) + x32) ≤ ((c21 : Nat) : Int)) ∧
  SubK a19 ((z24.2.1 * x30).toNat) c21 1 fun a33 =>
  CallV Tryz.prog 123 #[.agg #[.int .i64 x29.1, .int .i64 x29.2.1, .int .i64 x29.2.2.1, .int .i64 x29.2.2.2.1, .int .i64 x29.2.2.2.2.1, .int .i64 x29.2.2.2.2.2.1], .int .i64 z24.2.1, .int .u64 p2] w25.drew [.agg [.int .i64, .int .i64, .int .i64, .int .u32, .int .u64, .int .u64]] fun (r34 : (Int × Int × Int × Int × Int × Int × Unit) × Unit) w35 =>
  KeepOn D27 w25.drew w35 ∧
  CallV Tryz.prog 88 #[.agg #[.int .i64 x28.1, .int .i64 x28.2.1, .int .i64 x28.2.2.1, .int .i64 x28.2.2.2.1, .int .i64 x28.2.2.2.2.1, .int .i64 x28.2.2.2.2.2.1], .agg #[.int .i64 r34.1.1, .int .i64 r34.1.2.1, .int .i64 r34.1.2.2.1, .int .u32 r34.1.2.2.2.1, .int .u64 r34.1.2.2.2.2.1, .int .u64 r34.1.2.2.2.2.2.1], .slice a33 ((((z24.2.1 * x31) + x32).toNat) - ((z24.2.1 * x30).toNat)) (c21 - ((z24.2.1 * x30).toNat)), .slice none 0 0] w35 [.one .sl] fun (r36 : SlV × Unit) w37 =>
  KeepOn D27 w25.drew w37 ∧
  NewV #[.slice r36.1.a r36.1.n r36.1.c] 51 w37 fun b38 w39 =>
  KeepOn D27 w25.drew w39 ∧
  AppS w39 (some ⟨b38, 0, none⟩) 1 1 fun ns44 =>
  AppV w39 51 1 24 z24.1.a z24.1.n z24.1.c ns44 1 fun a40 n41 c42 w43 =>
  KeepOn D27 w25.drew w43 ∧
  Rng .i64 (z24.2.1 + 1) ∧
  K26 ((⟨a40, n41, c42⟩ : SlV), z24.2.1 + 1, ()) w43))))))
  (K (z24.1, ()) w25))
theorem ref19_Pages.vc (p0_0 p0_1 p0_2 p0_3 p0_4 p0_5 : Int) (a1 : Option Addr) (n1 c1 : Nat) (p2 : Int) (w : World) (K : SlV × Unit → World → Prop) (h : ref19_Pages.P p0_0 p0_1 p0_2 p0_3 p0_4 p0_5 a1 n1 c1 p2 w K) : CallV Tryz.prog 68 #[.agg #[.int .i64 p0_0, .int .i64 p0_1, .int .i64 p0_2, .int .i64 p0_3, .int .i64 p0_4, .int .i64 p0_5], .slice a1 n1 c1, .int .u64 p2] w [.one .sl] K := by
  refine vcFun.of (A := ref19_Pages.A) (wr := false) okf_ok follows h Tryz.func68 ?_
  kernel_rfl
def ref19_Hold.A : Ann := .two .no (.two .no (.two .no (.two .no (.two (.two .no (.one (.loop [7, 8, 17, 18, 19, 20, 21, 22, 23, 24, 25, 26, 27, 28, 29, 30, 31, 32, 33, 34, 35, 36, 37, 38, 39, 40, 41, 42, 43, 44, 45, 46, 47, 48, 49, 50, 51, 52, 53, 54, 55, 56, 57, 58, 59, 60, 61, 62, 63, 64, 65, 66, 67, 68, 69, 70, 71, 72, 73, 74, 75, 76] [(7, .one (.int .i64))] (.two .no (.two (.one (.two (.two (.draw (.take 0 (.take 1 (.take 2 (.take 3 (.take 4 (.take 5 (.take 6 (.take 7 (.take 8 (.done))))))))))) .no) (.join [8, 32, 33, 34, 35, 36, 37] [(8, .one .ptr)] (.draw (.take 0 (.take 1 (.take 2 (.take 3 (.take 4 (.both 5 (.eff 6 (.eff 7 (.done))) 6 (.eff 5 (.eff 7 (.done)))))))))) (.join [38, 39, 40, 41, 42, 43] [] .no (.two (.join [44, 45, 46, 47, 48, 49, 50, 51, 52, 53, 54, 55, 56, 57, 58, 59, 60, 61, 62, 63, 64, 65, 66, 67] [(67, .one .bool)] (.draw (.take 0 (.take 1 (.take 2 (.take 3 (.take 4 (.take 5 (.take 6 (.take 7 (.take 8 (.take 9 (.eff 10 (.take 11 (.take 12 (.take 13 (.take 14 (.take 15 (.take 16 (.take 17 (.take 18 (.take 19 (.take 20 (.take 21 (.take 22 (.take 23 (.done)))))))))))))))))))))))))) .no) (.draw (.take 1 (.take 4 (.take 5 (.both 0 (.eff 2 (.eff 3 (.eff 6 (.take 7 (.eff 8 (.done)))))) 2 (.eff 0 (.eff 3 (.eff 6 (.take 7 (.eff 8 (.done)))))))))))))))) .no))))) .no))))
def ref19_Hold.P (p0_0 p0_1 p0_2 p0_3 p0_4 p0_5 : Int) (a1 : Option Addr) (n1 c1 : Nat) (w : World) (K : (Int × SlV × Bool × Unit) × Unit → World → Prop) : Prop :=
  NewV #[.int .i64 p0_0, .int .i64 p0_1, .int .i64 p0_2, .int .i64 p0_3, .int .i64 p0_4, .int .i64 p0_5] 23 w fun b1 w2 =>
  NewV #[.int .u64 0, .slice none 0 0, .bool false] 135 w2 fun b3 w4 =>
  LoadA w4 ⟨b1, 0, none⟩ [.int .i64, .int .i64, .int .i64, .int .i64, .int .i64, .int .i64] fun (x5 : Int × Int × Int × Int × Int × Int × Unit) =>
  CallV Tryz.prog 76 #[.agg #[.int .i64 x5.1, .int .i64 x5.2.1, .int .i64 x5.2.2.1, .int .i64 x5.2.2.2.1, .int .i64 x5.2.2.2.2.1, .int .i64 x5.2.2.2.2.2.1]] w4 [.one (.int .i64)] fun (r6 : Int × Unit) w7 =>
  cond (decide (((n1 : Nat) : Int) < r6.1))
  (StoreV w7 ⟨b3, 0, none⟩ [.int .u64 0, .slice none 0 0, .bool false] fun w8 =>
  LoadA w8 ⟨b3, 0, none⟩ [.int .u64, .sl, .bool] fun (x9 : Int × SlV × Bool × Unit) =>
  K ((x9.1, x9.2.1, x9.2.2.1, ()), ()) w8)
  (NewV #[.int .u64 0, .slice none 0 0, .bool false] 135 w7 fun b10 w11 =>
  StoreV w11 ⟨b10, 0, none⟩ [.int .u64 0, .slice none 0 0, .bool true] fun w12 =>
  LoopV [.one (.int .i64)] ((0 : Int), ()) w12 fun (z13 : Int × Unit) w14 (K15 : Int × Unit → World → Prop) =>
  cond (decide (z13.1 < r6.1))
  (DrawV fun D16 =>
  (0 ≤ z13.1 ∧ z13.1 < ((n1 : Nat) : Int)) ∧ ∃ q17 : Addr, a1 = some q17 ∧
  (D16 (q17.add (z13.1.toNat * 1)).block ∧ LoadS w14.drew (q17.add (z13.1.toNat * 1)) .sl fun (x18 : SlV) =>
  (D16 b1 ∧ LoadS w14.drew ⟨b1, 2, none⟩ (.int .i64) fun (x19 : Int) =>
  Rng .i64 (x19 + 88) ∧
  cond (((x18.n : Nat) : Int) != (x19 + 88))
  (StoreV w14.drew ⟨b3, 0, none⟩ [.int .u64 0, .slice none 0 0, .bool false] fun w20 =>
  LoadA w20 ⟨b3, 0, none⟩ [.int .u64, .sl, .bool] fun (x21 : Int × SlV × Bool × Unit) =>
  K ((x21.1, x21.2.1, x21.2.2.1, ()), ()) w20)
  (JoinV [.one .ptr] (fun (v23 : (Option Addr) × Unit) w24 =>
  JoinV [] (fun (v26 : Unit) w27 =>
  JoinV [.one .bool] (fun (v29 : Bool × Unit) w30 =>
  cond v29.1
  (StoreV w30 ⟨b3, 0, none⟩ [.int .u64 0, .slice none 0 0, .bool false] fun w31 =>
  LoadA w31 ⟨b3, 0, none⟩ [.int .u64, .sl, .bool] fun (x32 : Int × SlV × Bool × Unit) =>
  K ((x32.1, x32.2.1, x32.2.2.1, ()), ()) w31)
  (DrawV fun D33 =>
  PtrK v23.1 fun q34 =>
  (D33 (q34.add 6).block ∧ LoadS w30.drew (q34.add 6) .sl fun (x35 : SlV) =>
  ((NewV #[] 5 w30.drew fun b36 w37 =>
  KeepOn D33 w30.drew w37 ∧
  LoadS w37 ⟨b10, 1, none⟩ .sl fun (x38 : SlV) =>
  KeepOn D33 w30.drew w37 ∧
  AppS w37 x38.a x38.n 1 fun ns43 =>
  AppV w37 5 1 1 (some ⟨b36, 0, none⟩) 0 0 ns43 x38.n fun a39 n40 c41 w42 =>
  KeepOn D33 w30.drew w42 ∧
  AppS w42 x35.a x35.n 1 fun ns48 =>
  AppV w42 5 1 1 a39 n40 c41 ns48 x35.n fun a44 n45 c46 w47 =>
  KeepOn D33 w30.drew w47 ∧
  StoreV w47 ⟨b10, 1, none⟩ [.slice a44 n45 c46] fun w49 =>
  KeepOn D33 w30.drew w49 ∧
  Rng .i64 (z13.1 + 1) ∧
  K15 (z13.1 + 1, ()) w49) ∧
  (LoadS w30.drew ⟨b10, 1, none⟩ .sl fun (x50 : SlV) =>
  KeepOn D33 w30.drew w30.drew ∧
  NewV #[] 5 w30.drew fun b51 w52 =>
  KeepOn D33 w30.drew w52 ∧
  AppS w52 x50.a x50.n 1 fun ns57 =>
  AppV w52 5 1 1 (some ⟨b51, 0, none⟩) 0 0 ns57 x50.n fun a53 n54 c55 w56 =>
  KeepOn D33 w30.drew w56 ∧
  AppS w56 x35.a x35.n 1 fun ns62 =>
  AppV w56 5 1 1 a53 n54 c55 ns62 x35.n fun a58 n59 c60 w61 =>
  KeepOn D33 w30.drew w61 ∧
  StoreV w61 ⟨b10, 1, none⟩ [.slice a58 n59 c60] fun w63 =>
  KeepOn D33 w30.drew w63 ∧
  Rng .i64 (z13.1 + 1) ∧
  K15 (z13.1 + 1, ()) w63))))) fun (J28 : Bool × Unit → World → Prop) =>
  DrawV fun D64 =>
  PtrK v23.1 fun q65 =>
  (D64 (q65.add 9).block ∧ LoadS w27.drew (q65.add 9) .bool fun (x66 : Bool) =>
  cond (!x66)
  (J28 (true, ()) w27.drew)
  (PtrK v23.1 fun q67 =>
  (D64 q67.block ∧ LoadA w27.drew q67 [.int .i64, .int .i64, .int .i64, .int .u32, .int .u64, .int .u64] fun (x68 : Int × Int × Int × Int × Int × Int × Unit) =>
  (D64 b1 ∧ LoadA w27.drew ⟨b1, 0, none⟩ [.int .i64, .int .i64, .int .i64, .int .i64, .int .i64, .int .i64] fun (x69 : Int × Int × Int × Int × Int × Int × Unit) =>
  (D64 b10 ∧ LoadS w27.drew ⟨b10, 0, none⟩ (.int .u64) fun (x70 : Int) =>
  CallV Tryz.prog 123 #[.agg #[.int .i64 x69.1, .int .i64 x69.2.1, .int .i64 x69.2.2.1, .int .i64 x69.2.2.2.1, .int .i64 x69.2.2.2.2.1, .int .i64 x69.2.2.2.2.2.1], .int .i64 z13.1, .int .u64 x70] w27.drew [.agg [.int .i64, .int .i64, .int .i64, .int .u32, .int .u64, .int .u64]] fun (r71 : (Int × Int × Int × Int × Int × Int × Unit) × Unit) w72 =>
  KeepOn D64 w27.drew w72 ∧
  AggEq Tryz.prog 46 #[.int .i64 x68.1, .int .i64 x68.2.1, .int .i64 x68.2.2.1, .int .u32 x68.2.2.2.1, .int .u64 x68.2.2.2.2.1, .int .u64 x68.2.2.2.2.2.1] #[.int .i64 r71.1.1, .int .i64 r71.1.2.1, .int .i64 r71.1.2.2.1, .int .u32 r71.1.2.2.2.1, .int .u64 r71.1.2.2.2.2.1, .int .u64 r71.1.2.2.2.2.2.1] fun e73 =>
  cond (!e73)
  (J28 (true, ()) w72)
  (Rng .i64 (r6.1 - 1) ∧
  cond (z13.1 == (r6.1 - 1))
  (PtrK v23.1 fun q74 =>
  (D64 (q74.add 8).block ∧ LoadS w27.drew (q74.add 8) .bool fun (x75 : Bool) =>
  J28 (!x75, ()) w72))
  (J28 (false, ()) w72)))))))) fun (J25 : Unit → World → Prop) =>
  cond (z13.1 == 0)
  (PtrK v23.1 fun q76 =>
  LoadS w24 (q76.add 4) (.int .u64) fun (x77 : Int) =>
  StoreV w24 ⟨b10, 0, none⟩ [.int .u64 x77] fun w78 =>
  J25 (()) w78)
  (J25 (()) w24)) fun (J22 : (Option Addr) × Unit → World → Prop) =>
  DrawV fun D79 =>
  (D79 b1 ∧ LoadA w14.drew.drew ⟨b1, 0, none⟩ [.int .i64, .int .i64, .int .i64, .int .i64, .int .i64, .int .i64] fun (x80 : Int × Int × Int × Int × Int × Int × Unit) =>
  (0 ≤ z13.1 ∧ z13.1 < ((n1 : Nat) : Int)) ∧ ∃ q81 : Addr, a1 = some q81 ∧
  (D79 (q81.add (z13.1.toNat * 1)).block ∧ LoadS w14.drew.drew (q81.add (z13.1.toNat * 1)) .sl fun (x82 : SlV) =>
  ((CallV Tryz.prog 51 #[.agg #[.int .i64 x80.1, .int .i64 x80.2.1, .int .i64 x80.2.2.1, .int .i64 x80.2.2.2.1, .int .i64 x80.2.2.2.2.1, .int .i64 x80.2.2.2.2.2.1], .slice x82.a x82.n x82.c] w14.drew.drew [.agg [.int .i64, .int .i64, .int .i64, .int .u32, .int .u64, .int .u64, .sl, .sl, .bool, .bool]] fun (r83 : (Int × Int × Int × Int × Int × Int × SlV × SlV × Bool × Bool × Unit) × Unit) w84 =>
  KeepOn D79 w14.drew.drew w84 ∧
  NewV #[.int .i64 0, .int .i64 0, .int .i64 0, .int .u32 0, .int .u64 0, .int .u64 0, .slice none 0 0, .slice none 0 0, .bool false, .bool false] 57 w84 fun b85 w86 =>
  KeepOn D79 w14.drew.drew w86 ∧
  StoreV w86 ⟨b85, 0, none⟩ [.int .i64 r83.1.1, .int .i64 r83.1.2.1, .int .i64 r83.1.2.2.1, .int .u32 r83.1.2.2.2.1, .int .u64 r83.1.2.2.2.2.1, .int .u64 r83.1.2.2.2.2.2.1, .slice r83.1.2.2.2.2.2.2.1.a r83.1.2.2.2.2.2.2.1.n r83.1.2.2.2.2.2.2.1.c, .slice r83.1.2.2.2.2.2.2.2.1.a r83.1.2.2.2.2.2.2.2.1.n r83.1.2.2.2.2.2.2.2.1.c, .bool r83.1.2.2.2.2.2.2.2.2.1, .bool r83.1.2.2.2.2.2.2.2.2.2.1] fun w87 =>
  KeepOn D79 w14.drew.drew w87 ∧
  J22 ((some ⟨b85, 0, none⟩), ()) w87) ∧
  (NewV #[.int .i64 0, .int .i64 0, .int .i64 0, .int .u32 0, .int .u64 0, .int .u64 0, .slice none 0 0, .slice none 0 0, .bool false, .bool false] 57 w14.drew.drew fun b88 w89 =>
  KeepOn D79 w14.drew.drew w89 ∧
  CallV Tryz.prog 51 #[.agg #[.int .i64 x80.1, .int .i64 x80.2.1, .int .i64 x80.2.2.1, .int .i64 x80.2.2.2.1, .int .i64 x80.2.2.2.2.1, .int .i64 x80.2.2.2.2.2.1], .slice x82.a x82.n x82.c] w89 [.agg [.int .i64, .int .i64, .int .i64, .int .u32, .int .u64, .int .u64, .sl, .sl, .bool, .bool]] fun (r90 : (Int × Int × Int × Int × Int × Int × SlV × SlV × Bool × Bool × Unit) × Unit) w91 =>
  KeepOn D79 w14.drew.drew w91 ∧
  StoreV w91 ⟨b88, 0, none⟩ [.int .i64 r90.1.1, .int .i64 r90.1.2.1, .int .i64 r90.1.2.2.1, .int .u32 r90.1.2.2.2.1, .int .u64 r90.1.2.2.2.2.1, .int .u64 r90.1.2.2.2.2.2.1, .slice r90.1.2.2.2.2.2.2.1.a r90.1.2.2.2.2.2.2.1.n r90.1.2.2.2.2.2.2.1.c, .slice r90.1.2.2.2.2.2.2.2.1.a r90.1.2.2.2.2.2.2.2.1.n r90.1.2.2.2.2.2.2.2.1.c, .bool r90.1.2.2.2.2.2.2.2.2.1, .bool r90.1.2.2.2.2.2.2.2.2.2.1] fun w92 =>
  KeepOn D79 w14.drew.drew w92 ∧
  J22 ((some ⟨b88, 0, none⟩), ()) w92))))))))
  (LoadS w14 ⟨b10, 1, none⟩ .sl fun (x93 : SlV) =>
  ((0 : Int) ≤ (624 : Int) ∧ (624 : Int) ≤ ((x93.c : Nat) : Int)) ∧
  SubK x93.a 0 x93.c 1 fun a94 =>
  StoreV w14 ⟨b10, 1, none⟩ [.slice a94 (624 - 0) (x93.c - 0)] fun w95 =>
  LoadA w95 ⟨b10, 0, none⟩ [.int .u64, .sl, .bool] fun (x96 : Int × SlV × Bool × Unit) =>
  StoreV w95 ⟨b3, 0, none⟩ [.int .u64 x96.1, .slice x96.2.1.a x96.2.1.n x96.2.1.c, .bool x96.2.2.1] fun w97 =>
  LoadA w97 ⟨b3, 0, none⟩ [.int .u64, .sl, .bool] fun (x98 : Int × SlV × Bool × Unit) =>
  K ((x98.1, x98.2.1, x98.2.2.1, ()), ()) w97))
theorem ref19_Hold.vc (p0_0 p0_1 p0_2 p0_3 p0_4 p0_5 : Int) (a1 : Option Addr) (n1 c1 : Nat) (w : World) (K : (Int × SlV × Bool × Unit) × Unit → World → Prop) (h : ref19_Hold.P p0_0 p0_1 p0_2 p0_3 p0_4 p0_5 a1 n1 c1 w K) : CallV Tryz.prog 121 #[.agg #[.int .i64 p0_0, .int .i64 p0_1, .int .i64 p0_2, .int .i64 p0_3, .int .i64 p0_4, .int .i64 p0_5], .slice a1 n1 c1] w [.agg [.int .u64, .sl, .bool]] K := by
  refine vcFun.of (A := ref19_Hold.A) (wr := false) okf_ok follows h Tryz.func121 ?_
  kernel_rfl
def ref19_Current.A : Ann := .two .no (.two .no (.two .no (.two (.two .no (.one (.loop [6, 8, 9, 11, 12, 13, 14, 15, 16, 17, 18, 19, 20, 21, 22, 23, 24, 25, 26, 27, 28, 29, 30, 31, 32, 33, 34, 35, 36, 37] [(6, .one (.int .i64)), (8, .one (.int .i64))] (.two .no (.two (.one (.join [9, 17, 18, 19, 20, 21, 22] [(9, .one .ptr)] (.draw (.take 0 (.take 1 (.take 2 (.take 3 (.take 4 (.both 5 (.eff 6 (.eff 7 (.done))) 6 (.eff 5 (.eff 7 (.done)))))))))) .no)) .no))))) (.two (.draw (.take 0 (.take 1 (.take 2 (.eff 3 (.done)))))) .no))))
def ref19_Current.P (p0_0 p0_1 p0_2 p0_3 p0_4 p0_5 : Int) (a1 : Option Addr) (n1 c1 : Nat) (w : World) (K : Int × (Int × SlV × Bool × Unit) × Unit → World → Prop) : Prop :=
  NewV #[.int .i64 p0_0, .int .i64 p0_1, .int .i64 p0_2, .int .i64 p0_3, .int .i64 p0_4, .int .i64 p0_5] 23 w fun b1 w2 =>
  NewV #[.int .u64 0, .slice none 0 0, .bool false] 135 w2 fun b3 w4 =>
  NewV #[.int .u64 0, .slice none 0 0, .bool false] 135 w4 fun b5 w6 =>
  StoreV w6 ⟨b5, 0, none⟩ [.int .u64 0, .slice none 0 0, .bool false] fun w7 =>
  LoopV [.one (.int .i64), .one (.int .i64)] (((-1) : Int), (0 : Int), ()) w7 fun (z8 : Int × Int × Unit) w9 (K10 : Int × Int × Unit → World → Prop) =>
  cond (decide (z8.2.1 < ((n1 : Nat) : Int)))
  (JoinV [.one .ptr] (fun (v12 : (Option Addr) × Unit) w13 =>
  PtrK v12.1 fun q14 =>
  LoadS w13 (q14.add 2) .bool fun (x15 : Bool) =>
  cond x15
  (cond (decide (z8.1 < 0))
  (PtrK v12.1 fun q16 =>
  LoadA w13 q16 [.int .u64, .sl, .bool] fun (x17 : Int × SlV × Bool × Unit) =>
  StoreV w13 ⟨b5, 0, none⟩ [.int .u64 x17.1, .slice x17.2.1.a x17.2.1.n x17.2.1.c, .bool x17.2.2.1] fun w18 =>
  Rng .i64 (z8.2.1 + 1) ∧
  K10 (z8.2.1, z8.2.1 + 1, ()) w18)
  (PtrK v12.1 fun q19 =>
  LoadS w13 q19 (.int .u64) fun (x20 : Int) =>
  LoadS w13 ⟨b5, 0, none⟩ (.int .u64) fun (x21 : Int) =>
  cond (decide (x20 > x21))
  (PtrK v12.1 fun q22 =>
  LoadA w13 q22 [.int .u64, .sl, .bool] fun (x23 : Int × SlV × Bool × Unit) =>
  StoreV w13 ⟨b5, 0, none⟩ [.int .u64 x23.1, .slice x23.2.1.a x23.2.1.n x23.2.1.c, .bool x23.2.2.1] fun w24 =>
  Rng .i64 (z8.2.1 + 1) ∧
  K10 (z8.2.1, z8.2.1 + 1, ()) w24)
  (Rng .i64 (z8.2.1 + 1) ∧
  K10 (z8.1, z8.2.1 + 1, ()) w13)))
  (Rng .i64 (z8.2.1 + 1) ∧
  K10 (z8.1, z8.2.1 + 1, ()) w13)) fun (J11 : (Option Addr) × Unit → World → Prop) =>
  DrawV fun D25 =>
  (D25 b1 ∧ LoadA w9.drew ⟨b1, 0, none⟩ [.int .i64, .int .i64, .int .i64, .int .i64, .int .i64, .int .i64] fun (x26 : Int × Int × Int × Int × Int × Int × Unit) =>
  (0 ≤ z8.2.1 ∧ z8.2.1 < ((n1 : Nat) : Int)) ∧ ∃ q27 : Addr, a1 = some q27 ∧
  (D25 (q27.add (z8.2.1.toNat * 1)).block ∧ LoadS w9.drew (q27.add (z8.2.1.toNat * 1)) .sl fun (x28 : SlV) =>
  ((CallV Tryz.prog 121 #[.agg #[.int .i64 x26.1, .int .i64 x26.2.1, .int .i64 x26.2.2.1, .int .i64 x26.2.2.2.1, .int .i64 x26.2.2.2.2.1, .int .i64 x26.2.2.2.2.2.1], .slice x28.a x28.n x28.c] w9.drew [.agg [.int .u64, .sl, .bool]] fun (r29 : (Int × SlV × Bool × Unit) × Unit) w30 =>
  KeepOn D25 w9.drew w30 ∧
  NewV #[.int .u64 0, .slice none 0 0, .bool false] 135 w30 fun b31 w32 =>
  KeepOn D25 w9.drew w32 ∧
  StoreV w32 ⟨b31, 0, none⟩ [.int .u64 r29.1.1, .slice r29.1.2.1.a r29.1.2.1.n r29.1.2.1.c, .bool r29.1.2.2.1] fun w33 =>
  KeepOn D25 w9.drew w33 ∧
  J11 ((some ⟨b31, 0, none⟩), ()) w33) ∧
  (NewV #[.int .u64 0, .slice none 0 0, .bool false] 135 w9.drew fun b34 w35 =>
  KeepOn D25 w9.drew w35 ∧
  CallV Tryz.prog 121 #[.agg #[.int .i64 x26.1, .int .i64 x26.2.1, .int .i64 x26.2.2.1, .int .i64 x26.2.2.2.1, .int .i64 x26.2.2.2.2.1, .int .i64 x26.2.2.2.2.2.1], .slice x28.a x28.n x28.c] w35 [.agg [.int .u64, .sl, .bool]] fun (r36 : (Int × SlV × Bool × Unit) × Unit) w37 =>
  KeepOn D25 w9.drew w37 ∧
  StoreV w37 ⟨b34, 0, none⟩ [.int .u64 r36.1.1, .slice r36.1.2.1.a r36.1.2.1.n r36.1.2.1.c, .bool r36.1.2.2.1] fun w38 =>
  KeepOn D25 w9.drew w38 ∧
  J11 ((some ⟨b34, 0, none⟩), ()) w38)))))
  (DrawV fun D39 =>
  (D39 b5 ∧ LoadA w9.drew ⟨b5, 0, none⟩ [.int .u64, .sl, .bool] fun (x40 : Int × SlV × Bool × Unit) =>
  StoreV w9.drew ⟨b3, 0, none⟩ [.int .u64 x40.1, .slice x40.2.1.a x40.2.1.n x40.2.1.c, .bool x40.2.2.1] fun w41 =>
  KeepOn D39 w9.drew w41 ∧
  LoadA w41 ⟨b3, 0, none⟩ [.int .u64, .sl, .bool] fun (x42 : Int × SlV × Bool × Unit) =>
  K (z8.1, (x42.1, x42.2.1, x42.2.2.1, ()), ()) w41))
theorem ref19_Current.vc (p0_0 p0_1 p0_2 p0_3 p0_4 p0_5 : Int) (a1 : Option Addr) (n1 c1 : Nat) (w : World) (K : Int × (Int × SlV × Bool × Unit) × Unit → World → Prop) (h : ref19_Current.P p0_0 p0_1 p0_2 p0_3 p0_4 p0_5 a1 n1 c1 w K) : CallV Tryz.prog 64 #[.agg #[.int .i64 p0_0, .int .i64 p0_1, .int .i64 p0_2, .int .i64 p0_3, .int .i64 p0_4, .int .i64 p0_5], .slice a1 n1 c1] w [.one (.int .i64), .agg [.int .u64, .sl, .bool]] K := by
  refine vcFun.of (A := ref19_Current.A) (wr := false) okf_ok follows h Tryz.func64 ?_
  kernel_rfl
end Go.Proofs.YtlpeoaphdmfjdaaGreat.Vc
/-! The contracts of layer 19 (chunk): a record's pages. -/
namespace Go.Proofs.YtlpeoaphdmfjdaaGreat.Vc
open Go Go.Eng Go.RowKit
theorem own19_c {w : World} {g : Geo} {i gen : Int} (hR : Right g) : CallV Tryz.prog 128 #[g.val, .int .i64 i, .int .u64 gen] w [.agg [.int .i64, .int .i64, .int .i64, .int .u32, .int .u64, .int .u64]] fun r w' => r.1 = (ownH g i gen).tup ∧ Ext w w' := by
  apply chunk_own.vc
  unfold chunk_own.P
  have b := nCh_bd hR
  have S := Sep.start NoB w
  (repeat ((first | refine S.newB fun _ _ S f _ => ?_ | refine S.la0 rfl ?_ | refine S.la1 rfl ?_ | refine S.la2 rfl ?_ | refine S.la3 rfl ?_ | refine S.la4 rfl ?_ | refine S.la5 rfl ?_ | refine S.ld0 rfl rfl ?_ | refine S.ld1 rfl rfl ?_ | refine S.ld2 rfl rfl ?_ | refine S.ld3 rfl rfl ?_ | refine S.ld4 rfl rfl ?_ | refine S.ld5 rfl rfl ?_ | refine S.st0 (by rfl) fun _ S f => ?_ | refine S.st1 (by rfl) fun _ S f => ?_ | refine S.st2 (by rfl) fun _ S f => ?_ | refine S.st3 (by rfl) fun _ S f => ?_ | refine S.st4 (by rfl) fun _ S f => ?_ | refine S.st5 (by rfl) fun _ S f => ?_ | refine S.su0 (by rfl) fun _ S f => ?_ | refine S.su1 (by rfl) fun _ S f => ?_ | refine S.su2 (by rfl) fun _ S f => ?_ | refine S.su3 (by rfl) fun _ S f => ?_ | refine S.su4 (by rfl) fun _ S f => ?_ | refine S.su5 (by rfl) fun _ S f => ?_ | refine ⟨by decide, ?_⟩); try dsimp only [List.set_cons_zero, List.set_cons_succ, cond_true, cond_false, Bool.not_true, Bool.not_false]))
  refine (Chunks_c (g := g)).mono ?_
  rintro ⟨(r : Int), ⟨⟩⟩ w2 ⟨h2, e2⟩
  dsimp only at h2 ⊢
  rw [if_pos hR] at h2
  have h2 : r = nCh g := h2
  subst h2
  have S := S.stepE e2
  have hw : IntKind.u32.wrap (nCh g) = nCh g := by rw [u32_wrap]; omega
  rw [hw]
  (repeat ((first | refine S.newB fun _ _ S f _ => ?_ | refine S.la0 rfl ?_ | refine S.la1 rfl ?_ | refine S.la2 rfl ?_ | refine S.la3 rfl ?_ | refine S.la4 rfl ?_ | refine S.la5 rfl ?_ | refine S.ld0 rfl rfl ?_ | refine S.ld1 rfl rfl ?_ | refine S.ld2 rfl rfl ?_ | refine S.ld3 rfl rfl ?_ | refine S.ld4 rfl rfl ?_ | refine S.ld5 rfl rfl ?_ | refine S.st0 (by rfl) fun _ S f => ?_ | refine S.st1 (by rfl) fun _ S f => ?_ | refine S.st2 (by rfl) fun _ S f => ?_ | refine S.st3 (by rfl) fun _ S f => ?_ | refine S.st4 (by rfl) fun _ S f => ?_ | refine S.st5 (by rfl) fun _ S f => ?_ | refine S.su0 (by rfl) fun _ S f => ?_ | refine S.su1 (by rfl) fun _ S f => ?_ | refine S.su2 (by rfl) fun _ S f => ?_ | refine S.su3 (by rfl) fun _ S f => ?_ | refine S.su4 (by rfl) fun _ S f => ?_ | refine S.su5 (by rfl) fun _ S f => ?_ | refine ⟨by decide, ?_⟩); try dsimp only [List.set_cons_zero, List.set_cons_succ, cond_true, cond_false, Bool.not_true, Bool.not_false]))
  exact ⟨rfl, S.ext⟩
theorem head19_c {w : World} {g : Geo} {i gen : Int} (hR : Right g) : CallV Tryz.prog 123 #[g.val, .int .i64 i, .int .u64 gen] w [.agg [.int .i64, .int .i64, .int .i64, .int .u32, .int .u64, .int .u64]] fun r w' => r.1 = (ownH g i gen).tup ∧ Ext w w' := by
  apply ref19_head.vc
  unfold ref19_head.P
  have b := nCh_bd hR
  have S := Sep.start NoB w
  (repeat ((first | refine S.newB fun _ _ S f _ => ?_ | refine S.la0 rfl ?_ | refine S.la1 rfl ?_ | refine S.la2 rfl ?_ | refine S.la3 rfl ?_ | refine S.la4 rfl ?_ | refine S.la5 rfl ?_ | refine S.ld0 rfl rfl ?_ | refine S.ld1 rfl rfl ?_ | refine S.ld2 rfl rfl ?_ | refine S.ld3 rfl rfl ?_ | refine S.ld4 rfl rfl ?_ | refine S.ld5 rfl rfl ?_ | refine S.st0 (by rfl) fun _ S f => ?_ | refine S.st1 (by rfl) fun _ S f => ?_ | refine S.st2 (by rfl) fun _ S f => ?_ | refine S.st3 (by rfl) fun _ S f => ?_ | refine S.st4 (by rfl) fun _ S f => ?_ | refine S.st5 (by rfl) fun _ S f => ?_ | refine S.su0 (by rfl) fun _ S f => ?_ | refine S.su1 (by rfl) fun _ S f => ?_ | refine S.su2 (by rfl) fun _ S f => ?_ | refine S.su3 (by rfl) fun _ S f => ?_ | refine S.su4 (by rfl) fun _ S f => ?_ | refine S.su5 (by rfl) fun _ S f => ?_ | refine ⟨by decide, ?_⟩); try dsimp only [List.set_cons_zero, List.set_cons_succ, cond_true, cond_false, Bool.not_true, Bool.not_false]))
  refine (rChunks_c (g := g) hR.sec).mono ?_
  rintro ⟨(r : Int), ⟨⟩⟩ w2 ⟨h2, e2⟩
  dsimp only at h2 ⊢
  have h2 : r = nCh g := h2
  subst h2
  have S := S.stepE e2
  have hw : IntKind.u32.wrap (nCh g) = nCh g := by rw [u32_wrap]; omega
  rw [hw]
  (repeat ((first | refine S.newB fun _ _ S f _ => ?_ | refine S.la0 rfl ?_ | refine S.la1 rfl ?_ | refine S.la2 rfl ?_ | refine S.la3 rfl ?_ | refine S.la4 rfl ?_ | refine S.la5 rfl ?_ | refine S.ld0 rfl rfl ?_ | refine S.ld1 rfl rfl ?_ | refine S.ld2 rfl rfl ?_ | refine S.ld3 rfl rfl ?_ | refine S.ld4 rfl rfl ?_ | refine S.ld5 rfl rfl ?_ | refine S.st0 (by rfl) fun _ S f => ?_ | refine S.st1 (by rfl) fun _ S f => ?_ | refine S.st2 (by rfl) fun _ S f => ?_ | refine S.st3 (by rfl) fun _ S f => ?_ | refine S.st4 (by rfl) fun _ S f => ?_ | refine S.st5 (by rfl) fun _ S f => ?_ | refine S.su0 (by rfl) fun _ S f => ?_ | refine S.su1 (by rfl) fun _ S f => ?_ | refine S.su2 (by rfl) fun _ S f => ?_ | refine S.su3 (by rfl) fun _ S f => ?_ | refine S.su4 (by rfl) fun _ S f => ?_ | refine S.su5 (by rfl) fun _ S f => ?_ | refine ⟨by decide, ?_⟩); try dsimp only [List.set_cons_zero, List.set_cons_succ, cond_true, cond_false, Bool.not_true, Bool.not_false]))
  exact ⟨rfl, S.ext⟩
theorem mul_le' {a b s : Int} (h : a ≤ b) (hs : 0 ≤ s) : a * s ≤ b * s := Int.mul_le_mul_of_nonneg_right h hs
theorem toNat_mul' {i : Nat} {s : Int} (hs : 0 ≤ s) : ((i : Int) * s).toNat = i * s.toNat := by rw [Int.toNat_mul (by omega) hs, Int.toNat_natCast]
theorem Pages_c {w : World} {g : Geo} {a : Option Addr} {n c : Nat} {gen : Int} {rec : List Int} (hx : Ints w .u8 a n c rec) (br : Byt rec) (hgen : 0 ≤ gen ∧ gen < 18446744073709551616) :
    CallV Tryz.prog 71 #[g.val, .slice a n c, .int .u64 gen] w [.one .sl, .one (.int .i64)] fun r w' => Ext w w' ∧ (¬ (Right g ∧ n = 624) → r.1 = (⟨none, 0, 0⟩ : SlV) ∧ r.2.1 = (2 : Int)) ∧
      (Right g ∧ n = 624 → r.2.1 = (0 : Int) ∧ ∃ y : SlP (SlP Int), r.1 = (⟨y.a, y.n, y.c⟩ : SlV) ∧ y.l.map (·.l) = pagesL g rec gen ∧ LstS w w' y) := by
  apply chunk_Pages.vc
  unfold chunk_Pages.P
  have lx := hx.len
  have S := Sep.start NoB w
  have no : ∀ {w' : World}, ¬ (Right g ∧ n = 624) → Ext w w' → (Ext w w' ∧ (¬ (Right g ∧ n = 624) → (⟨none, 0, 0⟩ : SlV) = (⟨none, 0, 0⟩ : SlV) ∧ (2 : Int) = (2 : Int)) ∧
      (Right g ∧ n = 624 → (2 : Int) = (0 : Int) ∧ ∃ y : SlP (SlP Int), (⟨none, 0, 0⟩ : SlV) = (⟨y.a, y.n, y.c⟩ : SlV) ∧ y.l.map (·.l) = pagesL g rec gen ∧ LstS w w' y)) := fun h e => ⟨e, fun _ => ⟨rfl, rfl⟩, fun hh => absurd hh h⟩
  refine S.newB fun b1 w1 S f1 _ => ?_
  (repeat ((first | refine S.newB fun _ _ S f _ => ?_ | refine S.la0 rfl ?_ | refine S.la1 rfl ?_ | refine S.la2 rfl ?_ | refine S.la3 rfl ?_ | refine S.la4 rfl ?_ | refine S.la5 rfl ?_ | refine S.ld0 rfl rfl ?_ | refine S.ld1 rfl rfl ?_ | refine S.ld2 rfl rfl ?_ | refine S.ld3 rfl rfl ?_ | refine S.ld4 rfl rfl ?_ | refine S.ld5 rfl rfl ?_ | refine S.st0 (by rfl) fun _ S f => ?_ | refine S.st1 (by rfl) fun _ S f => ?_ | refine S.st2 (by rfl) fun _ S f => ?_ | refine S.st3 (by rfl) fun _ S f => ?_ | refine S.st4 (by rfl) fun _ S f => ?_ | refine S.st5 (by rfl) fun _ S f => ?_ | refine S.su0 (by rfl) fun _ S f => ?_ | refine S.su1 (by rfl) fun _ S f => ?_ | refine S.su2 (by rfl) fun _ S f => ?_ | refine S.su3 (by rfl) fun _ S f => ?_ | refine S.su4 (by rfl) fun _ S f => ?_ | refine S.su5 (by rfl) fun _ S f => ?_ | refine ⟨by decide, ?_⟩); try dsimp only [List.set_cons_zero, List.set_cons_succ, cond_true, cond_false, Bool.not_true, Bool.not_false]))
  refine (Check_c (g := g)).mono ?_
  rintro ⟨(r : Int), ⟨⟩⟩ w2 ⟨h2, e2⟩
  dsimp only at h2 ⊢
  have S := S.stepE e2
  subst h2
  by_cases hR : Right g
  case neg => exact cond_t (by unfold chkE; rw [if_neg hR]; rfl) (no (fun h => hR h.1) S.ext)
  refine cond_f (by unfold chkE; rw [if_pos hR]; rfl) ?_
  refine cond_ne (fun hn => no (fun h => hn (by omega)) S.ext) (fun hn => ?_)
  have hs := hR.sec
  have bN := nCh_bd hR
  (repeat ((first | refine S.newB fun _ _ S f _ => ?_ | refine S.la0 rfl ?_ | refine S.la1 rfl ?_ | refine S.la2 rfl ?_ | refine S.la3 rfl ?_ | refine S.la4 rfl ?_ | refine S.la5 rfl ?_ | refine S.ld0 rfl rfl ?_ | refine S.ld1 rfl rfl ?_ | refine S.ld2 rfl rfl ?_ | refine S.ld3 rfl rfl ?_ | refine S.ld4 rfl rfl ?_ | refine S.ld5 rfl rfl ?_ | refine S.st0 (by rfl) fun _ S f => ?_ | refine S.st1 (by rfl) fun _ S f => ?_ | refine S.st2 (by rfl) fun _ S f => ?_ | refine S.st3 (by rfl) fun _ S f => ?_ | refine S.st4 (by rfl) fun _ S f => ?_ | refine S.st5 (by rfl) fun _ S f => ?_ | refine S.su0 (by rfl) fun _ S f => ?_ | refine S.su1 (by rfl) fun _ S f => ?_ | refine S.su2 (by rfl) fun _ S f => ?_ | refine S.su3 (by rfl) fun _ S f => ?_ | refine S.su4 (by rfl) fun _ S f => ?_ | refine S.su5 (by rfl) fun _ S f => ?_ | refine ⟨by decide, ?_⟩); try dsimp only [List.set_cons_zero, List.set_cons_succ, cond_true, cond_false, Bool.not_true, Bool.not_false]))
  refine (Chunks_c (g := g)).mono ?_
  rintro ⟨(r3 : Int), ⟨⟩⟩ w3 ⟨h3, e3⟩
  dsimp only at h3 ⊢
  rw [if_pos hR] at h3
  have h3 : r3 = nCh g := h3
  subst h3
  have S := S.stepE e3
  generalize hN : (nCh g).toNat = N at *
  have hNi : nCh g = (N : Int) := by omega
  refine S.reg fun D hD hkeep Sd T => ?_
  refine ⟨hD _ S.bl0, Sd.ld0 rfl rfl ⟨Rng.i64 (by omega) (by omega), Rng.i64 (by omega) (by omega), ?_⟩⟩
  refine T.newB fun b5 w5 T f5 _ => ⟨hkeep _ T.fr, ?_⟩
  have T := T.asOwn (sz := 1) (n := 0) rfl (by omega) oneAll.nil
  refine T.ab0 (xs := []) (hx.ext (Sd.ext.trans T.ext)) (by omega) fun a6 c6 w6 T f6 => ⟨hkeep _ T.fr, ?_⟩
  refine Fill_c.mono ?_
  rintro ⟨⟨sa, sn, sc⟩, ⟨⟩⟩ w7 h7
  dsimp only at h7 ⊢
  have hf : (max 0 (min (65536 : Int) (nCh g * g.s - ((n : Nat) : Int)))).toNat = (nCh g * g.s - 624).toNat := by generalize hL : (65536 : Int) = L; omega
  rw [hf] at h7
  have l7 := h7.ints.len
  rw [List.length_replicate] at l7
  have T := T.res h7
  dsimp only at l7 T
  refine ⟨hkeep _ T.fr, ?_⟩
  refine T.ab1 T.in0 (by omega) fun a8 c8 w8 T f8 => ⟨hkeep _ T.fr, ?_⟩
  have S := (Sd.frame0 T).sel [1, 1] rfl
  have hall : [] ++ rec ++ List.replicate (nCh g * g.s - 624).toNat 255 = allR g rec := rfl
  rw [hall] at S
  have la := allR_length hR (show rec.length = 624 by omega)
  rw [hN] at la
  have S := (S.nilL).nilOwn 51 1
  have lc8 := (S.own 2 rfl).cap
  have ln8 := (S.own 2 rfl).len
  rw [List.length_map, la, Nat.mul_one] at ln8
  generalize hn8 : 0 + n + sn = n8 at S lc8 ln8
  refine Loop1 (fun (y : SlV × Int × Unit) w' => ∃ (i : Nat) (L : List (SlP Int)), y.2.1 = (i : Int) ∧ i ≤ N ∧ y.1.n = i ∧ L.map (·.l) = (pagesL g rec gen).take i ∧ Sep NoB w w' [OwnA 51 1 y.1.a y.1.n y.1.c (L.map slV), RdL L, OwnA 5 1 a8 n8 c8 ((allR g rec).map (Value.int .u8)), BoxA b1 23 g.vs])
    (fun (y : SlV × Int × Unit) _ => ((N : Int) - y.2.1).toNat) ⟨0, [], rfl, by omega, rfl, rfl, S⟩ ?_
  rintro ⟨⟨ya, yn, yc⟩, (z : Int), ⟨⟩⟩ w9 ⟨i, L, hz, hi, hyn, hL, S⟩
  dsimp only at hz hyn S ⊢
  subst hz
  subst hyn
  have hpl : (pagesL g rec gen).length = N := by unfold pagesL; rw [List.length_map, List.length_range, hN]
  have hLl : L.length = yn := by
    have := congrArg List.length hL
    rw [List.length_map, List.length_take, hpl] at this
    omega
  refine cond_d (fun hlt => ?_) (fun hge => ?_)
  · have m1 := mul_le' (show (yn : Int) + 1 ≤ nCh g by omega) (show 0 ≤ g.s by omega)
    have m0 : 0 ≤ (yn : Int) * g.s := Int.mul_nonneg (by omega) (by omega)
    have m2 : ((yn : Int) + 1) * g.s = (yn : Int) * g.s + g.s := by rw [Int.add_mul, Int.one_mul]
    have t0 : ((yn : Int) * g.s).toNat = yn * g.s.toNat := toNat_mul' (by omega)
    have n0 : (((yn : Int) * g.s).toNat : Int) = (yn : Int) * g.s := Int.toNat_of_nonneg m0
    have e5000 : nCh g * g.s ≤ 5000 := bN.2.2.2
    have hcap : nCh g * g.s ≤ ((c8 : Nat) : Int) := by
      have : nCh g * g.s = ((N * g.s.toNat : Nat) : Int) := by rw [hNi, Int.natCast_mul, Int.toNat_of_nonneg (by omega)]
      omega
    refine S.reg fun D hD hkeep Sd T => ?_
    refine ⟨hD _ S.bl3, Sd.la3 rfl ⟨hD _ S.bl3, Sd.la3 rfl ⟨hD _ S.bl3, Sd.ld3 rfl rfl ⟨Rng.i64 (by omega) (by omega), Rng.i64 (by omega) (by omega), hD _ S.bl3, Sd.ld3 rfl rfl ⟨Rng.i64 (by omega) (by omega), Rng.i64 (by omega) (by omega), hD _ S.bl3, Sd.ld3 rfl rfl ⟨Rng.i64 (by omega) (by omega), ⟨by omega, by omega, by omega, by omega⟩, ?_⟩⟩⟩⟩⟩⟩
    intro a10 ha10
    dsimp only
    have i10 := (Sd.in2).sub (l := ((yn : Int) * g.s).toNat) (hh := (((yn : Int) + 1) * g.s).toNat) (m := (((yn : Int) + 1) * g.s).toNat) (by omega) (by omega) (by omega) ha10
    have hlen : (((yn : Int) + 1) * g.s).toNat - ((yn : Int) * g.s).toNat = g.s.toNat := by omega
    rw [hlen] at i10 ⊢
    rw [t0] at i10
    have i10 : Ints _ .u8 a10 g.s.toNat g.s.toNat (chk g rec yn) := i10
    refine (own19_c (g := g) (i := (yn : Int)) (gen := gen) hR).mono ?_
    rintro ⟨_, ⟨⟩⟩ w10 ⟨h10, e10⟩
    dsimp only at h10
    subst h10
    have T := T.stepE e10
    refine ⟨hkeep _ T.fr, ?_⟩
    refine (Make_c (g := g) (h := ownH g yn gen) (ownH_rng hR hgen) (i10.ext T.ext) intsNil).mono ?_
    rintro ⟨⟨pa, pn, pc⟩, (e11 : Int), ⟨⟩⟩ w11 ⟨x11, h11, -⟩
    obtain ⟨k1, k2⟩ := h11 ⟨hR, ⟨ownH_right ⟨by omega, by omega⟩, .inl rfl⟩, .inr (by omega)⟩
    dsimp only at k1 k2 ⊢
    subst k2
    have T := T.res k1
    dsimp only at T
    refine ⟨hkeep _ T.fr, cond_f rfl ?_⟩
    have S := Sd.frame0 T
    dsimp only [List.cons_append, List.nil_append] at S
    refine S.newB fun b12 w12 S f12 _ => ?_
    refine AppS.of (news := [slV ⟨pa, pn, pc, pgOf g rec gen yn⟩]) rfl (.inr ⟨_, rfl, S.cells 0 rfl⟩) ?_
    refine S.ap2 (by rfl) (fun u hu => by rw [List.mem_singleton.1 hu]; rfl) (by omega) (by omega) fun a13 c13 w13 S f13 => ?_
    have S := S.sel [1, 2, 1, 1, 1] rfl
    have S := S.addL (mkL_byt (ownH_rng hR hgen) (ownH_right ⟨by omega, by omega⟩) (chk_byt br _) Byt.nil)
    have S := S.sel [1, 0, 0, 0] rfl
    have hpg : (pagesL g rec gen)[yn]'(by omega) = pgOf g rec gen yn := by simp [pagesL]
    refine ⟨Rng.i64 (by omega) (by omega), ⟨yn + 1, L ++ [⟨pa, pn, pc, pgOf g rec gen yn⟩], by push_cast; rfl, by omega, rfl, ?_, ?_⟩, by omega⟩
    · rw [List.map_append, hL, List.take_succ_eq_append_getElem (by omega), hpg]; rfl
    · rw [List.map_append]; exact S
  · have hyN : yn = N := by omega
    subst hyN
    rw [List.take_of_length_le (by omega)] at hL
    exact ⟨S.ext, fun h => absurd ⟨hR, by omega⟩ h, fun _ => ⟨rfl, ⟨ya, yn, yc, L⟩, rfl, hL, S.sel [0, 0] rfl⟩⟩
end Go.Proofs.YtlpeoaphdmfjdaaGreat.Vc
/-! The contract of Hold of layer 19 (chunk): the record that pages hold. -/
namespace Go.Proofs.YtlpeoaphdmfjdaaGreat.Vc
open Go Go.Eng Go.RowKit
def PgA (s t : SlV) (P : PgS) : Asr := ⟨fun w F => TB.rd w F ⟨s.a, s.n, s.c, P.x⟩ ∧ TB.rd w F ⟨t.a, t.n, t.c, P.t⟩, fun h k => ⟨TB.rd_kp (fun i hi _ => k i hi) h.1, TB.rd_kp (fun i hi _ => k i hi) h.2⟩⟩
theorem TB_nil {w : World} {F : Nat → Prop} : TB.rd w F ⟨none, 0, 0, []⟩ := ⟨rfl, Nat.le_refl _, Nat.zero_le _, .inl ⟨rfl, rfl⟩, fun y hy => (List.not_mem_nil hy).elim⟩
theorem PReadS_c {w : World} {g : Geo} {a : Option Addr} {n c : Nat} {xs : List Int} (hx : Ints w .u8 a n c xs) (bx : Byt xs) :
    CallV Tryz.prog 162 #[g.val, .slice a n c] w [.agg [.int .i64, .int .i64, .int .i64, .int .u32, .int .u64, .int .u64, .sl, .sl, .bool], .one (.int .i64)] fun r w' => r.2.1 = rdE g xs ∧ ∃ s t, r.1 = pgT (pSpec g xs).h s t (pSpec g xs).d ∧ Sep NoB w w' [PgA s t (pSpec g xs)] := by
  refine (PRead_c hx bx).mono ?_
  rintro r w' ⟨e, h1, h2, h3⟩
  have z : Sep NoB w w' [PgA ⟨none, 0, 0⟩ ⟨none, 0, 0⟩ zS] := (Sep.start NoB w).push (F := NoB) (.of e) ⟨TB_nil, TB_nil⟩ fun _ x => x.elim
  unfold rdE pSpec
  by_cases hL : lenP g xs
  · by_cases hO : okR (endP g xs)
    · rw [if_pos hL, if_pos hO, if_pos ⟨hL, hO⟩]
      obtain ⟨k1, s, t, k2, _, _, T⟩ := h3 hL hO
      refine ⟨k1, s, t, k2, T.conv2 fun F1 F2 q1 q2 _ => ⟨TB.rd_mono (fun k hk _ => .inl hk) (own_rd q1 (bx.take _)), TB.rd_mono (fun k hk _ => .inr hk) (own_rd q2 ((bx.drop _).drop _ |>.take _))⟩⟩
    · rw [if_pos hL, if_neg hO, if_neg fun h => hO h.2, (h2 hL hO).1]
      exact ⟨(h2 hL hO).2, _, _, rfl, z⟩
  · rw [if_neg hL, if_neg fun h => hL h.1, (h1 hL).1]
    exact ⟨(h1 hL).2, _, _, rfl, z⟩
theorem _root_.Go.Eng.Sep.pgx {E : Nat → Prop} {w0 w : World} {Rs : List Asr} (S : Sep E w0 w Rs) (i : Nat) {s t : SlV} {P : PgS} (hi : Rs[i]? = some (PgA s t P)) : Ints w .u8 s.a s.n s.c P.x := by
  obtain ⟨F, h, _⟩ := S.get hi
  exact Ty.ints h.1
theorem getD_map {L : List (SlP Int)} {i : Nat} {y : SlP Int} (h : L[i]? = some y) : (L.map (·.l)).getD i [] = y.l := by
  rw [List.getD_eq_getElem?_getD, List.getElem?_map, h]; rfl
theorem holdS_no {g : Geo} {ps : List (List Int)} (h : ¬ holds g ps) : holdS g ps = (0, [], false) := by unfold holdS; rw [if_neg h]
theorem holdS_yes {g : Geo} {ps : List (List Int)} (h : holds g ps) : holdS g ps = (gen0 g ps, recOf g ps, true) := by unfold holdS; rw [if_pos h]
def HoldR (w w' : World) (g : Geo) (ps : List (List Int)) (r : Int × SlV × Bool) : Prop :=
  r.1 = (holdS g ps).1 ∧ r.2.2 = (holdS g ps).2.2 ∧ Sep NoB w w' [RdL [⟨r.2.1.a, r.2.1.n, r.2.1.c, (holdS g ps).2.1⟩]]
theorem HoldR.no {w w' : World} {g : Geo} {ps : List (List Int)} (h : ¬ holds g ps) (e : Ext w w') : HoldR w w' g ps (0, ⟨none, 0, 0⟩, false) := by
  unfold HoldR
  rw [holdS_no h]
  exact ⟨rfl, rfl, (Sep.start NoB w).push (F := NoB) (.of e) (fun x hx => by rw [List.mem_singleton.1 hx]; exact TB_nil) fun _ x => x.elim⟩
def accR (g : Geo) (ps : List (List Int)) (i : Nat) : List Int := ((List.range i).map fun j => pays g (ps.getD j [])).flatten
theorem accR_succ (g : Geo) (ps : List (List Int)) (i : Nat) : accR g ps (i + 1) = accR g ps i ++ pays g (ps.getD i []) := by
  unfold accR
  rw [List.range_succ, List.map_append, List.flatten_append]
  simp
theorem accR_byt {g : Geo} {ps : List (List Int)} (bp : ∀ p ∈ ps, Byt p) : ∀ i, Byt (accR g ps i)
  | 0 => Byt.nil
  | i + 1 => by
    rw [accR_succ]
    refine (accR_byt bp i).append (Byt.take ?_ _)
    rw [List.getD_eq_getElem?_getD]
    cases h : ps[i]? with
    | none => exact Byt.nil
    | some p => exact bp p (List.mem_of_getElem? h)
theorem Hold_c {w : World} {g : Geo} {x : SlP (SlP Int)} {G : Nat → Prop} (hx : TBB.rd w G x) : CallV Tryz.prog 120 #[g.val, .slice x.a x.n x.c] w [.one (.int .u64), .one .sl, .one .bool] fun r w' => HoldR w w' g (x.l.map (·.l)) (r.1, r.2.1, r.2.2.1) := by
  apply chunk_Hold.vc
  unfold chunk_Hold.P
  generalize hps : x.l.map (·.l) = ps
  have hlp : ps.length = x.n := by rw [← hps, List.length_map]; exact hx.1
  have bp : ∀ p ∈ ps, Byt p := by
    intro p hp
    rw [← hps] at hp
    obtain ⟨y, hy, rfl⟩ := List.mem_map.1 hp
    exact Ty.byt (hx.2.2.2.2 y hy)
  have S := Sep.start NoB w
  refine S.newB fun b1 w1 S f1 _ => ?_
  (repeat ((first | refine S.newB fun _ _ S f _ => ?_ | refine S.la0 rfl ?_ | refine S.la1 rfl ?_ | refine S.la2 rfl ?_ | refine S.la3 rfl ?_ | refine S.la4 rfl ?_ | refine S.la5 rfl ?_ | refine S.ld0 rfl rfl ?_ | refine S.ld1 rfl rfl ?_ | refine S.ld2 rfl rfl ?_ | refine S.ld3 rfl rfl ?_ | refine S.ld4 rfl rfl ?_ | refine S.ld5 rfl rfl ?_ | refine S.st0 (by rfl) fun _ S f => ?_ | refine S.st1 (by rfl) fun _ S f => ?_ | refine S.st2 (by rfl) fun _ S f => ?_ | refine S.st3 (by rfl) fun _ S f => ?_ | refine S.st4 (by rfl) fun _ S f => ?_ | refine S.st5 (by rfl) fun _ S f => ?_ | refine S.su0 (by rfl) fun _ S f => ?_ | refine S.su1 (by rfl) fun _ S f => ?_ | refine S.su2 (by rfl) fun _ S f => ?_ | refine S.su3 (by rfl) fun _ S f => ?_ | refine S.su4 (by rfl) fun _ S f => ?_ | refine S.su5 (by rfl) fun _ S f => ?_ | refine ⟨by decide, ?_⟩); try dsimp only [List.set_cons_zero, List.set_cons_succ, cond_true, cond_false, Bool.not_true, Bool.not_false]))
  refine (Chunks_c (g := g)).mono ?_
  rintro ⟨(r3 : Int), ⟨⟩⟩ w3 ⟨h3, e3⟩
  dsimp only at h3 ⊢
  have S := S.stepE e3
  by_cases hR : Right g
  case neg =>
    rw [if_neg hR] at h3
    subst h3
    exact cond_t rfl (.no (fun h => hR h.1) S.ext)
  rw [if_pos hR] at h3
  have h3 : r3 = nCh g := h3
  subst h3
  have bN := nCh_bd hR
  have hs := hR.sec
  generalize hN : (nCh g).toNat = N at *
  have hNi : nCh g = (N : Int) := by omega
  refine cond_eq (fun h => by omega) (fun _ => ?_)
  refine cond_d (fun h => .no (fun hh => by have := hh.2.1; omega) S.ext) (fun hge => ?_)
  have S := S.nilOwn 5 1
  refine Loop1 (fun (y : SlV × Int × Int × Unit) w' => ∃ i : Nat, y.2.2.1 = (i : Int) ∧ i ≤ N ∧ (∀ j, j < i → pageOk g ps j) ∧ (0 < i → y.2.1 = gen0 g ps) ∧ (0 ≤ y.2.1 ∧ y.2.1 < 18446744073709551616) ∧ Sep NoB w w' [OwnA 5 1 y.1.a y.1.n y.1.c ((accR g ps i).map (Value.int .u8)), BoxA b1 23 g.vs] ∧ y.1.n = i * g.s.toNat)
    (fun (y : SlV × Int × Int × Unit) _ => ((N : Int) - y.2.2.1).toNat) ⟨0, rfl, by omega, fun j hj => by omega, fun h => by omega, by decide, S, by simp⟩ ?_
  rintro ⟨⟨ya, yn, yc⟩, (gen : Int), (z : Int), ⟨⟩⟩ w4 ⟨i, hz, hi, hall, hgen, hgr, S, hyn⟩
  dsimp only at hz hgen hgr S hyn ⊢
  subst hz
  refine cond_d (fun hlt => ?_) (fun hgeN => ?_)
  case refine_2 =>
    have hiN : i = N := by omega
    subst hiN
    have hh : holds g ps := ⟨hR, by omega, fun j hj => hall j (by omega)⟩
    have hn624 : 624 ≤ yn := by
      have : nCh g * g.s = ((i * g.s.toNat : Nat) : Int) := by rw [hNi, Int.natCast_mul, Int.toNat_of_nonneg (by omega)]
      omega
    have hc := (S.own 0 rfl).cap
    have i0 := S.in0
    have hl0 := i0.len
    refine S.reg fun D hD hkeep S T => ?_
    refine ⟨⟨by omega, by omega, by omega⟩, ?_⟩
    intro a5 ha5
    unfold HoldR
    rw [holdS_yes hh]
    refine ⟨hgen (by omega), rfl, S.take1.conv fun F ho _ y hy => ?_⟩
    rw [List.mem_singleton.1 hy]
    have r0 := own_rd ho (accR_byt bp _)
    have i5 := (Ty.ints r0).sub (l := 0) (hh := 624) (m := 624) (by omega) hn624 (by omega) ha5
    rw [List.drop_zero, Nat.sub_zero] at i5
    have hrec : recOf g ps = (accR g ps i).take 624 := by unfold recOf accR; rw [hN]
    have hm := maxLen_eq
    refine ⟨by rw [hrec, List.length_take]; show min 624 _ = 624 - 0; omega, Nat.le_refl _, by show 624 - 0 ≤ maxLen; omega, ?_, fun v hv => rngU8 ((accR_byt bp i).take 624 v (by rw [← hrec]; exact hv))⟩
    have hfl : (recOf g ps).flatMap (Ty.int .u8).vs = ((accR g ps i).take 624).map (Value.int .u8) := by rw [← hrec]; exact flat_ints .u8 _
    rw [hfl]
    rcases i5.rd with ⟨q1, q2⟩ | ⟨p, q1, q2⟩
    · exact .inl ⟨q1, q2⟩
    · refine .inr ⟨p, q1, q2, fun _ => ?_⟩
      rw [if_neg (by omega)] at ha5
      rw [ha5] at q1
      obtain ⟨q, hq, hq2⟩ := Option.map_eq_some_iff.1 q1
      rw [← hq2, add_block]
      exact ho.2 q hq
  obtain ⟨q, y, hq, hy, hc, hr, hGq, hbq⟩ := TBB_nth (TBB.rd_ext S.ext hx) (Int.natCast_nonneg i) (show (i : Int) < (x.n : Int) by omega)
  have hpi : ps.getD i [] = y.l := by rw [← hps]; rw [Int.toNat_natCast] at hy; exact getD_map hy
  have by_ : Byt y.l := Ty.byt hr
  generalize hP : pSpec g y.l = P
  have hPr : 0 ≤ P.h.e ∧ P.h.e < 18446744073709551616 := by
    rw [← hP]; unfold pSpec
    split
    · rename_i h
      exact (hdOf_rng (by_.drop _) (by have := h.1.2; have h2 : (endP g y.l).length = 88 := (by unfold endP; rw [List.length_drop]; omega); show 24 ≤ (endP g y.l).length; omega)).2.1
    · decide
  refine ⟨fun (v : Option Addr × Int × Unit) w' => ∃ b s t, v.1 = some ⟨b, 0, none⟩ ∧ v.2.1 = rdE g y.l ∧ Sep NoB w w' [BoxA b 220 (pgC P.h s t P.d), PgA s t P, OwnA 5 1 ya yn yc ((accR g ps i).map (Value.int .u8)), BoxA b1 23 g.vs], ?_, ?_⟩
  case refine_2 =>
    refine S.reg fun D hD hkeep Sd T => ?_
    refine ⟨hD _ S.bl1, Sd.la1 rfl ⟨⟨by omega, by omega⟩, q, hq, by rw [add_block]; exact hD _ hbq, ldp0 (cells_same (by rw [add_block]; rfl) hc) (h := .sl) (x := ⟨y.a, y.n, y.c⟩) rfl ?_⟩⟩
    have iy := (Ty.ints hr).ext (Ext.drew w4)
    refine ⟨?_, ?_⟩
    · refine (PReadS_c (g := g) iy by_).mono ?_
      rintro ⟨q5, (e5 : Int), ⟨⟩⟩ w5 ⟨h5, s, t, k5, T5⟩
      dsimp only at h5 k5
      rw [hP] at k5 T5
      subst k5
      have T := T.frame0 T5
      refine ⟨hkeep _ T.fr, T.newB fun b6 w6 T f6 _ => ⟨hkeep _ T.fr, ?_⟩⟩
      refine T.st0 (by rfl) fun w7 T f7 => ⟨hkeep _ T.fr, b6, s, t, rfl, h5, (Sd.frame0 T).sel [0, 0, 0, 0] rfl⟩
    · refine T.newB fun b6 w6 T f6 _ => ⟨hkeep _ T.fr, ?_⟩
      refine (PReadS_c (g := g) (iy.ext T.ext) by_).mono ?_
      rintro ⟨q5, (e5 : Int), ⟨⟩⟩ w5 ⟨h5, s, t, k5, T5⟩
      dsimp only at h5 k5
      rw [hP] at k5 T5
      subst k5
      have T := T.frame0 T5
      refine ⟨hkeep _ T.fr, ?_⟩
      refine T.st1 (by rfl) fun w7 T f7 => ⟨hkeep _ T.fr, b6, s, t, rfl, h5, (Sd.frame0 T).sel [1, 0, 0, 0] rfl⟩
  rintro ⟨v, (e5 : Int), ⟨⟩⟩ w5 ⟨b, s, t, hv, h5, S⟩
  dsimp only at hv h5 ⊢
  subst hv; subst h5
  have okE : rdE g y.l = 0 → lenP g y.l ∧ okR (endP g y.l) := fun h => by
    unfold rdE at h
    split at h
    · rename_i h1
      split at h
      · rename_i h2; exact ⟨h1, h2⟩
      · cases h
    · cases h
  refine ⟨fun (v : Int × Unit) w' => (lenP g y.l ∧ okR (endP g y.l) → v.1 = gen0 g ps) ∧ (0 ≤ v.1 ∧ v.1 < 18446744073709551616) ∧ Sep NoB w w' [BoxA b 220 (pgC P.h s t P.d), PgA s t P, OwnA 5 1 ya yn yc ((accR g ps i).map (Value.int .u8)), BoxA b1 23 g.vs], ?_, ?_⟩
  case refine_2 =>
    refine cond_eq (fun h0 => ?_) (fun h0 => ⟨fun _ => hgen (by omega), hgr, S⟩)
    refine PtrK.of rfl (S.ld0 (j := 4) rfl rfl ⟨fun hh => ?_, hPr, S⟩)
    have : i = 0 := by omega
    subst this
    show P.h.e = _
    unfold gen0
    rw [hpi, ← hP]
    unfold pSpec
    rw [if_pos hh]
  rintro ⟨(gn : Int), ⟨⟩⟩ w6 ⟨hgn, hgnr, S⟩
  dsimp only at hgn hgnr ⊢
  refine S.reg fun D hD hkeep Sd T => ?_
  refine cond_ne (fun he => .no (fun hh => ?_) Sd.ext) (fun he => ?_)
  · have := (hh.2.2 i (by omega)).1
    have h2 := (hh.2.2 i (by omega)).2.1
    rw [hpi] at this h2
    exact he (by unfold rdE; rw [if_pos this, if_pos h2])
  obtain ⟨hL, hO⟩ := okE he
  have hPv : P = fS g y.l := by rw [← hP]; unfold pSpec; rw [if_pos ⟨hL, hO⟩]
  have hg0 := hgn ⟨hL, hO⟩
  refine PtrK.of rfl ⟨hD _ S.bl0, Sd.lb0 (o := 0) rfl ⟨hD _ S.bl3, Sd.la3 rfl ?_⟩⟩
  refine (own19_c (g := g) (i := (i : Int)) (gen := gn) hR).mono ?_
  rintro ⟨_, ⟨⟩⟩ w7 ⟨h7, e7⟩
  dsimp only at h7
  subst h7
  refine ⟨hkeep _ (.of e7), ?_⟩
  have S := Sd.stepE e7
  refine eqHd (g := P.h) (h := ownH g i gn) ?_
  refine cond_of (fun hc => .no (fun hh => ?_) S.ext) (fun hc => ?_)
  · have := (hh.2.2 i (by omega)).2.2.1
    rw [hpi] at this
    have hne : P.h ≠ ownH g i gn := by simpa using hc
    exact hne (by rw [hPv, hg0]; exact this)
  have hhd : P.h = ownH g i gn := by simpa using hc
  refine ⟨Rng.i64 (by omega) (by omega), ?_⟩
  have okP : ((i : Int) = nCh g - 1 → P.d = true) → pageOk g ps i := fun hd => by
    unfold pageOk
    rw [hpi]
    rw [hPv] at hhd hd
    rw [hg0] at hhd
    exact ⟨hL, hO, hhd, hd⟩
  have fin : ((i : Int) = nCh g - 1 → P.d = true) → LoadS w7 ⟨b, 6, none⟩ .sl fun (x34 : SlV) => AppS w7 x34.a x34.n 1 fun ns39 => AppV w7 5 1 1 ya yn yc ns39 x34.n fun a35 n36 c37 w38 =>
      Rng .i64 ((i : Int) + 1) ∧ (∃ j : Nat, (i : Int) + 1 = (j : Int) ∧ j ≤ N ∧ (∀ k, k < j → pageOk g ps k) ∧ (0 < j → gn = gen0 g ps) ∧ (0 ≤ gn ∧ gn < 18446744073709551616) ∧ Sep NoB w w38 [OwnA 5 1 a35 n36 c37 ((accR g ps j).map (Value.int .u8)), BoxA b1 23 g.vs] ∧ n36 = j * g.s.toNat) ∧ ((N : Int) - ((i : Int) + 1)).toNat < ((N : Int) - (i : Int)).toNat := fun hd => by
    refine S.ld0 rfl rfl ?_
    have ip := S.pgx 1 rfl
    have lp := ip.len
    rw [hPv] at lp
    have lp : (pays g y.l).length = s.n := lp
    rw [List.length_take] at lp
    have hl2 := hL.2
    have hmul : i * g.s.toNat + g.s.toNat ≤ N * g.s.toNat := by rw [← Nat.succ_mul]; exact Nat.mul_le_mul_right _ (by omega)
    have h5 : N * g.s.toNat ≤ 5000 := by
      have h1 : nCh g * g.s = ((N * g.s.toNat : Nat) : Int) := by rw [hNi, Int.natCast_mul, Int.toNat_of_nonneg (by omega)]
      have := bN.2.2.2
      omega
    dsimp only
    refine S.ab2 ip (by omega) fun a8 c8 w8 S f8 => ?_
    refine ⟨Rng.i64 (by omega) (by omega), ⟨i + 1, by push_cast; rfl, by omega, fun k hk => ?_, fun _ => hg0, hgnr, ?_, ?_⟩, by omega⟩
    · by_cases hki : k = i
      · subst hki; exact okP hd
      · exact hall k (by omega)
    · rw [accR_succ, hpi]
      rw [hPv] at S
      exact S.sel [2, 2] rfl
    · rw [Nat.add_mul, Nat.one_mul]; omega
  refine cond_eq (fun hl => ?_) (fun hl => fin (fun h => absurd h hl))
  refine PtrK.of rfl ⟨hD _ Sd.bl0, Sd.ld0 (j := 8) rfl rfl ?_⟩
  refine cond_of (fun hc => .no (fun hh => ?_) S.ext) (fun hc => fin fun _ => by simpa using hc)
  have := (hh.2.2 i (by omega)).2.2.2 hl
  rw [hpi] at this
  rw [hPv] at hc
  have hc : (!comm (endP g y.l)) = true := hc
  rw [this] at hc
  cases hc
end Go.Proofs.YtlpeoaphdmfjdaaGreat.Vc
/-! The contracts of the document's Pages and Hold of layer 19 (chunk). -/
namespace Go.Proofs.YtlpeoaphdmfjdaaGreat.Vc
open Go Go.Eng Go.RowKit
theorem own_cut {w : World} {F : Nat → Prop} {a a' : Option Addr} {n c hh m : Nat} {xs : List Int} (ho : (OwnA 5 1 a n c (xs.map (Value.int .u8))).p w F) (bx : Byt xs) (h1 : hh ≤ n) (h2 : hh ≤ m) (hm0 : m ≠ 0) (ha : a' = if m = 0 then a else a.map (·.add (0 * 1))) :
    TB.rd w F ⟨a', hh - 0, m - 0, xs.take hh⟩ := by
  have i5 := (ho.1.ints).sub (l := 0) (hh := hh) (m := m) (by omega) h1 h2 ha
  rw [List.drop_zero, Nat.sub_zero] at i5
  have hm := maxLen_eq
  have lim := ho.1.lim
  refine ⟨i5.len, i5.cap, by show hh - 0 ≤ maxLen; omega, ?_, fun v hv => rngU8 (bx.take hh v hv)⟩
  have hfl : (xs.take hh).flatMap (Ty.int .u8).vs = (xs.take hh).map (Value.int .u8) := flat_ints .u8 _
  rw [hfl]
  rcases i5.rd with ⟨q1, q2⟩ | ⟨p, q1, q2⟩
  · exact .inl ⟨q1, q2⟩
  · refine .inr ⟨p, q1, q2, fun _ => ?_⟩
    rw [if_neg hm0] at ha
    rw [ha] at q1
    obtain ⟨q, hq, hq2⟩ := Option.map_eq_some_iff.1 q1
    rw [← hq2, add_block]
    exact ho.2 q hq
theorem rPages_c {w : World} {g : Geo} {a : Option Addr} {n c : Nat} {gen : Int} {rec : List Int} (hx : Ints w .u8 a n c rec) (br : Byt rec) (hgen : 0 ≤ gen ∧ gen < 18446744073709551616) (hR : Right g) (hn : n = 624) :
    CallV Tryz.prog 68 #[g.val, .slice a n c, .int .u64 gen] w [.one .sl] fun r w' => ∃ y : SlP (SlP Int), r.1 = (⟨y.a, y.n, y.c⟩ : SlV) ∧ y.l.map (·.l) = pagesL g rec gen ∧ LstS w w' y := by
  apply ref19_Pages.vc
  unfold ref19_Pages.P
  have lx := hx.len
  have hs := hR.sec
  have bN := nCh_bd hR
  have S := Sep.start NoB w
  refine S.newB fun b1 w1 S f1 _ => ?_
  refine S.newB fun b3 w1 S f1 _ => ?_
  (repeat ((first | refine S.newB fun _ _ S f _ => ?_ | refine S.la0 rfl ?_ | refine S.la1 rfl ?_ | refine S.la2 rfl ?_ | refine S.la3 rfl ?_ | refine S.la4 rfl ?_ | refine S.la5 rfl ?_ | refine S.ld0 rfl rfl ?_ | refine S.ld1 rfl rfl ?_ | refine S.ld2 rfl rfl ?_ | refine S.ld3 rfl rfl ?_ | refine S.ld4 rfl rfl ?_ | refine S.ld5 rfl rfl ?_ | refine S.st0 (by rfl) fun _ S f => ?_ | refine S.st1 (by rfl) fun _ S f => ?_ | refine S.st2 (by rfl) fun _ S f => ?_ | refine S.st3 (by rfl) fun _ S f => ?_ | refine S.st4 (by rfl) fun _ S f => ?_ | refine S.st5 (by rfl) fun _ S f => ?_ | refine S.su0 (by rfl) fun _ S f => ?_ | refine S.su1 (by rfl) fun _ S f => ?_ | refine S.su2 (by rfl) fun _ S f => ?_ | refine S.su3 (by rfl) fun _ S f => ?_ | refine S.su4 (by rfl) fun _ S f => ?_ | refine S.su5 (by rfl) fun _ S f => ?_ | refine ⟨by decide, ?_⟩); try dsimp only [List.set_cons_zero, List.set_cons_succ, cond_true, cond_false, Bool.not_true, Bool.not_false]))
  refine (rChunks_c (g := g) hs).mono ?_
  rintro ⟨(r3 : Int), ⟨⟩⟩ w3 ⟨h3, e3⟩
  dsimp only at h3 ⊢
  have h3 : r3 = nCh g := h3
  subst h3
  have S := S.stepE e3
  generalize hN : (nCh g).toNat = N at *
  have hNi : nCh g = (N : Int) := by omega
  refine S.reg fun D hD hkeep Sd T => ?_
  refine ⟨hD _ S.bl1, Sd.ld1 rfl rfl ⟨Rng.i64 (by omega) (by omega), Rng.i64 (by omega) (by omega), ?_⟩⟩
  refine T.newB fun b5 w5 T f5 _ => ⟨hkeep _ T.fr, ?_⟩
  have T := T.asOwn (sz := 1) (n := 0) rfl (by omega) oneAll.nil
  refine T.ab0 (xs := []) (hx.ext (Sd.ext.trans T.ext)) (by omega) fun a6 c6 w6 T f6 => ⟨hkeep _ T.fr, ?_⟩
  refine rFill_c.mono ?_
  rintro ⟨⟨sa, sn, sc⟩, ⟨⟩⟩ w7 h7
  dsimp only at h7 ⊢
  have hf : (max 0 (min (65536 : Int) (nCh g * g.s - 624))).toNat = (nCh g * g.s - 624).toNat := by generalize hL : (65536 : Int) = L; omega
  rw [hf] at h7
  have l7 := h7.ints.len
  rw [List.length_replicate] at l7
  have T := T.res h7
  dsimp only at l7 T
  refine ⟨hkeep _ T.fr, ?_⟩
  refine T.ab1 T.in0 (by omega) fun a8 c8 w8 T f8 => ⟨hkeep _ T.fr, ?_⟩
  have S := (Sd.frame0 T).sel [2, 1, 1] rfl
  have S := (S.asOwn (sz := 1) (n := 0) rfl (by omega) oneAll.nil).sel [1, 1, 0] rfl
  have hall : [] ++ rec ++ List.replicate (nCh g * g.s - 624).toNat 255 = allR g rec := rfl
  rw [hall] at S
  have la := allR_length hR (show rec.length = 624 by omega)
  rw [hN] at la
  have S := (S.nilL).sel [3, 0, 0, 0] rfl
  have lc8 := (S.own 2 rfl).cap
  have ln8 := (S.own 2 rfl).len
  rw [List.length_map, la, Nat.mul_one] at ln8
  generalize hn8 : 0 + n + sn = n8 at S lc8 ln8
  refine Loop1 (fun (y : SlV × Int × Unit) w' => ∃ (i : Nat) (L : List (SlP Int)), y.2.1 = (i : Int) ∧ i ≤ N ∧ y.1.n = i ∧ L.map (·.l) = (pagesL g rec gen).take i ∧ Sep NoB w w' [OwnA 51 1 y.1.a y.1.n y.1.c (L.map slV), RdL L, OwnA 5 1 a8 n8 c8 ((allR g rec).map (Value.int .u8)), BoxA b1 23 g.vs])
    (fun (y : SlV × Int × Unit) _ => ((N : Int) - y.2.1).toNat) ⟨0, [], rfl, by omega, rfl, rfl, S⟩ ?_
  rintro ⟨⟨ya, yn, yc⟩, (z : Int), ⟨⟩⟩ w9 ⟨i, L, hz, hi, hyn, hL, S⟩
  dsimp only at hz hyn S ⊢
  subst hz
  subst hyn
  have hpl : (pagesL g rec gen).length = N := by unfold pagesL; rw [List.length_map, List.length_range, hN]
  have hLl : L.length = yn := by
    have := congrArg List.length hL
    rw [List.length_map, List.length_take, hpl] at this
    omega
  refine cond_d (fun hlt => ?_) (fun hge => ?_)
  · have m1 := mul_le' (show (yn : Int) + 1 ≤ nCh g by omega) (show 0 ≤ g.s by omega)
    have m0 : 0 ≤ (yn : Int) * g.s := Int.mul_nonneg (by omega) (by omega)
    have m2 : ((yn : Int) + 1) * g.s = (yn : Int) * g.s + g.s := by rw [Int.add_mul, Int.one_mul]
    have t0 : ((yn : Int) * g.s).toNat = yn * g.s.toNat := toNat_mul' (by omega)
    have n0 : (((yn : Int) * g.s).toNat : Int) = (yn : Int) * g.s := Int.toNat_of_nonneg m0
    have e5000 : nCh g * g.s ≤ 5000 := bN.2.2.2
    have hcap : nCh g * g.s ≤ ((c8 : Nat) : Int) := by
      have : nCh g * g.s = ((N * g.s.toNat : Nat) : Int) := by rw [hNi, Int.natCast_mul, Int.toNat_of_nonneg (by omega)]
      omega
    refine S.regX (fun k => ∃ q : Addr, ya = some q ∧ k = q.block) fun D hD hkeep Sd T => ?_
    have hb1 : D b1 := hD _ S.bl3 (fun ⟨q, hq, he⟩ => by
      have S2 := Sd.sel [0, 2] rfl
      obtain ⟨F, ⟨F1, F2, h1, ⟨F3, F4, h2, _, _, h7, _⟩, h4, h5, h6⟩, _⟩ := S2.ex
      exact h4 _ (h1.2 q hq) (h7 _ (by rw [← he]; exact h2.1)))
    refine ⟨hb1, Sd.la3 rfl ⟨hb1, Sd.la3 rfl ⟨hb1, Sd.ld3 rfl rfl ⟨Rng.i64 (by omega) (by omega), hb1, Sd.ld3 rfl rfl ⟨Rng.i64 (by omega) (by omega), hb1, Sd.ld3 rfl rfl ⟨Rng.i64 (by omega) (by omega), ⟨by omega, by omega, by omega⟩, ?_⟩⟩⟩⟩⟩⟩
    intro a10 ha10
    dsimp only
    have i10 := (Sd.in2).sub (l := ((yn : Int) * g.s).toNat) (hh := ((yn : Int) * g.s + g.s).toNat) (m := c8) (by omega) (by omega) (by omega) ha10
    have hlen : ((yn : Int) * g.s + g.s).toNat - ((yn : Int) * g.s).toNat = g.s.toNat := by omega
    rw [hlen] at i10 ⊢
    rw [t0] at i10 ⊢
    have i10 : Ints _ .u8 a10 g.s.toNat (c8 - yn * g.s.toNat) (chk g rec yn) := i10
    refine (head19_c (g := g) (i := (yn : Int)) (gen := gen) hR).mono ?_
    rintro ⟨_, ⟨⟩⟩ w10 ⟨h10, e10⟩
    dsimp only at h10
    subst h10
    have T := T.stepE e10
    refine ⟨hkeep _ T.fr.any, ?_⟩
    refine (rMake_c (g := g) (h := ownH g yn gen) (ownH_rng hR hgen) (i10.ext T.ext) intsNil ⟨hR, ⟨ownH_right ⟨by omega, by omega⟩, .inl rfl⟩, .inr (by omega)⟩).mono ?_
    rintro ⟨⟨pa, pn, pc⟩, ⟨⟩⟩ w11 k1
    dsimp only at k1 ⊢
    have T := T.res k1
    dsimp only at T
    refine ⟨hkeep _ T.fr.any, ?_⟩
    refine T.newB fun b12 w12 T f12 _ => ⟨hkeep _ T.fr.any, ?_⟩
    have Z := T.fr
    have S := Sd.frame0 T
    dsimp only [List.cons_append, List.nil_append] at S
    refine AppS.of (news := [slV ⟨pa, pn, pc, pgOf g rec gen yn⟩]) rfl (.inr ⟨_, rfl, S.cells 0 rfl⟩) ?_
    refine S.ap2 (by rfl) (fun u hu => by rw [List.mem_singleton.1 hu]; rfl) (by omega) (by omega) fun a13 c13 w13 S f13 => ?_
    refine ⟨hkeep _ (Z.any.trans f13), ?_⟩
    have S := S.sel [1, 2, 1, 1, 1] rfl
    have S := S.addL (mkL_byt (ownH_rng hR hgen) (ownH_right ⟨by omega, by omega⟩) (chk_byt br _) Byt.nil)
    have S := S.sel [1, 0, 0, 0] rfl
    have hpg : (pagesL g rec gen)[yn]'(by omega) = pgOf g rec gen yn := by simp [pagesL]
    refine ⟨Rng.i64 (by omega) (by omega), ⟨yn + 1, L ++ [⟨pa, pn, pc, pgOf g rec gen yn⟩], by push_cast; rfl, by omega, rfl, ?_, ?_⟩, by omega⟩
    · rw [List.map_append, hL, List.take_succ_eq_append_getElem (by omega), hpg]; rfl
    · rw [List.map_append]; exact S
  · have hyN : yn = N := by omega
    subst hyN
    rw [List.take_of_length_le (by omega)] at hL
    exact ⟨⟨ya, yn, yc, L⟩, rfl, hL, S.sel [0, 0] rfl⟩
abbrev puC (h : Hd) (s t : SlV) (d o : Bool) : List Value := [.int .i64 h.k, .int .i64 h.n, .int .i64 h.c, .int .u32 h.l, .int .u64 h.e, .int .u64 h.t, .slice s.a s.n s.c, .slice t.a t.n t.c, .bool d, .bool o]
theorem rHold_c {w : World} {g : Geo} {x : SlP (SlP Int)} {G : Nat → Prop} (hx : TBB.rd w G x) (hR : Right g) : CallV Tryz.prog 121 #[g.val, .slice x.a x.n x.c] w [.agg [.int .u64, .sl, .bool]] fun r w' => HoldR w w' g (x.l.map (·.l)) (r.1.1, r.1.2.1, r.1.2.2.1) := by
  apply ref19_Hold.vc
  unfold ref19_Hold.P
  generalize hps : x.l.map (·.l) = ps
  have hlp : ps.length = x.n := by rw [← hps, List.length_map]; exact hx.1
  have bp : ∀ p ∈ ps, Byt p := by
    intro p hp
    rw [← hps] at hp
    obtain ⟨y, hy, rfl⟩ := List.mem_map.1 hp
    exact Ty.byt (hx.2.2.2.2 y hy)
  have hs := hR.sec
  have bN := nCh_bd hR
  have S := Sep.start NoB w
  refine S.newB fun b1 w1 S f1 _ => ?_
  refine S.newB fun b3 w1 S f1 _ => ?_
  (repeat ((first | refine S.newB fun _ _ S f _ => ?_ | refine S.la0 rfl ?_ | refine S.la1 rfl ?_ | refine S.la2 rfl ?_ | refine S.la3 rfl ?_ | refine S.la4 rfl ?_ | refine S.la5 rfl ?_ | refine S.ld0 rfl rfl ?_ | refine S.ld1 rfl rfl ?_ | refine S.ld2 rfl rfl ?_ | refine S.ld3 rfl rfl ?_ | refine S.ld4 rfl rfl ?_ | refine S.ld5 rfl rfl ?_ | refine S.st0 (by rfl) fun _ S f => ?_ | refine S.st1 (by rfl) fun _ S f => ?_ | refine S.st2 (by rfl) fun _ S f => ?_ | refine S.st3 (by rfl) fun _ S f => ?_ | refine S.st4 (by rfl) fun _ S f => ?_ | refine S.st5 (by rfl) fun _ S f => ?_ | refine S.su0 (by rfl) fun _ S f => ?_ | refine S.su1 (by rfl) fun _ S f => ?_ | refine S.su2 (by rfl) fun _ S f => ?_ | refine S.su3 (by rfl) fun _ S f => ?_ | refine S.su4 (by rfl) fun _ S f => ?_ | refine S.su5 (by rfl) fun _ S f => ?_ | refine ⟨by decide, ?_⟩); try dsimp only [List.set_cons_zero, List.set_cons_succ, cond_true, cond_false, Bool.not_true, Bool.not_false]))
  refine (rChunks_c (g := g) hs).mono ?_
  rintro ⟨(r3 : Int), ⟨⟩⟩ w3 ⟨h3, e3⟩
  dsimp only at h3 ⊢
  have h3 : r3 = nCh g := h3
  subst h3
  have S := S.stepE e3
  generalize hN : (nCh g).toNat = N at *
  have hNi : nCh g = (N : Int) := by omega
  refine cond_d (fun h => ?_) (fun hge => ?_)
  · (repeat ((first | refine S.newB fun _ _ S f _ => ?_ | refine S.la0 rfl ?_ | refine S.la1 rfl ?_ | refine S.la2 rfl ?_ | refine S.la3 rfl ?_ | refine S.la4 rfl ?_ | refine S.la5 rfl ?_ | refine S.ld0 rfl rfl ?_ | refine S.ld1 rfl rfl ?_ | refine S.ld2 rfl rfl ?_ | refine S.ld3 rfl rfl ?_ | refine S.ld4 rfl rfl ?_ | refine S.ld5 rfl rfl ?_ | refine S.st0 (by rfl) fun _ S f => ?_ | refine S.st1 (by rfl) fun _ S f => ?_ | refine S.st2 (by rfl) fun _ S f => ?_ | refine S.st3 (by rfl) fun _ S f => ?_ | refine S.st4 (by rfl) fun _ S f => ?_ | refine S.st5 (by rfl) fun _ S f => ?_ | refine S.su0 (by rfl) fun _ S f => ?_ | refine S.su1 (by rfl) fun _ S f => ?_ | refine S.su2 (by rfl) fun _ S f => ?_ | refine S.su3 (by rfl) fun _ S f => ?_ | refine S.su4 (by rfl) fun _ S f => ?_ | refine S.su5 (by rfl) fun _ S f => ?_ | refine ⟨by decide, ?_⟩); try dsimp only [List.set_cons_zero, List.set_cons_succ, cond_true, cond_false, Bool.not_true, Bool.not_false]))
    exact .no (fun hh => by have := hh.2.1; omega) S.ext
  refine S.newB fun b10 w4 S f4 _ => ?_
  refine S.st0 (by rfl) fun w5 S f5 => ?_
  have S := S.nilOwn 5 1
  refine Loop1 (fun (y : Int × Unit) w' => ∃ (i : Nat) (gn : Int) (ya : Option Addr) (yn yc : Nat), y.1 = (i : Int) ∧ i ≤ N ∧ (∀ j, j < i → pageOk g ps j) ∧ (0 < i → gn = gen0 g ps) ∧ (0 ≤ gn ∧ gn < 18446744073709551616) ∧
      Sep NoB w w' [OwnA 5 1 ya yn yc ((accR g ps i).map (Value.int .u8)), BoxA b10 135 [.int .u64 gn, .slice ya yn yc, .bool true], BoxA b3 135 [.int .u64 0, .slice none 0 0, .bool false], BoxA b1 23 g.vs] ∧ yn = i * g.s.toNat)
    (fun (y : Int × Unit) _ => ((N : Int) - y.1).toNat) ⟨0, 0, none, 0, 0, rfl, by omega, fun j hj => by omega, fun h => by omega, by decide, S, by simp⟩ ?_
  rintro ⟨(z : Int), ⟨⟩⟩ w6 ⟨i, gen, ya, yn, yc, hz, hi, hall, hgen, hgr, S, hyn⟩
  dsimp only at hz ⊢
  subst hz
  refine cond_d (fun hlt => ?_) (fun hgeN => ?_)
  case refine_2 =>
    have hiN : i = N := by omega
    subst hiN
    have hh : holds g ps := ⟨hR, by omega, fun j hj => hall j (by omega)⟩
    have hn624 : 624 ≤ yn := by
      have : nCh g * g.s = ((i * g.s.toNat : Nat) : Int) := by rw [hNi, Int.natCast_mul, Int.toNat_of_nonneg (by omega)]
      omega
    have hc := (S.own 0 rfl).cap
    refine S.ld1 rfl rfl ⟨⟨by omega, by dsimp only; omega⟩, ?_⟩
    intro a5 ha5
    dsimp only at ha5 ⊢
    refine S.su1 (by rfl) fun w7 S f7 => ?_
    dsimp only [List.set_cons_succ, List.set_cons_zero] at S
    (repeat ((first | refine S.newB fun _ _ S f _ => ?_ | refine S.la0 rfl ?_ | refine S.la1 rfl ?_ | refine S.la2 rfl ?_ | refine S.la3 rfl ?_ | refine S.la4 rfl ?_ | refine S.la5 rfl ?_ | refine S.ld0 rfl rfl ?_ | refine S.ld1 rfl rfl ?_ | refine S.ld2 rfl rfl ?_ | refine S.ld3 rfl rfl ?_ | refine S.ld4 rfl rfl ?_ | refine S.ld5 rfl rfl ?_ | refine S.st0 (by rfl) fun _ S f => ?_ | refine S.st1 (by rfl) fun _ S f => ?_ | refine S.st2 (by rfl) fun _ S f => ?_ | refine S.st3 (by rfl) fun _ S f => ?_ | refine S.st4 (by rfl) fun _ S f => ?_ | refine S.st5 (by rfl) fun _ S f => ?_ | refine S.su0 (by rfl) fun _ S f => ?_ | refine S.su1 (by rfl) fun _ S f => ?_ | refine S.su2 (by rfl) fun _ S f => ?_ | refine S.su3 (by rfl) fun _ S f => ?_ | refine S.su4 (by rfl) fun _ S f => ?_ | refine S.su5 (by rfl) fun _ S f => ?_ | refine ⟨by decide, ?_⟩); try dsimp only [List.set_cons_zero, List.set_cons_succ, cond_true, cond_false, Bool.not_true, Bool.not_false]))
    unfold HoldR
    rw [holdS_yes hh]
    have hrec : recOf g ps = (accR g ps i).take 624 := by unfold recOf accR; rw [hN]
    refine ⟨hgen (by omega), rfl, S.take1.conv fun F ho _ y hy => ?_⟩
    rw [List.mem_singleton.1 hy]
    show TB.rd _ _ ⟨a5, 624 - 0, yc - 0, recOf g ps⟩
    rw [hrec]
    exact own_cut ho (accR_byt bp _) hn624 (by omega) (by omega) ha5
  obtain ⟨q, y, hq, hy, hc0, hr, hGq, hb0⟩ := TBB_nth hx (Int.natCast_nonneg i) (show (i : Int) < (x.n : Int) by omega)
  have hc := S.ext.cells hc0
  have hbq := Nat.lt_of_lt_of_le hb0 S.ext.size
  have hpi : ps.getD i [] = y.l := by rw [← hps]; rw [Int.toNat_natCast] at hy; exact getD_map hy
  have by_ : Byt y.l := Ty.byt hr
  have ly := (Ty.ints hr).len
  have no : ∀ {w' : World}, ¬ holds g ps → Sep NoB w w' [OwnA 5 1 ya yn yc ((accR g ps i).map (Value.int .u8)), BoxA b10 135 [.int .u64 gen, .slice ya yn yc, .bool true], BoxA b3 135 [.int .u64 0, .slice none 0 0, .bool false], BoxA b1 23 g.vs] →
      StoreV w' ⟨b3, 0, none⟩ [.int .u64 0, .slice none 0 0, .bool false] fun w20 => LoadA w20 ⟨b3, 0, none⟩ [.int .u64, .sl, .bool] fun (x21 : Int × SlV × Bool × Unit) => HoldR w w20 g ps (x21.1, x21.2.1, x21.2.2.1) := fun hn S => by
    refine S.st2 (by rfl) fun w7 S f7 => S.la2 rfl ?_
    exact .no hn S.ext
  refine S.reg fun D hD hkeep Sd T => ?_
  refine ⟨⟨by omega, by omega⟩, q, hq, by rw [add_block]; exact hD _ hbq, ldp0 (cells_same (by rw [add_block]; rfl) hc) (h := .sl) (x := ⟨y.a, y.n, y.c⟩) rfl ?_⟩
  refine ⟨hD _ S.bl3, Sd.ld3 rfl rfl ⟨Rng.i64 (by omega) (by omega), ?_⟩⟩
  refine cond_ne (fun hne => no (fun hh => hne ?_) Sd) (fun heq => ?_)
  · have := (hh.2.2 i (by omega)).1.2
    rw [hpi] at this
    dsimp only
    omega
  dsimp only at heq
  have hL : lenP g y.l := ⟨hR, by omega⟩
  generalize hP : pSpec g y.l = P
  have hPr : 0 ≤ P.h.e ∧ P.h.e < 18446744073709551616 := by
    rw [← hP]; unfold pSpec
    split
    · rename_i h
      exact (hdOf_rng (by_.drop _) (by have := h.1.2; have h2 : (endP g y.l).length = 88 := (by unfold endP; rw [List.length_drop]; omega); show 24 ≤ (endP g y.l).length; omega)).2.1
    · decide
  have S := Sd
  have E6 := S.ext
  refine ⟨fun (v : Option Addr × Unit) w' => ∃ b s t, v.1 = some ⟨b, 0, none⟩ ∧ Ints w .u8 s.a s.n s.c P.x ∧ Sep NoB w w' [BoxA b 57 (puC P.h s t P.d (decide (okR (endP g y.l)))), OwnA 5 1 ya yn yc ((accR g ps i).map (Value.int .u8)), BoxA b10 135 [.int .u64 gen, .slice ya yn yc, .bool true], BoxA b3 135 [.int .u64 0, .slice none 0 0, .bool false], BoxA b1 23 g.vs], ?_, ?_⟩
  case refine_2 =>
    refine S.reg fun D hD hkeep Sd T => ?_
    refine ⟨hD _ S.bl3, Sd.la3 rfl ⟨⟨by omega, by omega⟩, q, hq, by rw [add_block]; exact hD _ hbq, ldp0 (cells_same (by rw [add_block]; rfl) hc) (h := .sl) (x := ⟨y.a, y.n, y.c⟩) rfl ?_⟩⟩
    have iy := Ty.ints hr
    refine ⟨?_, ?_⟩
    · refine (rPReadU_c (g := g) iy Sd.ext by_ hL).mono ?_
      rintro ⟨q5, ⟨⟩⟩ w5 ⟨e5, s, t, k5, is, it⟩
      dsimp only at k5
      rw [hP] at k5 is it
      subst k5
      have T := T.stepE e5
      refine ⟨hkeep _ T.fr, T.newB fun b6 w6 T f6 _ => ⟨hkeep _ T.fr, ?_⟩⟩
      refine T.st0 (by rfl) fun w7 T f7 => ⟨hkeep _ T.fr, b6, s, t, rfl, is, (Sd.frame0 T).sel [0, 0, 0, 0, 0] rfl⟩
    · refine T.newB fun b6 w6 T f6 _ => ⟨hkeep _ T.fr, ?_⟩
      refine (rPReadU_c (g := g) iy (Sd.ext.trans T.ext) by_ hL).mono ?_
      rintro ⟨q5, ⟨⟩⟩ w5 ⟨e5, s, t, k5, is, it⟩
      dsimp only at k5
      rw [hP] at k5 is it
      subst k5
      have T := T.stepE e5
      refine ⟨hkeep _ T.fr, ?_⟩
      refine T.st0 (by rfl) fun w7 T f7 => ⟨hkeep _ T.fr, b6, s, t, rfl, is, (Sd.frame0 T).sel [0, 0, 0, 0, 0] rfl⟩
  rintro ⟨v, ⟨⟩⟩ w7 ⟨b, s, t, hv, is, S⟩
  dsimp only at hv ⊢
  subst hv
  refine ⟨fun _ w' => ∃ gn, (okR (endP g y.l) → gn = gen0 g ps) ∧ (0 ≤ gn ∧ gn < 18446744073709551616) ∧ Sep NoB w w' [BoxA b 57 (puC P.h s t P.d (decide (okR (endP g y.l)))), OwnA 5 1 ya yn yc ((accR g ps i).map (Value.int .u8)), BoxA b10 135 [.int .u64 gn, .slice ya yn yc, .bool true], BoxA b3 135 [.int .u64 0, .slice none 0 0, .bool false], BoxA b1 23 g.vs], ?_, ?_⟩
  case refine_2 =>
    refine cond_eq (fun h0 => ?_) (fun h0 => ⟨gen, fun _ => hgen (by omega), hgr, S⟩)
    refine PtrK.of rfl (S.ld0 (j := 4) rfl rfl ?_)
    refine S.su2 (by rfl) fun w8 S f8 => ?_
    refine ⟨P.h.e, fun hO => ?_, hPr, S⟩
    have : i = 0 := by omega
    subst this
    unfold gen0
    rw [hpi, ← hP]
    unfold pSpec
    rw [if_pos ⟨hL, hO⟩]
  rintro ⟨⟩ w8 ⟨gn, hgn, hgnr, S⟩
  refine ⟨fun (v : Bool × Unit) w' => (v.1 = true → ¬ holds g ps) ∧ (v.1 = false → pageOk g ps i ∧ gn = gen0 g ps) ∧ Sep NoB w w' [BoxA b 57 (puC P.h s t P.d (decide (okR (endP g y.l)))), OwnA 5 1 ya yn yc ((accR g ps i).map (Value.int .u8)), BoxA b10 135 [.int .u64 gn, .slice ya yn yc, .bool true], BoxA b3 135 [.int .u64 0, .slice none 0 0, .bool false], BoxA b1 23 g.vs], ?_, ?_⟩
  case refine_2 =>
    refine S.reg fun D hD hkeep Sd T => ?_
    refine PtrK.of rfl ⟨hD _ Sd.bl0, Sd.ld0 (j := 9) rfl rfl ?_⟩
    refine cond_of (fun hc => ⟨fun _ hh => ?_, fun h => Bool.noConfusion h, Sd⟩) (fun hc => ?_)
    · have := (hh.2.2 i (by omega)).2.1
      rw [hpi] at this
      rw [decide_eq_true this] at hc
      cases hc
    have hO : okR (endP g y.l) := by simpa using hc
    have hPv : P = fS g y.l := by rw [← hP]; unfold pSpec; rw [if_pos ⟨hL, hO⟩]
    have hg0 := hgn hO
    refine PtrK.of rfl ⟨hD _ Sd.bl0, Sd.lb0 (o := 0) rfl ⟨hD _ Sd.bl4, Sd.la4 rfl ⟨hD _ Sd.bl2, Sd.ld2 rfl rfl ?_⟩⟩⟩
    dsimp only
    refine (head19_c (g := g) (i := (i : Int)) (gen := gn) hR).mono ?_
    rintro ⟨_, ⟨⟩⟩ w9 ⟨h9, e9⟩
    dsimp only at h9
    subst h9
    have S := Sd.stepE e9
    refine ⟨hkeep _ (.of e9), ?_⟩
    refine eqHd (g := P.h) (h := ownH g i gn) ?_
    refine cond_of (fun hc => ⟨fun _ hh => ?_, fun h => Bool.noConfusion h, S⟩) (fun hc => ?_)
    · have := (hh.2.2 i (by omega)).2.2.1
      rw [hpi] at this
      have hne : P.h ≠ ownH g i gn := by simpa using hc
      exact hne (by rw [hPv, hg0]; exact this)
    have hhd : P.h = ownH g i gn := by simpa using hc
    have okP : ((i : Int) = nCh g - 1 → P.d = true) → pageOk g ps i := fun hd => by
      unfold pageOk
      rw [hpi]
      rw [hPv] at hhd hd
      rw [hg0] at hhd
      exact ⟨hL, hO, hhd, hd⟩
    refine ⟨Rng.i64 (by omega) (by omega), ?_⟩
    refine cond_eq (fun hl => ?_) (fun hl => ⟨fun h => Bool.noConfusion h, fun _ => ⟨okP fun h => absurd h hl, hg0⟩, S⟩)
    refine PtrK.of rfl ⟨hD _ Sd.bl0, Sd.ld0 (j := 8) rfl rfl ⟨fun hc hh => ?_, fun hc => ⟨okP fun _ => by simpa using hc, hg0⟩, S⟩⟩
    have := (hh.2.2 i (by omega)).2.2.2 hl
    rw [hpi] at this
    rw [hPv] at hc
    have hc : (!comm (endP g y.l)) = true := hc
    rw [this] at hc
    cases hc
  rintro ⟨(v : Bool), ⟨⟩⟩ w9 ⟨hv1, hv2, S⟩
  dsimp only at hv1 hv2 ⊢
  cases v
  case true =>
    refine cond_t rfl ?_
    refine S.st3 (by rfl) fun w10 S f10 => S.la3 rfl ?_
    exact .no (hv1 rfl) S.ext
  obtain ⟨hpage, hg0⟩ := hv2 rfl
  refine cond_f rfl ?_
  have hO : okR (endP g y.l) := by have := hpage.2.1; rw [hpi] at this; exact this
  have hPv : P = fS g y.l := by rw [← hP]; unfold pSpec; rw [if_pos ⟨hL, hO⟩]
  have lp := is.len
  rw [hPv] at lp
  have lp : (pays g y.l).length = s.n := lp
  rw [List.length_take] at lp
  have hl2 := hL.2
  have hmul : i * g.s.toNat + g.s.toNat ≤ N * g.s.toNat := by rw [← Nat.succ_mul]; exact Nat.mul_le_mul_right _ (by omega)
  have h5 : N * g.s.toNat ≤ 5000 := by
    have h1 : nCh g * g.s = ((N * g.s.toNat : Nat) : Int) := by rw [hNi, Int.natCast_mul, Int.toNat_of_nonneg (by omega)]
    have := bN.2.2.2
    omega
  have hne := S.ne 0 2 (by omega) rfl rfl
  have fin : ∀ {w' : World} {a4 : Option Addr} {c4 : Nat}, Sep NoB w w' [OwnA 5 1 a4 (0 + yn + s.n) c4 (([] ++ accR g ps i ++ P.x).map (Value.int .u8)), BoxA b10 135 [.int .u64 gn, .slice a4 (0 + yn + s.n) c4, .bool true], BoxA b3 135 [.int .u64 0, .slice none 0 0, .bool false], BoxA b1 23 g.vs] →
      Rng .i64 ((i : Int) + 1) ∧ (∃ (j : Nat) (gn : Int) (ya : Option Addr) (yn yc : Nat), (i : Int) + 1 = (j : Int) ∧ j ≤ N ∧ (∀ k, k < j → pageOk g ps k) ∧ (0 < j → gn = gen0 g ps) ∧ (0 ≤ gn ∧ gn < 18446744073709551616) ∧
      Sep NoB w w' [OwnA 5 1 ya yn yc ((accR g ps j).map (Value.int .u8)), BoxA b10 135 [.int .u64 gn, .slice ya yn yc, .bool true], BoxA b3 135 [.int .u64 0, .slice none 0 0, .bool false], BoxA b1 23 g.vs] ∧ yn = j * g.s.toNat) ∧ ((N : Int) - ((i : Int) + 1)).toNat < ((N : Int) - (i : Int)).toNat := fun {w' a4 c4} S => by
    refine ⟨Rng.i64 (by omega) (by omega), ⟨i + 1, gn, a4, 0 + yn + s.n, c4, by push_cast; rfl, by omega, fun k hk => ?_, fun _ => hg0, hgnr, ?_, ?_⟩, by omega⟩
    rotate_left
    · rw [accR_succ, hpi]
      rw [hPv] at S
      exact S
    · rw [Nat.add_mul, Nat.one_mul]; omega
    · by_cases hki : k = i
      · subst hki; exact hpage
      · exact hall k (by omega)
  refine S.regX (fun k => k = b10) fun D hD hkeep Sd T => ?_
  refine PtrK.of rfl ⟨hD _ Sd.bl0 hne, Sd.ld0 (j := 6) rfl rfl ?_⟩
  dsimp only
  refine ⟨?_, ?_⟩
  · refine T.newB fun b11 w11 T f11 _ => ⟨hkeep _ T.fr.any, ?_⟩
    refine (Sd.step0 T.fr).ld2 rfl rfl ⟨hkeep _ T.fr.any, ?_⟩
    dsimp only
    have T := T.asOwn (sz := 1) (n := 0) rfl (by omega) oneAll.nil
    refine T.ab0 (xs := []) (Sd.step0 T.fr).in1 (by omega) fun a12 c12 w12 T f12 => ⟨hkeep _ T.fr.any, ?_⟩
    refine T.ab0 (is.ext (Sd.ext.trans T.ext)) (by omega) fun a13 c13 w13 T f13 => ⟨hkeep _ T.fr.any, ?_⟩
    have S := (Sd.frame0 T).sel [0, 2, 2, 2] rfl
    refine S.su1 (by rfl) fun w14 S f14 => ⟨hkeep _ (T.fr.any.trans f14), fin S⟩
  · refine Sd.ld2 rfl rfl ⟨hkeep _ T.fr.any, ?_⟩
    dsimp only
    refine T.newB fun b11 w11 T f11 _ => ⟨hkeep _ T.fr.any, ?_⟩
    have T := T.asOwn (sz := 1) (n := 0) rfl (by omega) oneAll.nil
    refine T.ab0 (xs := []) (Sd.step0 T.fr).in1 (by omega) fun a12 c12 w12 T f12 => ⟨hkeep _ T.fr.any, ?_⟩
    refine T.ab0 (is.ext (Sd.ext.trans T.ext)) (by omega) fun a13 c13 w13 T f13 => ⟨hkeep _ T.fr.any, ?_⟩
    have S := (Sd.frame0 T).sel [0, 2, 2, 2] rfl
    refine S.su1 (by rfl) fun w14 S f14 => ⟨hkeep _ (T.fr.any.trans f14), fin S⟩
end Go.Proofs.YtlpeoaphdmfjdaaGreat.Vc
/-! The contracts of Current of layer 19 (chunk), and small ones. -/
namespace Go.Proofs.YtlpeoaphdmfjdaaGreat.Vc
open Go Go.Eng Go.RowKit
abbrev TBBB : Ty := .sl TBB
abbrev slV2 (s : SlP (SlP Int)) : Value := .slice s.a s.n s.c
theorem TBBB_nth {w : World} {G : Nat → Prop} {x : SlP (SlP (SlP Int))} (h : TBBB.rd w G x) {i : Int} (h0 : 0 ≤ i) (h1 : i < (x.n : Int)) :
    ∃ q y, x.a = some q ∧ x.l[i.toNat]? = some y ∧ CellsAt w (q.add (i.toNat * 1)) [slV2 y] ∧ TBB.rd w G y ∧ G q.block ∧ q.block < w.heap.size := Ty.nth (e := TBB) h h0 h1 (by decide)
abbrev pgs (y : SlP (SlP Int)) : List (List Int) := y.l.map (·.l)
theorem getD_map2 {L : List (SlP (SlP Int))} {i : Nat} {y : SlP (SlP Int)} (h : L[i]? = some y) : (L.map pgs).getD i [] = pgs y := by
  rw [List.getD_eq_getElem?_getD, List.getElem?_map, h]; rfl
open Classical in
noncomputable def curTo (g : Geo) (bs : List (List (List Int))) : Nat → Int × Int × List Int
  | 0 => (-1, 0, [])
  | i + 1 => if (holdS g (bs.getD i [])).2.2 = true ∧ ((curTo g bs i).1 < 0 ∨ (curTo g bs i).2.1 < (holdS g (bs.getD i [])).1) then ((i : Int), (holdS g (bs.getD i [])).1, (holdS g (bs.getD i [])).2.1) else curTo g bs i
theorem curTo_yes {g : Geo} {bs : List (List (List Int))} {i : Nat} (h : (holdS g (bs.getD i [])).2.2 = true ∧ ((curTo g bs i).1 < 0 ∨ (curTo g bs i).2.1 < (holdS g (bs.getD i [])).1)) : curTo g bs (i + 1) = ((i : Int), (holdS g (bs.getD i [])).1, (holdS g (bs.getD i [])).2.1) := by
  rw [curTo, if_pos h]
theorem curTo_no {g : Geo} {bs : List (List (List Int))} {i : Nat} (h : ¬ ((holdS g (bs.getD i [])).2.2 = true ∧ ((curTo g bs i).1 < 0 ∨ (curTo g bs i).2.1 < (holdS g (bs.getD i [])).1))) : curTo g bs (i + 1) = curTo g bs i := by
  rw [curTo, if_neg h]
def CurR (w w' : World) (g : Geo) (bs : List (List (List Int))) (r : Int × Int × SlV) : Prop :=
  r.1 = (curTo g bs bs.length).1 ∧ r.2.1 = (curTo g bs bs.length).2.1 ∧ Sep NoB w w' [RdL [⟨r.2.2.a, r.2.2.n, r.2.2.c, (curTo g bs bs.length).2.2⟩]]
theorem Current_c {w : World} {g : Geo} {x : SlP (SlP (SlP Int))} {G : Nat → Prop} (hx : TBBB.rd w G x) (hn : x.n ≤ 1000) : CallV Tryz.prog 63 #[g.val, .slice x.a x.n x.c] w [.one (.int .i64), .one (.int .u64), .one .sl] fun r w' => CurR w w' g (x.l.map pgs) (r.1, r.2.1, r.2.2.1) := by
  apply chunk_Current.vc
  unfold chunk_Current.P
  generalize hbs : x.l.map pgs = bs
  have hlb : bs.length = x.n := by rw [← hbs, List.length_map]; exact hx.1
  have S := Sep.start NoB w
  refine S.newB fun b1 w1 S f1 _ => ?_
  have S := S.push (R := RdL [⟨none, 0, 0, []⟩]) (F := NoB) (Fr.refl _ _) (fun x hx => by rw [List.mem_singleton.1 hx]; exact TB_nil) fun _ x => x.elim
  refine Loop1 (fun (y : Int × Int × SlV × Int × Unit) w' => ∃ i : Nat, y.2.2.2.1 = (i : Int) ∧ i ≤ x.n ∧ y.1 = (curTo g bs i).1 ∧ y.2.1 = (curTo g bs i).2.1 ∧ Sep NoB w w' [RdL [⟨y.2.2.1.a, y.2.2.1.n, y.2.2.1.c, (curTo g bs i).2.2⟩], BoxA b1 23 g.vs])
    (fun (y : Int × Int × SlV × Int × Unit) _ => ((x.n : Int) - y.2.2.2.1).toNat) ⟨0, rfl, by omega, rfl, rfl, S⟩ ?_
  rintro ⟨(at_ : Int), (most : Int), ⟨ra, rn, rc⟩, (z : Int), ⟨⟩⟩ w2 ⟨i, hz, hi, hat, hmost, S⟩
  dsimp only at hz hat hmost S ⊢
  subst hz
  refine cond_d (fun hlt => ?_) (fun hge => ?_)
  · obtain ⟨q, y, hq, hy, hc0, hr, hGq, hb0⟩ := TBBB_nth hx (Int.natCast_nonneg i) hlt
    have hpi : bs.getD i [] = pgs y := by rw [← hbs]; rw [Int.toNat_natCast] at hy; exact getD_map2 hy
    refine ⟨⟨by omega, hlt⟩, q, hq, ldp0 (S.ext.cells hc0) (h := .sl) (x := ⟨y.a, y.n, y.c⟩) rfl ?_⟩
    (repeat ((first | refine S.newB fun _ _ S f _ => ?_ | refine S.la0 rfl ?_ | refine S.la1 rfl ?_ | refine S.la2 rfl ?_ | refine S.la3 rfl ?_ | refine S.la4 rfl ?_ | refine S.la5 rfl ?_ | refine S.ld0 rfl rfl ?_ | refine S.ld1 rfl rfl ?_ | refine S.ld2 rfl rfl ?_ | refine S.ld3 rfl rfl ?_ | refine S.ld4 rfl rfl ?_ | refine S.ld5 rfl rfl ?_ | refine S.st0 (by rfl) fun _ S f => ?_ | refine S.st1 (by rfl) fun _ S f => ?_ | refine S.st2 (by rfl) fun _ S f => ?_ | refine S.st3 (by rfl) fun _ S f => ?_ | refine S.st4 (by rfl) fun _ S f => ?_ | refine S.st5 (by rfl) fun _ S f => ?_ | refine S.su0 (by rfl) fun _ S f => ?_ | refine S.su1 (by rfl) fun _ S f => ?_ | refine S.su2 (by rfl) fun _ S f => ?_ | refine S.su3 (by rfl) fun _ S f => ?_ | refine S.su4 (by rfl) fun _ S f => ?_ | refine S.su5 (by rfl) fun _ S f => ?_ | refine ⟨by decide, ?_⟩); try dsimp only [List.set_cons_zero, List.set_cons_succ, cond_true, cond_false, Bool.not_true, Bool.not_false]))
    refine (Hold_c (g := g) (TBB.rd_ext S.ext hr)).mono ?_
    rintro ⟨(gen : Int), ⟨ha, hn', hc'⟩, (ok : Bool), ⟨⟩⟩ w3 ⟨h1, h2, T⟩
    dsimp only at h1 h2 T ⊢
    rw [show y.l.map (fun x => x.l) = bs.getD i [] from hpi.symm] at h1 h2 T
    have S := S.frame0 T
    dsimp only [List.cons_append, List.nil_append] at S
    have up : (holdS g (bs.getD i [])).2.2 = true ∧ ((curTo g bs i).1 < 0 ∨ (curTo g bs i).2.1 < (holdS g (bs.getD i [])).1) → Rng .i64 ((i : Int) + 1) ∧ (∃ j : Nat, (i : Int) + 1 = (j : Int) ∧ j ≤ x.n ∧ (i : Int) = (curTo g bs j).1 ∧ gen = (curTo g bs j).2.1 ∧ Sep NoB w w3 [RdL [⟨ha, hn', hc', (curTo g bs j).2.2⟩], BoxA b1 23 g.vs]) ∧ ((x.n : Int) - ((i : Int) + 1)).toNat < ((x.n : Int) - (i : Int)).toNat := fun h => by
      refine ⟨Rng.i64 (by omega) (by omega), ⟨i + 1, by push_cast; rfl, by omega, ?_⟩, by omega⟩
      rw [curTo_yes h]
      exact ⟨rfl, h1, S.sel [0, 1] rfl⟩
    have st : ¬ ((holdS g (bs.getD i [])).2.2 = true ∧ ((curTo g bs i).1 < 0 ∨ (curTo g bs i).2.1 < (holdS g (bs.getD i [])).1)) → Rng .i64 ((i : Int) + 1) ∧ (∃ j : Nat, (i : Int) + 1 = (j : Int) ∧ j ≤ x.n ∧ at_ = (curTo g bs j).1 ∧ most = (curTo g bs j).2.1 ∧ Sep NoB w w3 [RdL [⟨ra, rn, rc, (curTo g bs j).2.2⟩], BoxA b1 23 g.vs]) ∧ ((x.n : Int) - ((i : Int) + 1)).toNat < ((x.n : Int) - (i : Int)).toNat := fun h => by
      refine ⟨Rng.i64 (by omega) (by omega), ⟨i + 1, by push_cast; rfl, by omega, ?_⟩, by omega⟩
      rw [curTo_no h]
      exact ⟨hat, hmost, S.sel [1, 1] rfl⟩
    refine cond_of (fun hk => ?_) (fun hk => st fun h => by rw [← h2, hk] at h; exact Bool.noConfusion h.1)
    refine cond_d (fun ha0 => up ⟨by rw [← h2]; exact hk, .inl (by omega)⟩) (fun ha0 => ?_)
    refine cond_d (fun hgt => up ⟨by rw [← h2]; exact hk, .inr (by omega)⟩) (fun hgt => st fun h => by omega)
  · have : i = bs.length := by omega
    subst this
    exact ⟨hat, hmost, S.take1⟩
theorem rCurrent_c {w : World} {g : Geo} {x : SlP (SlP (SlP Int))} {G : Nat → Prop} (hx : TBBB.rd w G x) (hn : x.n ≤ 1000) (hR : Right g) : CallV Tryz.prog 64 #[g.val, .slice x.a x.n x.c] w [.one (.int .i64), .agg [.int .u64, .sl, .bool]] fun r w' => CurR w w' g (x.l.map pgs) (r.1, r.2.1.1, r.2.1.2.1) := by
  apply ref19_Current.vc
  unfold ref19_Current.P
  generalize hbs : x.l.map pgs = bs
  have hlb : bs.length = x.n := by rw [← hbs, List.length_map]; exact hx.1
  have S := Sep.start NoB w
  refine S.newB fun b1 w1 S f1 _ => ?_
  refine S.newB fun b3 w1 S f1 _ => ?_
  refine S.newB fun b5 w1 S f1 _ => ?_
  refine S.st0 (by rfl) fun w1 S f1 => ?_
  have S := S.push (R := RdL [⟨none, 0, 0, []⟩]) (F := NoB) (Fr.refl _ _) (fun x hx => by rw [List.mem_singleton.1 hx]; exact TB_nil) fun _ x => x.elim
  refine Loop1 (fun (y : Int × Int × Unit) w' => ∃ (i : Nat) (ra : Option Addr) (rn rc : Nat) (o : Bool), y.2.1 = (i : Int) ∧ i ≤ x.n ∧ y.1 = (curTo g bs i).1 ∧ Sep NoB w w' [RdL [⟨ra, rn, rc, (curTo g bs i).2.2⟩], BoxA b5 135 [.int .u64 (curTo g bs i).2.1, .slice ra rn rc, .bool o], BoxA b3 135 [.int .u64 0, .slice none 0 0, .bool false], BoxA b1 23 g.vs])
    (fun (y : Int × Int × Unit) _ => ((x.n : Int) - y.2.1).toNat) ⟨0, none, 0, 0, false, rfl, by omega, rfl, S⟩ ?_
  rintro ⟨(at_ : Int), (z : Int), ⟨⟩⟩ w2 ⟨i, ra, rn, rc, o, hz, hi, hat, S⟩
  dsimp only at hz hat ⊢
  subst hz
  refine cond_d (fun hlt => ?_) (fun hge => ?_)
  · obtain ⟨q, y, hq, hy, hc0, hr, hGq, hb0⟩ := TBBB_nth hx (Int.natCast_nonneg i) hlt
    have hpi : bs.getD i [] = pgs y := by rw [← hbs]; rw [Int.toNat_natCast] at hy; exact getD_map2 hy
    have hbq := Nat.lt_of_lt_of_le hb0 S.ext.size
    refine ⟨fun (v : Option Addr × Unit) w' => ∃ b ha hn' hc', v.1 = some ⟨b, 0, none⟩ ∧ Sep NoB w w' [BoxA b 135 [.int .u64 (holdS g (bs.getD i [])).1, .slice ha hn' hc', .bool (holdS g (bs.getD i [])).2.2], RdL [⟨ha, hn', hc', (holdS g (bs.getD i [])).2.1⟩],
      RdL [⟨ra, rn, rc, (curTo g bs i).2.2⟩], BoxA b5 135 [.int .u64 (curTo g bs i).2.1, .slice ra rn rc, .bool o], BoxA b3 135 [.int .u64 0, .slice none 0 0, .bool false], BoxA b1 23 g.vs], ?_, ?_⟩
    case refine_2 =>
      refine S.reg fun D hD hkeep Sd T => ?_
      refine ⟨hD _ S.bl3, Sd.la3 rfl ⟨⟨by omega, hlt⟩, q, hq, by rw [add_block]; exact hD _ hbq, ldp0 (Sd.ext.cells hc0) (h := .sl) (x := ⟨y.a, y.n, y.c⟩) rfl ?_⟩⟩
      dsimp only
      refine ⟨?_, ?_⟩
      · refine (rHold_c (g := g) (TBB.rd_ext Sd.ext hr) hR).mono ?_
        rintro ⟨⟨(gen : Int), ⟨ha, hn', hc'⟩, (ok : Bool), ⟨⟩⟩, ⟨⟩⟩ w3 ⟨h1, h2, T3⟩
        dsimp only at h1 h2 T3 ⊢
        have h1 : gen = (holdS g (pgs y)).1 := h1
        have h2 : ok = (holdS g (pgs y)).2.2 := h2
        subst h1; subst h2
        have T := T.frame0 T3
        refine ⟨hkeep _ T.fr, T.newB fun b6 w6 T f6 _ => ⟨hkeep _ T.fr, T.st0 (by rfl) fun w7 T f7 => ⟨hkeep _ T.fr, b6, ha, hn', hc', rfl, ?_⟩⟩⟩
        rw [hpi]
        exact (Sd.frame0 T).sel [0, 0, 0, 0, 0, 0] rfl
      · refine T.newB fun b6 w6 T f6 _ => ⟨hkeep _ T.fr, ?_⟩
        refine (rHold_c (g := g) (TBB.rd_ext (Sd.ext.trans T.ext) hr) hR).mono ?_
        rintro ⟨⟨(gen : Int), ⟨ha, hn', hc'⟩, (ok : Bool), ⟨⟩⟩, ⟨⟩⟩ w3 ⟨h1, h2, T3⟩
        dsimp only at h1 h2 T3 ⊢
        have h1 : gen = (holdS g (pgs y)).1 := h1
        have h2 : ok = (holdS g (pgs y)).2.2 := h2
        subst h1; subst h2
        have T := T.frame0 T3
        refine ⟨hkeep _ T.fr, T.st1 (by rfl) fun w7 T f7 => ⟨hkeep _ T.fr, b6, ha, hn', hc', rfl, ?_⟩⟩
        rw [hpi]
        exact (Sd.frame0 T).sel [1, 0, 0, 0, 0, 0] rfl
    rintro ⟨v, ⟨⟩⟩ w3 ⟨b, ha, hn', hc', hv, S⟩
    dsimp only at hv ⊢
    subst hv
    refine PtrK.of rfl (S.ld0 (j := 2) rfl rfl ?_)
    have fin : ∀ {w' : World} {a2 : Option Addr} {n2 c2 : Nat} {o2 : Bool} {at2 : Int}, at2 = (curTo g bs (i + 1)).1 → Sep NoB w w' [RdL [⟨a2, n2, c2, (curTo g bs (i + 1)).2.2⟩], BoxA b5 135 [.int .u64 (curTo g bs (i + 1)).2.1, .slice a2 n2 c2, .bool o2], BoxA b3 135 [.int .u64 0, .slice none 0 0, .bool false], BoxA b1 23 g.vs] →
        Rng .i64 ((i : Int) + 1) ∧ (∃ (j : Nat) (ra : Option Addr) (rn rc : Nat) (o : Bool), (i : Int) + 1 = (j : Int) ∧ j ≤ x.n ∧ at2 = (curTo g bs j).1 ∧ Sep NoB w w' [RdL [⟨ra, rn, rc, (curTo g bs j).2.2⟩], BoxA b5 135 [.int .u64 (curTo g bs j).2.1, .slice ra rn rc, .bool o], BoxA b3 135 [.int .u64 0, .slice none 0 0, .bool false], BoxA b1 23 g.vs]) ∧ ((x.n : Int) - ((i : Int) + 1)).toNat < ((x.n : Int) - (i : Int)).toNat := fun {w' a2 n2 c2 o2 at2} h S =>
      ⟨Rng.i64 (by omega) (by omega), ⟨i + 1, a2, n2, c2, o2, by push_cast; rfl, by omega, h, S⟩, by omega⟩
    have st : ¬ ((holdS g (bs.getD i [])).2.2 = true ∧ ((curTo g bs i).1 < 0 ∨ (curTo g bs i).2.1 < (holdS g (bs.getD i [])).1)) → _ := fun h => fin (w' := w3) (a2 := ra) (n2 := rn) (c2 := rc) (o2 := o) (at2 := at_) (by rw [curTo_no h]; exact hat) (by rw [curTo_no h]; exact S.sel [2, 2, 2, 2] rfl)
    refine cond_of (fun hk => ?_) (fun hk => st fun h => by rw [hk] at h; exact Bool.noConfusion h.1)
    have up : ((curTo g bs i).1 < 0 ∨ (curTo g bs i).2.1 < (holdS g (bs.getD i [])).1) → LoadA w3 ⟨b, 0, none⟩ [.int .u64, .sl, .bool] fun (x17 : Int × SlV × Bool × Unit) => StoreV w3 ⟨b5, 0, none⟩ [.int .u64 x17.1, .slice x17.2.1.a x17.2.1.n x17.2.1.c, .bool x17.2.2.1] fun w18 =>
        Rng .i64 ((i : Int) + 1) ∧ (∃ (j : Nat) (ra : Option Addr) (rn rc : Nat) (o : Bool), (i : Int) + 1 = (j : Int) ∧ j ≤ x.n ∧ (i : Int) = (curTo g bs j).1 ∧ Sep NoB w w18 [RdL [⟨ra, rn, rc, (curTo g bs j).2.2⟩], BoxA b5 135 [.int .u64 (curTo g bs j).2.1, .slice ra rn rc, .bool o], BoxA b3 135 [.int .u64 0, .slice none 0 0, .bool false], BoxA b1 23 g.vs]) ∧ ((x.n : Int) - ((i : Int) + 1)).toNat < ((x.n : Int) - (i : Int)).toNat := fun h => by
      refine S.la0 rfl (S.st3 (by rfl) fun w4 S f4 => ?_)
      exact fin (a2 := ha) (n2 := hn') (c2 := hc') (by rw [curTo_yes ⟨hk, h⟩]) (by rw [curTo_yes ⟨hk, h⟩]; exact S.sel [1, 2, 2, 2] rfl)
    refine cond_d (fun ha0 => PtrK.of rfl (up (.inl (by omega)))) (fun ha0 => ?_)
    refine PtrK.of rfl (S.ld0 (j := 0) rfl rfl (S.ld3 (j := 0) rfl rfl ?_))
    exact cond_d (fun hgt => PtrK.of rfl (up (.inr hgt))) (fun hgt => st fun h => by omega)
  · have : i = bs.length := by omega
    subst this
    have hne := S.ne 1 2 (by omega) rfl rfl
    refine S.regX (fun k => k = b3) fun D hD hkeep S T => ?_
    refine ⟨hD _ S.bl1 hne, S.la1 rfl (S.st2 (by rfl) fun w4 S f4 => ⟨hkeep _ f4, S.la2 rfl ⟨hat, rfl, S.take1⟩⟩)⟩
end Go.Proofs.YtlpeoaphdmfjdaaGreat.Vc
/-! Plain laws of layer 19: a block whose last page lacks its mark holds nothing, one that has it holds its record. -/
namespace Go.Proofs.YtlpeoaphdmfjdaaGreat.Vc
open Go Go.Eng Go.RowKit
def lastM (g : Geo) (rec : List Int) (gen : Int) : List Int := payL g (chk g rec ((nCh g).toNat - 1)) ++ markL (ownH g (((nCh g).toNat - 1 : Nat) : Int) gen) []
def mkdL (g : Geo) (rec : List Int) (gen : Int) : List (List Int) := (pagesL g rec gen).set ((nCh g).toNat - 1) (lastM g rec gen)
theorem pagesL_length (g : Geo) (rec : List Int) (gen : Int) : (pagesL g rec gen).length = (nCh g).toNat := by unfold pagesL; simp
theorem pagesL_get {g : Geo} {rec : List Int} {gen : Int} {i : Nat} (hi : i < (nCh g).toNat) : (pagesL g rec gen)[i]? = some (pgOf g rec gen i) := by
  unfold pagesL
  rw [List.getElem?_map, List.getElem?_range hi]
  rfl
theorem chk_len2 {g : Geo} (h : Right g) {rec : List Int} (hr : rec.length = 624) {i : Nat} (hi : i < (nCh g).toNat) : (chk g rec i).length = 0 ∨ ((chk g rec i).length : Int) = g.s := by
  have := chk_length h hr hi
  have hs := h.sec
  omega
theorem mkd_get {g : Geo} {rec : List Int} {gen : Int} {i : Nat} (hi : i < (nCh g).toNat) : (mkdL g rec gen).getD i [] = if i = (nCh g).toNat - 1 then lastM g rec gen else pgOf g rec gen i := by
  unfold mkdL
  rw [List.getD_eq_getElem?_getD, List.getElem?_set]
  split
  · rename_i e
    rw [if_pos (by rw [pagesL_length]; omega), if_pos e.symm]
    rfl
  · rename_i e
    rw [if_neg (fun k => e k.symm), pagesL_get hi]
    rfl
theorem mkd_facts {g : Geo} (h : Right g) {rec : List Int} (hr : rec.length = 624) {gen : Int} (hgen : 0 ≤ gen ∧ gen < 18446744073709551616) {i : Nat} (hi : i < (nCh g).toNat) :
    lenP g ((mkdL g rec gen).getD i []) ∧ okR (endP g ((mkdL g rec gen).getD i [])) ∧ hdOf (endP g ((mkdL g rec gen).getD i [])) = ownH g i gen ∧ ((i : Int) = nCh g - 1 → comm (endP g ((mkdL g rec gen).getD i [])) = true) ∧ pays g ((mkdL g rec gen).getD i []) = chk g rec i := by
  have b := nCh_bd h
  have hs := h.sec
  have hc := chk_len2 h hr hi
  have hl := chk_length h hr hi
  have hp : payL g (chk g rec i) = chk g rec i := by unfold payL; rw [if_neg (by omega)]
  have hO := ownH_rng (g := g) (i := (i : Int)) (gen := gen)
  have hg : (ownH g (i : Int) gen).rng := ownH_rng h hgen
  have hR : HRight (ownH g (i : Int) gen) := ownH_right (by omega)
  rw [mkd_get hi]
  split
  · rename_i e
    subst e
    unfold lastM
    rw [end_mark hs hc, pays_mark hs hc]
    refine ⟨⟨h, ?_⟩, markL_ok _ hR, markL_hd _ hg _, fun _ => markL_comm _ (.inl rfl), hp⟩
    rw [List.length_append, payL_length hs hc, markL_length _ (.inl rfl)]
    omega
  · rename_i e
    unfold pgOf
    rw [end_mk hs hc, pays_mk hs hc]
    refine ⟨⟨h, ?_⟩, endL_ok _ (.inl rfl) hg hR, endL_hd _ hg _, fun k => absurd (by omega) e, hp⟩
    unfold mkL
    rw [List.length_append, payL_length hs hc, endL_length _ (.inl rfl)]
    omega
theorem mkd_holds {g : Geo} (h : Right g) {rec : List Int} (hr : rec.length = 624) {gen : Int} (hgen : 0 ≤ gen ∧ gen < 18446744073709551616) : holdS g (mkdL g rec gen) = (gen, rec, true) := by
  have b := nCh_bd h
  have hs := h.sec
  have g0 : gen0 g (mkdL g rec gen) = gen := by
    unfold gen0
    rw [(mkd_facts h hr hgen (i := 0) (by omega)).2.2.1]
    rfl
  have hh : holds g (mkdL g rec gen) := by
    refine ⟨h, by unfold mkdL; rw [List.length_set, pagesL_length]; omega, fun i hi => ?_⟩
    obtain ⟨f1, f2, f3, f4, -⟩ := mkd_facts h hr hgen hi
    exact ⟨f1, f2, by rw [g0]; exact f3, f4⟩
  rw [holdS_yes hh, g0]
  congr 2
  unfold recOf
  rw [List.map_congr_left (g := fun i => ((allR g rec).drop (i * g.s.toNat)).take g.s.toNat) (fun i hi => (mkd_facts h hr hgen (List.mem_range.1 hi)).2.2.2.2), chunks_join, ← allR_length h hr, List.take_length]
  unfold allR
  rw [List.take_append_of_le_length (by omega), List.take_of_length_le (by omega)]
end Go.Proofs.YtlpeoaphdmfjdaaGreat.Vc
/-! Plain data of layer 20 (keybox): what each of its operations makes. -/
namespace Go.Proofs.YtlpeoaphdmfjdaaGreat.Vc
open Go Go.Eng Go.RowKit
structure KB where
  C : CD
  cu : Int
  ge : Int
  cl : List Bool
  bd : List Bool
  lk : List Bool
abbrev KB.c (B : KB) (k : Int) : Bool := B.cl.getD k.toNat false
abbrev KB.b (B : KB) (k : Int) : Bool := B.bd.getD k.toNat false
abbrev KB.l (B : KB) (k : Int) : Bool := B.lk.getD k.toNat false
def KB.at (B : KB) (k gen : Int) : KB := ⟨B.C, k, gen, B.cl, B.bd, B.lk⟩
def dsK (B : KB) (k : Int) : KB × Int :=
  if (eraC B.C k).2 = 5 then
    (if (scrC (eraC B.C k).1 k).2 = 4 then ({ B with C := (scrC (eraC B.C k).1 k).1, bd := B.bd.set k.toNat true, cl := B.cl.set k.toNat false }, 4)
     else ({ B with C := (scrC (eraC B.C k).1 k).1, bd := B.bd.set k.toNat true, cl := B.cl.set k.toNat false, lk := B.lk.set k.toNat ((scrC (eraC B.C k).1 k).2 != 0) }, 5))
  else if (eraC B.C k).2 = 0 then ({ B with C := (eraC B.C k).1, cl := B.cl.set k.toNat true, lk := B.lk.set k.toNat false }, 0) else ({ B with C := (eraC B.C k).1 }, (eraC B.C k).2)
def wrPg (k : Int) : List (List Int) → Int → CD → CD × Int
  | [], _, C => (C, 0)
  | p :: ps, i, C => if (progC C k i p).2 = 0 then wrPg k ps (i + 1) (progC C k i p).1 else progC C k i p
def wrK (C : CD) (k : Int) (l : List (List Int)) : CD × Int := if (wrPg k l 0 C).2 = 0 then progC (wrPg k l 0 C).1 k ((l.length : Int) - 1) (comL C.g) else wrPg k l 0 C
def ty2K (B : KB) (k : Int) (l : List (List Int)) : KB × Int :=
  if (wrK B.C k l).2 = 0 ∨ (wrK B.C k l).2 = 4 then ({ B with C := (wrK B.C k l).1, cl := B.cl.set k.toNat false }, (wrK B.C k l).2)
  else
    let t := dsK { B with C := (wrK B.C k l).1, cl := B.cl.set k.toNat false, bd := B.bd.set k.toNat true } k
    (t.1, if t.2 = 4 then 4 else 5)
def tyK (B : KB) (k : Int) (l : List (List Int)) : KB × Int :=
  if B.c k = true then ty2K B k l else if (dsK B k).2 = 0 then ty2K (dsK B k).1 k l else dsK B k
def skK (B : KB) (k : Int) : Prop := k = B.cu ∨ B.c k = true ∨ (B.b k = true ∧ B.l k = false)
instance (B : KB) (k : Int) : Decidable (skK B k) := by unfold skK; infer_instance
def otK : Nat → KB → KB × Int
  | 0, B => (B, 0)
  | n + 1, B => if skK B (3 - n) then otK n B else if (dsK B (3 - n)).2 = 4 then dsK B (3 - n) else otK n (dsK B (3 - n)).1
def cmK (l : List (List Int)) (gen : Int) : Nat → KB → KB × Int
  | 0, B => (B, 15)
  | n + 1, B =>
    if (B.cu + 1 + (3 - n)) % 4 = B.cu ∨ B.b ((B.cu + 1 + (3 - n)) % 4) = true then cmK l gen n B else
    if (tyK B ((B.cu + 1 + (3 - n)) % 4) l).2 = 0 then otK 4 ((tyK B ((B.cu + 1 + (3 - n)) % 4) l).1.at ((B.cu + 1 + (3 - n)) % 4) gen) else
    if (tyK B ((B.cu + 1 + (3 - n)) % 4) l).2 = 4 then tyK B ((B.cu + 1 + (3 - n)) % 4) l else cmK l gen n (tyK B ((B.cu + 1 + (3 - n)) % 4) l).1
def coK (B : KB) (rec : List Int) (gen : Int) : KB × Int := if B.C.off = true then (B, 4) else if rec.length = 624 then cmK (pagesL B.C.g rec gen) gen 4 B else (B, 2)
structure KI (g : Geo) (B : KB) : Prop where
  ok : COk B.C
  gg : B.C.g = g
  cu : -1 ≤ B.cu ∧ B.cu < 4
  cl : B.cl.length = 4
  bd : B.bd.length = 4
  lk : B.lk.length = 4
section
variable {g : Geo} {B : KB}
theorem KI.ds (h : KI g B) (k : Int) (ho : B.C.ops + 2 ≤ 1000000) : KI g (dsK B k).1 ∧ (dsK B k).1.C.ops ≤ B.C.ops + 2 ∧ B.C.ops ≤ (dsK B k).1.C.ops ∧ (dsK B k).1.cu = B.cu := by
  obtain ⟨a1, a2, a3⟩ := eraC_ok h.ok k (by omega)
  obtain ⟨b1, b2⟩ := eraC_k B.C k
  obtain ⟨d1, d2, d3⟩ := scrC_ok a1 k (by omega)
  obtain ⟨e1, e2⟩ := scrC_k (eraC B.C k).1 k
  unfold dsK
  split
  · split
    · exact ⟨⟨d1, e1.trans (b1.trans h.gg), h.cu, by rw [List.length_set]; exact h.cl, by rw [List.length_set]; exact h.bd, h.lk⟩, by dsimp only; omega, by dsimp only; omega, rfl⟩
    · exact ⟨⟨d1, e1.trans (b1.trans h.gg), h.cu, by rw [List.length_set]; exact h.cl, by rw [List.length_set]; exact h.bd, by rw [List.length_set]; exact h.lk⟩, by dsimp only; omega, by dsimp only; omega, rfl⟩
  · split
    · exact ⟨⟨a1, b1.trans h.gg, h.cu, by rw [List.length_set]; exact h.cl, h.bd, by rw [List.length_set]; exact h.lk⟩, by dsimp only; omega, by dsimp only; omega, rfl⟩
    · exact ⟨⟨a1, b1.trans h.gg, h.cu, h.cl, h.bd, h.lk⟩, by dsimp only; omega, by dsimp only; omega, rfl⟩
theorem wrPg_ok (k : Int) : ∀ {l : List (List Int)} {i : Int} {C : CD}, COk C → (∀ p ∈ l, Byt p) → C.ops + l.length ≤ 1000000 → COk (wrPg k l i C).1 ∧ (wrPg k l i C).1.g = C.g ∧ (wrPg k l i C).1.pl = C.pl ∧ (wrPg k l i C).1.ops ≤ C.ops + l.length ∧ C.ops ≤ (wrPg k l i C).1.ops
  | [], i, C, h, _, _ => ⟨h, rfl, rfl, Nat.le_refl _, Nat.le_refl _⟩
  | p :: ps, i, C, h, hp, ho => by
    rw [List.length_cons] at ho ⊢
    obtain ⟨a1, a2, a3⟩ := progC_ok h k i (hp p List.mem_cons_self) (by omega)
    obtain ⟨b1, b2⟩ := progC_k C k i p
    unfold wrPg
    split
    · obtain ⟨c1, c2, c3, c4, c5⟩ := wrPg_ok k (l := ps) (i := i + 1) a1 (fun q hq => hp q (List.mem_cons_of_mem _ hq)) (by omega)
      exact ⟨c1, c2.trans b1, c3.trans b2, by omega, by omega⟩
    · exact ⟨a1, b1, b2, by omega, a3⟩
theorem wrK_ok {C : CD} (h : COk C) (k : Int) {l : List (List Int)} (hp : ∀ p ∈ l, Byt p) (ho : C.ops + l.length + 1 ≤ 1000000) : COk (wrK C k l).1 ∧ (wrK C k l).1.g = C.g ∧ (wrK C k l).1.pl = C.pl ∧ (wrK C k l).1.ops ≤ C.ops + l.length + 1 ∧ C.ops ≤ (wrK C k l).1.ops := by
  obtain ⟨a1, a2, a3, a4, a5⟩ := wrPg_ok k (l := l) (i := 0) h hp (by omega)
  have bc : Byt (comL C.g) := by
    unfold comL
    exact (Byt.replicate (by decide) (by decide) _).append (Byt.replicate (by decide) (by decide) _)
  unfold wrK
  split
  · obtain ⟨c1, c2, c3⟩ := progC_ok a1 k ((l.length : Int) - 1) bc (by omega)
    obtain ⟨b1, b2⟩ := progC_k (wrPg k l 0 C).1 k ((l.length : Int) - 1) (comL C.g)
    exact ⟨c1, b1.trans a2, b2.trans a3, by omega, by omega⟩
  · exact ⟨a1, a2, a3, by omega, a5⟩
theorem KI.ty2 (h : KI g B) (k : Int) {l : List (List Int)} (hp : ∀ p ∈ l, Byt p) (ho : B.C.ops + l.length + 3 ≤ 1000000) : KI g (ty2K B k l).1 ∧ (ty2K B k l).1.C.ops ≤ B.C.ops + l.length + 3 ∧ B.C.ops ≤ (ty2K B k l).1.C.ops ∧ (ty2K B k l).1.cu = B.cu := by
  obtain ⟨a1, a2, a3, a4, a5⟩ := wrK_ok h.ok k hp (by omega)
  unfold ty2K
  split
  · exact ⟨⟨a1, a2.trans h.gg, h.cu, by rw [List.length_set]; exact h.cl, h.bd, h.lk⟩, by dsimp only; omega, by dsimp only; omega, rfl⟩
  · have h1 : KI g { B with C := (wrK B.C k l).1, cl := B.cl.set k.toNat false, bd := B.bd.set k.toNat true } := ⟨a1, a2.trans h.gg, h.cu, by rw [List.length_set]; exact h.cl, by rw [List.length_set]; exact h.bd, h.lk⟩
    obtain ⟨d1, d2, d3, d4⟩ := h1.ds k (by dsimp only; omega)
    dsimp only at d2 d3 ⊢
    exact ⟨d1, by omega, by omega, d4⟩
theorem KI.ty (h : KI g B) (k : Int) {l : List (List Int)} (hp : ∀ p ∈ l, Byt p) (ho : B.C.ops + l.length + 5 ≤ 1000000) : KI g (tyK B k l).1 ∧ (tyK B k l).1.C.ops ≤ B.C.ops + l.length + 5 ∧ B.C.ops ≤ (tyK B k l).1.C.ops ∧ (tyK B k l).1.cu = B.cu := by
  obtain ⟨a1, a2, a3, a4⟩ := h.ds k (by omega)
  unfold tyK
  split
  · obtain ⟨b1, b2, b3, b4⟩ := h.ty2 k hp (by omega)
    exact ⟨b1, by omega, b3, b4⟩
  split
  · obtain ⟨b1, b2, b3, b4⟩ := a1.ty2 k hp (by omega)
    exact ⟨b1, by omega, by omega, b4.trans a4⟩
  · exact ⟨a1, by omega, a3, a4⟩
theorem KI.ot : ∀ {n : Nat} {B : KB}, KI g B → B.C.ops + 2 * n ≤ 1000000 → KI g (otK n B).1 ∧ (otK n B).1.C.ops ≤ B.C.ops + 2 * n ∧ B.C.ops ≤ (otK n B).1.C.ops ∧ (otK n B).1.cu = B.cu
  | 0, B, h, _ => ⟨h, Nat.le_refl _, Nat.le_refl _, rfl⟩
  | n + 1, B, h, ho => by
    obtain ⟨a1, a2, a3, a4⟩ := h.ds (3 - n) (by omega)
    unfold otK
    split
    · obtain ⟨b1, b2, b3, b4⟩ := KI.ot (n := n) h (by omega)
      exact ⟨b1, by omega, b3, b4⟩
    split
    · exact ⟨a1, by omega, a3, a4⟩
    · obtain ⟨b1, b2, b3, b4⟩ := KI.ot (n := n) a1 (by omega)
      exact ⟨b1, by omega, by omega, b4.trans a4⟩
theorem KI.cm {l : List (List Int)} {gen : Int} (hp : ∀ p ∈ l, Byt p) : ∀ {n : Nat} {B : KB}, KI g B → B.C.ops + n * (l.length + 5) + 8 ≤ 1000000 → KI g (cmK l gen n B).1 ∧ (cmK l gen n B).1.C.ops ≤ B.C.ops + n * (l.length + 5) + 8 ∧ B.C.ops ≤ (cmK l gen n B).1.C.ops
  | 0, B, h, _ => ⟨h, by show B.C.ops ≤ _; omega, Nat.le_refl _⟩
  | n + 1, B, h, ho => by
    rw [Nat.add_mul, Nat.one_mul] at ho ⊢
    unfold cmK
    have hk : 0 ≤ (B.cu + 1 + (3 - n)) % 4 ∧ (B.cu + 1 + (3 - n)) % 4 < 4 := by omega
    generalize (B.cu + 1 + (3 - n)) % 4 = k at hk ⊢
    obtain ⟨a1, a2, a3, a4⟩ := h.ty k hp (by omega)
    split
    · obtain ⟨b1, b2, b3⟩ := KI.cm hp (n := n) h (by omega)
      exact ⟨b1, by omega, b3⟩
    split
    · have h1 : KI g ((tyK B k l).1.at k gen) := ⟨a1.ok, a1.gg, by show -1 ≤ k ∧ k < 4; omega, a1.cl, a1.bd, a1.lk⟩
      obtain ⟨b1, b2, b3, -⟩ := KI.ot (n := 4) h1 (by show (tyK B k l).1.C.ops + _ ≤ _; omega)
      have e : ((tyK B k l).1.at k gen).C.ops = (tyK B k l).1.C.ops := rfl
      rw [e] at b2 b3
      exact ⟨b1, by omega, by omega⟩
    split
    · exact ⟨a1, by omega, a3⟩
    · obtain ⟨b1, b2, b3⟩ := KI.cm hp (n := n) a1 (by omega)
      exact ⟨b1, by omega, by omega⟩
theorem pagesL_byt {g : Geo} (h : Right g) {rec : List Int} (br : Byt rec) {gen : Int} (hgen : 0 ≤ gen ∧ gen < 18446744073709551616) : ∀ p ∈ pagesL g rec gen, Byt p := fun p hp => by
  obtain ⟨i, hi, rfl⟩ := List.mem_map.1 hp
  have hi := List.mem_range.1 hi
  have := (nCh_bd h).1
  exact mkL_byt (ownH_rng h hgen) (ownH_right (by omega)) (chk_byt br i) Byt.nil
theorem KI.co (h : KI g B) {rec : List Int} (br : Byt rec) {gen : Int} (hgen : 0 ≤ gen ∧ gen < 18446744073709551616) (ho : B.C.ops + 200 ≤ 1000000) : KI g (coK B rec gen).1 ∧ (coK B rec gen).1.C.ops ≤ B.C.ops + 4 * ((nCh g).toNat + 5) + 8 ∧ B.C.ops ≤ (coK B rec gen).1.C.ops := by
  have hR : Right g := by have := h.ok.g; rwa [h.gg] at this
  have hn := (nCh_bd hR).1
  unfold coK
  split
  · exact ⟨h, by dsimp only; omega, Nat.le_refl _⟩
  split
  · rw [h.gg]
    have hl := pagesL_length g rec gen
    have := KI.cm (g := g) (gen := gen) (pagesL_byt hR br hgen) (n := 4) h (by rw [hl]; omega)
    rwa [hl] at this
  · exact ⟨h, by dsimp only; omega, Nat.le_refl _⟩
end
end Go.Proofs.YtlpeoaphdmfjdaaGreat.Vc
/-! The plans of functions as plain statements, printed by wip/tools/vcgen.py; the kernel holds each to the code. -/
namespace Go.Proofs.YtlpeoaphdmfjdaaGreat.Vc
open Go Go.Eng
def keybox_pages.A : Ann := .two .no (.two .no (.two (.two .no (.one (.loop [6, 7, 8, 9, 10, 11, 13, 14, 15, 16, 17, 18, 19, 20, 21, 22, 23, 24, 25, 26, 27, 28, 29, 30, 31] [(8, .one .sl), (13, .one (.int .i64))] .no))) .no))
def keybox_pages.P (p0 : Addr) (p1 p2 : Int) (w : World) (K : SlV × Int × Unit → World → Prop) : Prop :=
  LoopV [.one .sl, .one (.int .i64)] ((⟨none, 0, 0⟩ : SlV), (0 : Int), ()) w fun (z1 : SlV × Int × Unit) w2 (K3 : SlV × Int × Unit → World → Prop) =>
  cond (decide (z1.2.1 < p2))
  (CallV Tryz.prog 118 #[.pointer (some p0), .agg #[.int .i64 p1, .int .i64 z1.2.1]] w2 [.one .sl, .one (.int .i64)] fun (r4 : SlV × Int × Unit) w5 =>
  cond (r4.2.1 != 0)
  (K ((⟨none, 0, 0⟩ : SlV), r4.2.1, ()) w5)
  (NewV #[.slice r4.1.a r4.1.n r4.1.c] 51 w5 fun b6 w7 =>
  AppS w7 (some ⟨b6, 0, none⟩) 1 1 fun ns12 =>
  AppV w7 51 1 24 z1.1.a z1.1.n z1.1.c ns12 1 fun a8 n9 c10 w11 =>
  Rng .i64 (z1.2.1 + 1) ∧
  K3 ((⟨a8, n9, c10⟩ : SlV), z1.2.1 + 1, ()) w11))
  (K (z1.1, (0 : Int), ()) w2)
theorem keybox_pages.vc (p0 : Addr) (p1 p2 : Int) (w : World) (K : SlV × Int × Unit → World → Prop) (h : keybox_pages.P p0 p1 p2 w K) : CallV Tryz.prog 61 #[.pointer (some p0), .int .i64 p1, .int .i64 p2] w [.one .sl, .one (.int .i64)] K := by
  refine vcFun.of (A := keybox_pages.A) (wr := false) okf_ok follows h Tryz.func61 ?_
  kernel_rfl
def keybox_Open.A : Ann := .two .no (.two .no (.two .no (.two .no (.two (.two .no (.one (.loop [2, 3, 4, 6, 7, 8, 9, 21, 22, 23, 24, 25, 26, 27, 28, 29, 30, 31, 32, 33, 34, 35, 36, 37, 38, 39, 40, 41, 42] [(6, .one .sl), (21, .one (.int .i64))] .no))) .no))))
def keybox_Open.P (p0 : Addr) (w : World) (K : (Option Addr) × SlV × Int × Unit → World → Prop) : Prop :=
  CallV Tryz.prog 59 #[.pointer (some p0)] w [.agg [.int .i64, .int .i64, .int .i64, .int .i64, .int .i64, .int .i64]] fun (r1 : (Int × Int × Int × Int × Int × Int × Unit) × Unit) w2 =>
  NewV #[.pointer (some p0), .int .i64 r1.1.1, .int .i64 r1.1.2.1, .int .i64 r1.1.2.2.1, .int .i64 r1.1.2.2.2.1, .int .i64 r1.1.2.2.2.2.1, .int .i64 r1.1.2.2.2.2.2.1, .int .i64 (-1), .int .u64 0, .bool false, .bool false, .bool false, .bool false, .bool false, .bool false, .bool false, .bool false, .bool false, .bool false, .bool false, .bool false] 125 w2 fun b3 w4 =>
  CallV Tryz.prog 60 #[.pointer (some p0)] w4 [.one .bool] fun (r5 : Bool × Unit) w6 =>
  cond (!r5.1)
  (K (none, (⟨none, 0, 0⟩ : SlV), (4 : Int), ()) w6)
  (LoopV [.one .sl, .one (.int .i64)] ((⟨none, 0, 0⟩ : SlV), (0 : Int), ()) w6 fun (z7 : SlV × Int × Unit) w8 (K9 : SlV × Int × Unit → World → Prop) =>
  cond (decide (z7.2.1 < 4))
  (LoadA w8 ⟨b3, 1, none⟩ [.int .i64, .int .i64, .int .i64, .int .i64, .int .i64, .int .i64] fun (x10 : Int × Int × Int × Int × Int × Int × Unit) =>
  CallV Tryz.prog 62 #[.agg #[.int .i64 x10.1, .int .i64 x10.2.1, .int .i64 x10.2.2.1, .int .i64 x10.2.2.2.1, .int .i64 x10.2.2.2.2.1, .int .i64 x10.2.2.2.2.2.1]] w8 [.one (.int .i64)] fun (r11 : Int × Unit) w12 =>
  CallV Tryz.prog 61 #[.pointer (some p0), .int .i64 z7.2.1, .int .i64 r11.1] w12 [.one .sl, .one (.int .i64)] fun (r13 : SlV × Int × Unit) w14 =>
  cond (r13.2.1 != 0)
  (K (none, (⟨none, 0, 0⟩ : SlV), r13.2.1, ()) w14)
  (NewV #[.slice r13.1.a r13.1.n r13.1.c] 127 w14 fun b15 w16 =>
  AppS w16 (some ⟨b15, 0, none⟩) 1 1 fun ns21 =>
  AppV w16 127 1 24 z7.1.a z7.1.n z7.1.c ns21 1 fun a17 n18 c19 w20 =>
  Rng .i64 (z7.2.1 + 1) ∧
  K9 ((⟨a17, n18, c19⟩ : SlV), z7.2.1 + 1, ()) w20))
  (LoadA w8 ⟨b3, 1, none⟩ [.int .i64, .int .i64, .int .i64, .int .i64, .int .i64, .int .i64] fun (x22 : Int × Int × Int × Int × Int × Int × Unit) =>
  CallV Tryz.prog 63 #[.agg #[.int .i64 x22.1, .int .i64 x22.2.1, .int .i64 x22.2.2.1, .int .i64 x22.2.2.2.1, .int .i64 x22.2.2.2.2.1, .int .i64 x22.2.2.2.2.2.1], .slice z7.1.a z7.1.n z7.1.c] w8 [.one (.int .i64), .one (.int .u64), .one .sl] fun (r23 : Int × Int × SlV × Unit) w24 =>
  StoreV w24 ⟨b3, 7, none⟩ [.int .i64 r23.1] fun w25 =>
  StoreV w25 ⟨b3, 8, none⟩ [.int .u64 r23.2.1] fun w26 =>
  cond (decide (r23.1 < 0))
  (K ((some ⟨b3, 0, none⟩), (⟨none, 0, 0⟩ : SlV), (10 : Int), ()) w26)
  (K ((some ⟨b3, 0, none⟩), r23.2.2.1, (0 : Int), ()) w26)))
theorem keybox_Open.vc (p0 : Addr) (w : World) (K : (Option Addr) × SlV × Int × Unit → World → Prop) (h : keybox_Open.P p0 w K) : CallV Tryz.prog 20 #[.pointer (some p0)] w [.one .ptr, .one .sl, .one (.int .i64)] K := by
  refine vcFun.of (A := keybox_Open.A) (wr := false) okf_ok follows h Tryz.func20 ?_
  kernel_rfl
def keybox_Box_destroy.A : Ann := .two .no (.two .no (.two (.two .no (.two (.draw (.take 0 (.take 1 (.take 2 (.take 3 (.take 4 (.take 5 (.take 6 (.take 8 (.take 9 (.eff 7 (.take 10 (.eff 11 (.done)))))))))))))) .no)) (.two .no (.two (.draw (.take 0 (.take 1 (.take 2 (.take 3 (.take 4 (.take 5 (.take 6 (.take 8 (.take 9 (.eff 7 (.take 10 (.eff 11 (.done)))))))))))))) .no))))
def keybox_Box_destroy.P (p0 : Addr) (p1 : Int) (w : World) (K : Int × Unit → World → Prop) : Prop :=
  LoadS w p0 .ptr fun (x1 : Option Addr) =>
  CallV Tryz.prog 45 #[.pointer x1, .int .i64 p1] w [.one (.int .i64)] fun (r2 : Int × Unit) w3 =>
  cond (r2.1 == 0)
  (DrawV fun D4 =>
  (0 ≤ p1 ∧ p1 < (4 : Int)) ∧
  StoreV w3.drew ((p0.add 9 : Addr).add (p1.toNat * 1)) [.bool true] fun w5 =>
  KeepOn D4 w3.drew w5 ∧
  (0 ≤ p1 ∧ p1 < (4 : Int)) ∧
  StoreV w5 ((p0.add 17 : Addr).add (p1.toNat * 1)) [.bool false] fun w6 =>
  KeepOn D4 w3.drew w6 ∧
  cond (r2.1 != 5)
  (K (r2.1, ()) w6)
  (DrawV fun D7 =>
  (0 ≤ p1 ∧ p1 < (4 : Int)) ∧
  StoreV w6.drew ((p0.add 13 : Addr).add (p1.toNat * 1)) [.bool true] fun w8 =>
  KeepOn D7 w6.drew w8 ∧
  (0 ≤ p1 ∧ p1 < (4 : Int)) ∧
  StoreV w8 ((p0.add 9 : Addr).add (p1.toNat * 1)) [.bool false] fun w9 =>
  KeepOn D7 w6.drew w9 ∧
  LoadS w9 p0 .ptr fun (x10 : Option Addr) =>
  CallV Tryz.prog 48 #[.pointer x10, .int .i64 p1] w9 [.one (.int .i64)] fun (r11 : Int × Unit) w12 =>
  cond (r11.1 == 4)
  (K (r11.1, ()) w12)
  ((0 ≤ p1 ∧ p1 < (4 : Int)) ∧
  StoreV w12 ((p0.add 17 : Addr).add (p1.toNat * 1)) [.bool (r11.1 != 0)] fun w13 =>
  K ((5 : Int), ()) w13)))
  (cond (r2.1 != 5)
  (K (r2.1, ()) w3)
  (DrawV fun D14 =>
  (0 ≤ p1 ∧ p1 < (4 : Int)) ∧
  StoreV w3.drew ((p0.add 13 : Addr).add (p1.toNat * 1)) [.bool true] fun w15 =>
  KeepOn D14 w3.drew w15 ∧
  (0 ≤ p1 ∧ p1 < (4 : Int)) ∧
  StoreV w15 ((p0.add 9 : Addr).add (p1.toNat * 1)) [.bool false] fun w16 =>
  KeepOn D14 w3.drew w16 ∧
  LoadS w16 p0 .ptr fun (x17 : Option Addr) =>
  CallV Tryz.prog 48 #[.pointer x17, .int .i64 p1] w16 [.one (.int .i64)] fun (r18 : Int × Unit) w19 =>
  cond (r18.1 == 4)
  (K (r18.1, ()) w19)
  ((0 ≤ p1 ∧ p1 < (4 : Int)) ∧
  StoreV w19 ((p0.add 17 : Addr).add (p1.toNat * 1)) [.bool (r18.1 != 0)] fun w20 =>
  K ((5 : Int), ()) w20)))
theorem keybox_Box_destroy.vc (p0 : Addr) (p1 : Int) (w : World) (K : Int × Unit → World → Prop) (h : keybox_Box_destroy.P p0 p1 w K) : CallV Tryz.prog 129 #[.pointer (some p0), .int .i64 p1] w [.one (.int .i64)] K := by
  refine vcFun.of (A := keybox_Box_destroy.A) (wr := false) okf_ok follows h Tryz.func129 ?_
  kernel_rfl
def keybox_Box_write.A : Ann := .two .no (.two (.two .no (.one (.loop [6, 7, 8, 9, 14, 15, 16, 17, 18, 19, 20, 21, 22, 23, 24, 25, 26, 27, 28, 29, 30, 31] [(14, .one (.int .i64))] .no))) .no)
def keybox_Box_write.P (p0 : Addr) (p1 : Int) (a2 : Option Addr) (n2 c2 : Nat) (w : World) (K : Int × Unit → World → Prop) : Prop :=
  LoopV [.one (.int .i64)] ((0 : Int), ()) w fun (z1 : Int × Unit) w2 (K3 : Int × Unit → World → Prop) =>
  cond (decide (z1.1 < ((n2 : Nat) : Int)))
  ((0 ≤ z1.1 ∧ z1.1 < ((n2 : Nat) : Int)) ∧ ∃ q4 : Addr, a2 = some q4 ∧
  LoadS w2 (q4.add (z1.1.toNat * 1)) .sl fun (x5 : SlV) =>
  LoadS w2 p0 .ptr fun (x6 : Option Addr) =>
  CallV Tryz.prog 92 #[.pointer x6, .agg #[.int .i64 p1, .int .i64 z1.1], .slice x5.a x5.n x5.c] w2 [.one (.int .i64)] fun (r7 : Int × Unit) w8 =>
  cond (r7.1 != 0)
  (K (r7.1, ()) w8)
  (Rng .i64 (z1.1 + 1) ∧
  K3 (z1.1 + 1, ()) w8))
  (LoadA w2 (p0.add 1) [.int .i64, .int .i64, .int .i64, .int .i64, .int .i64, .int .i64] fun (x9 : Int × Int × Int × Int × Int × Int × Unit) =>
  CallV Tryz.prog 91 #[.agg #[.int .i64 x9.1, .int .i64 x9.2.1, .int .i64 x9.2.2.1, .int .i64 x9.2.2.2.1, .int .i64 x9.2.2.2.2.1, .int .i64 x9.2.2.2.2.2.1]] w2 [.one .sl, .one (.int .i64)] fun (r10 : SlV × Int × Unit) w11 =>
  cond (r10.2.1 != 0)
  (K (r10.2.1, ()) w11)
  (LoadS w11 p0 .ptr fun (x12 : Option Addr) =>
  Rng .i64 (((n2 : Nat) : Int) - 1) ∧
  CallV Tryz.prog 92 #[.pointer x12, .agg #[.int .i64 p1, .int .i64 (((n2 : Nat) : Int) - 1)], .slice r10.1.a r10.1.n r10.1.c] w11 [.one (.int .i64)] fun (r13 : Int × Unit) w14 =>
  K (r13.1, ()) w14))
theorem keybox_Box_write.vc (p0 : Addr) (p1 : Int) (a2 : Option Addr) (n2 c2 : Nat) (w : World) (K : Int × Unit → World → Prop) (h : keybox_Box_write.P p0 p1 a2 n2 c2 w K) : CallV Tryz.prog 130 #[.pointer (some p0), .int .i64 p1, .slice a2 n2 c2] w [.one (.int .i64)] K := by
  refine vcFun.of (A := keybox_Box_write.A) (wr := false) okf_ok follows h Tryz.func130 ?_
  kernel_rfl
def keybox_Box_others.A : Ann := .two .no (.two (.two .no (.one (.loop [2, 3, 4, 5, 6, 7, 8, 9, 10, 11, 12, 13, 14, 15, 16, 17, 18, 19, 20, 21, 22, 23, 24, 25, 26, 27, 28, 29, 30, 31, 32, 33, 34, 35, 36, 37, 38, 39, 40, 41, 42, 43, 44, 45] [(5, .one (.int .i64))] .no))) .no)
def keybox_Box_others.P (p0 : Addr) (w : World) (K : Int × Unit → World → Prop) : Prop :=
  LoopV [.one (.int .i64)] ((0 : Int), ()) w fun (z1 : Int × Unit) w2 (K3 : Int × Unit → World → Prop) =>
  cond (decide (z1.1 < 4))
  (LoadS w2 (p0.add 7) (.int .i64) fun (x4 : Int) =>
  cond (z1.1 == x4)
  (Rng .i64 (z1.1 + 1) ∧
  K3 (z1.1 + 1, ()) w2)
  ((0 ≤ z1.1 ∧ z1.1 < (4 : Int)) ∧
  LoadS w2 ((p0.add 9 : Addr).add (z1.1.toNat * 1)) .bool fun (x5 : Bool) =>
  cond x5
  (Rng .i64 (z1.1 + 1) ∧
  K3 (z1.1 + 1, ()) w2)
  ((0 ≤ z1.1 ∧ z1.1 < (4 : Int)) ∧
  LoadS w2 ((p0.add 13 : Addr).add (z1.1.toNat * 1)) .bool fun (x6 : Bool) =>
  cond x6
  ((0 ≤ z1.1 ∧ z1.1 < (4 : Int)) ∧
  LoadS w2 ((p0.add 17 : Addr).add (z1.1.toNat * 1)) .bool fun (x7 : Bool) =>
  cond (!x7)
  (Rng .i64 (z1.1 + 1) ∧
  K3 (z1.1 + 1, ()) w2)
  (CallV Tryz.prog 129 #[.pointer (some p0), .int .i64 z1.1] w2 [.one (.int .i64)] fun (r8 : Int × Unit) w9 =>
  cond (r8.1 == 4)
  (K (r8.1, ()) w9)
  (Rng .i64 (z1.1 + 1) ∧
  K3 (z1.1 + 1, ()) w9)))
  (CallV Tryz.prog 129 #[.pointer (some p0), .int .i64 z1.1] w2 [.one (.int .i64)] fun (r10 : Int × Unit) w11 =>
  cond (r10.1 == 4)
  (K (r10.1, ()) w11)
  (Rng .i64 (z1.1 + 1) ∧
  K3 (z1.1 + 1, ()) w11)))))
  (K ((0 : Int), ()) w2)
theorem keybox_Box_others.vc (p0 : Addr) (w : World) (K : Int × Unit → World → Prop) (h : keybox_Box_others.P p0 w K) : CallV Tryz.prog 73 #[.pointer (some p0)] w [.one (.int .i64)] K := by
  refine vcFun.of (A := keybox_Box_others.A) (wr := false) okf_ok follows h Tryz.func73 ?_
  kernel_rfl
def keybox_Box_try.A : Ann := .no
def keybox_Box_try.P (p0 : Addr) (p1 : Int) (a2 : Option Addr) (n2 c2 : Nat) (w : World) (K : Int × Unit → World → Prop) : Prop :=
  (0 ≤ p1 ∧ p1 < (4 : Int)) ∧
  LoadS w ((p0.add 9 : Addr).add (p1.toNat * 1)) .bool fun (x1 : Bool) =>
  cond (!x1)
  (CallV Tryz.prog 129 #[.pointer (some p0), .int .i64 p1] w [.one (.int .i64)] fun (r2 : Int × Unit) w3 =>
  cond (r2.1 != 0)
  (K (r2.1, ()) w3)
  ((0 ≤ p1 ∧ p1 < (4 : Int)) ∧
  StoreV w3 ((p0.add 9 : Addr).add (p1.toNat * 1)) [.bool false] fun w4 =>
  CallV Tryz.prog 130 #[.pointer (some p0), .int .i64 p1, .slice a2 n2 c2] w4 [.one (.int .i64)] fun (r5 : Int × Unit) w6 =>
  cond (r5.1 == 0)
  (K (r5.1, ()) w6)
  (cond (r5.1 == 4)
  (K (r5.1, ()) w6)
  ((0 ≤ p1 ∧ p1 < (4 : Int)) ∧
  StoreV w6 ((p0.add 13 : Addr).add (p1.toNat * 1)) [.bool true] fun w7 =>
  CallV Tryz.prog 129 #[.pointer (some p0), .int .i64 p1] w7 [.one (.int .i64)] fun (r8 : Int × Unit) w9 =>
  cond (r8.1 == 4)
  (K (r8.1, ()) w9)
  (K ((5 : Int), ()) w9)))))
  ((0 ≤ p1 ∧ p1 < (4 : Int)) ∧
  StoreV w ((p0.add 9 : Addr).add (p1.toNat * 1)) [.bool false] fun w10 =>
  CallV Tryz.prog 130 #[.pointer (some p0), .int .i64 p1, .slice a2 n2 c2] w10 [.one (.int .i64)] fun (r11 : Int × Unit) w12 =>
  cond (r11.1 == 0)
  (K (r11.1, ()) w12)
  (cond (r11.1 == 4)
  (K (r11.1, ()) w12)
  ((0 ≤ p1 ∧ p1 < (4 : Int)) ∧
  StoreV w12 ((p0.add 13 : Addr).add (p1.toNat * 1)) [.bool true] fun w13 =>
  CallV Tryz.prog 129 #[.pointer (some p0), .int .i64 p1] w13 [.one (.int .i64)] fun (r14 : Int × Unit) w15 =>
  cond (r14.1 == 4)
  (K (r14.1, ()) w15)
  (K ((5 : Int), ()) w15))))
theorem keybox_Box_try.vc (p0 : Addr) (p1 : Int) (a2 : Option Addr) (n2 c2 : Nat) (w : World) (K : Int × Unit → World → Prop) (h : keybox_Box_try.P p0 p1 a2 n2 c2 w K) : CallV Tryz.prog 72 #[.pointer (some p0), .int .i64 p1, .slice a2 n2 c2] w [.one (.int .i64)] K := by
  refine vcFun.of (A := keybox_Box_try.A) (wr := false) okf_ok follows h Tryz.func72 ?_
  kernel_rfl
def keybox_Box_Commit.A : Ann := .two .no (.one (.two .no (.two .no (.two .no (.two .no (.two (.two .no (.one (.loop [6, 9, 10, 11, 35, 36, 37, 38, 39, 40, 41, 42, 43, 44, 45, 46, 47, 48, 49, 50, 51, 52, 53, 54, 55, 56, 57, 58, 59, 60, 61, 62, 63, 64, 65, 66, 67, 68, 69, 70, 71, 72, 73, 74, 75, 76, 77, 78, 79, 80] [(35, .one (.int .i64))] .no))) .no))))))
def keybox_Box_Commit.P (p0 : Addr) (a1 : Option Addr) (n1 c1 : Nat) (p2 : Int) (w : World) (K : Int × Unit → World → Prop) : Prop :=
  LoadS w p0 .ptr fun (x1 : Option Addr) =>
  CallV Tryz.prog 60 #[.pointer x1] w [.one .bool] fun (r2 : Bool × Unit) w3 =>
  cond (!r2.1)
  (K ((4 : Int), ()) w3)
  (LoadA w3 (p0.add 1) [.int .i64, .int .i64, .int .i64, .int .i64, .int .i64, .int .i64] fun (x4 : Int × Int × Int × Int × Int × Int × Unit) =>
  CallV Tryz.prog 71 #[.agg #[.int .i64 x4.1, .int .i64 x4.2.1, .int .i64 x4.2.2.1, .int .i64 x4.2.2.2.1, .int .i64 x4.2.2.2.2.1, .int .i64 x4.2.2.2.2.2.1], .slice a1 n1 c1, .int .u64 p2] w3 [.one .sl, .one (.int .i64)] fun (r5 : SlV × Int × Unit) w6 =>
  cond (r5.2.1 != 0)
  (K (r5.2.1, ()) w6)
  (LoopV [.one (.int .i64)] ((0 : Int), ()) w6 fun (z7 : Int × Unit) w8 (K9 : Int × Unit → World → Prop) =>
  cond (decide (z7.1 < 4))
  (LoadS w8 (p0.add 7) (.int .i64) fun (x10 : Int) =>
  Rng .i64 (x10 + 1) ∧
  Rng .i64 ((x10 + 1) + z7.1) ∧
  4 ≠ (0 : Int) ∧
  LoadS w8 (p0.add 7) (.int .i64) fun (x11 : Int) =>
  cond ((Int.tmod ((x10 + 1) + z7.1) 4) == x11)
  (Rng .i64 (z7.1 + 1) ∧
  K9 (z7.1 + 1, ()) w8)
  ((0 ≤ (Int.tmod ((x10 + 1) + z7.1) 4) ∧ (Int.tmod ((x10 + 1) + z7.1) 4) < (4 : Int)) ∧
  LoadS w8 ((p0.add 13 : Addr).add ((Int.tmod ((x10 + 1) + z7.1) 4).toNat * 1)) .bool fun (x12 : Bool) =>
  cond x12
  (Rng .i64 (z7.1 + 1) ∧
  K9 (z7.1 + 1, ()) w8)
  (CallV Tryz.prog 72 #[.pointer (some p0), .int .i64 (Int.tmod ((x10 + 1) + z7.1) 4), .slice r5.1.a r5.1.n r5.1.c] w8 [.one (.int .i64)] fun (r13 : Int × Unit) w14 =>
  cond (r13.1 == 0)
  (StoreV w14 (p0.add 7) [.int .i64 (Int.tmod ((x10 + 1) + z7.1) 4)] fun w15 =>
  StoreV w15 (p0.add 8) [.int .u64 p2] fun w16 =>
  CallV Tryz.prog 73 #[.pointer (some p0)] w16 [.one (.int .i64)] fun (r17 : Int × Unit) w18 =>
  K (r17.1, ()) w18)
  (cond (r13.1 == 4)
  (K (r13.1, ()) w14)
  (Rng .i64 (z7.1 + 1) ∧
  K9 (z7.1 + 1, ()) w14)))))
  (K ((15 : Int), ()) w8)))
theorem keybox_Box_Commit.vc (p0 : Addr) (a1 : Option Addr) (n1 c1 : Nat) (p2 : Int) (w : World) (K : Int × Unit → World → Prop) (h : keybox_Box_Commit.P p0 a1 n1 c1 p2 w K) : CallV Tryz.prog 28 #[.pointer (some p0), .slice a1 n1 c1, .int .u64 p2] w [.one (.int .i64)] K := by
  refine vcFun.of (A := keybox_Box_Commit.A) (wr := false) okf_ok follows h Tryz.func28 ?_
  kernel_rfl
def keybox_Box_Current.A : Ann := .no
def keybox_Box_Current.P (p0 : Addr) (w : World) (K : Int × Unit → World → Prop) : Prop :=
  LoadS w (p0.add 7) (.int .i64) fun (x1 : Int) =>
  K (x1, ()) w
theorem keybox_Box_Current.vc (p0 : Addr) (w : World) (K : Int × Unit → World → Prop) (h : keybox_Box_Current.P p0 w K) : CallV Tryz.prog 53 #[.pointer (some p0)] w [.one (.int .i64)] K := by
  refine vcFun.of (A := keybox_Box_Current.A) (wr := false) okf_ok follows h Tryz.func53 ?_
  kernel_rfl
def keybox_Box_Gen.A : Ann := .no
def keybox_Box_Gen.P (p0 : Addr) (w : World) (K : Int × Unit → World → Prop) : Prop :=
  LoadS w (p0.add 8) (.int .u64) fun (x1 : Int) =>
  K (x1, ()) w
theorem keybox_Box_Gen.vc (p0 : Addr) (w : World) (K : Int × Unit → World → Prop) (h : keybox_Box_Gen.P p0 w K) : CallV Tryz.prog 54 #[.pointer (some p0)] w [.one (.int .u64)] K := by
  refine vcFun.of (A := keybox_Box_Gen.A) (wr := false) okf_ok follows h Tryz.func54 ?_
  kernel_rfl
def keybox_Box_Leaks.A : Ann := .no
def keybox_Box_Leaks.P (p0 : Addr) (w : World) (K : Bool × Unit → World → Prop) : Prop :=
  LoadA w (p0.add 17) [.bool, .bool, .bool, .bool] fun (x1 : Bool × Bool × Bool × Bool × Unit) =>
  AggEq Tryz.prog 75 #[.bool x1.1, .bool x1.2.1, .bool x1.2.2.1, .bool x1.2.2.2.1] #[.bool false, .bool false, .bool false, .bool false] fun e2 =>
  K (!e2, ()) w
theorem keybox_Box_Leaks.vc (p0 : Addr) (w : World) (K : Bool × Unit → World → Prop) (h : keybox_Box_Leaks.P p0 w K) : CallV Tryz.prog 67 #[.pointer (some p0)] w [.one .bool] K := by
  refine vcFun.of (A := keybox_Box_Leaks.A) (wr := false) okf_ok follows h Tryz.func67 ?_
  kernel_rfl
def keybox_Box_Bad.A : Ann := .no
def keybox_Box_Bad.P (p0 : Addr) (p1 : Int) (w : World) (K : Bool × Unit → World → Prop) : Prop :=
  cond (decide (p1 ≥ 0))
  (cond (decide (p1 < 4))
  ((0 ≤ p1 ∧ p1 < (4 : Int)) ∧
  LoadS w ((p0.add 13 : Addr).add (p1.toNat * 1)) .bool fun (x1 : Bool) =>
  K (x1, ()) w)
  (K (false, ()) w))
  (K (false, ()) w)
theorem keybox_Box_Bad.vc (p0 : Addr) (p1 : Int) (w : World) (K : Bool × Unit → World → Prop) (h : keybox_Box_Bad.P p0 p1 w K) : CallV Tryz.prog 66 #[.pointer (some p0), .int .i64 p1] w [.one .bool] K := by
  refine vcFun.of (A := keybox_Box_Bad.A) (wr := false) okf_ok follows h Tryz.func66 ?_
  kernel_rfl
end Go.Proofs.YtlpeoaphdmfjdaaGreat.Vc
/-! The order of the parts. -/
namespace Go.Eng
open Go
def frontL : List Asr → List Nat → Option (List Asr)
  | Rs, [] => some Rs
  | Rs, i :: is => match Rs[i]? with | none => none | some R => (frontL (Rs.eraseIdx i) is).map (R :: ·)
theorem frontL_perm : ∀ {is : List Nat} {Rs Ts : List Asr}, frontL Rs is = some Ts → Rs.Perm Ts
  | [], Rs, Ts, h => by simp [frontL] at h; subst h; exact List.Perm.refl _
  | i :: is, Rs, Ts, h => by
    simp only [frontL] at h
    split at h
    · cases h
    · rename_i R hR
      obtain ⟨Vs, hV, rfl⟩ := Option.map_eq_some_iff.1 h
      exact (perm_front hR).trans ((frontL_perm hV).cons R)
section
variable {E : Nat → Prop} {w0 w : World} {A B C D F : Asr} {Rs Ts : List Asr}
theorem Sep.fro (S : Sep E w0 w Rs) (is : List Nat) (h : frontL Rs is = some Ts) : Sep E w0 w Ts := S.perm (frontL_perm h)
theorem Sep.up1 (S : Sep E w0 w (A :: B :: Rs)) : Sep E w0 w (B :: A :: Rs) := S.perm (.swap ..)
end
end Go.Eng
/-! The contracts of keybox (layer 20). -/
namespace Go.Proofs.YtlpeoaphdmfjdaaGreat.Vc
open Go Go.Eng Go.RowKit
abbrev blv (l : List Bool) : List Value := l.map Value.bool
abbrev kPre (p : Nat) (g : Geo) (B : KB) : List Value := [.pointer (some ⟨p, 0, none⟩), .int .i64 g.b, .int .i64 g.p, .int .i64 g.s, .int .i64 g.sp, .int .i64 g.wr, .int .i64 g.ro, .int .i64 B.cu, .int .u64 B.ge]
abbrev kbV (p : Nat) (g : Geo) (B : KB) : List Value := kPre p g B ++ (blv B.cl ++ (blv B.bd ++ blv B.lk))
abbrev boxK (kb p : Nat) (g : Geo) (B : KB) : Asr := BoxA kb 125 (kbV p g B)
abbrev kbS (kb p : Nat) (g : Geo) (B : KB) (Rs : List Asr) : List Asr := boxK kb p g B :: chipE p B.C :: Rs
theorem blv_set (l : List Bool) (i : Nat) (v : Bool) : (blv l).take i ++ ([Value.bool v] ++ (blv l).drop (i + 1)) = if i < l.length then blv (l.set i v) else (blv l).take i ++ ([Value.bool v] ++ (blv l).drop (i + 1)) := by
  split
  · rename_i h
    unfold blv
    rw [List.map_set, List.set_eq_take_append_cons_drop, if_pos (by simpa using h)]
    rfl
  · rfl
section
variable {E : Nat → Prop} {w0 w : World} {Rs : List Asr} {kb p : Nat} {g : Geo} {B : KB} {k : Int}
theorem kb_set {pre post : List Value} {l : List Bool} {v : Bool} {o : Nat} {b : Nat} {e : TypeId} (S : Sep E w0 w (BoxA b e (pre ++ (blv l ++ post)) :: Rs)) (ho : o = pre.length) (hl : l.length = 4) (hk : 0 ≤ k ∧ k < 4) {K : World → Prop}
    (hK : ∀ w', Sep E w0 w' (BoxA b e (pre ++ (blv (l.set k.toNat v) ++ post)) :: Rs) → Fr (fun i => i = b) w w' → K w') : StoreV w ((⟨b, o, none⟩ : Addr).add (k.toNat * 1)) [.bool v] K := by
  rw [Nat.mul_one]
  refine S.stM 0 k.toNat rfl ho (by rw [List.length_map]; show _ + 1 ≤ _; omega) fun w' S f => hK w' ?_ f
  have := blv_set l k.toNat v
  rw [if_pos (by omega)] at this
  rw [← this]
  exact S
theorem kb_get {pre post : List Value} {l : List Bool} {o : Nat} {b : Nat} {e : TypeId} (S : Sep E w0 w (BoxA b e (pre ++ (blv l ++ post)) :: Rs)) (ho : o = pre.length) (hl : l.length = 4) (hk : 0 ≤ k ∧ k < 4) {K : Bool → Prop} (hK : K (l.getD k.toNat false)) : LoadS w ((⟨b, o, none⟩ : Addr).add (k.toNat * 1)) .bool K := by
  rw [Nat.mul_one]
  refine S.ldM 0 k.toNat rfl ho (v := .bool (l.getD k.toNat false)) ?_ (h := .bool) rfl hK
  have hi : k.toNat < l.length := by omega
  rw [List.getElem?_map, some_getD (d := false) hi]
  rfl
theorem kb_cl {v : Bool} (S : Sep E w0 w (boxK kb p g B :: Rs)) (hl : B.cl.length = 4) (hk : 0 ≤ k ∧ k < 4) {K : World → Prop} (hK : ∀ w', Sep E w0 w' (boxK kb p g { B with cl := B.cl.set k.toNat v } :: Rs) → Fr (fun i => i = kb) w w' → K w') :
    StoreV w (((⟨kb, 0, none⟩ : Addr).add 9).add (k.toNat * 1)) [.bool v] K := kb_set (pre := kPre p g B) S rfl hl hk hK
theorem kb_bd {v : Bool} (S : Sep E w0 w (boxK kb p g B :: Rs)) (hc : B.cl.length = 4) (hl : B.bd.length = 4) (hk : 0 ≤ k ∧ k < 4) {K : World → Prop} (hK : ∀ w', Sep E w0 w' (boxK kb p g { B with bd := B.bd.set k.toNat v } :: Rs) → Fr (fun i => i = kb) w w' → K w') :
    StoreV w (((⟨kb, 0, none⟩ : Addr).add 13).add (k.toNat * 1)) [.bool v] K := by
  have S : Sep E w0 w (BoxA kb 125 ((kPre p g B ++ blv B.cl) ++ (blv B.bd ++ blv B.lk)) :: Rs) := by rw [List.append_assoc]; exact S
  refine kb_set S (by rw [List.length_append, List.length_map, hc]; rfl) hl hk fun w' S f => hK w' ?_ f
  rw [List.append_assoc] at S
  exact S
theorem kb_lk {v : Bool} (S : Sep E w0 w (boxK kb p g B :: Rs)) (hc : B.cl.length = 4) (hb : B.bd.length = 4) (hl : B.lk.length = 4) (hk : 0 ≤ k ∧ k < 4) {K : World → Prop} (hK : ∀ w', Sep E w0 w' (boxK kb p g { B with lk := B.lk.set k.toNat v } :: Rs) → Fr (fun i => i = kb) w w' → K w') :
    StoreV w (((⟨kb, 0, none⟩ : Addr).add 17).add (k.toNat * 1)) [.bool v] K := by
  have S : Sep E w0 w (BoxA kb 125 ((kPre p g B ++ (blv B.cl ++ blv B.bd)) ++ (blv B.lk ++ [])) :: Rs) := by rw [List.append_nil, List.append_assoc, List.append_assoc]; exact S
  refine kb_set S (by rw [List.length_append, List.length_append, List.length_map, List.length_map, hc, hb]; rfl) hl hk fun w' S f => hK w' ?_ f
  rw [List.append_nil, List.append_assoc, List.append_assoc] at S
  exact S
theorem kb_gc (S : Sep E w0 w (boxK kb p g B :: Rs)) (hl : B.cl.length = 4) (hk : 0 ≤ k ∧ k < 4) {K : Bool → Prop} (hK : K (B.c k)) : LoadS w (((⟨kb, 0, none⟩ : Addr).add 9).add (k.toNat * 1)) .bool K := kb_get (pre := kPre p g B) S rfl hl hk hK
theorem kb_gb (S : Sep E w0 w (boxK kb p g B :: Rs)) (hc : B.cl.length = 4) (hl : B.bd.length = 4) (hk : 0 ≤ k ∧ k < 4) {K : Bool → Prop} (hK : K (B.b k)) : LoadS w (((⟨kb, 0, none⟩ : Addr).add 13).add (k.toNat * 1)) .bool K := by
  have S : Sep E w0 w (BoxA kb 125 ((kPre p g B ++ blv B.cl) ++ (blv B.bd ++ blv B.lk)) :: Rs) := by rw [List.append_assoc]; exact S
  exact kb_get S (by rw [List.length_append, List.length_map, hc]; rfl) hl hk hK
theorem kb_gl (S : Sep E w0 w (boxK kb p g B :: Rs)) (hc : B.cl.length = 4) (hb : B.bd.length = 4) (hl : B.lk.length = 4) (hk : 0 ≤ k ∧ k < 4) {K : Bool → Prop} (hK : K (B.l k)) : LoadS w (((⟨kb, 0, none⟩ : Addr).add 17).add (k.toNat * 1)) .bool K := by
  have S : Sep E w0 w (BoxA kb 125 ((kPre p g B ++ (blv B.cl ++ blv B.bd)) ++ (blv B.lk ++ [])) :: Rs) := by rw [List.append_nil, List.append_assoc, List.append_assoc]; exact S
  exact kb_get S (by rw [List.length_append, List.length_append, List.length_map, List.length_map, hc, hb]; rfl) hl hk hK
theorem destroy20_c (h : KI g B) (ho : B.C.ops + 2 ≤ 1000000) (hk : 0 ≤ k ∧ k < 4) (S : Sep E w0 w (kbS kb p g B Rs)) :
    CallV Tryz.prog 129 #[.pointer (some ⟨kb, 0, none⟩), .int .i64 k] w [.one (.int .i64)] fun r w' => r.1 = (dsK B k).2 ∧ Sep E w0 w' (kbS kb p g (dsK B k).1 Rs) := by
  apply keybox_Box_destroy.vc
  unfold keybox_Box_destroy.P
  obtain ⟨o1, o2, o3⟩ := eraC_ok h.ok k (by omega)
  refine S.ld0 (j := 0) rfl rfl ?_
  refine (Erase_e h.ok S.up1).mono ?_
  rintro ⟨(e : Int), ⟨⟩⟩ w1 ⟨h1, S⟩
  dsimp only at h1 ⊢
  subst h1
  have S := S.up1
  refine cond_eq (fun (h0 : (eraC B.C k).2 = 0) => ?_) (fun (h0 : (eraC B.C k).2 ≠ 0) => ?_)
  · have hd : dsK B k = ({ B with C := (eraC B.C k).1, cl := B.cl.set k.toNat true, lk := B.lk.set k.toNat false }, 0) := by unfold dsK; rw [if_neg (by omega), if_pos h0]
    refine S.regX (fun i => i = kb) fun D hD hkeep S T => ⟨hk, ?_⟩
    refine kb_cl (B := { B with C := (eraC B.C k).1 }) S h.cl hk fun w2 S f2 => ⟨hkeep _ f2, hk, ?_⟩
    refine kb_lk S (by rw [List.length_set]; exact h.cl) h.bd h.lk hk fun w3 S f3 => ⟨hkeep _ (f2.trans f3), ?_⟩
    refine cond_t (by rw [h0]; rfl) ?_
    rw [hd]
    exact ⟨h0, S⟩
  refine cond_ne (fun (h5 : (eraC B.C k).2 ≠ 5) => ?_) (fun (h5 : (eraC B.C k).2 = 5) => ?_)
  · have hd : dsK B k = ({ B with C := (eraC B.C k).1 }, (eraC B.C k).2) := by unfold dsK; rw [if_neg h5, if_neg h0]
    rw [hd]
    exact ⟨rfl, S⟩
  refine S.regX (fun i => i = kb) fun D hD hkeep S T => ⟨hk, ?_⟩
  refine kb_bd (B := { B with C := (eraC B.C k).1 }) S h.cl h.bd hk fun w2 S f2 => ⟨hkeep _ f2, hk, ?_⟩
  refine kb_cl S h.cl hk fun w3 S f3 => ⟨hkeep _ (f2.trans f3), ?_⟩
  refine S.ld0 (j := 0) rfl rfl ?_
  refine (Scrub_e o1 S.up1).mono ?_
  rintro ⟨(e : Int), ⟨⟩⟩ w4 ⟨h4, S⟩
  dsimp only at h4 ⊢
  subst h4
  have S := S.up1
  refine cond_eq (fun (h4 : (scrC (eraC B.C k).1 k).2 = 4) => ?_) (fun (h4 : (scrC (eraC B.C k).1 k).2 ≠ 4) => ?_)
  · have hd : dsK B k = ({ B with C := (scrC (eraC B.C k).1 k).1, bd := B.bd.set k.toNat true, cl := B.cl.set k.toNat false }, 4) := by unfold dsK; rw [if_pos h5, if_pos h4]
    rw [hd]
    exact ⟨h4, S⟩
  · have hd : dsK B k = ({ B with C := (scrC (eraC B.C k).1 k).1, bd := B.bd.set k.toNat true, cl := B.cl.set k.toNat false, lk := B.lk.set k.toNat ((scrC (eraC B.C k).1 k).2 != 0) }, 5) := by unfold dsK; rw [if_pos h5, if_neg h4]
    refine ⟨hk, kb_lk (B := { B with C := (scrC (eraC B.C k).1 k).1, bd := B.bd.set k.toNat true, cl := B.cl.set k.toNat false }) S (by rw [List.length_set]; exact h.cl) (by rw [List.length_set]; exact h.bd) h.lk hk fun w5 S f5 => ?_⟩
    rw [hd]
    exact ⟨rfl, S⟩
end
end Go.Proofs.YtlpeoaphdmfjdaaGreat.Vc
