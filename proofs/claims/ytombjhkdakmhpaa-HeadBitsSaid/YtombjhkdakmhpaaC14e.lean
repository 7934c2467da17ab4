/- The contract of the document's Read (layer 14). -/
import Derived.Test.YtombjhkdakmhpaaC14d
import Derived.Test.YtombjhkdakmhpaaL14a
import Derived.Test.YtombjhkdakmhpaaV14s
namespace Go.Proofs.Ytombjhkdakmhpaa.Vc
open Go Go.Eng Go.RowKit
set_option linter.unusedVariables false
set_option linter.unusedSimpArgs false

def rRPost (w : World) (xs : List Int) (r : (Int × Int × Int × Int × Int × Int × Unit) × Bool × Unit) (w' : World) : Prop :=
  Ext w w' ∧ (okR xs → r.1 = (hdOf xs).tup ∧ r.2.1 = true) ∧ (¬ okR xs → r.1 = zeroH.tup ∧ r.2.1 = false)

theorem rReadTail {w w21 : World} {xs : List Int} {a0 : Option Addr} {c0 b1 b19 : Nat} (x21 : Ext w w21) (hb1 : Box w21 w.heap.size b1 25 zeroH.vs) (hb19 : Box w21 w.heap.size b19 25 (hdOf xs).vs) (hne : b1 ≠ b19)
    (hx : Ints w .u8 a0 88 c0 xs) (bx : Byt xs) : ref14_Read.T w21 b19 b1 (rRPost w xs) c0 a0 := by
  have hl := hx.len
  have hcap := hx.cap
  have hg := hdOf_rng bx (by omega)
  unfold ref14_Read.T
  refine ldH (h := hdOf xs) hb19 ?_
  refine (HRight_c (h := hdOf xs)).mono ?_
  rintro ⟨(r1 : Bool), ⟨⟩⟩ w1 ⟨h1, x1⟩
  dsimp only at h1 ⊢
  subst h1
  have fail : ∀ {w' : World}, Ext w21 w' → ¬ okR xs → StoreV w' ⟨b1, 0, none⟩ [.int .i64 0, .int .i64 0, .int .i64 0, .int .u32 0, .int .u64 0, .int .u64 0] fun w33 =>
      LoadA w33 ⟨b1, 0, none⟩ [.int .i64, .int .i64, .int .i64, .int .u32, .int .u64, .int .u64] fun (x34 : Int × Int × Int × Int × Int × Int × Unit) =>
      rRPost w xs ((x34.1, x34.2.1, x34.2.2.1, x34.2.2.2.1, x34.2.2.2.2.1, x34.2.2.2.2.2.1, ()), false, ()) w33 := fun e hno => by
    refine (hb1.ext e).store 0 (by simp) fun w3 hb3 bel3 _ _ => ?_
    refine ldH (h := zeroH) hb3 ?_
    exact ⟨Below.trans (x21.trans e) bel3, fun h => absurd h hno, fun _ => ⟨rfl, rfl⟩⟩
  have iff := okR_iff bx hl
  by_cases hR : ¬ HRight (hdOf xs)
  · exact cond_t (by rw [decide_eq_false hR]; rfl) (fail x1 (fun h => hR (iff.1 h).1))
  have hR := Decidable.not_not.1 hR
  refine cond_f (by rw [decide_eq_true hR]; rfl) ?_
  refine DrawV.old w1 fun D hD hkeep => ?_
  have b19' := hb19.ext x1
  have hD1 := hD _ b19'.lt
  have xd := Ext.drew w1
  have X1 := x21.trans x1
  refine ⟨hD1, ldH (h := hdOf xs) (b19'.ext xd) ⟨hD1, ldH (h := hdOf xs) (b19'.ext xd) ⟨by omega, ?_⟩⟩⟩
  intro a30 ha30
  have i30 := sub_part (hx.ext X1) (i := 0) (j := 48) (m := c0) (by omega) (by omega) (by omega) ha30
  refine (rBytes_c (h := hdOf xs) hg hR).mono ?_
  rintro ⟨⟨sa, sn, sc⟩, ⟨⟩⟩ w2 h2
  dsimp only at h2 ⊢
  have x2 := xd.trans h2.ext
  refine ⟨hkeep _ x2, ?_⟩
  refine (rBytes_c (h := hdOf xs) hg hR).mono ?_
  rintro ⟨(s3 : SlV), ⟨⟩⟩ w3 h3
  dsimp only at h3 ⊢
  have x3 := x2.trans h3.ext
  refine ⟨hkeep _ x3, ?_⟩
  have l2 := h2.ints.len
  rw [hdL_length] at l2
  dsimp only at l2
  subst l2
  have l3 := h3.ints.len
  rw [hdL_length] at l3
  refine (rInvert_c h3.ints (by omega)).mono ?_
  rintro ⟨⟨va, vn, vc⟩, ⟨⟩⟩ w4 h4
  dsimp only at h4 ⊢
  have l4 := h4.ints.len
  rw [show (invL (hdL (hdOf xs))).length = 24 by simp [invL, hdL_length]] at l4
  dsimp only at l4
  subst l4
  have x4 := x3.trans h4.ext
  refine ⟨hkeep _ x4, ?_⟩
  have o4 := (h2.own.ext (h3.ext.trans h4.ext)).mono xd.size
  refine appL o4 h4.ints x4.size (by omega) fun a5 c5 w5 o5 b5 => ?_
  have x5 : Ext w1 w5 := Below.trans x4 b5
  refine ⟨hkeep _ x5, ?_⟩
  refine (SameBytes_c o5.ints (i30.ext x5)).mono ?_
  rintro ⟨(r6 : Bool), ⟨⟩⟩ w6 ⟨h6, x6⟩
  dsimp only at h6 ⊢
  have X6 := x5.trans x6
  refine ⟨hkeep _ X6, ?_⟩
  refine cond_of (fun hc => fail (x1.trans X6) (fun hok => by
    rw [h6, decide_eq_true (iff.1 hok).2] at hc
    cases hc)) (fun hc => ?_)
  have hok : okR xs := iff.2 ⟨hR, by
    rw [h6] at hc
    simpa using hc⟩
  refine ldH (h := hdOf xs) (b19'.ext X6) ?_
  refine (hb1.ext (x1.trans X6)).store 0 (by simp) fun w7 hb7 bel7 _ _ => ?_
  refine ldH (h := hdOf xs) hb7 ?_
  exact ⟨Below.trans (X1.trans X6) bel7, fun _ => ⟨rfl, rfl⟩, fun h => absurd hok h⟩

theorem rRead_c {w : World} {a0 : Option Addr} {n0 c0 : Nat} {xs : List Int} (hx : Ints w .u8 a0 n0 c0 xs) (bx : Byt xs) (h88 : n0 = 88) :
    CallV Try.prog 38 #[.slice a0 n0 c0] w [.agg [.int .i64, .int .i64, .int .i64, .int .u32, .int .u64, .int .u64], .one .bool] fun r w' => rRPost w xs r w' := by
  subst h88
  refine ref14_Read.vc _ _ _ _ _ ?_
  unfold ref14_Read.P
  have lx := hx.len
  have hcap := hx.cap
  refine newH (h := zeroH) fun b1 w2 e2 hb1 => ?_
  refine DrawV.old w2 fun D hD hkeep => ?_
  have b0 := bx.getD 0
  have b1' := bx.getD 1
  have b2 := bx.getD 2
  have x2 := Ext.drew w2
  have y2 := e2.trans x2
  refine (hx.ext e2).idxD x2 (i := 0) (by omega) (by omega) hD ?_
  refine (hx.ext e2).idxD x2 (i := 1) (by omega) (by omega) hD ?_
  refine (hx.ext e2).idxD x2 (i := 2) (by omega) (by omega) hD ?_
  rw [show (0 : Int).toNat = 0 from rfl, show (1 : Int).toNat = 1 from rfl, show (2 : Int).toNat = 2 from rfl]
  rw [i64_id (by omega : -9223372036854775808 ≤ xs.getD 0 0) (by omega), i64_id (by omega : -9223372036854775808 ≤ xs.getD 1 0) (by omega), i64_id (by omega : -9223372036854775808 ≤ xs.getD 2 0) (by omega)]
  refine ⟨by omega, ?_⟩
  intro a10 ha10
  refine ⟨by omega, ?_⟩
  intro a11 ha11
  refine ⟨by omega, ?_⟩
  intro a12 ha12
  have h10 := sub_part hx (i := 4) (j := 8) (m := c0) (by omega) (by omega) (by omega) ha10
  have h11 := sub_part hx (i := 8) (j := 16) (m := c0) (by omega) (by omega) (by omega) ha11
  have h12 := sub_part hx (i := 16) (j := 24) (m := c0) (by omega) (by omega) (by omega) ha12
  generalize hW : w2.drew = W at *
  have nbl := numB_bd (part_byt bx 4 8) (part_length (by omega) (by omega)) (by omega)
  have hu : IntKind.u32.wrap (numB (part xs 4 8)) = numB (part xs 4 8) := by rw [u32_wrap]; exact Int.emod_eq_of_lt nbl.1 (by have := nbl.2; simpa using this)
  have keepW : ∀ {w' : World}, Ext W w' → KeepOn D W w' := fun e => hkeep _ (x2.trans e)
  have hb1W := hb1.ext x2
  have done : ∀ {w25 : World} {b24 : Nat}, Ext W w25 → Box w25 W.heap.size b24 25 zeroH.vs → StoreV w25 ⟨b24, 0, none⟩ (hdOf xs).vs fun w26 => KeepOn D W w26 ∧ ref14_Read.T w26 b24 b1 (rRPost w xs) c0 a0 := fun {w25 b24} e25 hb24 => by
    refine hb24.store 0 (by simp) fun w26 hb26 bel26 _ _ => ?_
    have X26 : Ext W w26 := Below.trans e25 bel26
    refine ⟨keepW X26, ?_⟩
    refine rReadTail (y2.trans X26) (hb1W.ext X26) ⟨Nat.le_trans y2.size hb26.base, hb26.heap⟩ (fun h => ?_) hx bx
    have := hb1W.lt
    have := hb24.base
    omega
  have N10 : ∀ {w' : World}, Ext W w' → CallV Try.prog 52 #[.slice a10 (8 - 4) (c0 - 4)] w' [.one (.int .u64)] fun r w2 => r.1 = numB (part xs 4 8) ∧ Ext w' w2 := fun e => rNum_c (h10.ext (y2.trans e)) (part_byt bx 4 8) (by omega)
  have N11 : ∀ {w' : World}, Ext W w' → CallV Try.prog 52 #[.slice a11 (16 - 8) (c0 - 8)] w' [.one (.int .u64)] fun r w2 => r.1 = numB (part xs 8 16) ∧ Ext w' w2 := fun e => rNum_c (h11.ext (y2.trans e)) (part_byt bx 8 16) (by omega)
  have N12 : ∀ {w' : World}, Ext W w' → CallV Try.prog 52 #[.slice a12 (24 - 16) (c0 - 16)] w' [.one (.int .u64)] fun r w2 => r.1 = numB (part xs 16 24) ∧ Ext w' w2 := fun e => rNum_c (h12.ext (y2.trans e)) (part_byt bx 16 24) (by omega)
  have newZ : ∀ {w' : World} {K : Nat → World → Prop}, Ext W w' → (∀ b w1, Ext w' w1 → Ext W w1 → Box w1 W.heap.size b 25 zeroH.vs → K b w1) → NewV #[.int .i64 0, .int .i64 0, .int .i64 0, .int .u32 0, .int .u64 0, .int .u64 0] 25 w' K := fun e hk => newH (h := zeroH) fun b w1 e1 hb => hk b w1 e1 (e.trans e1) ⟨Nat.le_trans e.size hb.base, hb.heap⟩
  refine ⟨?_, ?_⟩
  · refine (N10 (Ext.refl _)).mono ?_
    rintro ⟨(r1 : Int), ⟨⟩⟩ w3 ⟨q1, e3⟩
    dsimp only at q1 ⊢
    subst q1
    rw [hu]
    refine ⟨keepW e3, ?_, ?_⟩
    · refine (N11 e3).mono ?_
      rintro ⟨(r2 : Int), ⟨⟩⟩ w4 ⟨q2, e4⟩
      dsimp only at q2 ⊢
      subst q2
      have X4 := e3.trans e4
      refine ⟨keepW X4, ?_, ?_⟩
      · refine (N12 X4).mono ?_
        rintro ⟨(r3 : Int), ⟨⟩⟩ w5 ⟨q3, e5⟩
        dsimp only at q3 ⊢
        subst q3
        exact ⟨keepW (X4.trans e5), newZ (X4.trans e5) fun b24 w25 _ e25 hb24 => ⟨keepW e25, done e25 hb24⟩⟩
      · refine newZ X4 fun b24 w25 _ e25 hb24 => ⟨keepW e25, ?_⟩
        refine (N12 e25).mono ?_
        rintro ⟨(r3 : Int), ⟨⟩⟩ w5 ⟨q3, e5⟩
        dsimp only at q3 ⊢
        subst q3
        exact ⟨keepW (e25.trans e5), done (e25.trans e5) (hb24.ext e5)⟩
    · refine newZ e3 fun b24 w25 _ e25 hb24 => ⟨keepW e25, ?_⟩
      refine (N11 e25).mono ?_
      rintro ⟨(r2 : Int), ⟨⟩⟩ w4 ⟨q2, e4⟩
      dsimp only at q2 ⊢
      subst q2
      have X4 := e25.trans e4
      refine ⟨keepW X4, ?_⟩
      refine (N12 X4).mono ?_
      rintro ⟨(r3 : Int), ⟨⟩⟩ w5 ⟨q3, e5⟩
      dsimp only at q3 ⊢
      subst q3
      exact ⟨keepW (X4.trans e5), done (X4.trans e5) (hb24.ext (e4.trans e5))⟩
  · refine newZ (Ext.refl _) fun b24 w25 _ e25 hb24 => ⟨keepW e25, ?_⟩
    refine (N10 e25).mono ?_
    rintro ⟨(r1 : Int), ⟨⟩⟩ w3 ⟨q1, e3⟩
    dsimp only at q1 ⊢
    subst q1
    rw [hu]
    have X3 := e25.trans e3
    refine ⟨keepW X3, ?_⟩
    refine (N11 X3).mono ?_
    rintro ⟨(r2 : Int), ⟨⟩⟩ w4 ⟨q2, e4⟩
    dsimp only at q2 ⊢
    subst q2
    have X4 := X3.trans e4
    refine ⟨keepW X4, ?_⟩
    refine (N12 X4).mono ?_
    rintro ⟨(r3 : Int), ⟨⟩⟩ w5 ⟨q3, e5⟩
    dsimp only at q3 ⊢
    subst q3
    exact ⟨keepW (X4.trans e5), done (X4.trans e5) (hb24.ext (e3.trans (e4.trans e5)))⟩

end Go.Proofs.Ytombjhkdakmhpaa.Vc
