/- Texts in one: The contracts of layer 13: the document's array, a block erased, or scrubbed. The contracts of layer 13: the document's array, a block scrubbed. The contracts of layer 13: the document's array, a page programmed. The contracts of layer 13: the document's array, a byte changed. The contracts of layer 13: one step, done by both. The contracts of layer 13: one step, done by both: the walk. The contracts of layer 13: does the program answer; the trace. The plans of functions as plain statements, printed by wip/tools/vcgen.py; the kernel holds each to the code. What any parameter of a law is known to be, with the sizes of what it holds: structs, arrays and slices of whole numbers, texts, and of each other. The law NandReads of layer 13: each call gives true, and what it read stays. -/
import Derived.Test.YtfpkaebmiojicaaZNandReadsf

/-! The contracts of layer 13: the document's array, a block erased, or scrubbed. -/
namespace Go.Proofs.Ytfpkaebmiojicaa.Vc
open Go Go.Eng Go.RowKit
set_option linter.unusedVariables false
set_option linter.unusedSimpArgs false

/-- A part, and what boxes it does not lie in. -/
theorem _root_.Go.Eng.Sep.off {E : Nat → Prop} {w0 w : World} {Rs : List Asr} (S : Sep E w0 w Rs) (i : Nat) {R : Asr} (hi : Rs[i]? = some R) :
    ∃ F, R.p w F ∧ (∀ k, F k → (E k ∨ w0.heap.size ≤ k) ∧ k < w.heap.size) ∧ ∀ (j b : Nat) (e : TypeId) (vs : List Value), j ≠ i → Rs[j]? = some (BoxA b e vs) → ¬ F b := by
  obtain ⟨F, h, hF⟩ := S.ex
  obtain ⟨F1, F2, h1, h2, h3, h4, h5⟩ := StarP.perm (perm_front hi) h
  refine ⟨F1, h1, fun k hk => hF k (h4 k hk), fun j b e vs hj hjb hb => ?_⟩
  have : (Rs.eraseIdx i)[if j < i then j else j - 1]? = some (BoxA b e vs) := by
    split
    · rw [List.getElem?_eraseIdx_of_lt (by omega)]; exact hjb
    · rw [List.getElem?_eraseIdx_of_ge (by omega), show j - 1 + 1 = j by omega]; exact hjb
  obtain ⟨G, g1, g2⟩ := StarP.get this h2
  exact h3 b hb (g2 b g1.1)
theorem rd_keep {t : Ty} {w w' : World} {G X H : Nat → Prop} {x : t.T} (h : t.rd w G x) (f : Fr X w w') (hG : ∀ k, G k → H k) (hd : ∀ k, G k → k < w.heap.size → ¬ X k) : t.rd w' H x :=
  t.rd_mono (fun k hk _ => hG k hk) (t.rd_kp (fun k hk hl => f.block k hl (hd k hk hl)) h)

section
variable {H : Nat → Prop} {w : World} {B : SlP TBd.T} {f : SlP TF.T} {C : CD}
abbrev SH10 : List SS := [.int .i64, .int .i64, .int .i64, .int .i64, .int .i64, .int .i64, .sl, .sl, .bool, .int .i64]
theorem rErase13_c {n : Int} (hH : ∀ k, w.heap.size ≤ k → H k) (h : RefR H w B f C) (hC : COk C) (ho : C.ops < 1000000) :
    CallV Try.prog 79 #[chVal B f C, .int .i64 n] w [.agg SH10, .one (.int .i64)] fun r w' => ∃ B' : SlP TBd.T, r.1 = chT B' f (eraC C n).1 ∧ r.2.1 = (eraC C n).2 ∧ RefR H w' B' f (eraC C n).1 ∧ Ext w w' := by
  apply ref13_Erase.vc
  unfold ref13_Erase.P
  obtain ⟨⟨n1, n2⟩, ⟨n3, n4⟩, ⟨n5, n6⟩, n7, n8⟩ := hC.num
  have hBn := h.len
  rw [hC.bl] at hBn
  have S := Sep.start NoB w
  refine S.newB fun b1 w1 S f1 _ => ?_
  refine S.newB fun b3 w3 S f3 _ => ?_
  have no : ∀ {w' : World} {e : Int}, mayC C n = e → e ≠ 0 → Sep NoB w w' [BoxA b3 88 [.int .i64 0, .int .i64 0, .int .i64 0, .int .i64 0, .int .i64 0, .int .i64 0, .slice none 0 0, .slice none 0 0, .bool false, .int .i64 0], BoxA b1 88 (chV B f C)] →
      LoadA w' ⟨b1, 0, none⟩ SH10 fun x => StoreV w' ⟨b3, 0, none⟩ [.int .i64 x.1, .int .i64 x.2.1, .int .i64 x.2.2.1, .int .i64 x.2.2.2.1, .int .i64 x.2.2.2.2.1, .int .i64 x.2.2.2.2.2.1, .slice x.2.2.2.2.2.2.1.a x.2.2.2.2.2.2.1.n x.2.2.2.2.2.2.1.c, .slice x.2.2.2.2.2.2.2.1.a x.2.2.2.2.2.2.2.1.n x.2.2.2.2.2.2.2.1.c, .bool x.2.2.2.2.2.2.2.2.1, .int .i64 x.2.2.2.2.2.2.2.2.2.1] fun w9 =>
        LoadA w9 ⟨b3, 0, none⟩ SH10 fun x => ∃ B' : SlP TBd.T, (x.1, x.2.1, x.2.2.1, x.2.2.2.1, x.2.2.2.2.1, x.2.2.2.2.2.1, x.2.2.2.2.2.2.1, x.2.2.2.2.2.2.2.1, x.2.2.2.2.2.2.2.2.1, x.2.2.2.2.2.2.2.2.2.1, ()) = chT B' f (eraC C n).1 ∧ e = (eraC C n).2 ∧ RefR H w9 B' f (eraC C n).1 ∧ Ext w w9 := fun he h0 S => by
    refine S.la1 rfl (S.st0 (by rfl) fun w9 S f9 => S.la0 rfl ?_)
    have X := S.ext
    unfold eraC
    rw [if_neg (by rw [he]; exact h0)]
    exact ⟨B, rfl, he.symm, h.ext X, X⟩
  refine S.ld1 (j := 8) rfl rfl (cond_of (fun hoff => no (e := 4) (by unfold mayC; rw [if_pos hoff]) (by decide) S) fun hoff => ?_)
  have hoff' : ¬ C.off = true := by rw [hoff]; decide
  refine cond_d (fun hn => no (e := 2) (by unfold mayC; rw [if_neg hoff', if_pos (by omega)]) (by decide) S) fun hn0 => ?_
  refine S.ld1 (j := 6) rfl rfl (cond_d (fun hn => no (e := 2) (by unfold mayC; rw [if_neg hoff', if_pos (by dsimp only at hn; omega)]) (by decide) S) fun hn1 => ?_)
  dsimp only at hn1
  have hn : 0 ≤ n ∧ n < C.g.b := by omega
  have hmay : mayC C n = 0 := by unfold mayC; rw [if_neg hoff', if_neg (fun k => k hn)]
  refine S.la1 rfl ?_
  refine (code_c (h.ext S.ext) hC).mono ?_
  rintro ⟨(e : Int), ⟨ma, mn, mc⟩, (cr : Bool), ⟨⟩⟩ w4 ⟨h4, h4', i4, x4⟩
  dsimp only at h4 h4' i4 ⊢
  subst h4; subst h4'
  have S := S.stepE x4
  refine S.ld1 (j := 6) rfl rfl ?_
  obtain ⟨q, x, hq, hc, hr, hx, hbd, -⟩ := (h.ext S.ext).nth (i := n) hn.1 (by omega)
  have hb := (hC.blk hn).2
  have her := hb.er
  refine ⟨⟨hn.1, by dsimp only; omega⟩, q, hq, bdT x, hc, ?_⟩
  refine S.newB fun b22 w5 S f5 _ => ?_
  refine S.st0 (by rfl) fun w6 S f6 => ?_
  have eer : (blkC C n).er = x.2.2.2.2.1 := by rw [← hbd]; rfl
  have hG : ∀ b, w.heap.size ≤ b → ∀ k, k < w.heap.size → k ≠ b := fun b hb k hk => by omega
  refine cond_eq (fun hc0 => ?_) (fun hc0 => ?_)
  · have hc0 : (codeC C).1 = 0 := hc0
    have hcr := (code_off C).1 hc0
    refine S.lb2 (o := 0) rfl ?_
    refine (blank_c (g := C.g) hC.g).mono ?_
    rintro ⟨_, ⟨⟩⟩ w7 ⟨y, hy, T7, hby⟩
    dsimp only at hy
    subst hy
    have S := S.frame0 T7
    dsimp only [List.cons_append, List.nil_append] at S
    refine S.newB fun b28 w8 S f8 _ => ?_
    refine S.st0 (by rfl) fun w9 S f9 => ?_
    refine S.ld2 (j := 4) rfl rfl ⟨Rng.i64 (by omega) (by omega), ?_⟩
    refine S.su0 (j := 4) (by rfl) fun w10 S f10 => ?_
    refine S.la4 rfl (S.la0 rfl ?_)
    dsimp only
    have X10 := S.ext
    have hb3' := S.bl3
    have rer : Rng .i64 (x.2.2.2.2.1 + 1) := Rng.i64 (by omega) (by omega)
    have hgen := S.off 1 rfl
    obtain ⟨Fy, hyr, hyF, hyo⟩ := hgen
    have hG1 : ∀ k, ((k < w.heap.size ∧ H k) ∨ Fy k) → k ≠ b3 := fun k hk => by
      rcases hk with hk | hk
      · have := (S.get (i := 3) rfl)
        obtain ⟨F3, h3, h3'⟩ := this
        intro e
        have := (h3' b3 h3.1).1
        rcases this with t | t
        · exact t
        · omega
      · intro e
        subst e
        exact hyo 3 _ _ _ (by decide) rfl hk
    have hx' : TBd.rd w10 (fun k => (k < w.heap.size ∧ H k) ∨ Fy k) (y.1, y.2.1, y.2.2.1, y.2.2.2.1, x.2.2.2.2.1 + 1, ()) := by
      have hy := TBd.rd_mono (G' := fun k => (k < w.heap.size ∧ H k) ∨ Fy k) (fun k hk _ => .inr hk) hyr
      exact ⟨hy.1, hy.2.1, hy.2.2.1, hy.2.2.2.1, rer, trivial⟩
    have hB' : (Ty.sl TBd).rd w10 (fun k => (k < w.heap.size ∧ H k) ∨ Fy k) B := Ty.rd_ext X10 _ ((Ty.sl TBd).rd_mono (fun k hk1 hk => .inl ⟨hk, hk1⟩) h.rb)
    refine (with_c (f := f) (C := C) (n := n) (x := (y.1, y.2.1, y.2.2.1, y.2.2.2.1, x.2.2.2.2.1 + 1, ())) hB' (by omega) (by omega) hx' (by omega)).mono ?_
    rintro ⟨_, ⟨⟩⟩ w11 ⟨B', hr', hrd', hl', x11⟩
    dsimp only at hr'
    subst hr'
    have S := S.stepE x11
    refine S.st3 (by rfl) fun w12 S f12 => S.la3 rfl ?_
    have X := S.ext
    have hC' : (eraC C n).1 = { C with bs := B'.l.map bdOf, ops := C.ops + 1 } := by
      unfold eraC
      rw [if_pos hmay]
      unfold eraX
      rw [if_pos hc0, hl', List.map_set, h.db, hcr.1, ← eer, ← hby]
      have : C.off = false := hoff
      rw [← this]
      rfl
    refine ⟨B', ?_, ?_, ⟨?_, ?_, Ty.rd_ext X _ h.rf, ?_⟩, X⟩
    · rw [hC']
    · unfold eraC; rw [if_pos hmay]
    · exact rd_keep hrd' f12 (fun k hk => by
        rcases hk with (hk | hk) | hk
        · exact hk.2
        · exact hH k ((hyF k hk).1.resolve_left fun x => x)
        · exact hH k (by have := X10.size; omega)) fun k hk hlt => by
        rcases hk with hk | hk
        · exact hG1 k hk
        · omega
    · rw [hC']
    · rw [hC']; exact h.df
  · have hc0 : ¬ (codeC C).1 = 0 := hc0
    have hne := S.ne 0 2 (by decide) rfl rfl
    have hN22 := S.bl0
    have hN3 := S.bl1
    have hN1 := S.bl2
    have hmem : x ∈ B.l := List.mem_of_getElem? hx
    have hrx : TBd.rd w (fun k => k < w.heap.size ∧ H k) x := TBd.rd_mono (fun k hk1 hk => ⟨hk, hk1⟩) (h.rb.2.2.2.2 x hmem)
    have hge : ∀ (i : Nat) (b : Nat) (e : TypeId) (vs : List Value), [BoxA b22 98 (bdV x), BoxA b3 88 [.int .i64 0, .int .i64 0, .int .i64 0, .int .i64 0, .int .i64 0, .int .i64 0, .slice none 0 0, .slice none 0 0, .bool false, .int .i64 0], BoxA b1 88 (chV B f C)][i]? = some (BoxA b e vs) → w.heap.size ≤ b := fun i b e vs hi => by
      obtain ⟨F3, h3, h3'⟩ := S.get hi
      exact (h3' b h3.1).1.resolve_left fun x => x
    have g22 := hge 0 _ _ _ rfl
    have g3 := hge 1 _ _ _ rfl
    have g1 := hge 2 _ _ _ rfl
    have X6 := S.ext
    refine S.regX (fun k => k = b22) fun D hD hkeep S T => ?_
    refine ⟨hD _ S.bl2 (fun e => hne e.symm), S.ld2 (j := 1) rfl rfl (S.la0 rfl ⟨hkeep _ (Fr.refl _ _), ?_⟩)⟩
    have hbx := hb
    rw [← hbd] at hbx
    have hallx : ((x.1.l.map (·.l)).flatten) = allC C n := by show (bdOf x).pg.flatten = _; rw [hbd]
    have hrx6 : TBd.rd w6.drew All x := TBd.rd_mono (fun _ _ _ => trivial) (Ty.rd_ext (X6.trans (Ext.drew _)) _ hrx)
    refine (joined_c (g := C.g) (m := 0) (z := szP C.g) hrx6 (by rw [bd_len hbx]; omega) (by omega) (bd_page_len hbx)).mono ?_
    rintro ⟨⟨ja, jn, jc⟩, ⟨⟩⟩ w7 h7
    rw [hallx] at h7
    have hall := hb.all
    have hjl := h7.ints.len
    rw [show (allC C n).length = bszC C from hall.1] at hjl
    have m2 : bszC C ≤ 20 * 216 := Nat.mul_le_mul (by omega) (by omega)
    dsimp only at hjl h7 ⊢
    refine ⟨hkeep _ (Fr.of h7.ext).any, ?_⟩
    have X47 : Ext w4 w7 := (Fr.ext (f5.trans' f6 fun k hk => .inr (by omega))).trans ((Ext.drew _).trans h7.ext)
    have hbm : Byt (codeC C).2.1 := by
      unfold codeC
      cases hat : atF C.pl (C.ops : Int) with
      | none => exact Byt.nil
      | some F => exact atF_byt hC hat
    refine (Erase_c h7.ints hall.2 (i4.ext X47) hbm (by dsimp only; omega)).mono ?_
    rintro ⟨⟨ea, en, ec⟩, ⟨⟩⟩ w8 h8
    have hel : turn (allC C n) (erF (allC C n) (codeC C).2.1) (8 * jn) = eraL (allC C n) (codeC C).2.1 := by unfold eraL; rw [show (allC C n).length = jn from by rw [← hjl]; exact hall.1]
    dsimp only at h8 ⊢
    rw [hel] at h8
    have hen := h8.ints.len
    have heL : (eraL (allC C n) (codeC C).2.1).length = bszC C := by unfold eraL; rw [turn_len]; exact hall.1
    rw [heL] at hen
    dsimp only at hen
    have x78 : Ext w6.drew w8 := h7.ext.trans h8.ext
    refine ⟨hkeep _ (Fr.of x78).any, ?_⟩
    have hbe : Byt (eraL (allC C n) (codeC C).2.1) := turn_byt hall.2 _ _
    have hcut := cut13_c (P := C.g.p.toNat) (res_rd h8 hbe) ⟨by omega, by omega⟩ (by dsimp only; omega)
    rw [show ((C.g.p.toNat : Nat) : Int) = C.g.p from by omega] at hcut
    refine hcut.mono ?_
    rintro ⟨⟨ca, cn, cc⟩, ⟨⟩⟩ w9 ⟨Lp, hLr, hLp, x9⟩
    dsimp only at hLr ⊢
    have x69 := x78.trans x9
    refine ⟨hkeep _ (Fr.of x69).any, ?_⟩
    have S := S.stepE x69
    refine S.su0 (j := 0) (by rfl) fun w10 S f10 => ⟨hkeep _ ((Fr.of x69).any.trans f10), ?_⟩
    have rer : Rng .i64 (x.2.2.2.2.1 + 1) := Rng.i64 (by omega) (by omega)
    refine S.ld0 (j := 4) rfl rfl ⟨rer, ?_⟩
    refine S.su0 (j := 4) (by rfl) fun w11 S f11 => ?_
    refine S.la2 rfl (S.la0 rfl ?_)
    dsimp only
    have X11 := S.ext
    have s78 : w6.heap.size ≤ w7.heap.size := h7.ext.size
    have s88 : w7.heap.size ≤ w8.heap.size := h8.ext.size
    have hx' : TBd.rd w11 (fun k => (k < w.heap.size ∧ H k) ∨ w6.heap.size ≤ k) (⟨ca, cn, cc, Lp⟩, x.2.1, x.2.2.1, x.2.2.2.1, x.2.2.2.2.1 + 1, ()) := by
      have h1 := Ty.rd_ext X11 _ hrx
      refine ⟨?_, TI.rd_mono (fun k hk _ => .inl hk) h1.2.1, h1.2.2.1, h1.2.2.2.1, rer, trivial⟩
      have g : Fr (fun k => k = b22) w9 w11 := f10.trans f11
      have h2 := TBB.rd_kp (w' := w11) (fun k hk hl => g.block k hl (by rcases hk with hk | hk <;> omega)) hLr
      exact TBB.rd_mono (fun k hk _ => .inr (by rcases hk with hk | hk <;> omega)) h2
    have hB' : (Ty.sl TBd).rd w11 (fun k => (k < w.heap.size ∧ H k) ∨ w6.heap.size ≤ k) B := Ty.rd_ext X11 _ ((Ty.sl TBd).rd_mono (fun k hk1 hk => .inl ⟨hk, hk1⟩) h.rb)
    have hN := S.bl2
    have hN3' := S.bl1
    refine (with_c (f := f) (C := C) (n := n) (x := (⟨ca, cn, cc, Lp⟩, x.2.1, x.2.2.1, x.2.2.2.1, x.2.2.2.2.1 + 1, ())) hB' (by omega) (by omega) hx' (by omega)).mono ?_
    rintro ⟨_, ⟨⟩⟩ w12 ⟨B', hr', hrd', hl', x12⟩
    dsimp only at hr'
    subst hr'
    have S := S.stepE x12
    refine S.st2 (by rfl) fun w13 S f13 => S.su2 (j := 8) (by rfl) fun w14 S f14 => S.la2 rfl (S.st1 (by rfl) fun w15 S f15 => S.la1 rfl ?_)
    have X := S.ext
    have hbd2 : bdOf (⟨ca, cn, cc, Lp⟩, x.2.1, x.2.2.1, x.2.2.2.1, x.2.2.2.2.1 + 1, ()) = { blkC C n with pg := cutL (eraL (blkC C n).pg.flatten (codeC C).2.1) C.g.p.toNat, er := (blkC C n).er + 1 } := by
      unfold bdOf
      dsimp only
      rw [hLp, ← hbd]
      unfold bdOf
      dsimp only
      rw [hallx]
    have hC' : (eraC C n).1 = { C with bs := B'.l.map bdOf, off := (codeC C).2.2, ops := C.ops + 1 } := by
      unfold eraC
      rw [if_pos hmay]
      unfold eraX
      rw [if_neg hc0, hl', List.map_set, h.db, hbd2]
    refine ⟨B', ?_, ?_, ⟨?_, ?_, Ty.rd_ext X _ h.rf, ?_⟩, X⟩
    · rw [hC']
    · unfold eraC; rw [if_pos hmay]
    · have g : Fr (fun k => k = b1 ∨ k = b3) w12 w15 := ((f13.mono fun k hk => .inl hk).trans (f14.mono fun k hk => .inl hk)).trans (f15.mono fun k hk => .inr hk)
      exact rd_keep hrd' g (fun k hk => by
        have := X6.size
        have := X11.size
        rcases hk with (hk | hk) | hk
        · exact hk.2
        · exact hH k (by omega)
        · exact hH k (by omega)) fun k hk hlt => by
        rcases hk with (hk | hk) | hk <;> omega
    · rw [hC']
    · rw [hC']; exact h.df
end

end Go.Proofs.Ytfpkaebmiojicaa.Vc

/-! The contracts of layer 13: the document's array, a block scrubbed. -/
namespace Go.Proofs.Ytfpkaebmiojicaa.Vc
open Go Go.Eng Go.RowKit
set_option linter.unusedVariables false
set_option linter.unusedSimpArgs false

section
variable {H : Nat → Prop} {w : World} {B : SlP TBd.T} {f : SlP TF.T} {C : CD}
theorem rScrub13_c {n : Int} (hH : ∀ k, w.heap.size ≤ k → H k) (h : RefR H w B f C) (hC : COk C) (ho : C.ops < 1000000) :
    CallV Try.prog 81 #[chVal B f C, .int .i64 n] w [.agg SH10, .one (.int .i64)] fun r w' => ∃ B' : SlP TBd.T, r.1 = chT B' f (scrC C n).1 ∧ r.2.1 = (scrC C n).2 ∧ RefR H w' B' f (scrC C n).1 ∧ Ext w w' := by
  apply ref13_Scrub.vc
  unfold ref13_Scrub.P
  obtain ⟨⟨n1, n2⟩, ⟨n3, n4⟩, ⟨n5, n6⟩, n7, n8⟩ := hC.num
  have hBn := h.len
  rw [hC.bl] at hBn
  have S := Sep.start NoB w
  refine S.newB fun b1 w1 S f1 _ => ?_
  refine S.newB fun b3 w3 S f3 _ => ?_
  have no : ∀ {w' : World} {e : Int}, mayC C n = e → e ≠ 0 → Sep NoB w w' [BoxA b3 88 [.int .i64 0, .int .i64 0, .int .i64 0, .int .i64 0, .int .i64 0, .int .i64 0, .slice none 0 0, .slice none 0 0, .bool false, .int .i64 0], BoxA b1 88 (chV B f C)] →
      LoadA w' ⟨b1, 0, none⟩ SH10 fun x => StoreV w' ⟨b3, 0, none⟩ [.int .i64 x.1, .int .i64 x.2.1, .int .i64 x.2.2.1, .int .i64 x.2.2.2.1, .int .i64 x.2.2.2.2.1, .int .i64 x.2.2.2.2.2.1, .slice x.2.2.2.2.2.2.1.a x.2.2.2.2.2.2.1.n x.2.2.2.2.2.2.1.c, .slice x.2.2.2.2.2.2.2.1.a x.2.2.2.2.2.2.2.1.n x.2.2.2.2.2.2.2.1.c, .bool x.2.2.2.2.2.2.2.2.1, .int .i64 x.2.2.2.2.2.2.2.2.2.1] fun w9 =>
        LoadA w9 ⟨b3, 0, none⟩ SH10 fun x => ∃ B' : SlP TBd.T, (x.1, x.2.1, x.2.2.1, x.2.2.2.1, x.2.2.2.2.1, x.2.2.2.2.2.1, x.2.2.2.2.2.2.1, x.2.2.2.2.2.2.2.1, x.2.2.2.2.2.2.2.2.1, x.2.2.2.2.2.2.2.2.2.1, ()) = chT B' f (scrC C n).1 ∧ e = (scrC C n).2 ∧ RefR H w9 B' f (scrC C n).1 ∧ Ext w w9 := fun he h0 S => by
    refine S.la1 rfl (S.st0 (by rfl) fun w9 S f9 => S.la0 rfl ?_)
    have X := S.ext
    unfold scrC
    rw [if_neg (by rw [he]; exact h0)]
    exact ⟨B, rfl, he.symm, h.ext X, X⟩
  refine S.ld1 (j := 8) rfl rfl (cond_of (fun hoff => no (e := 4) (by unfold mayC; rw [if_pos hoff]) (by decide) S) fun hoff => ?_)
  have hoff' : ¬ C.off = true := by rw [hoff]; decide
  refine cond_d (fun hn => no (e := 2) (by unfold mayC; rw [if_neg hoff', if_pos (by omega)]) (by decide) S) fun hn0 => ?_
  refine S.ld1 (j := 6) rfl rfl (cond_d (fun hn => no (e := 2) (by unfold mayC; rw [if_neg hoff', if_pos (by dsimp only at hn; omega)]) (by decide) S) fun hn1 => ?_)
  dsimp only at hn1
  have hn : 0 ≤ n ∧ n < C.g.b := by omega
  have hmay : mayC C n = 0 := by unfold mayC; rw [if_neg hoff', if_neg (fun k => k hn)]
  refine S.la1 rfl ?_
  refine (code_c (h.ext S.ext) hC).mono ?_
  rintro ⟨(e : Int), ⟨ma, mn, mc⟩, (cr : Bool), ⟨⟩⟩ w4 ⟨h4, h4', i4, x4⟩
  dsimp only at h4 h4' i4 ⊢
  subst h4; subst h4'
  have S := S.stepE x4
  refine S.ld1 (j := 6) rfl rfl ?_
  obtain ⟨q, x, hq, hc, hr, hx, hbd, -⟩ := (h.ext S.ext).nth (i := n) hn.1 (by omega)
  have hb := (hC.blk hn).2
  have her := hb.er
  refine ⟨⟨hn.1, by dsimp only; omega⟩, q, hq, bdT x, hc, ?_⟩
  refine S.newB fun b22 w5 S f5 _ => ?_
  refine S.st0 (by rfl) fun w6 S f6 => ?_
  have eer : (blkC C n).er = x.2.2.2.2.1 := by rw [← hbd]; rfl
  have hG : ∀ b, w.heap.size ≤ b → ∀ k, k < w.heap.size → k ≠ b := fun b hb k hk => by omega
  have hN22 := S.bl0
  have hN3 := S.bl1
  have hN1 := S.bl2
  have hmem : x ∈ B.l := List.mem_of_getElem? hx
  have hrx : TBd.rd w (fun k => k < w.heap.size ∧ H k) x := TBd.rd_mono (fun k hk1 hk => ⟨hk, hk1⟩) (h.rb.2.2.2.2 x hmem)
  have hge : ∀ (i : Nat) (b : Nat) (e : TypeId) (vs : List Value), [BoxA b22 98 (bdV x), BoxA b3 88 [.int .i64 0, .int .i64 0, .int .i64 0, .int .i64 0, .int .i64 0, .int .i64 0, .slice none 0 0, .slice none 0 0, .bool false, .int .i64 0], BoxA b1 88 (chV B f C)][i]? = some (BoxA b e vs) → w.heap.size ≤ b := fun i b e vs hi => by
    obtain ⟨F3, h3, h3'⟩ := S.get hi
    exact (h3' b h3.1).1.resolve_left fun x => x
  have g22 := hge 0 _ _ _ rfl
  have g3 := hge 1 _ _ _ rfl
  have g1 := hge 2 _ _ _ rfl
  refine S.su0 (j := 3) (by rfl) fun w6' S f6' => S.la0 rfl ?_
  have X6 := S.ext
  have hs6 : w6.heap.size ≤ w6'.heap.size := f6'.size
  have hbx := hb
  rw [← hbd] at hbx
  have hallx : ((x.1.l.map (·.l)).flatten) = allC C n := by show (bdOf x).pg.flatten = _; rw [hbd]
  have hrx6 : TBd.rd w6' All x := TBd.rd_mono (fun _ _ _ => trivial) (Ty.rd_ext X6 _ hrx)
  have hrx7 : TBd.rd w6' All (x.1, x.2.1, x.2.2.1, true, x.2.2.2.2.1, ()) := ⟨hrx6.1, hrx6.2.1, hrx6.2.2.1, trivial, hrx6.2.2.2.2.1, trivial⟩
  refine (joined_c (g := C.g) (m := 0) (z := szP C.g) hrx7 (by show x.1.l.length ≤ 100; rw [bd_len hbx]; omega) (by omega) (show ∀ q ∈ x.1.l, q.l.length = szP C.g from bd_page_len hbx)).mono ?_
  rintro ⟨⟨ja, jn, jc⟩, ⟨⟩⟩ w7 h7
  have h7 : Res w6' w7 ⟨ja, jn, jc⟩ (allC C n) := by rw [← hallx]; exact h7
  have hall := hb.all
  have hjl := h7.ints.len
  rw [show (allC C n).length = bszC C from hall.1] at hjl
  have m2 : bszC C ≤ 20 * 216 := Nat.mul_le_mul (by omega) (by omega)
  dsimp only at hjl ⊢
  have S7 := S.stepE h7.ext
  refine (rFill_c (x := 0) (n := 0)).mono ?_
  rintro ⟨⟨za, zn, zc⟩, ⟨⟩⟩ w8 h8
  have hmm : (max 0 (min 65536 (0 : Int))).toNat = 0 := by omega
  dsimp only at h8 ⊢
  rw [hmm] at h8
  have x78 := h7.ext.trans h8.ext
  have T0 : Sep NoB w7 w8 _ := (Sep.start NoB w7).res h8
  dsimp only at T0
  have hz0 : zn = 0 := by have := h8.ints.len; simpa using this.symm
  refine Loop1 (fun (v : SlV × Int × Unit) w' => ∃ i : Nat, v.2.1 = (i : Int) ∧ i ≤ jn ∧ v.1.n = i ∧ Sep NoB w7 w' [OwnA 5 1 v.1.a v.1.n v.1.c ((List.replicate i 0).map (Value.int .u8))]) (fun (v : SlV × Int × Unit) _ => ((jn : Int) - v.2.1).toNat) ⟨0, rfl, by omega, hz0, T0⟩ ?_
  rintro ⟨⟨va, vn, vc⟩, (v : Int), ⟨⟩⟩ w9 ⟨i, hv, hi, hvn, T9⟩
  dsimp only at hv hvn T9 ⊢
  subst hv
  subst hvn
  refine cond_d (fun hlt => ?_) (fun hge' => ?_)
  · refine T9.newB fun b34 w10 T9 f10 _ => ?_
    refine AppS.of (news := [.int .u8 0]) rfl (.inr ⟨_, rfl, T9.cells 0 rfl⟩) ?_
    refine T9.ap1 (by rfl) (fun u hu => by rw [List.mem_singleton.1 hu]; rfl) (by omega) (by omega) fun a36 c38 w11 T9 f11 => ?_
    refine ⟨Rng.i64 (by omega) (by omega), ⟨vn + 1, by push_cast; rfl, by omega, rfl, ?_⟩, by omega⟩
    rw [List.replicate_succ', List.map_append]
    exact T9.tail
  have hvj : vn = jn := by omega
  subst hvj
  have x79 : Ext w7 w9 := T9.ext
  have hZ : Ints w9 .u8 va vn vc (List.replicate vn 0) := T9.in0
  have bz : Byt (List.replicate vn (0 : Int)) := Byt.replicate (by decide) (by decide) _
  have hbm : Byt (codeC C).2.1 := by
    unfold codeC
    cases hat : atF C.pl (C.ops : Int) with
    | none => exact Byt.nil
    | some F => exact atF_byt hC hat
  have hlj : (allC C n).length = vn := by rw [← hjl]; exact hall.1
  generalize hQ : (if (codeC C).1 = 0 then List.replicate (allC C n).length (0 : Int) else progL (allC C n) (List.replicate (allC C n).length 0) (codeC C).2.1 false) = Q
  have hQl : Q.length = bszC C := by rw [← hQ]; split; rw [List.length_replicate]; exact hall.1; unfold progL; rw [turn_len]; exact hall.1
  have hQb : Byt Q := by rw [← hQ]; split; exact Byt.replicate (by decide) (by decide) _; exact turn_byt hall.2 _ _
  refine ⟨fun (v : SlV × Unit) w' => Ext w7 w' ∧ TB.rd w' (fun k => w7.heap.size ≤ k) ⟨v.1.a, v.1.n, v.1.c, Q⟩, ?_, ?_⟩
  case refine_2 =>
    refine cond_ne (fun hc0 => ?_) (fun hc0 => ?_)
    · have hc0 : ¬ (codeC C).1 = 0 := hc0
      have X49 : Ext w4 w9 := (Fr.ext ((f5.trans' f6 fun k hk => .inr (by omega)).trans' f6' fun k hk => .inr (by omega))).trans (h7.ext.trans x79)
      refine (Program_c (h7.ints.ext x79) hall.2 hZ bz (i4.ext X49) hbm (by dsimp only; omega)).mono ?_
      rintro ⟨⟨ra, rn, rc⟩, ⟨⟩⟩ w10 h10
      refine ⟨x79.trans h10.ext, ?_⟩
      have hs := x79.size
      rw [if_neg hc0] at hQ
      have hq : turn (allC C n) (prF (allC C n) (List.replicate vn 0) (codeC C).2.1 false vn) (8 * vn) = Q := by
        rw [← hQ]
        unfold progL
        rw [hlj]
      rw [hq] at h10
      exact TB.rd_mono (fun k hk _ => by omega) (res_rd h10 hQb)
    · have hc0 : (codeC C).1 = 0 := hc0
      refine ⟨x79, ?_⟩
      rw [if_pos hc0, hlj] at hQ
      obtain ⟨F1, k1, k2⟩ := T9.get (i := 0) rfl
      have := own_rd k1 bz
      rw [hQ] at this
      exact TB.rd_mono (fun k hk _ => (k2 k hk).1.resolve_left fun x => x) this
  rintro ⟨⟨ra, rn, rc⟩, ⟨⟩⟩ w10 ⟨x710, hQr⟩
  dsimp only at hQr ⊢
  have S := S7.stepE x710
  refine S.ld2 (j := 1) rfl rfl ?_
  have hrn : rn = bszC C := by rw [← hQl]; exact hQr.1.symm
  have hcut := cut13_c (P := C.g.p.toNat) hQr ⟨by omega, by omega⟩ (by omega)
  rw [show ((C.g.p.toNat : Nat) : Int) = C.g.p from by omega] at hcut
  refine hcut.mono ?_
  rintro ⟨⟨ca, cn, cc⟩, ⟨⟩⟩ w11 ⟨Lp, hLr, hLp, x11⟩
  dsimp only at hLr ⊢
  have S := S.stepE x11
  refine S.su0 (j := 0) (by rfl) fun w12 S f12 => ?_
  refine S.la2 rfl (S.la0 rfl ?_)
  have X12 := S.ext
  have s67 := h7.ext.size
  have s710 := x710.size
  have hx' : TBd.rd w12 (fun k => (k < w.heap.size ∧ H k) ∨ w6.heap.size ≤ k) (⟨ca, cn, cc, Lp⟩, x.2.1, x.2.2.1, true, x.2.2.2.2.1, ()) := by
    have h1 := Ty.rd_ext X12 _ hrx
    refine ⟨?_, TI.rd_mono (fun k hk _ => .inl hk) h1.2.1, h1.2.2.1, trivial, h1.2.2.2.2.1, trivial⟩
    have h2 := TBB.rd_kp (w' := w12) (fun k hk hl => f12.block k hl (by rcases hk with hk | hk <;> omega)) hLr
    exact TBB.rd_mono (fun k hk _ => .inr (by rcases hk with hk | hk <;> omega)) h2
  have hB' : (Ty.sl TBd).rd w12 (fun k => (k < w.heap.size ∧ H k) ∨ w6.heap.size ≤ k) B := Ty.rd_ext X12 _ ((Ty.sl TBd).rd_mono (fun k hk1 hk => .inl ⟨hk, hk1⟩) h.rb)
  have hN := S.bl2
  have hN3' := S.bl1
  refine (with_c (f := f) (C := C) (n := n) (x := (⟨ca, cn, cc, Lp⟩, x.2.1, x.2.2.1, true, x.2.2.2.2.1, ())) hB' (by omega) (by omega) hx' (by omega)).mono ?_
  rintro ⟨_, ⟨⟩⟩ w13 ⟨B', hr', hrd', hl', x13⟩
  dsimp only at hr'
  subst hr'
  have S := S.stepE x13
  refine S.st2 (by rfl) fun w14 S f14 => S.su2 (j := 8) (by rfl) fun w15 S f15 => S.la2 rfl (S.st1 (by rfl) fun w16 S f16 => S.la1 rfl ?_)
  have X := S.ext
  have hbd2 : bdOf (⟨ca, cn, cc, Lp⟩, x.2.1, x.2.2.1, true, x.2.2.2.2.1, ()) = { blkC C n with sc := true, pg := cutL Q C.g.p.toNat } := by
    unfold bdOf
    dsimp only
    rw [hLp, ← hbd]
    rfl
  have hC' : (scrC C n).1 = { C with bs := B'.l.map bdOf, off := (codeC C).2.2, ops := C.ops + 1 } := by
    unfold scrC
    rw [if_pos hmay]
    unfold scrX
    dsimp only
    rw [hl', List.map_set, h.db, hbd2, ← hQ]
  refine ⟨B', ?_, ?_, ⟨?_, ?_, Ty.rd_ext X _ h.rf, ?_⟩, X⟩
  · rw [hC']
  · unfold scrC; rw [if_pos hmay]
  · have g : Fr (fun k => k = b1 ∨ k = b3) w13 w16 := ((f14.mono fun k hk => .inl hk).trans (f15.mono fun k hk => .inl hk)).trans (f16.mono fun k hk => .inr hk)
    exact rd_keep hrd' g (fun k hk => by
      have := X6.size
      have := X12.size
      rcases hk with (hk | hk) | hk
      · exact hk.2
      · exact hH k (by omega)
      · exact hH k (by omega)) fun k hk hlt => by
      rcases hk with (hk | hk) | hk <;> omega
  · rw [hC']
  · rw [hC']; exact h.df
end

end Go.Proofs.Ytfpkaebmiojicaa.Vc

/-! The contracts of layer 13: the document's array, a page programmed. -/
namespace Go.Proofs.Ytfpkaebmiojicaa.Vc
open Go Go.Eng Go.RowKit
set_option linter.unusedVariables false
set_option linter.unusedSimpArgs false

section
variable {H : Nat → Prop} {w : World} {B : SlP TBd.T} {f : SlP TF.T} {C : CD}
abbrev zCH : List Value := [.int .i64 0, .int .i64 0, .int .i64 0, .int .i64 0, .int .i64 0, .int .i64 0, .slice none 0 0, .slice none 0 0, .bool false, .int .i64 0]
/-- An array told as it was. -/
theorem asWas {w' : World} {Rs : List Asr} {e : Int} {C' : CD × Int} {b5 b1 : Nat} {e5 e1 : TypeId} (h : RefR H w B f C) (he : C' = (C, e)) (S : Sep NoB w w' (BoxA b5 e5 zCH :: BoxA b1 e1 (chV B f C) :: Rs)) :
    LoadA w' ⟨b1, 0, none⟩ SH10 fun x => StoreV w' ⟨b5, 0, none⟩ [.int .i64 x.1, .int .i64 x.2.1, .int .i64 x.2.2.1, .int .i64 x.2.2.2.1, .int .i64 x.2.2.2.2.1, .int .i64 x.2.2.2.2.2.1, .slice x.2.2.2.2.2.2.1.a x.2.2.2.2.2.2.1.n x.2.2.2.2.2.2.1.c, .slice x.2.2.2.2.2.2.2.1.a x.2.2.2.2.2.2.2.1.n x.2.2.2.2.2.2.2.1.c, .bool x.2.2.2.2.2.2.2.2.1, .int .i64 x.2.2.2.2.2.2.2.2.2.1] fun w9 =>
      LoadA w9 ⟨b5, 0, none⟩ SH10 fun x => ∃ B' : SlP TBd.T, (x.1, x.2.1, x.2.2.1, x.2.2.2.1, x.2.2.2.2.1, x.2.2.2.2.2.1, x.2.2.2.2.2.2.1, x.2.2.2.2.2.2.2.1, x.2.2.2.2.2.2.2.2.1, x.2.2.2.2.2.2.2.2.2.1, ()) = chT B' f C'.1 ∧ e = C'.2 ∧ RefR H w9 B' f C'.1 ∧ Ext w w9 := by
  refine S.la1 rfl (S.st0 (by rfl) fun w9 S f9 => S.la0 rfl ?_)
  have X := S.ext
  rw [he]
  exact ⟨B, rfl, rfl, h.ext X, X⟩

theorem rProgram13_c {bl pa : Int} {a : Option Addr} {n c : Nat} {xs : List Int} (hH : ∀ k, w.heap.size ≤ k → H k) (h : RefR H w B f C) (hC : COk C) (ho : C.ops < 1000000) (hx : Ints w .u8 a n c xs) (bx : Byt xs) :
    CallV Try.prog 78 #[chVal B f C, .agg #[.int .i64 bl, .int .i64 pa], .slice a n c] w [.agg SH10, .one (.int .i64)] fun r w' => ∃ B' : SlP TBd.T, r.1 = chT B' f (progC C bl pa xs).1 ∧ r.2.1 = (progC C bl pa xs).2 ∧ RefR H w' B' f (progC C bl pa xs).1 ∧ Ext w w' := by
  apply ref13_Program.vc
  unfold ref13_Program.P
  obtain ⟨⟨n1, n2⟩, ⟨n3, n4⟩, ⟨n5, n6⟩, n7, n8⟩ := hC.num
  have hBn := h.len
  have hxl := hx.len
  rw [hC.bl] at hBn
  have S := Sep.start NoB w
  refine S.newB fun b1 w1 S f1 _ => ?_
  refine S.newB fun b3 w3 S f3 _ => ?_
  refine S.newB fun b5 w5 S f5 _ => ?_
  have hno : ∀ {e : Int}, refC C bl pa xs.length = e → e ≠ 0 → progC C bl pa xs = (C, e) := fun he h0 => by unfold progC; rw [he, if_neg h0]
  refine S.ld2 (j := 8) rfl rfl (cond_of (fun hoff => asWas h (hno (e := 4) (by unfold refC; rw [if_pos hoff]) (by decide)) (S.sel [0, 1] rfl)) fun hoff => ?_)
  have hoff' : ¬ C.off = true := by rw [hoff]; decide
  refine S.lb2 (o := 0) rfl (S.la1 rfl ?_)
  refine (rRight13_c (g := C.g) (b := bl) (p := pa)).mono ?_
  rintro ⟨(r : Bool), ⟨⟩⟩ w6 ⟨h6, x6⟩
  dsimp only at h6 ⊢
  subst h6
  have S := S.stepE x6
  by_cases hi : inC C bl pa
  case neg => exact cond_t (by rw [decide_eq_false (fun k => hi k.2)]; rfl) (asWas h (hno (e := 2) (by unfold refC; rw [if_neg hoff', if_pos (fun k => hi k.1)]) (by decide)) (S.sel [0, 1] rfl))
  refine cond_f (by rw [decide_eq_true (show plOk C.g bl pa from ⟨hC.g, hi⟩)]; rfl) ?_
  refine S.ld2 (j := 2) rfl rfl ⟨Rng.i64 (by omega) (by omega), ?_⟩
  have href := refC_eq (n := xs.length) hoff' hi
  refine cond_ne (fun hn => asWas h (hno (e := 2) (by rw [href, if_pos (by omega)]) (by decide)) (S.sel [0, 1] rfl)) fun hn => ?_
  have hxz : xs.length = szP C.g := by omega
  rw [if_neg (fun k => k hxz)] at href
  refine S.ld2 (j := 6) rfl rfl (S.ld1 (j := 0) rfl rfl ?_)
  obtain ⟨q, x, hq, hc, hr, hxx, hbd, -⟩ := (h.ext S.ext).nth (i := bl) hi.1.1 (by have := hi.1.2; omega)
  refine ⟨⟨hi.1.1, by have := hi.1.2; dsimp only; omega⟩, q, hq, bdT x, hc, ?_⟩
  refine S.newB fun b26 w7 S f7 _ => ?_
  refine S.st0 (by rfl) fun w8 S f8 => ?_
  have hb := (hC.blk hi.1).2
  have hsc : (blkC C bl).sc = x.2.2.2.1 := by rw [← hbd]; rfl
  have hus : (blkC C bl).us = x.2.1.l := by rw [← hbd]; rfl
  have hla : (blkC C bl).la = x.2.2.1 := by rw [← hbd]; rfl
  refine S.ld0 (j := 3) rfl rfl (cond_of (fun hs => asWas h (hno (e := 7) (by rw [href, if_pos (.inl (by rw [hsc]; exact hs))]) (by decide)) (S.sel [1, 2] rfl)) fun hs => ?_)
  have hmem : x ∈ B.l := List.mem_of_getElem? hxx
  have hrx : TBd.rd w (fun k => k < w.heap.size ∧ H k) x := TBd.rd_mono (fun k hk1 hk => ⟨hk, hk1⟩) (h.rb.2.2.2.2 x hmem)
  have hge : ∀ (i : Nat) (b : Nat) (e : TypeId) (vs : List Value), [BoxA b26 98 (bdV x), BoxA b5 88 zCH, BoxA b3 81 [.int .i64 bl, .int .i64 pa], BoxA b1 88 (chV B f C)][i]? = some (BoxA b e vs) → w.heap.size ≤ b := fun i b e vs hi => by
    obtain ⟨F3, h3, h3'⟩ := S.get hi
    exact (h3' b h3.1).1.resolve_left fun x => x
  have g26 := hge 0 _ _ _ rfl
  have g5 := hge 1 _ _ _ rfl
  have g1 := hge 3 _ _ _ rfl
  clear hge
  have l26 := S.bl0
  have l5 := S.bl1
  have l1 := S.bl3
  have X8 := S.ext
  have hr8 := TBd.rd_mono (fun _ _ _ => trivial) (Ty.rd_ext X8 _ hrx) (G' := All)
  have hul : x.2.1.n = C.g.p.toNat := by rw [← hb.ul, hus]; exact hr8.2.1.1.symm
  have hpp := hi.2
  have hu8 : Ints w8 .i64 x.2.1.a x.2.1.n x.2.1.c x.2.1.l := Ty.ints hr8.2.1
  have hue : x.2.1.l.getD pa.toNat 0 = usC C bl pa := by rw [← hus]
  have hu2 := (hC.us hi).2
  refine S.ld0 (j := 1) rfl rfl (S.ld2 (j := 1) rfl rfl (hu8.idx (by omega) (by omega) ?_))
  rw [hue]
  refine cond_d (fun h2 => asWas h (hno (e := 7) (by rw [href, if_pos (.inr h2)]) (by decide)) (S.sel [1, 2] rfl)) fun h2 => ?_
  rw [if_neg (fun k => k.elim (fun k => by rw [hsc, hs] at k; cases k) h2)] at href
  refine ⟨fun (_ : Unit) w' => w' = w8 ∧ refC C bl pa xs.length = 0, ?_, ?_⟩
  case refine_2 =>
    refine S.ld0 (j := 1) rfl rfl (S.ld2 (j := 1) rfl rfl (hu8.idx (by omega) (by omega) ?_))
    rw [hue]
    refine cond_eq (fun h0 => ?_) (fun h0 => ⟨rfl, by rw [href, if_neg (fun k => h0 k.1)]⟩)
    refine S.ld2 (j := 1) rfl rfl (S.ld0 (j := 2) rfl rfl (cond_d (fun hp => ?_) fun hp => ⟨rfl, by rw [href, if_neg (fun k => hp (by rw [← hla]; exact k.2))]⟩))
    exact asWas h (hno (e := 6) (by rw [href, if_pos ⟨h0, by rw [hla]; exact hp⟩]) (by decide)) (S.sel [1, 2] rfl)
  rintro ⟨⟩ w9 ⟨rfl, href0⟩
  clear href hno
  refine S.la3 rfl ?_
  refine (code_c (h.ext X8) hC).mono ?_
  rintro ⟨(e : Int), ⟨ma, mn, mc⟩, (cr : Bool), ⟨⟩⟩ w10 ⟨h10, h10', i10, x10⟩
  dsimp only at h10 h10' i10 ⊢
  subst h10; subst h10'
  have S := S.stepE x10
  refine S.ld0 (j := 0) rfl rfl (S.ld2 (j := 1) rfl rfl ?_)
  have hr10 := Ty.rd_ext x10 _ hr8
  have hpl : x.1.n = C.g.p.toNat := by rw [← bd_len (x := x) (by rw [hbd]; exact hb)]; exact hr8.1.1.symm
  obtain ⟨q2, y, hq2, hy, hc2, hry, -, -⟩ := TBB_nth hr10.1 (i := pa) (by omega) (by omega)
  have hyp : y.l = pgC13 C bl pa := by
    have h1 : (x.1.l.map (·.l))[pa.toNat]? = some y.l := by rw [List.getElem?_map, hy]; rfl
    have h2 : (blkC C bl).pg = x.1.l.map (·.l) := by rw [← hbd]; rfl
    show _ = (blkC C bl).pg.getD pa.toNat []
    rw [h2, getD_some h1]
  have hyI := Ty.ints hry
  rw [hyp] at hyI
  have hyl := hyI.len
  rw [(hC.page hi).2.1] at hyl
  refine ⟨⟨by omega, by dsimp only; omega⟩, q2, hq2, ldp0 hc2 (h := .sl) (x := ⟨y.a, y.n, y.c⟩) rfl ?_⟩
  dsimp only
  have X10 := X8.trans x10
  refine (And_c hyI (hx.ext X10) (by omega) (by omega)).mono ?_
  rintro ⟨⟨na, nn, nc⟩, ⟨⟩⟩ w11 h11
  dsimp only at h11 ⊢
  have hbm : Byt (codeC C).2.1 := by
    unfold codeC
    cases hat : atF C.pl (C.ops : Int) with
    | none => exact Byt.nil
    | some F => exact atF_byt hC hat
  have hbp := (hC.page hi).2.2
  generalize hQ : (if (codeC C).1 = 0 then andL (pgC13 C bl pa) xs else progL (pgC13 C bl pa) xs (codeC C).2.1 (!(codeC C).2.2)) = Q
  have hQl : Q.length = szP C.g := by
    rw [← hQ]
    split
    · rw [← (hC.page hi).2.1]; simp [andL]
    · unfold progL; rw [turn_len]; exact (hC.page hi).2.1
  have hQb : Byt Q := by rw [← hQ]; split; exact andL_byt _ _; exact turn_byt hbp _ _
  refine ⟨fun (v : SlV × Unit) w' => Ext w10 w' ∧ TB.rd w' (fun k => w10.heap.size ≤ k) ⟨v.1.a, v.1.n, v.1.c, Q⟩, ?_, ?_⟩
  case refine_2 =>
    refine cond_ne (fun hc0 => ?_) (fun hc0 => ?_)
    · have hc0 : ¬ (codeC C).1 = 0 := hc0
      have hs11 := h11.ext.size
      obtain ⟨na', hna'⟩ : ∃ t : SlV, t = ⟨a, n, c⟩ := ⟨_, rfl⟩
      have hnn : n = y.n := by omega
      subst hnn
      refine (Program_c (hyI.ext h11.ext) hbp (hx.ext (X10.trans h11.ext)) bx (i10.ext h11.ext) hbm (by omega)).mono ?_
      rintro ⟨⟨ra, rn, rc⟩, ⟨⟩⟩ w12 h12
      refine ⟨h11.ext.trans h12.ext, ?_⟩
      rw [if_neg hc0] at hQ
      have hq : turn (pgC13 C bl pa) (prF (pgC13 C bl pa) xs (codeC C).2.1 (!(codeC C).2.2) y.n) (8 * y.n) = Q := by
        rw [← hQ]
        unfold progL
        rw [(hC.page hi).2.1, hyl]
      rw [hq] at h12
      exact TB.rd_mono (fun k hk _ => by omega) (res_rd h12 hQb)
    · have hc0 : (codeC C).1 = 0 := hc0
      rw [if_pos hc0] at hQ
      rw [hQ] at h11
      exact ⟨h11.ext, res_rd h11 hQb⟩
  rintro ⟨⟨va, vn, vc⟩, ⟨⟩⟩ w12 ⟨x12, hvQ⟩
  dsimp only at hvQ ⊢
  have S := S.push (R := RdT TB ⟨va, vn, vc, Q⟩) (F := fun k => w10.heap.size ≤ k ∧ k < w12.heap.size) (.of x12) (TB.rd_mono (fun k h1 h2 => ⟨h1, h2⟩) hvQ) fun k hk => hk
  have hrP : TBB.rd w12 All x.1 := Ty.rd_ext x12 _ hr10.1
  have hrU : TI.rd w12 All x.2.1 := Ty.rd_ext x12 _ hr10.2.1
  have hPc : RdC w12 x.1.a (x.1.l.map slV) := by
    have := hrP.2.2.2.1.rdc
    rwa [show x.1.l.flatMap TB.vs = x.1.l.map slV from flat_sl _] at this
  have hUi : Ints w12 .i64 x.2.1.a x.2.1.n x.2.1.c x.2.1.l := Ty.ints hrU
  have hPl : x.1.l.length = x.1.n := hrP.1
  have hUl : x.2.1.l.length = x.2.1.n := hrU.1
  have w12s : Sep NoB w12 w12 [] := Sep.start NoB w12
  refine S.newB fun b55 w13 S f13 _ => ?_
  have S := S.asOwn (sz := 1) (n := 0) rfl (by omega) oneAll.nil
  refine S.ld2 (j := 0) rfl rfl ?_
  dsimp only
  have X13 := Fr.ext f13
  refine AppS.of (news := x.1.l.map slV) (by rw [List.length_map]; omega) (X13.rd hPc) ?_
  refine S.ap0 (by rw [List.length_map]; omega) (fun u hu => by obtain ⟨v, -, rfl⟩ := List.mem_map.1 hu; rfl) (by omega) (by omega) fun a58 c60 w14 S f14 => ?_
  rw [List.nil_append, Nat.zero_add] at S
  rw [Nat.zero_add]
  refine S.su2 (j := 0) (by rfl) fun w15 S f15 => ?_
  refine S.newB fun b64 w16 S f16 _ => ?_
  have S := S.asOwn (sz := 1) (n := 0) rfl (by omega) oneAll.nil
  refine S.ld3 (j := 1) rfl rfl ?_
  dsimp only
  have X16 : Ext w w16 := S.ext
  have hU16 : Ints w16 .i64 x.2.1.a x.2.1.n x.2.1.c x.2.1.l := Ty.ints (Ty.rd_ext X16 _ hrx).2.1
  refine AppS.of (news := iv x.2.1.l) (by rw [List.length_map]; omega) hU16.rd ?_
  refine S.ap0 (by rw [List.length_map]; omega) (oneAll.ints _ _) (by omega) (by omega) fun a67 c69 w17 S f17 => ?_
  rw [List.nil_append, Nat.zero_add] at S
  rw [Nat.zero_add]
  refine S.su3 (j := 1) (by rfl) fun w18 S f18 => ?_
  refine S.ld3 (j := 0) rfl rfl (S.ld5 (j := 1) rfl rfl ?_)
  refine S.put (i := 1) rfl (by omega) (by omega) (v := .slice va vn vc) rfl fun w19 S f19 => ?_
  dsimp only [List.set_cons_succ, List.set_cons_zero] at S
  refine S.ld3 (j := 1) rfl rfl (S.ld5 (j := 1) rfl rfl ?_)
  dsimp only
  refine (S.ints 0 rfl).idx (by omega) (by omega) ?_
  rw [hue]
  refine ⟨Rng.i64 (by omega) (by omega), ?_⟩
  refine S.put (i := 0) rfl (by omega) (by omega) (v := .int .i64 (usC C bl pa + 1)) rfl fun w20 S f20 => ?_
  dsimp only [List.set_cons_succ, List.set_cons_zero] at S
  rw [iv_set] at S
  refine S.ld3 (j := 2) rfl rfl (S.ld5 (j := 1) rfl rfl ?_)
  intro z hz
  subst hz
  refine S.su3 (j := 2) (by rfl) fun w21 S f21 => ?_
  refine S.la6 rfl (S.ld5 (j := 0) rfl rfl (S.la3 rfl ?_))
  dsimp only
  have X21 := S.ext
  obtain ⟨FP, hFP, nP, oP⟩ := S.off 1 rfl
  obtain ⟨FU, hFU, nU, oU⟩ := S.off 0 rfl
  obtain ⟨FQ, hFQ, nQ, oQ⟩ := S.off 2 rfl
  have aP : ∀ k, FP k → H k ∧ k ≠ b1 ∧ k ≠ b5 := fun k hk => ⟨hH k ((nP k hk).1.resolve_left fun x => x), fun e => oP 6 _ _ _ (by decide) rfl (e ▸ hk), fun e => oP 4 _ _ _ (by decide) rfl (e ▸ hk)⟩
  have aU : ∀ k, FU k → H k ∧ k ≠ b1 ∧ k ≠ b5 := fun k hk => ⟨hH k ((nU k hk).1.resolve_left fun x => x), fun e => oU 6 _ _ _ (by decide) rfl (e ▸ hk), fun e => oU 4 _ _ _ (by decide) rfl (e ▸ hk)⟩
  have aQ : ∀ k, FQ k → H k ∧ k ≠ b1 ∧ k ≠ b5 := fun k hk => ⟨hH k ((nQ k hk).1.resolve_left fun x => x), fun e => oQ 6 _ _ _ (by decide) rfl (e ▸ hk), fun e => oQ 4 _ _ _ (by decide) rfl (e ▸ hk)⟩
  have hx21 := Ty.rd_ext X21 _ hrx
  have hla2 := hb.la
  rw [hla] at hla2
  have ewP : (x.1.l.map slV).set pa.toNat (.slice va vn vc) = (x.1.l.set pa.toNat ⟨va, vn, vc, Q⟩).flatMap TB.vs := by rw [show (x.1.l.set pa.toNat ⟨va, vn, vc, Q⟩).flatMap TB.vs = (x.1.l.set pa.toNat ⟨va, vn, vc, Q⟩).map slV from flat_sl _, List.map_set]
  rw [ewP] at hFP
  have hQ21 : TB.rd w21 (fun k => H k ∧ k ≠ b1 ∧ k ≠ b5) ⟨va, vn, vc, Q⟩ := TB.rd_mono (fun k hk _ => aQ k hk) hFQ
  have old : ∀ k, k < w.heap.size ∧ H k → H k ∧ k ≠ b1 ∧ k ≠ b5 := fun k hk => ⟨hk.2, by omega, by omega⟩
  have hP' : TBB.rd w21 (fun k => H k ∧ k ≠ b1 ∧ k ≠ b5) ⟨a58, x.1.n, c60, x.1.l.set pa.toNat ⟨va, vn, vc, Q⟩⟩ := by
    refine own_rdF (t := TB) hFP (by decide) aP fun y hy => ?_
    rcases List.mem_or_eq_of_mem_set hy with hm | hm
    · exact TB.rd_mono (fun k hk _ => old k hk) (hx21.1.2.2.2.2 y hm)
    · rw [hm]; exact hQ21
  have hU' : TI.rd w21 (fun k => H k ∧ k ≠ b1 ∧ k ≠ b5) ⟨a67, x.2.1.n, c69, x.2.1.l.set pa.toNat (usC C bl pa + 1)⟩ := by
    rw [iv, ← flat_ints] at hFU
    refine own_rdF (t := .int .i64) hFU (by decide) aU fun y hy => ?_
    rcases List.mem_or_eq_of_mem_set hy with hm | hm
    · exact hx21.2.1.2.2.2.2 y hm
    · rw [hm]; exact Rng.i64 (by omega) (by omega)
  have rla : Rng .i64 (max x.2.2.1 pa) := Rng.i64 (by omega) (by omega)
  have hx' : TBd.rd w21 (fun k => H k ∧ k ≠ b1 ∧ k ≠ b5) (⟨a58, x.1.n, c60, x.1.l.set pa.toNat ⟨va, vn, vc, Q⟩⟩, ⟨a67, x.2.1.n, c69, x.2.1.l.set pa.toNat (usC C bl pa + 1)⟩, max x.2.2.1 pa, x.2.2.2.1, x.2.2.2.2.1, ()) :=
    ⟨hP', hU', rla, trivial, hx21.2.2.2.2.1, trivial⟩
  have hB' : (Ty.sl TBd).rd w21 (fun k => H k ∧ k ≠ b1 ∧ k ≠ b5) B := Ty.rd_ext X21 _ ((Ty.sl TBd).rd_mono (fun k hk1 hk => old k ⟨hk, hk1⟩) h.rb)
  have hN1 := S.bl6
  have hN5 := S.bl4
  refine (with_c (f := f) (C := C) (n := bl) (x := (⟨a58, x.1.n, c60, x.1.l.set pa.toNat ⟨va, vn, vc, Q⟩⟩, ⟨a67, x.2.1.n, c69, x.2.1.l.set pa.toNat (usC C bl pa + 1)⟩, max x.2.2.1 pa, x.2.2.2.1, x.2.2.2.2.1, ())) hB' (by omega) (by omega) hx' ⟨hi.1.1, by have := hi.1.2; omega⟩).mono ?_
  rintro ⟨_, ⟨⟩⟩ w22 ⟨B', hr', hrd', hl', x22⟩
  dsimp only at hr'
  subst hr'
  have S := S.stepE x22
  refine S.st6 (by rfl) fun w23 S f23 => S.su6 (j := 8) (by rfl) fun w24 S f24 => S.la6 rfl (S.st4 (by rfl) fun w25 S f25 => S.la4 rfl ?_)
  have X := S.ext
  have hbd2 : bdOf (⟨a58, x.1.n, c60, x.1.l.set pa.toNat ⟨va, vn, vc, Q⟩⟩, ⟨a67, x.2.1.n, c69, x.2.1.l.set pa.toNat (usC C bl pa + 1)⟩, max x.2.2.1 pa, x.2.2.2.1, x.2.2.2.2.1, ()) = { blkC C bl with pg := (blkC C bl).pg.set pa.toNat Q, us := (blkC C bl).us.set pa.toNat (usC C bl pa + 1), la := max (blkC C bl).la pa } := by
    rw [← hbd]
    unfold bdOf
    dsimp only
    rw [List.map_set]
  have hC' : (progC C bl pa xs).1 = { C with bs := B'.l.map bdOf, off := (codeC C).2.2, ops := C.ops + 1 } := by
    unfold progC
    rw [if_pos href0]
    unfold progX
    rw [hQ, hl', List.map_set, h.db, hbd2]
  refine ⟨B', ?_, ?_, ⟨?_, ?_, Ty.rd_ext X _ h.rf, ?_⟩, X⟩
  · rw [hC']
  · unfold progC; rw [if_pos href0]
  · have g : Fr (fun k => k = b1 ∨ k = b5) w22 w25 := ((f23.mono fun k hk => .inl hk).trans (f24.mono fun k hk => .inl hk)).trans (f25.mono fun k hk => .inr hk)
    exact rd_keep hrd' g (fun k hk => by
      rcases hk with hk | hk
      · exact hk.1
      · exact hH k (by have := X21.size; omega)) fun k hk hlt => by
      rcases hk with hk | hk
      · exact fun e => e.elim hk.2.1 hk.2.2
      · omega
  · rw [hC']
  · rw [hC']; exact h.df
end

end Go.Proofs.Ytfpkaebmiojicaa.Vc

/-! The contracts of layer 13: the document's array, a byte changed. -/
namespace Go.Proofs.Ytfpkaebmiojicaa.Vc
open Go Go.Eng Go.RowKit
set_option linter.unusedVariables false
set_option linter.unusedSimpArgs false

section
variable {H : Nat → Prop} {w : World} {B : SlP TBd.T} {f : SlP TF.T} {C : CD}
theorem own_rdB {w : World} {F G : Nat → Prop} {e : TypeId} {a : Option Addr} {n c : Nat} {xs : List Int} (ho : (OwnA e 1 a n c (xs.map (Value.int .u8))).p w F) (hF : ∀ k, F k → G k) (bx : Byt xs) : TB.rd w G ⟨a, n, c, xs⟩ := by
  rw [← flat_ints] at ho
  exact own_rdF (t := .int .u8) ho (by decide) hF fun y hy => rngU8 (bx y hy)
theorem rPoke13_c {bl pa at_ z : Int} (hH : ∀ k, w.heap.size ≤ k → H k) (h : RefR H w B f C) (hC : COk C) (hz : 0 ≤ z ∧ z < 256) :
    CallV Try.prog 83 #[chVal B f C, .agg #[.int .i64 bl, .int .i64 pa], .int .i64 at_, .int .u8 z] w [.agg SH10, .one (.int .i64)] fun r w' => ∃ B' : SlP TBd.T, r.1 = chT B' f (pokC C bl pa at_ z).1 ∧ r.2.1 = (pokC C bl pa at_ z).2 ∧ RefR H w' B' f (pokC C bl pa at_ z).1 ∧ Ext w w' := by
  apply ref13_Poke.vc
  unfold ref13_Poke.P
  obtain ⟨⟨n1, n2⟩, ⟨n3, n4⟩, ⟨n5, n6⟩, n7, n8⟩ := hC.num
  have hBn := h.len
  rw [hC.bl] at hBn
  have S := Sep.start NoB w
  refine S.newB fun b1 w1 S f1 _ => ?_
  refine S.newB fun b3 w3 S f3 _ => ?_
  refine S.newB fun b5 w5 S f5 _ => ?_
  refine S.ld2 (j := 8) rfl rfl (cond_of (fun hoff => asWas h (C' := pokC C bl pa at_ z) (e := 4) (by unfold pokC; rw [if_pos (by simpa using hoff)]) (S.sel [0, 1] rfl)) fun hoff => ?_)
  have hoff' : ¬ C.off = false := by simpa using hoff
  refine S.lb2 (o := 0) rfl (S.la1 rfl ?_)
  refine (rRight13_c (g := C.g) (b := bl) (p := pa)).mono ?_
  rintro ⟨(r : Bool), ⟨⟩⟩ w6 ⟨h6, x6⟩
  dsimp only at h6 ⊢
  subst h6
  have S := S.stepE x6
  have no : ¬ (inC C bl pa ∧ 0 ≤ at_ ∧ at_ < C.g.s + 88) → pokC C bl pa at_ z = (C, 2) := fun k => by unfold pokC; rw [if_neg hoff', if_pos k]
  by_cases hi : inC C bl pa
  case neg => exact cond_t (by rw [decide_eq_false (fun k => hi k.2)]; rfl) (asWas h (C' := pokC C bl pa at_ z) (no fun k => hi k.1) (S.sel [0, 1] rfl))
  refine cond_f (by rw [decide_eq_true (show plOk C.g bl pa from ⟨hC.g, hi⟩)]; rfl) ?_
  refine cond_d (fun h0 => asWas h (C' := pokC C bl pa at_ z) (no fun k => by omega) (S.sel [0, 1] rfl)) fun h0 => ?_
  have r88 : Rng .i64 (C.g.s + 88) := Rng.i64 (by omega) (by omega)
  refine S.ld2 (j := 2) rfl rfl ⟨r88, ?_⟩
  refine cond_d (fun h1 => asWas h (C' := pokC C bl pa at_ z) (no fun k => by omega) (S.sel [0, 1] rfl)) fun h1 => ?_
  have hP : pokC C bl pa at_ z = ({ C with bs := C.bs.set bl.toNat { blkC C bl with pg := (blkC C bl).pg.set pa.toNat ((pgC13 C bl pa).set at_.toNat z) } }, 0) := by
    unfold pokC; rw [if_neg hoff', if_neg (fun k => k ⟨hi, by omega⟩)]
  rw [hP]
  dsimp only
  refine S.ld2 (j := 6) rfl rfl (S.ld1 (j := 0) rfl rfl ?_)
  obtain ⟨q, x, hq, hc, hr, hxx, hbd, -⟩ := (h.ext S.ext).nth (i := bl) hi.1.1 (by have := hi.1.2; omega)
  refine ⟨⟨hi.1.1, by have := hi.1.2; dsimp only; omega⟩, q, hq, bdT x, hc, ?_⟩
  refine S.newB fun b29 w7 S f7 _ => ?_
  refine S.st0 (by rfl) fun w8 S f8 => ?_
  have hb := (hC.blk hi.1).2
  have hpp := hi.2
  have X8 := S.ext
  have hmem : x ∈ B.l := List.mem_of_getElem? hxx
  have hrx : TBd.rd w H x := h.rb.2.2.2.2 x hmem
  have hpl : x.1.n = C.g.p.toNat := by rw [← bd_len (x := x) (by rw [hbd]; exact hb)]; exact hr.1.1.symm
  have hPl : x.1.l.length = x.1.n := hr.1.1
  refine S.newB fun b32 w9 S f9 _ => ?_
  have S := S.asOwn (sz := 1) (n := 0) rfl (by omega) oneAll.nil
  refine S.ld1 (j := 0) rfl rfl ?_
  dsimp only
  have X9 := S.ext
  have hPc : RdC w9 x.1.a (x.1.l.flatMap TB.vs) := (Ty.rd_ext X9 _ hrx).1.2.2.2.1.rdc
  have hfl : (x.1.l.flatMap TB.vs).length = x.1.n * 1 := by rw [flat_sl, List.length_map]; omega
  refine AppS.of (news := x.1.l.flatMap TB.vs) hfl hPc ?_
  refine S.ap0 hfl (flatF_one (vs_one_ty TB) _) (by omega) (by omega) fun a35 c37 w10 S f10 => ?_
  rw [List.nil_append, Nat.zero_add] at S
  rw [Nat.zero_add]
  refine S.su1 (j := 0) (by rfl) fun w11 S f11 => ?_
  refine S.newB fun b41 w12 S f12 _ => ?_
  have S := S.asOwn (sz := 1) (n := 0) rfl (by omega) oneAll.nil
  refine S.ld2 (j := 0) rfl rfl (S.ld4 (j := 1) rfl rfl ?_)
  dsimp only
  obtain ⟨q2, y, hq2, hy, hc2⟩ := S.nthF (f := TB.vs) (m := 1) 1 rfl TB.vs_length (by decide) (j := pa) (by omega) (by omega)
  refine ⟨⟨by omega, by omega⟩, q2, hq2, ldp0 hc2 (h := .sl) (x := ⟨y.a, y.n, y.c⟩) rfl ?_⟩
  dsimp only
  have hyp : y.l = pgC13 C bl pa := by
    have h1 : (x.1.l.map (·.l))[pa.toNat]? = some y.l := by rw [List.getElem?_map, hy]; rfl
    have h2 : (blkC C bl).pg = x.1.l.map (·.l) := by rw [← hbd]; rfl
    show _ = (blkC C bl).pg.getD pa.toNat []
    rw [h2, getD_some h1]
  have X12 := S.ext
  have hyI : Ints w12 .u8 y.a y.n y.c y.l := Ty.ints ((Ty.rd_ext X12 _ hrx).1.2.2.2.2 y (List.mem_of_getElem? hy))
  have hyl := hyI.len
  rw [hyp] at hyI hyl
  obtain ⟨-, p1, p2⟩ := hC.page hi
  rw [p1] at hyl
  refine S.ab0 (xs := []) hyI (by omega) fun a47 c49 w13 S f13 => ?_
  rw [List.nil_append, Nat.zero_add] at S
  rw [Nat.zero_add]
  refine S.put (i := 0) rfl (by omega) (by omega) (v := .int .u8 z) rfl fun w14 S f14 => ?_
  dsimp only [List.set_cons_zero] at S
  rw [← List.map_set] at S
  refine S.ld2 (j := 0) rfl rfl (S.ld4 (j := 1) rfl rfl ?_)
  dsimp only
  rw [show x.1.l.flatMap TB.vs = x.1.l.map slV from flat_sl _] at S
  refine S.put (i := 1) rfl (by omega) (by omega) (v := .slice a47 y.n c49) rfl fun w15 S f15 => ?_
  dsimp only [List.set_cons_succ, List.set_cons_zero] at S
  have ewP : (x.1.l.map slV).set pa.toNat (.slice a47 y.n c49) = (x.1.l.set pa.toNat ⟨a47, y.n, c49, (pgC13 C bl pa).set at_.toNat z⟩).flatMap TB.vs := by rw [show (x.1.l.set pa.toNat ⟨a47, y.n, c49, (pgC13 C bl pa).set at_.toNat z⟩).flatMap TB.vs = (x.1.l.set pa.toNat ⟨a47, y.n, c49, (pgC13 C bl pa).set at_.toNat z⟩).map slV from flat_sl _, List.map_set]
  rw [ewP] at S
  refine S.newB fun b58 w16 S f16 _ => ?_
  have S := S.asOwn (sz := 5) (n := 0) rfl (by omega) oneAll.nil
  refine S.ld6 (j := 6) rfl rfl ?_
  dsimp only
  have X16 := S.ext
  have hrb := Ty.rd_ext X16 _ h.rb
  have hfB : (B.l.flatMap TBd.vs).length = B.n * 5 := by rw [flatF_len (f := TBd.vs) (m := 5) TBd.vs_length]; rw [show B.l.length = B.n from hrb.1]
  refine AppS.of (news := B.l.flatMap TBd.vs) hfB hrb.2.2.2.1.rdc ?_
  refine S.ap0 hfB (flatF_one (vs_one_ty TBd) _) (by omega) (by omega) fun a61 c63 w17 S f17 => ?_
  rw [List.nil_append, Nat.zero_add] at S
  rw [Nat.zero_add]
  refine S.ld5 (j := 0) rfl rfl (S.la3 rfl ?_)
  refine ⟨⟨hi.1.1, by have := hi.1.2; omega⟩, ?_⟩
  refine (S.putF (f := TBd.vs) (m := 5) TBd.vs_length (vs_one_ty TBd) (by decide) ⟨hi.1.1, by have := hi.1.2; omega⟩ (⟨a35, x.1.n, c37, x.1.l.set pa.toNat ⟨a47, y.n, c49, (pgC13 C bl pa).set at_.toNat z⟩⟩, x.2.1, x.2.2.1, x.2.2.2.1, x.2.2.2.2.1, ()) fun w18 S f18 => ?_)
  refine S.su6 (j := 6) (by rfl) fun w19 S f19 => S.la6 rfl (S.st4 (by rfl) fun w20 S f20 => S.la4 rfl ?_)
  have X := S.ext
  have hQb : Byt ((pgC13 C bl pa).set at_.toNat z) := fun v hv => (List.mem_or_eq_of_mem_set hv).elim (p2 v) fun e => by rw [e]; omega
  have hx20 := Ty.rd_ext X _ hrx
  refine ⟨⟨a61, B.n, c63, B.l.set bl.toNat (⟨a35, x.1.n, c37, x.1.l.set pa.toNat ⟨a47, y.n, c49, (pgC13 C bl pa).set at_.toNat z⟩⟩, x.2.1, x.2.2.1, x.2.2.2.1, x.2.2.2.2.1, ())⟩, rfl, rfl, ⟨?_, ?_, Ty.rd_ext X _ h.rf, h.df⟩, X⟩
  · obtain ⟨F0, h0, h0'⟩ := S.get (i := 0) rfl
    obtain ⟨F1, h1, h1'⟩ := S.get (i := 1) rfl
    obtain ⟨F2, h2, h2'⟩ := S.get (i := 2) rfl
    refine own_rdF (t := TBd) h0 (by decide) (fun k hk => hH k ((h0' k hk).1.resolve_left fun x => x)) fun u hu => ?_
    rcases List.mem_or_eq_of_mem_set hu with hm | hm
    · exact Ty.rd_ext X _ (h.rb.2.2.2.2 u hm)
    · rw [hm]
      refine ⟨own_rdF (t := TB) h2 (by decide) (fun k hk => hH k ((h2' k hk).1.resolve_left fun x => x)) fun v hv => ?_, hx20.2⟩
      rcases List.mem_or_eq_of_mem_set hv with hm | hm
      · exact hx20.1.2.2.2.2 v hm
      · rw [hm]; exact own_rdB h1 (fun k hk => hH k ((h1' k hk).1.resolve_left fun x => x)) hQb
  · show (B.l.set bl.toNat _).map bdOf = _
    rw [List.map_set, h.db]
    congr 1
    show bdOf _ = _
    rw [← hbd]
    unfold bdOf
    dsimp only
    rw [List.map_set]
end

end Go.Proofs.Ytfpkaebmiojicaa.Vc

/-! The contracts of layer 13: one step, done by both. -/
namespace Go.Eng
open Go
set_option linter.unusedVariables false
section
variable {E : Nat → Prop} {w0 w w' : World} {Rs Ts : List Asr}
/-- A call that owns the first parts, and knows that they are new. -/
theorem Sep.callB {P : Program} {g : FuncId} {args : Array Value} {l : List Sh} (Rs : List Asr) {Ts : List Asr} (S : Sep E w0 w (Rs ++ Ts)) {C : (Nat → Prop) → RT l → World → Prop}
    (hc : ∀ F, (∀ k, F k → (E k ∨ w0.heap.size ≤ k) ∧ k < w.heap.size) → Sep F w w Rs → CallV P g args w l fun r w' => C F r w') {K : RT l → World → Prop}
    (hk : ∀ F, (∀ w' Ls, Sep F w w' Ls → Sep E w0 w' (Ls ++ Ts)) → ∀ r w', C F r w' → K r w') : CallV P g args w l K := by
  obtain ⟨G, g1, g2, g3⟩ : ∃ G, StarP w Rs G ∧ (∀ k, G k → (E k ∨ w0.heap.size ≤ k) ∧ k < w.heap.size) ∧ ∀ w' Ls, Sep G w w' Ls → Sep E w0 w' (Ls ++ Ts) := by
    obtain ⟨F, h, hb⟩ := S.ex
    obtain ⟨F1, F2, h1, h2, h3, h4, h5⟩ := StarP.app.1 h
    refine ⟨F1, h1, fun k hk => hb k (h4 k hk), fun w' Ls S' => ?_⟩
    have S1 : Sep (fun k => F1 k ∨ F2 k) w w (Rs ++ Ts) := Sep.begin (StarP.app.2 ⟨F1, F2, h1, h2, h3, fun _ => .inl, fun _ => .inr⟩) fun k hk => hk.elim (fun x => (hb k (h4 k x)).2) (fun x => (hb k (h5 k x)).2)
    obtain ⟨G, g1, g2⟩ := S'.ex
    refine ⟨S.fr.trans' S'.fr fun k hk => (hb k (h4 k hk)).1, fun k => G k ∨ F2 k, StarP.app.2 ⟨G, F2, g1, h2.st fun k hk => S'.fr.block k (hb k (h5 k hk)).2 fun x => h3 k x hk, fun k hk hf => ?_, fun k => .inl, fun k => .inr⟩, fun k hk => ?_⟩
    · rcases (g2 k hk).1 with x | x
      · exact h3 k x hf
      · have := (hb k (h5 k hf)).2; omega
    · rcases hk with hk | hk
      · refine ⟨?_, (g2 k hk).2⟩
        rcases (g2 k hk).1 with x | x
        · exact (hb k (h4 k x)).1
        · have := S.fr.size; exact .inr (by omega)
      · exact ⟨(hb k (h5 k hk)).1, Nat.lt_of_lt_of_le (hb k (h5 k hk)).2 S'.fr.size⟩
  exact (hc G g2 (Sep.begin g1 fun k hk => (g2 k hk).2)).mono fun r w' h => hk G g3 r w' h
/-- An open order in which only the first parts are written. -/
theorem Sep.regC (Rs : List Asr) {Ts : List Asr} (S : Sep E w0 w (Rs ++ Ts)) {body : (Nat → Prop) → Prop}
    (h : ∀ F D : Nat → Prop, (∀ k, F k → (E k ∨ w0.heap.size ≤ k) ∧ k < w.heap.size) → Sep F w.drew w.drew Rs → Sep E w0 w.drew (Rs ++ Ts) → (∀ (i : Nat) (b : Nat) (e : TypeId) (vs : List Value), Ts[i]? = some (BoxA b e vs) → D b) → (∀ b, b < w0.heap.size → ¬ E b → D b) → (∀ w', Fr F w.drew w' → KeepOn D w.drew w') → (∀ w' Ls, Sep F w.drew w' Ls → Sep E w0 w' (Ls ++ Ts)) → body D) : DrawV body := by
  have S := S.drew
  obtain ⟨F, hF, hb⟩ := S.ex
  obtain ⟨F1, F2, h1, h2, h3, h4, h5⟩ := StarP.app.1 hF
  have hsz : w0.heap.size ≤ w.drew.heap.size := S.fr.size
  refine DrawV.but F1 w fun D hD hk => h F1 D (fun k hk => hb k (h4 k hk)) (Sep.begin h1 fun k hk => (hb k (h4 k hk)).2) S (fun i b e vs hi => ?_) (fun b hb1 hb2 => ?_) hk fun w' Ls S' => ?_
  · obtain ⟨G, g1, g2⟩ := StarP.get hi h2
    exact hD b (hb b (h5 b (g2 b g1.1))).2 fun x => h3 b x (g2 b g1.1)
  · refine hD b (Nat.lt_of_lt_of_le hb1 hsz) fun x => ?_
    rcases (hb b (h4 b x)).1 with y | y
    · exact hb2 y
    · omega
  · obtain ⟨G, g1, g2⟩ := S'.ex
    refine ⟨S.fr.trans' S'.fr fun k hk => (hb k (h4 k hk)).1, fun k => G k ∨ F2 k, StarP.app.2 ⟨G, F2, g1, h2.st fun k hk => S'.fr.block k (hb k (h5 k hk)).2 fun x => h3 k x hk, fun k hk hf => ?_, fun k => .inl, fun k => .inr⟩, fun k hk => ?_⟩
    · rcases (g2 k hk).1 with x | x
      · exact h3 k x hf
      · have := (hb k (h5 k hf)).2; omega
    · rcases hk with hk | hk
      · refine ⟨?_, (g2 k hk).2⟩
        rcases (g2 k hk).1 with x | x
        · exact (hb k (h4 k x)).1
        · exact .inr (by omega)
      · exact ⟨(hb k (h5 k hk)).1, Nat.lt_of_lt_of_le (hb k (h5 k hk)).2 S'.fr.size⟩
end
end Go.Eng
namespace Go.Proofs.Ytfpkaebmiojicaa.Vc
open Go Go.Eng Go.RowKit
set_option linter.unusedVariables false
set_option linter.unusedSimpArgs false

/-- A page's bytes of a seed. -/
def bytL (n sd : Int) : List Int := (List.range n.toNat).map fun (i : Nat) => Go.bits .or .u8 sd (IntKind.u8.wrap (IntKind.u8.wrap (i : Int) * sd))
theorem bytL_len (n sd : Int) : (bytL n sd).length = n.toNat := by simp [bytL]
theorem bytL_byt (n sd : Int) : Byt (bytL n sd) := fun v hv => by
  obtain ⟨i, -, rfl⟩ := List.mem_map.1 hv
  exact bits8_byt _ _ _
theorem bytes_c {w : World} {n sd : Int} (hn : 0 ≤ n ∧ n ≤ 1000) : CallV Try.prog 51 #[.int .i64 n, .int .u8 sd] w [.one .sl] fun r w' => Res w w' r.1 (bytL n sd) := by
  apply law13_bytes.vc
  unfold law13_bytes.P
  have S := Sep.start NoB w
  refine S.newB fun b1 w1 S f1 _ => ?_
  have S := S.asOwn (sz := 1) (n := 0) rfl (by omega) oneAll.nil
  refine Loop1 (fun (v : SlV × Int × Unit) w' => ∃ i : Nat, v.2.1 = (i : Int) ∧ (i : Int) ≤ n ∧ v.1.n = i ∧ Sep NoB w w' [OwnA 5 1 v.1.a v.1.n v.1.c ((bytL (i : Int) sd).map (Value.int .u8))]) (fun (v : SlV × Int × Unit) _ => (n - v.2.1).toNat) ⟨0, rfl, by omega, rfl, S⟩ ?_
  rintro ⟨⟨a, m, c⟩, (v : Int), ⟨⟩⟩ w4 ⟨i, hv, hi, hm, S⟩
  dsimp only at hv hm S ⊢
  subst hv
  subst hm
  refine cond_d (fun hlt => ?_) (fun hge => ?_)
  · refine S.newB fun b6 w5 S f5 _ => ?_
    refine AppS.of (news := [.int .u8 (Go.bits .or .u8 sd (IntKind.u8.wrap (IntKind.u8.wrap (m : Int) * sd)))]) rfl (.inr ⟨_, rfl, S.cells 0 rfl⟩) ?_
    refine S.ap1 rfl (fun u hu => by rw [List.mem_singleton.1 hu]; rfl) (by omega) (by omega) fun a' c' w6 S f6 => ⟨Rng.i64 (by omega) (by omega), ⟨m + 1, by push_cast; rfl, by omega, rfl, ?_⟩, by omega⟩
    have e : (bytL ((m + 1 : Nat) : Int) sd).map (Value.int .u8) = (bytL (m : Int) sd).map (Value.int .u8) ++ [.int .u8 (Go.bits .or .u8 sd (IntKind.u8.wrap (IntKind.u8.wrap (m : Int) * sd)))] := by
      unfold bytL
      rw [Int.toNat_natCast, Int.toNat_natCast, List.range_succ, List.map_append, List.map_append]
      rfl
    rw [e]
    exact S.sel [1] rfl
  · have : (m : Int) = n := by omega
    subst this
    exact S.out

theorem light_c {w : World} {g : Geo} : CallV Try.prog 41 #[g.val] w [.one .bool] fun r w' => r.1 = decide (LG g) ∧ Ext w w' := by
  apply law13_light.vc
  unfold law13_light.P
  have S := Sep.start NoB w
  refine S.newB fun b1 w1 S f1 _ => ?_
  unfold LG
  refine S.ld0 rfl rfl (cond_d (fun h1 => ?_) fun h1 => ⟨(decide_eq_false fun h => h1 h.1).symm, S.ext⟩)
  refine S.ld0 rfl rfl (cond_d (fun h2 => ?_) fun h2 => ⟨(decide_eq_false fun h => h2 h.2.1).symm, S.ext⟩)
  refine S.ld0 rfl rfl ⟨decide_eq_decide.2 ⟨fun h => ⟨h1, h2, h⟩, fun h => h.2.2⟩, S.ext⟩

/-! ### A step -/
def datC (C : CD) (sd : Int) : List Int := if sd = 7 then (bytL (C.g.s + 88) sd).drop 1 else bytL (C.g.s + 88) sd
/-- What a step makes of an array: a program 1, an erase 2, a scrub 3, a byte changed 4, the power 5. -/
def stC (C : CD) (k bl pa sd : Int) (on : Bool) : CD :=
  if k = 1 then (progC C bl pa (datC C sd)).1 else if k = 2 then (eraC C bl).1 else if k = 3 then (scrC C bl).1 else if k = 4 then (pokC C bl pa pa sd).1 else if k = 5 then { C with off := !on } else C
/-- What it leaves in the trace. -/
def stT (C : CD) (k bl pa sd : Int) : List (Int × Int × Int × List Int × Int) :=
  if k = 1 then (if refC C bl pa (datC C sd).length = 0 then [(1, bl, pa, datC C sd, (codeC C).1)] else []) else if k = 2 then (if mayC C bl = 0 then [(2, bl, 0, [], (codeC C).1)] else []) else if k = 3 then (if mayC C bl = 0 then [(3, bl, 0, [], (codeC C).1)] else []) else []
theorem datC_len {C : CD} (hC : COk C) (sd : Int) : (datC C sd).length ≤ szP C.g ∧ Byt (datC C sd) := by
  obtain ⟨-, -, -, n7, n8⟩ := hC.num
  have e : (C.g.s + 88).toNat = szP C.g := rfl
  unfold datC
  split
  · exact ⟨by rw [List.length_drop, bytL_len]; omega, (bytL_byt _ _).drop 1⟩
  · exact ⟨by rw [bytL_len]; omega, bytL_byt _ _⟩
theorem stC_ok {C : CD} (hC : COk C) (ho : C.ops < 1000000) {k bl pa sd : Int} {on : Bool} (hs : 0 ≤ sd ∧ sd < 256) : COk (stC C k bl pa sd on) := by
  unfold stC
  split
  · unfold progC
    split
    · exact progX_ok hC (by assumption) (datC_len hC sd).2 ho
    · exact hC
  split
  · unfold eraC
    split
    · exact eraX_ok hC (by assumption) ho
    · exact hC
  split
  · unfold scrC
    split
    · exact scrX_ok hC (by assumption) ho
    · exact hC
  split
  · exact pokC_ok hC hs
  split
  · exact ⟨hC.g, hC.lg, hC.bl, hC.bo, hC.pm, hC.ops⟩
  · exact hC
theorem stC_same {C : CD} {k bl pa sd : Int} {on : Bool} : (stC C k bl pa sd on).g = C.g ∧ (stC C k bl pa sd on).pl = C.pl ∧ (stC C k bl pa sd on).ops = C.ops + (stT C k bl pa sd).length := by
  unfold stC stT
  split
  · unfold progC; split <;> exact ⟨rfl, rfl, rfl⟩
  split
  · unfold eraC; split <;> exact ⟨rfl, rfl, rfl⟩
  split
  · unfold scrC; split <;> exact ⟨rfl, rfl, rfl⟩
  split
  · unfold pokC
    split
    · exact ⟨rfl, rfl, rfl⟩
    split <;> exact ⟨rfl, rfl, rfl⟩
  split <;> exact ⟨rfl, rfl, rfl⟩
theorem stT_len {C : CD} {k bl pa sd : Int} : (stT C k bl pa sd).length ≤ 1 := by
  unfold stT
  repeat' split
  all_goals simp
end Go.Proofs.Ytfpkaebmiojicaa.Vc

/-! The contracts of layer 13: one step, done by both: the walk. -/
namespace Go.Proofs.Ytfpkaebmiojicaa.Vc
open Go Go.Eng Go.RowKit
set_option linter.unusedVariables false
set_option linter.unusedSimpArgs false

/-- What a step leaves: both arrays, and the trace. -/
def StepR (F : Nat → Prop) (w w' : World) (p : Nat) (y : Lay) (C' : CD) (L : List TOp) (tr : List (Int × Int × Int × List Int × Int)) (f : SlP TF.T) (r : Int × Int × Int × Int × Int × Int × SlV × SlV × Bool × Int × Unit) : Prop :=
  ∃ (B' : SlP TBd.T) (ta : Option Addr) (tc : Nat) (L' : List TOp), r = chT B' f C' ∧ B'.l.map bdOf = C'.bs ∧ L'.map TOp.dat = L.map TOp.dat ++ tr ∧ Sep F w w' (RdT (Ty.sl TBd) B' :: ChipP p (upT y ta tc) C' L')

section
variable {E : Nat → Prop} {w0 w : World} {B : SlP TBd.T} {f : SlP TF.T} {C : CD} {Ts : List Asr}
/-- A call of the document's array: the answer is a part of its own. -/
theorem refCall {fn : FuncId} {args : Array Value} {l : List Sh} {get : RT l → Int × Int × Int × Int × Int × Int × SlV × SlV × Bool × Int × Unit} {C' : CD} {Q : RT l → Prop} (S : Sep E w0 w (RdT (Ty.sl TBd) B :: Ts)) (hdb : B.l.map bdOf = C.bs) (hf : LF.rd w All f) (hdf : fds f = C.pl)
    (hc : ∀ H : Nat → Prop, (∀ k, w.heap.size ≤ k → H k) → RefR H w B f C → CallV Try.prog fn args w l fun r w' => ∃ B' : SlP TBd.T, get r = chT B' f C' ∧ Q r ∧ RefR H w' B' f C' ∧ Ext w w') {K : RT l → World → Prop}
    (hk : ∀ r w' (B' : SlP TBd.T), get r = chT B' f C' → Q r → B'.l.map bdOf = C'.bs → Ext w w' → Sep E w0 w' (RdT (Ty.sl TBd) B' :: Ts) → K r w') : CallV Try.prog fn args w l K := by
  obtain ⟨F, h1, h2, h3⟩ := Sep.frame1 S
  refine (hc (fun k => F k ∨ w.heap.size ≤ k) (fun k hk => .inr hk) ⟨(Ty.sl TBd).rd_mono (fun k hk _ => .inl hk) h1, hdb, hf, hdf⟩).mono ?_
  rintro r w' ⟨B', g1, g2, g3, g4⟩
  refine hk r w' B' g1 g2 g3.db g4 (h3 w' [_] ⟨(Fr.of g4).any, fun k => (F k ∨ w.heap.size ≤ k) ∧ k < w'.heap.size, ⟨fun k => (F k ∨ w.heap.size ≤ k) ∧ k < w'.heap.size, NoB, (Ty.sl TBd).rd_mono (fun k hk hl => ⟨hk, hl⟩) g3.rb, trivial, fun _ _ x => x, fun _ x => x, fun _ x => x.elim⟩, fun k hk => hk⟩)
end

section
variable {F : Nat → Prop} {w : World} {p : Nat} {y : Lay} {C : CD} {L : List TOp} {B : SlP TBd.T} {f : SlP TF.T}
theorem step13_c {k bl pa sd : Int} {on : Bool} (hC : COk C) (ho : C.ops < 1000000) (hF : fds y.F = C.pl) (hdf : fds f = C.pl) (hdb : B.l.map bdOf = C.bs) (hsd : 0 ≤ sd ∧ sd < 256) (hf : LF.rd w (fun k => ¬ F k) f) (S : Sep F w w (RdT (Ty.sl TBd) B :: ChipP p y C L)) :
    CallV Try.prog 45 #[.pointer (some ⟨p, 0, none⟩), chVal B f C, .agg #[.int .i64 k, .int .i64 bl, .int .i64 pa, .int .u8 sd, .bool on]] w [.agg SH10, .one .bool] fun r w' =>
      r.2.1 = true ∧ StepR F w w' p y (stC C k bl pa sd on) L (stT C k bl pa sd) f r.1 := by
  apply law13_step.vc
  unfold law13_step.P
  obtain ⟨⟨n1, n2⟩, ⟨n3, n4⟩, ⟨n5, n6⟩, n7, n8⟩ := hC.num
  have S := (S.perm (List.perm_append_comm (l₁ := [RdT (Ty.sl TBd) B]) (l₂ := ChipP p y C L))).fold (Rs := ChipP p y C L) (Ts := [RdT (Ty.sl TBd) B])
  refine S.newB fun b1 w1 S f1 _ => ?_
  refine S.newB fun b3 w3 S f3 _ => ?_
  refine S.newB fun b5 w5 S f5 _ => ?_
  have r88 : Rng .i64 (C.g.s + 88) := Rng.i64 (by omega) (by omega)
  refine S.ld2 (j := 2) rfl rfl ⟨r88, S.ld1 (j := 3) rfl rfl ?_⟩
  refine (bytes_c (n := C.g.s + 88) (sd := sd) ⟨by omega, by omega⟩).mono ?_
  rintro ⟨⟨ba, bn, bc⟩, ⟨⟩⟩ w10 h10
  dsimp only
  have S := S.pushO h10.ext h10.own
  have h10l := h10.ints.len
  have h10c := h10.ints.cap
  rw [bytL_len] at h10l
  dsimp only at h10l h10c
  refine ⟨fun (v : SlV × Unit) w' => v.1.n ≤ 1000 ∧ Sep F w w' [RdL [⟨v.1.a, v.1.n, v.1.c, datC C sd⟩], BoxA b5 88 zCH, BoxA b3 93 [.int .i64 k, .int .i64 bl, .int .i64 pa, .int .u8 sd, .bool on], BoxA b1 88 (chV B f C), StarA (ChipP p y C L), RdT (Ty.sl TBd) B], ?_, ?_⟩
  case refine_2 =>
    refine S.ld2 (j := 3) rfl rfl (cond_eq (fun h7 => ?_) (fun h7 => ?_))
    · refine ⟨⟨by omega, by omega⟩, ?_⟩
      intro a95 ha95
      refine ⟨by dsimp only; omega, ?_⟩
      unfold datC
      rw [if_pos h7]
      refine S.conv fun G hG _ x hx => ?_
      rw [List.mem_singleton.1 hx]
      have h8 := TB_sub (l := 1) (hh := bn) (m := bc) (own_rdB (n := bn) (c := bc) hG (G := G) (fun k hk => hk) (bytL_byt _ _)) (by omega) (by omega) (by omega) ha95
      rw [List.take_of_length_le (by rw [List.length_drop, bytL_len]; omega)] at h8
      exact h8
    · refine ⟨by dsimp only; omega, ?_⟩
      unfold datC
      rw [if_neg h7]
      refine S.conv fun G hG _ x hx => ?_
      rw [List.mem_singleton.1 hx]
      exact own_rdB hG (fun k hk => hk) (bytL_byt _ _)
  rintro ⟨⟨va, vn, vc⟩, ⟨⟩⟩ w13 ⟨hvn, S⟩
  dsimp only at hvn S ⊢
  have hf13 : LF.rd w13 All f := LF.rd_mono (fun _ _ _ => trivial) (LF.rd_kp (fun k hk hl => S.fr.block k hl hk) hf)
  have hx13 : Ints w13 .u8 va vn vc (datC C sd) := by
    obtain ⟨G, hG, -⟩ := S.get (i := 0) rfl
    exact Ty.ints (hG _ (List.mem_singleton.2 rfl))
  have fin : ∀ {w' : World} {B' : SlP TBd.T} {C' : CD} {tr : List (Int × Int × Int × List Int × Int)} {ta : Option Addr} {tc : Nat} {L' : List TOp} {R1 R2 R3 R4 : Asr}, C' = stC C k bl pa sd on → tr = stT C k bl pa sd → B'.l.map bdOf = C'.bs → L'.map TOp.dat = L.map TOp.dat ++ tr →
      Sep F w w' [StarA (ChipP p (upT y ta tc) C' L'), R1, R2, R3, R4, RdT (Ty.sl TBd) B'] → StepR F w w' p y (stC C k bl pa sd on) L (stT C k bl pa sd) f (chT B' f C') := by
    intro w' B' C' tr ta tc L' R1 R2 R3 R4 h1 h2 h3 h4 S
    subst h1; subst h2
    refine ⟨B', ta, tc, L', rfl, h3, h4, ?_⟩
    exact ((S.sel [0, 4] rfl).unfold (Rs := ChipP p (upT y ta tc) _ L')).perm List.perm_append_comm
  refine S.ld2 (j := 0) rfl rfl (cond_eq (fun h1 => ?_) (fun h1 => ?_))
  · have h1 : k = 1 := h1
    refine S.la3 rfl (S.lb2 (o := 1) rfl ?_)
    refine refCall (l := [.agg SH10, .one (.int .i64)]) (get := fun r => r.1) (C' := (progC C bl pa (datC C sd)).1) (Q := fun r => r.2.1 = (progC C bl pa (datC C sd)).2) (S.sel [5, 0, 0, 0, 0, 0] rfl) hdb hf13 hdf (fun H hH hR => rProgram13_c hH hR hC ho hx13 (datC_len hC sd).2) ?_
    rintro ⟨_, (e : Int), ⟨⟩⟩ w18 B' hr he hdb' X18 S
    dsimp only at hr he
    subst hr; subst he
    refine S.newB fun b19 w20 S f20 _ => ?_
    refine S.st0 (by rfl) fun w21 S f21 => ?_
    have S := S.sel [6, 2, 2, 0, 1, 0] rfl
    refine Sep.regC [_, _, _] S fun G D hG T S hDt hDo hkeep back => ?_
    refine ⟨hDt 0 _ _ _ rfl, S.la3 rfl ⟨hDt 1 _ _ _ rfl, S.lb4 (o := 1) rfl ?_⟩⟩
    refine Sep.call (ChipQ p y C L [RdL [⟨va, vn, vc, datC C sd⟩]]) (T.unfold (Rs := ChipP p y C L)) (fun G SG => Program13_c (dd := ⟨va, vn, vc, datC C sd⟩) hC hF (by dsimp only; omega) SG) fun G fr r w26 hr => ?_
    obtain ⟨e1, ta, tc, L', hL', S3⟩ := hr
    have T := Sep.fold (Rs := ChipP p (upT y ta tc) (progC C bl pa (datC C sd)).1 L') (Ts := [RdL [⟨va, vn, vc, datC C sd⟩], BoxA b5 _ zCH]) (fr _ _ S3)
    refine ⟨hkeep _ T.fr, T.st2 (by rfl) fun w27 T f27 => ⟨hkeep _ T.fr, T.la2 rfl ⟨?_, ?_⟩⟩⟩
    · rw [e1]; exact beq_self_eq_true _
    · exact fin (by unfold stC; rw [if_pos h1]) (by unfold stT; rw [if_pos h1]) hdb' hL' (back _ _ T)
  refine cond_eq (fun h2 => ?_) (fun h2 => ?_)
  · have h2 : k = 2 := h2
    refine S.la3 rfl (S.ld2 (j := 1) rfl rfl ?_)
    refine refCall (l := [.agg SH10, .one (.int .i64)]) (get := fun r => r.1) (C' := (eraC C bl).1) (Q := fun r => r.2.1 = (eraC C bl).2) (S.sel [5, 0, 0, 0, 0, 0] rfl) hdb hf13 hdf (fun H hH hR => rErase13_c hH hR hC ho) ?_
    rintro ⟨_, (e : Int), ⟨⟩⟩ w18 B' hr he hdb' X18 S
    dsimp only at hr he
    subst hr; subst he
    refine S.newB fun b19 w20 S f20 _ => ?_
    refine S.st0 (by rfl) fun w21 S f21 => ?_
    have S := S.sel [6, 2, 2, 0, 1, 0] rfl
    refine Sep.regC [_, _, _] S fun G D hG T S hDt hDo hkeep back => ?_
    refine ⟨hDt 0 _ _ _ rfl, S.la3 rfl ⟨hDt 1 _ _ _ rfl, S.ld4 (j := 1) rfl rfl ?_⟩⟩
    refine Sep.call (ChipP p y C L) (T.unfold (Rs := ChipP p y C L)) (fun G SG => Erase13_c hC hF SG) fun G fr r w26 hr => ?_
    obtain ⟨e1, ta, tc, L', hL', S3⟩ := hr
    have T := Sep.fold (Rs := ChipP p (upT y ta tc) (eraC C bl).1 L') (Ts := [RdL [⟨va, vn, vc, datC C sd⟩], BoxA b5 _ zCH]) (fr _ _ S3)
    refine ⟨hkeep _ T.fr, T.st2 (by rfl) fun w27 T f27 => ⟨hkeep _ T.fr, T.la2 rfl ⟨?_, ?_⟩⟩⟩
    · rw [e1]; exact beq_self_eq_true _
    · exact fin (by unfold stC; rw [if_neg h1, if_pos h2]) (by unfold stT; rw [if_neg h1, if_pos h2]) hdb' hL' (back _ _ T)
  refine cond_eq (fun h3 => ?_) (fun h3 => ?_)
  · have h3 : k = 3 := h3
    refine S.la3 rfl (S.ld2 (j := 1) rfl rfl ?_)
    refine refCall (l := [.agg SH10, .one (.int .i64)]) (get := fun r => r.1) (C' := (scrC C bl).1) (Q := fun r => r.2.1 = (scrC C bl).2) (S.sel [5, 0, 0, 0, 0, 0] rfl) hdb hf13 hdf (fun H hH hR => rScrub13_c hH hR hC ho) ?_
    rintro ⟨_, (e : Int), ⟨⟩⟩ w18 B' hr he hdb' X18 S
    dsimp only at hr he
    subst hr; subst he
    refine S.newB fun b19 w20 S f20 _ => ?_
    refine S.st0 (by rfl) fun w21 S f21 => ?_
    have S := S.sel [6, 2, 2, 0, 1, 0] rfl
    refine Sep.regC [_, _, _] S fun G D hG T S hDt hDo hkeep back => ?_
    refine ⟨hDt 0 _ _ _ rfl, S.la3 rfl ⟨hDt 1 _ _ _ rfl, S.ld4 (j := 1) rfl rfl ?_⟩⟩
    refine Sep.call (ChipP p y C L) (T.unfold (Rs := ChipP p y C L)) (fun G SG => Scrub13_c hC hF SG) fun G fr r w26 hr => ?_
    obtain ⟨e1, ta, tc, L', hL', S3⟩ := hr
    have T := Sep.fold (Rs := ChipP p (upT y ta tc) (scrC C bl).1 L') (Ts := [RdL [⟨va, vn, vc, datC C sd⟩], BoxA b5 _ zCH]) (fr _ _ S3)
    refine ⟨hkeep _ T.fr, T.st2 (by rfl) fun w27 T f27 => ⟨hkeep _ T.fr, T.la2 rfl ⟨?_, ?_⟩⟩⟩
    · rw [e1]; exact beq_self_eq_true _
    · exact fin (by unfold stC; rw [if_neg h1, if_neg h2, if_pos h3]) (by unfold stT; rw [if_neg h1, if_neg h2, if_pos h3]) hdb' hL' (back _ _ T)
  refine cond_eq (fun h4 => ?_) (fun h4 => ?_)
  · have h4 : k = 4 := h4
    refine S.la3 rfl (S.lb2 (o := 1) rfl (S.ld2 (j := 2) rfl rfl (S.ld2 (j := 3) rfl rfl ?_)))
    refine refCall (l := [.agg SH10, .one (.int .i64)]) (get := fun r => r.1) (C' := (pokC C bl pa pa sd).1) (Q := fun r => r.2.1 = (pokC C bl pa pa sd).2) (S.sel [5, 0, 0, 0, 0, 0] rfl) hdb hf13 hdf (fun H hH hR => rPoke13_c hH hR hC hsd) ?_
    rintro ⟨_, (e : Int), ⟨⟩⟩ w18 B' hr he hdb' X18 S
    dsimp only at hr he
    subst hr; subst he
    refine S.newB fun b19 w20 S f20 _ => ?_
    refine S.st0 (by rfl) fun w21 S f21 => ?_
    have S := S.sel [6, 2, 2, 0, 1, 0] rfl
    refine Sep.regC [_, _, _] S fun G D hG T S hDt hDo hkeep back => ?_
    refine ⟨hDt 0 _ _ _ rfl, S.la3 rfl ⟨hDt 1 _ _ _ rfl, S.lb4 (o := 1) rfl ⟨hDt 1 _ _ _ rfl, S.ld4 (j := 2) rfl rfl ⟨hDt 1 _ _ _ rfl, S.ld4 (j := 3) rfl rfl ?_⟩⟩⟩⟩
    refine Sep.call (ChipP p y C L) (T.unfold (Rs := ChipP p y C L)) (fun G SG => Poke_c hC hsd SG) fun G fr r w26 hr => ?_
    obtain ⟨e1, S3⟩ := hr
    have T := Sep.fold (Rs := ChipP p (upT y y.T.a y.T.c) (pokC C bl pa pa sd).1 L) (Ts := [RdL [⟨va, vn, vc, datC C sd⟩], BoxA b5 _ zCH]) (fr _ _ S3)
    refine ⟨hkeep _ T.fr, T.st2 (by rfl) fun w27 T f27 => ⟨hkeep _ T.fr, T.la2 rfl ⟨?_, ?_⟩⟩⟩
    · rw [e1]; exact beq_self_eq_true _
    · exact fin (by unfold stC; rw [if_neg h1, if_neg h2, if_neg h3, if_pos h4]) (by unfold stT; rw [if_neg h1, if_neg h2, if_neg h3]) hdb' (by simp) (back _ _ T)
  have hpre : stC C k bl pa sd on = if k = 5 then { C with off := !on } else C := by unfold stC; rw [if_neg h1, if_neg h2, if_neg h3, if_neg h4]
  have hpt : stT C k bl pa sd = [] := by unfold stT; rw [if_neg h1, if_neg h2, if_neg h3]
  refine cond_eq (fun h5 => ?_) (fun h5 => ?_)
  · have h5 : k = 5 := h5
    rw [if_pos h5] at hpre
    have S := S.sel [4, 1, 0, 0, 0, 0] rfl
    refine S.ld3 (j := 4) rfl rfl ?_
    refine Sep.call (ChipP p y C L) (S.unfold (Rs := ChipP p y C L)) (fun G SG => Power_c (on := on) SG) fun G fr r w14 S3 => ?_
    have S := Sep.fold (Rs := ChipP p (upT y y.T.a y.T.c) { C with off := !on } L) (Ts := [_, _, _, _, _]) (fr _ _ S3)
    refine S.ld3 (j := 4) rfl rfl (S.su4 (j := 8) (by rfl) fun w15 S f15 => ?_)
    refine Sep.regC [_, _] S fun G D hG T S hDt hDo hkeep back => ?_
    refine ⟨hDt 2 _ _ _ rfl, S.la4 rfl ⟨hDt 2 _ _ _ rfl, S.ld4 (j := 8) rfl rfl ?_⟩⟩
    refine (On_c (C := { C with off := !on }) (y := upT y y.T.a y.T.c) ⟨hC.g, hC.lg, hC.bl, hC.bo, hC.pm, hC.ops⟩ (T.unfold (Rs := ChipP p (upT y y.T.a y.T.c) { C with off := !on } L))).mono ?_
    rintro ⟨(r : Bool), ⟨⟩⟩ w16 ⟨h16, rfl⟩
    dsimp only at h16
    subst h16
    refine ⟨hkeep _ (Fr.refl _ _), T.st1 (by rfl) fun w17 T f17 => ⟨hkeep _ T.fr, T.la1 rfl ⟨beq_self_eq_true _, ?_⟩⟩⟩
    exact fin (C' := { C with off := !on }) hpre.symm hpt.symm hdb (by simp) (back _ _ T)
  · have h5 : ¬ k = 5 := h5
    rw [if_neg h5] at hpre
    have S := S.sel [4, 1, 0, 0, 0, 0] rfl
    refine Sep.regC [_, _] S fun G D hG T S hDt hDo hkeep back => ?_
    refine ⟨hDt 2 _ _ _ rfl, S.la4 rfl ⟨hDt 2 _ _ _ rfl, S.ld4 (j := 8) rfl rfl ?_⟩⟩
    refine (On_c (C := C) (y := upT y y.T.a y.T.c) hC (T.unfold (Rs := ChipP p (upT y y.T.a y.T.c) C L))).mono ?_
    rintro ⟨(r : Bool), ⟨⟩⟩ w16 ⟨h16, rfl⟩
    dsimp only at h16
    subst h16
    refine ⟨hkeep _ (Fr.refl _ _), T.st1 (by rfl) fun w17 T f17 => ⟨hkeep _ T.fr, T.la1 rfl ⟨beq_self_eq_true _, ?_⟩⟩⟩
    exact fin (C' := C) hpre.symm hpt.symm hdb (by simp) (back _ _ T)
end
end Go.Proofs.Ytfpkaebmiojicaa.Vc

/-! The contracts of layer 13: does the program answer; the trace. -/
namespace Go.Proofs.Ytfpkaebmiojicaa.Vc
open Go Go.Eng Go.RowKit
set_option linter.unusedVariables false
set_option linter.unusedSimpArgs false

abbrev gAw : Geo := ⟨7, 10, 64, 0, 1, 1⟩
theorem aw1 : Right gAw := by decide
theorem aw2 : refC (newC gAw []) 1 2 152 = 0 := by decide +kernel
theorem aw3 : (codeC (newC gAw [])).1 = 0 := by decide +kernel
theorem aw4 : readC (progX (newC gAw []) 1 2 (List.replicate 152 0)) 1 2 = 0 := by decide +kernel
theorem aw5 : pgC13 (progX (newC gAw []) 1 2 (List.replicate 152 0)) 1 2 = List.replicate 152 0 := by decide +kernel
theorem zs152 : (List.replicate 152 [Value.int .u8 0]).flatten = (List.replicate 152 0).map (Value.int .u8) := by rw [List.map_replicate]; exact List.flatten_replicate_singleton
theorem awake13_c {w : World} : CallV Try.prog 42 #[] w [.one .bool] fun r w' => r.1 = true ∧ Ext w w' := by
  apply law13_awake.vc
  unfold law13_awake.P
  refine (New13_c (g := gAw) (x := ⟨none, 0, 0, []⟩) (G := All) ⟨rfl, Nat.le_refl _, Nat.zero_le _, .inl ⟨rfl, rfl⟩, fun y hy => (List.not_mem_nil hy).elim⟩ (fun f hf => (List.not_mem_nil hf).elim)).mono ?_
  rintro ⟨_, (e : Int), ⟨⟩⟩ w2 ⟨X2, -, h⟩
  rw [show fds ⟨none, 0, 0, []⟩ = [] from rfl] at h
  obtain ⟨he, p, y, hp, hF, S⟩ := h ⟨aw1, ⟨fun f hf => (List.not_mem_nil hf).elim, by decide⟩⟩
  dsimp only at he hp
  subst he; subst hp
  have hC : COk (newC gAw []) := newC_ok aw1 (by decide) (fun f hf => (List.not_mem_nil hf).elim)
  refine ⟨by decide, ?_⟩
  refine S.newB fun b3 w4 S f4 _ => ?_
  rw [zs152] at S
  have S := S.asOwn (sz := 1) (n := 152) (by simp) (by omega) (oneAll.ints _ _)
  have S := S.conv (R' := RdL [⟨some ⟨b3, 0, none⟩, 152, 152, List.replicate 152 0⟩]) fun G hG _ x hx => by
    rw [List.mem_singleton.1 hx]
    exact own_rdB hG (fun k hk => hk) (Byt.replicate (by decide) (by decide) _)
  have S := S.perm (List.perm_append_comm (l₁ := [RdL [⟨some ⟨b3, 0, none⟩, 152, 152, List.replicate 152 0⟩]]) (l₂ := ChipP p y (newC gAw []) []))
  refine Sep.call (ChipQ p y (newC gAw []) [] [RdL [⟨some ⟨b3, 0, none⟩, 152, 152, List.replicate 152 0⟩]]) (Ts := []) S (fun G SG => Program13_c (dd := ⟨some ⟨b3, 0, none⟩, 152, 152, List.replicate 152 0⟩) hC hF (by dsimp only; omega) SG) fun G fr r w6 hr => ?_
  obtain ⟨e1, ta, tc, L', hL', S3⟩ := hr
  have S := fr _ _ S3
  have hP : progC (newC gAw []) 1 2 (List.replicate 152 0) = (progX (newC gAw []) 1 2 (List.replicate 152 0), 0) := by
    unfold progC
    rw [if_pos (by rw [List.length_replicate]; exact aw2), aw3]
  dsimp only at e1 S
  rw [hP] at e1 S
  dsimp only at e1 S
  have hC2 : COk (progX (newC gAw []) 1 2 (List.replicate 152 0)) := progX_ok hC (by rw [List.length_replicate]; exact aw2) (Byt.replicate (by decide) (by decide) _) (by decide)
  generalize hCC : progX (newC gAw []) 1 2 (List.replicate 152 0) = CC at S hC2
  have q4 := aw4
  have q5 := aw5
  rw [hCC] at q4 q5
  have q6 : CC.ops = 1 := by rw [← hCC]; rfl
  refine (Read13_c (bl := 1) (pa := 2) hC2 S).mono ?_
  rintro ⟨⟨ra, rn, rc⟩, (e : Int), ⟨⟩⟩ w8 ⟨h8, -, h9⟩
  have h8' : Res w6 w8 (⟨ra, rn, rc⟩ : SlV) (List.replicate 152 0) := by rw [← q5]; exact h9 q4
  clear h9
  rw [q4] at h8
  dsimp only at h8 ⊢
  subst h8
  have hl := h8'.ints.len
  rw [List.length_replicate] at hl
  dsimp only at hl
  subst hl
  obtain ⟨q, g1, -, g3⟩ := h8'.ints.at (i := 0) (by omega) (show (0 : Int) < ((152 : Nat) : Int) by omega)
  refine cond_t rfl (cond_t (by rw [e1]; rfl) (cond_t rfl (cond_t rfl ⟨⟨by omega, show (0 : Int) < ((152 : Nat) : Int) by omega⟩, q, g1, _, g3, cond_t rfl ?_⟩)))
  refine (Ops_c (S.stepE h8'.ext)).mono ?_
  rintro ⟨(o : Int), ⟨⟩⟩ w9 ⟨h9, rfl⟩
  dsimp only at h9 ⊢
  subst h9
  rw [q6]
  exact ⟨rfl, S.ext.trans h8'.ext⟩
end Go.Proofs.Ytfpkaebmiojicaa.Vc

/-! The plans of functions as plain statements, printed by wip/tools/vcgen.py; the kernel holds each to the code. -/
namespace Go.Proofs.Ytfpkaebmiojicaa.Vc
open Go Go.Eng
set_option linter.unusedVariables false

/-! ### nepenthe/nepenthelaw13.NandReads: function 11 -/
-- loop 0 carries 8: .one (.int .i64)
def law13_NandReads.A : Ann := .two .no (.two .no (.two .no (.two .no (.join [8, 43, 44, 45, 46, 47, 48, 49, 50, 51, 52, 53, 54, 55, 56, 57, 58, 59, 60, 61, 62, 63, 64] [] (.two .no (.one (.loop [8, 43, 44, 45, 46, 47, 48, 49, 50, 51, 52, 53, 54, 55, 56, 57, 58, 59, 60, 61, 62, 63, 64] [(8, .one (.int .i64))] (.two .no (.two (.one (.draw (.take 0 (.take 2 (.take 3 (.take 4 (.take 5 (.take 6 (.eff 1 (.eff 7 (.take 8 (.take 9 (.take 10 (.eff 11 (.done))))))))))))))) .no))))) (.two .no (.two .no (.two .no (.two (.two (.draw (.take 0 (.take 1 (.take 2 (.take 3 (.take 4 (.take 5 (.take 6 (.take 7 (.take 8 (.take 9 (.take 10 (.take 11 (.take 12 (.take 13 (.take 14 (.eff 15 (.take 16 (.take 17 (.done)))))))))))))))))))) .no) (.two .no (.two .no (.two (.draw (.take 0 (.take 1 (.take 2 (.take 3 (.take 4 (.take 5 (.take 6 (.take 7 (.take 8 (.take 9 (.take 10 (.take 11 (.take 12 (.take 13 (.take 14 (.eff 15 (.take 16 (.take 17 (.eff 18 (.take 19 (.take 20 (.done))))))))))))))))))))))) .no)))))))))))
def law13_NandReads.P (p0_0 : Int) (p0_1 : Int) (p0_2 : Int) (p0_3 : Int) (p0_4 : Int) (p0_5 : Int) (a0_6 : Option Addr) (n0_6 c0_6 : Nat) (a0_7 : Option Addr) (n0_7 c0_7 : Nat) (p1_0 : Int) (p1_1 : Int) (w : World) (K : Bool × Unit → World → Prop) : Prop :=
  NewV #[.int .i64 p0_0, .int .i64 p0_1, .int .i64 p0_2, .int .i64 p0_3, .int .i64 p0_4, .int .i64 p0_5, .slice a0_6 n0_6 c0_6, .slice a0_7 n0_7 c0_7] 79 w fun b1 w2 =>
  NewV #[.int .i64 p1_0, .int .i64 p1_1] 81 w2 fun b3 w4 =>
  LoadA w4 ⟨b1, 0, none⟩ [.int .i64, .int .i64, .int .i64, .int .i64, .int .i64, .int .i64] fun (x5 : Int × Int × Int × Int × Int × Int × Unit) =>
  CallV Try.prog 17 #[.agg #[.int .i64 x5.1, .int .i64 x5.2.1, .int .i64 x5.2.2.1, .int .i64 x5.2.2.2.1, .int .i64 x5.2.2.2.2.1, .int .i64 x5.2.2.2.2.2.1]] w4 [.one .bool] fun (r6 : Bool × Unit) w7 =>
  cond (!r6.1)
  (CallV Try.prog 42 #[] w7 [.one .bool] fun (r8 : Bool × Unit) w9 =>
  K (r8.1, ()) w9)
  (LoadS w7 ⟨b1, 6, none⟩ .sl fun (x10 : SlV) =>
  CallV Try.prog 40 #[.slice x10.a x10.n x10.c] w7 [.one .bool] fun (r11 : Bool × Unit) w12 =>
  cond (!r11.1)
  (CallV Try.prog 42 #[] w12 [.one .bool] fun (r13 : Bool × Unit) w14 =>
  K (r13.1, ()) w14)
  (LoadA w12 ⟨b1, 0, none⟩ [.int .i64, .int .i64, .int .i64, .int .i64, .int .i64, .int .i64] fun (x15 : Int × Int × Int × Int × Int × Int × Unit) =>
  CallV Try.prog 41 #[.agg #[.int .i64 x15.1, .int .i64 x15.2.1, .int .i64 x15.2.2.1, .int .i64 x15.2.2.2.1, .int .i64 x15.2.2.2.2.1, .int .i64 x15.2.2.2.2.2.1]] w12 [.one .bool] fun (r16 : Bool × Unit) w17 =>
  cond (!r16.1)
  (CallV Try.prog 42 #[] w17 [.one .bool] fun (r18 : Bool × Unit) w19 =>
  K (r18.1, ()) w19)
  (LoadA w17 ⟨b1, 0, none⟩ [.int .i64, .int .i64, .int .i64, .int .i64, .int .i64, .int .i64] fun (x20 : Int × Int × Int × Int × Int × Int × Unit) =>
  LoadS w17 ⟨b1, 6, none⟩ .sl fun (x21 : SlV) =>
  CallV Try.prog 43 #[.agg #[.int .i64 x20.1, .int .i64 x20.2.1, .int .i64 x20.2.2.1, .int .i64 x20.2.2.2.1, .int .i64 x20.2.2.2.2.1, .int .i64 x20.2.2.2.2.2.1], .slice x21.a x21.n x21.c] w17 [.one .ptr, .one (.int .i64)] fun (r22 : (Option Addr) × Int × Unit) w23 =>
  LoadA w23 ⟨b1, 0, none⟩ [.int .i64, .int .i64, .int .i64, .int .i64, .int .i64, .int .i64] fun (x24 : Int × Int × Int × Int × Int × Int × Unit) =>
  LoadS w23 ⟨b1, 6, none⟩ .sl fun (x25 : SlV) =>
  CallV Try.prog 44 #[.agg #[.int .i64 x24.1, .int .i64 x24.2.1, .int .i64 x24.2.2.1, .int .i64 x24.2.2.2.1, .int .i64 x24.2.2.2.2.1, .int .i64 x24.2.2.2.2.2.1], .slice x25.a x25.n x25.c] w23 [.agg [.int .i64, .int .i64, .int .i64, .int .i64, .int .i64, .int .i64, .sl, .sl, .bool, .int .i64]] fun (r26 : (Int × Int × Int × Int × Int × Int × SlV × SlV × Bool × Int × Unit) × Unit) w27 =>
  NewV #[.int .i64 0, .int .i64 0, .int .i64 0, .int .i64 0, .int .i64 0, .int .i64 0, .slice none 0 0, .slice none 0 0, .bool false, .int .i64 0] 88 w27 fun b28 w29 =>
  StoreV w29 ⟨b28, 0, none⟩ [.int .i64 r26.1.1, .int .i64 r26.1.2.1, .int .i64 r26.1.2.2.1, .int .i64 r26.1.2.2.2.1, .int .i64 r26.1.2.2.2.2.1, .int .i64 r26.1.2.2.2.2.2.1, .slice r26.1.2.2.2.2.2.2.1.a r26.1.2.2.2.2.2.2.1.n r26.1.2.2.2.2.2.2.1.c, .slice r26.1.2.2.2.2.2.2.2.1.a r26.1.2.2.2.2.2.2.2.1.n r26.1.2.2.2.2.2.2.2.1.c, .bool r26.1.2.2.2.2.2.2.2.2.1, .int .i64 r26.1.2.2.2.2.2.2.2.2.2.1] fun w30 =>
  JoinV [] (fun (v32 : Unit) w33 =>
  LoadA w33 ⟨b3, 0, none⟩ [.int .i64, .int .i64] fun (x34 : Int × Int × Unit) =>
  CallV Try.prog 46 #[.pointer r22.1, .agg #[.int .i64 x34.1, .int .i64 x34.2.1]] w33 [.one .sl, .one (.int .i64)] fun (r35 : SlV × Int × Unit) w36 =>
  LoadS w36 ⟨b28, 8, none⟩ .bool fun (x37 : Bool) =>
  cond x37
  (cond (r35.2.1 == 4)
  (cond (((r35.1.n : Nat) : Int) == 0)
  (CallV Try.prog 42 #[] w36 [.one .bool] fun (r38 : Bool × Unit) w39 =>
  K (r38.1, ()) w39)
  (K (false, ()) w36))
  (K (false, ()) w36))
  (LoadA w36 ⟨b1, 0, none⟩ [.int .i64, .int .i64, .int .i64, .int .i64, .int .i64, .int .i64] fun (x40 : Int × Int × Int × Int × Int × Int × Unit) =>
  LoadA w36 ⟨b3, 0, none⟩ [.int .i64, .int .i64] fun (x41 : Int × Int × Unit) =>
  CallV Try.prog 47 #[.agg #[.int .i64 x40.1, .int .i64 x40.2.1, .int .i64 x40.2.2.1, .int .i64 x40.2.2.2.1, .int .i64 x40.2.2.2.2.1, .int .i64 x40.2.2.2.2.2.1], .agg #[.int .i64 x41.1, .int .i64 x41.2.1]] w36 [.one .bool] fun (r42 : Bool × Unit) w43 =>
  cond (!r42.1)
  (cond (r35.2.1 == 2)
  (cond (((r35.1.n : Nat) : Int) == 0)
  (CallV Try.prog 42 #[] w43 [.one .bool] fun (r44 : Bool × Unit) w45 =>
  K (r44.1, ()) w45)
  (K (false, ()) w43))
  (K (false, ()) w43))
  (DrawV fun D46 =>
  cond (r35.2.1 != 0)
  (K (false, ()) w43.drew)
  ((D46 b28 ∧ LoadS w43.drew ⟨b28, 6, none⟩ .sl fun (x47 : SlV) =>
  (D46 b3 ∧ LoadS w43.drew ⟨b3, 0, none⟩ (.int .i64) fun (x48 : Int) =>
  (0 ≤ x48 ∧ x48 < ((x47.n : Nat) : Int)) ∧ ∃ q49 : Addr, x47.a = some q49 ∧
  (D46 (q49.add (x48.toNat * 5)).block ∧ LoadS w43.drew (q49.add (x48.toNat * 5)) .sl fun (x50 : SlV) =>
  (D46 b3 ∧ LoadS w43.drew ⟨b3, 1, none⟩ (.int .i64) fun (x51 : Int) =>
  (0 ≤ x51 ∧ x51 < ((x50.n : Nat) : Int)) ∧ ∃ q52 : Addr, x50.a = some q52 ∧
  (D46 (q52.add (x51.toNat * 1)).block ∧ LoadS w43.drew (q52.add (x51.toNat * 1)) .sl fun (x53 : SlV) =>
  CallV Try.prog 19 #[.slice r35.1.a r35.1.n r35.1.c, .slice x53.a x53.n x53.c] w43.drew [.one .bool] fun (r54 : Bool × Unit) w55 =>
  KeepOn D46 w43.drew w55 ∧
  cond (!r54.1)
  (K (false, ()) w55)
  ((0 ≤ (0 : Int) ∧ 0 < ((r35.1.n : Nat) : Int)) ∧ ∃ q56 : Addr, r35.1.a = some q56 ∧
  LoadS w55 (q56.add (0 * 1)) (.int .u8) fun (x57 : Int) =>
  (0 ≤ (0 : Int) ∧ 0 < ((r35.1.n : Nat) : Int)) ∧ ∃ q58 : Addr, r35.1.a = some q58 ∧
  StoreV w55 (q58.add (0 * 1)) [.int .u8 (Go.bits .xor .u8 x57 255)] fun w59 =>
  LoadA w59 ⟨b3, 0, none⟩ [.int .i64, .int .i64] fun (x60 : Int × Int × Unit) =>
  CallV Try.prog 46 #[.pointer r22.1, .agg #[.int .i64 x60.1, .int .i64 x60.2.1]] w59 [.one .sl, .one (.int .i64)] fun (r61 : SlV × Int × Unit) w62 =>
  DrawV fun D63 =>
  cond (r61.2.1 == 0)
  ((D63 b28 ∧ LoadS w62.drew ⟨b28, 6, none⟩ .sl fun (x64 : SlV) =>
  (D63 b3 ∧ LoadS w62.drew ⟨b3, 0, none⟩ (.int .i64) fun (x65 : Int) =>
  (0 ≤ x65 ∧ x65 < ((x64.n : Nat) : Int)) ∧ ∃ q66 : Addr, x64.a = some q66 ∧
  (D63 (q66.add (x65.toNat * 5)).block ∧ LoadS w62.drew (q66.add (x65.toNat * 5)) .sl fun (x67 : SlV) =>
  (D63 b3 ∧ LoadS w62.drew ⟨b3, 1, none⟩ (.int .i64) fun (x68 : Int) =>
  (0 ≤ x68 ∧ x68 < ((x67.n : Nat) : Int)) ∧ ∃ q69 : Addr, x67.a = some q69 ∧
  (D63 (q69.add (x68.toNat * 1)).block ∧ LoadS w62.drew (q69.add (x68.toNat * 1)) .sl fun (x70 : SlV) =>
  CallV Try.prog 19 #[.slice r61.1.a r61.1.n r61.1.c, .slice x70.a x70.n x70.c] w62.drew [.one .bool] fun (r71 : Bool × Unit) w72 =>
  KeepOn D63 w62.drew w72 ∧
  cond r71.1
  (CallV Try.prog 42 #[] w72 [.one .bool] fun (r73 : Bool × Unit) w74 =>
  KeepOn D63 w62.drew w74 ∧
  K (r73.1, ()) w74)
  (K (false, ()) w72)))))))
  (K (false, ()) w62.drew))))))))))) fun (J31 : Unit → World → Prop) =>
  LoopV [.one (.int .i64)] ((0 : Int), ()) w30 fun (z75 : Int × Unit) w76 (K77 : Int × Unit → World → Prop) =>
  LoadS w76 ⟨b1, 7, none⟩ .sl fun (x78 : SlV) =>
  cond (decide (z75.1 < ((x78.n : Nat) : Int)))
  (cond (decide (z75.1 < 20))
  (DrawV fun D79 =>
  (D79 b1 ∧ LoadS w76.drew ⟨b1, 7, none⟩ .sl fun (x80 : SlV) =>
  (0 ≤ z75.1 ∧ z75.1 < ((x80.n : Nat) : Int)) ∧ ∃ q81 : Addr, x80.a = some q81 ∧
  (D79 (q81.add (z75.1.toNat * 5)).block ∧ LoadA w76.drew (q81.add (z75.1.toNat * 5)) [.int .i64, .int .i64, .int .i64, .int .u8, .bool] fun (x82 : Int × Int × Int × Int × Bool × Unit) =>
  LoadA w76.drew ⟨b28, 0, none⟩ [.int .i64, .int .i64, .int .i64, .int .i64, .int .i64, .int .i64, .sl, .sl, .bool, .int .i64] fun (x83 : Int × Int × Int × Int × Int × Int × SlV × SlV × Bool × Int × Unit) =>
  KeepOn D79 w76.drew w76.drew ∧
  CallV Try.prog 45 #[.pointer r22.1, .agg #[.int .i64 x83.1, .int .i64 x83.2.1, .int .i64 x83.2.2.1, .int .i64 x83.2.2.2.1, .int .i64 x83.2.2.2.2.1, .int .i64 x83.2.2.2.2.2.1, .slice x83.2.2.2.2.2.2.1.a x83.2.2.2.2.2.2.1.n x83.2.2.2.2.2.2.1.c, .slice x83.2.2.2.2.2.2.2.1.a x83.2.2.2.2.2.2.2.1.n x83.2.2.2.2.2.2.2.1.c, .bool x83.2.2.2.2.2.2.2.2.1, .int .i64 x83.2.2.2.2.2.2.2.2.2.1], .agg #[.int .i64 x82.1, .int .i64 x82.2.1, .int .i64 x82.2.2.1, .int .u8 x82.2.2.2.1, .bool x82.2.2.2.2.1]] w76.drew [.agg [.int .i64, .int .i64, .int .i64, .int .i64, .int .i64, .int .i64, .sl, .sl, .bool, .int .i64], .one .bool] fun (r84 : (Int × Int × Int × Int × Int × Int × SlV × SlV × Bool × Int × Unit) × Bool × Unit) w85 =>
  KeepOn D79 w76.drew w85 ∧
  StoreV w85 ⟨b28, 0, none⟩ [.int .i64 r84.1.1, .int .i64 r84.1.2.1, .int .i64 r84.1.2.2.1, .int .i64 r84.1.2.2.2.1, .int .i64 r84.1.2.2.2.2.1, .int .i64 r84.1.2.2.2.2.2.1, .slice r84.1.2.2.2.2.2.2.1.a r84.1.2.2.2.2.2.2.1.n r84.1.2.2.2.2.2.2.1.c, .slice r84.1.2.2.2.2.2.2.2.1.a r84.1.2.2.2.2.2.2.2.1.n r84.1.2.2.2.2.2.2.2.1.c, .bool r84.1.2.2.2.2.2.2.2.2.1, .int .i64 r84.1.2.2.2.2.2.2.2.2.2.1] fun w86 =>
  KeepOn D79 w76.drew w86 ∧
  Rng .i64 (z75.1 + 1) ∧
  K77 (z75.1 + 1, ()) w86)))
  (J31 (()) w76))
  (J31 (()) w76))))
theorem law13_NandReads.vc (p0_0 : Int) (p0_1 : Int) (p0_2 : Int) (p0_3 : Int) (p0_4 : Int) (p0_5 : Int) (a0_6 : Option Addr) (n0_6 c0_6 : Nat) (a0_7 : Option Addr) (n0_7 c0_7 : Nat) (p1_0 : Int) (p1_1 : Int) (w : World) (K : Bool × Unit → World → Prop) (h : law13_NandReads.P p0_0 p0_1 p0_2 p0_3 p0_4 p0_5 a0_6 n0_6 c0_6 a0_7 n0_7 c0_7 p1_0 p1_1 w K) : CallV Try.prog 11 #[.agg #[.int .i64 p0_0, .int .i64 p0_1, .int .i64 p0_2, .int .i64 p0_3, .int .i64 p0_4, .int .i64 p0_5, .slice a0_6 n0_6 c0_6, .slice a0_7 n0_7 c0_7], .agg #[.int .i64 p1_0, .int .i64 p1_1]] w [.one .bool] K := by
  have e : vcFun Try.prog okf false Try.f11 law13_NandReads.A #[.agg #[.int .i64 p0_0, .int .i64 p0_1, .int .i64 p0_2, .int .i64 p0_3, .int .i64 p0_4, .int .i64 p0_5, .slice a0_6 n0_6 c0_6, .slice a0_7 n0_7 c0_7], .agg #[.int .i64 p1_0, .int .i64 p1_1]] w [.one .bool] K = law13_NandReads.P p0_0 p0_1 p0_2 p0_3 p0_4 p0_5 a0_6 n0_6 c0_6 a0_7 n0_7 c0_7 p1_0 p1_1 w K := by kernel_rfl
  exact vcFun.calls okf_ok follows Try.func11 (e.symm ▸ h)

end Go.Proofs.Ytfpkaebmiojicaa.Vc

/-! What any parameter of a law is known to be, with the sizes of what it holds: structs, arrays and slices of whole numbers, texts, and of each other. -/
namespace Go.Proofs.Ytfpkaebmiojicaa.Vc
open Go Go.Eng Go.RowKit Go.ChangeShapes
set_option linter.unusedVariables false
set_option linter.unusedSimpArgs false

/-- No slice or text in it is longer than what an address space holds. -/
def Ty.big : (t : Ty) → t.T → Prop
  | .int _, _ => True
  | .bool, _ => True
  | .str, (x : ByteArray) => x.size ≤ 140737488351232
  | .sl e, (x : SlP e.T) => x.n ≤ 140737488351232 ∧ ∀ y ∈ x.l, e.big y
  | .nil, _ => True
  | .cons a r, (x : a.T × r.T) => a.big x.1 ∧ r.big x.2

/-- The elements of every slice have some byte. -/
def posF (P : Program) (cf : Ty → TypeId → Bool) : Ty → List Field → Bool
  | .cons a r, f :: fs => cf a f.type && posF P cf r fs
  | _, _ => true
def posA (cf : Ty → TypeId → Bool) (e : TypeId) : Ty → Nat → Bool
  | .cons a r, n + 1 => cf a e && posA cf e r n
  | _, _ => true
def pos (P : Program) : Nat → Ty → TypeId → Bool
  | 0, _, _ => false
  | d + 1, t, i =>
    match P.underlying i, t with
    | some (.slice e), .sl t => pos P d t e && Nat.ble 1 (P.bytesOf e)
    | some (.struct fs), t => posF P (pos P d) t fs.toList
    | some (.array n e), t => posA (pos P d) e t n
    | _, _ => true

section
variable {H : Type} {enc : TypeId × Value → H} {P : Program} {w : World}
def Fit (l : List Nat) : Prop := l.all (· ≤ reachBytes) = true
theorem Fit.app {l m : List Nat} : Fit (l ++ m) ↔ Fit l ∧ Fit m := by unfold Fit; rw [List.all_append, Bool.and_eq_true]
theorem Fit.cons {a : Nat} {m : List Nat} : Fit (a :: m) ↔ a ≤ reachBytes ∧ Fit m := by unfold Fit; rw [List.all_cons, Bool.and_eq_true]; simp

def OpensS (enc : TypeId × Value → H) (P : Program) (w : World) (d : Nat) : Prop :=
  ∀ (ty : Ty) (t : TypeId) (fuel : Nat) (cs : List Value) (x : DataW H × List MemPlace), conf P d ty t = true → pos P d ty t = true → DataW.trod enc P w 0 (fun _ => true) true fuel t cs = some x →
    ∃ v : ty.T, cs = ty.vs v ∧ ty.ok w v ∧ (Fit (x.1.weights P t) → ty.big v)

theorem openFS {d : Nat} (ih : OpensS enc P w d) {n : Nat} {cs : List Value} : ∀ (ty : Ty) (fs : List Field) (o : Nat) (xs : List (DataW H × List MemPlace)), confF P (conf P d) ty fs o = true → posF P (pos P d) ty fs = true → cs.length = o + ty.n → xs.length = fs.length →
    (∀ (i : Nat) (f : Field), fs[i]? = some f → DataW.trod enc P w 0 (fun _ => true) true n f.type ((cs.drop f.offset).take (P.cellsOf f.type)) = xs[i]?) →
    ∃ v : ty.T, cs.drop o = ty.vs v ∧ ty.ok w v ∧ (Fit (DataW.weightsEach P (fs.map (·.type)) (xs.map (·.1))) → ty.big v)
  | .nil, [], o, xs, hc, hp, hl, hx, hf => ⟨(), by simp [Ty.vs, hl, Ty.n], trivial, fun _ => trivial⟩
  | .cons a r, f :: fs, o, x :: xs, hc, hp, hl, hx, hf => by
    simp only [confF, Bool.and_eq_true, beq_iff_eq] at hc
    simp only [posF, Bool.and_eq_true] at hp
    obtain ⟨⟨⟨h1, h2⟩, h3⟩, h4⟩ := hc
    have hy := hf 0 f rfl
    obtain ⟨v1, e1, o1, b1⟩ := ih a f.type n _ x h2 hp.1 hy
    obtain ⟨v2, e2, o2, b2⟩ := openFS ih r fs (o + a.n) xs h4 hp.2 (by rw [hl]; simp [Ty.n]; omega) (by simpa using hx) (fun i f' hf' => hf (i + 1) f' (by simpa using hf'))
    refine ⟨(v1, v2), ?_, ⟨o1, o2⟩, fun hw => ?_⟩
    · show _ = a.vs v1 ++ r.vs v2
      rw [← e1, ← e2, h1, h3, ← List.drop_drop, List.take_append_drop]
    · have hw' := Fit.app.1 (by simpa only [List.map_cons, DataW.weightsEach] using hw)
      exact ⟨b1 hw'.1, b2 hw'.2⟩
  | .cons _ _, _ :: _, _, [], _, _, _, hx, _ => by simp at hx
  | .int _, [], _, _, hc, _, _, _, _ => by simp [confF] at hc
  | .int _, _ :: _, _, _, hc, _, _, _, _ => by simp [confF] at hc
  | .bool, [], _, _, hc, _, _, _, _ => by simp [confF] at hc
  | .bool, _ :: _, _, _, hc, _, _, _, _ => by simp [confF] at hc
  | .str, [], _, _, hc, _, _, _, _ => by simp [confF] at hc
  | .str, _ :: _, _, _, hc, _, _, _, _ => by simp [confF] at hc
  | .sl _, [], _, _, hc, _, _, _, _ => by simp [confF] at hc
  | .sl _, _ :: _, _, _, hc, _, _, _, _ => by simp [confF] at hc
  | .nil, _ :: _, _, _, hc, _, _, _, _ => by simp [confF] at hc
  | .cons _ _, [], _, _, hc, _, _, _, _ => by simp [confF] at hc

theorem openAS {d : Nat} (ih : OpensS enc P w d) {n : Nat} {cs : List Value} {e : TypeId} : ∀ (ty : Ty) (m : Nat) (i : Nat) (xs : List (DataW H × List MemPlace)), confA P (conf P d) e ty m = true → posA (pos P d) e ty m = true → cs.length = i * P.cellsOf e + ty.n → xs.length = m →
    (∀ j, j < m → DataW.trod enc P w 0 (fun _ => true) true n e ((cs.drop ((i + j) * P.cellsOf e)).take (P.cellsOf e)) = xs[j]?) → ∃ v : ty.T, cs.drop (i * P.cellsOf e) = ty.vs v ∧ ty.ok w v ∧ (Fit (DataW.weightsAll P e (xs.map (·.1))) → ty.big v)
  | .nil, 0, i, xs, hc, hp, hl, hx, hf => ⟨(), by simp [Ty.vs, hl, Ty.n], trivial, fun _ => trivial⟩
  | .cons a r, m + 1, i, x :: xs, hc, hp, hl, hx, hf => by
    simp only [confA, Bool.and_eq_true, beq_iff_eq] at hc
    simp only [posA, Bool.and_eq_true] at hp
    obtain ⟨⟨h2, h3⟩, h4⟩ := hc
    have hy := hf 0 (by omega)
    obtain ⟨v1, e1, o1, b1⟩ := ih a e n _ x h2 hp.1 hy
    obtain ⟨v2, e2, o2, b2⟩ := openAS ih r m (i + 1) xs h4 hp.2 (by rw [hl, Nat.add_mul, h3]; simp [Ty.n]; omega) (by simpa using hx) (fun j hj => by
      have := hf (j + 1) (by omega)
      rw [show i + 1 + j = i + (j + 1) by omega]
      simpa using this)
    refine ⟨(v1, v2), ?_, ⟨o1, o2⟩, fun hw => ?_⟩
    · show _ = a.vs v1 ++ r.vs v2
      rw [← e1, ← e2, Nat.add_zero, Nat.add_mul, Nat.one_mul, ← List.drop_drop, List.take_append_drop]
    · have hw' := Fit.app.1 (by simpa only [List.map_cons, DataW.weightsAll] using hw)
      exact ⟨b1 hw'.1, b2 hw'.2⟩
  | .cons _ _, _ + 1, _, [], _, _, _, hx, _ => by simp at hx
  | .int _, 0, _, _, hc, _, _, _, _ => by simp [confA] at hc
  | .int _, _ + 1, _, _, hc, _, _, _, _ => by simp [confA] at hc
  | .bool, 0, _, _, hc, _, _, _, _ => by simp [confA] at hc
  | .bool, _ + 1, _, _, hc, _, _, _, _ => by simp [confA] at hc
  | .str, 0, _, _, hc, _, _, _, _ => by simp [confA] at hc
  | .str, _ + 1, _, _, hc, _, _, _, _ => by simp [confA] at hc
  | .sl _, 0, _, _, hc, _, _, _, _ => by simp [confA] at hc
  | .sl _, _ + 1, _, _, hc, _, _, _, _ => by simp [confA] at hc
  | .nil, _ + 1, _, _, hc, _, _, _, _ => by simp [confA] at hc
  | .cons _ _, 0, _, _, hc, _, _, _, _ => by simp [confA] at hc

theorem weightsAll_append (e : TypeId) (l m : List (DataW H)) : DataW.weightsAll P e (l ++ m) = DataW.weightsAll P e l ++ DataW.weightsAll P e m := by
  induction l with
  | nil => simp [DataW.weightsAll]
  | cons x l ih => simp only [List.cons_append, DataW.weightsAll, ih, List.append_assoc]

theorem openSS {d : Nat} (ih : OpensS enc P w d) {ty : Ty} {e : TypeId} (hc : conf P d ty e = true) (hp : pos P d ty e = true) (hn : P.cellsOf e = ty.n) {a : Addr} {m : Nat} : ∀ (elems : List (DataW H × List MemPlace)),
    (∀ i, i < elems.length → (w.cells? 0 (a.add (i * P.cellsOf e)) (P.cellsOf e)).bind (DataW.trod enc P w 0 (fun _ => true) true m e) = elems[i]?) →
    ∃ l : List ty.T, l.length = elems.length ∧ CellsAt w a (l.flatMap ty.vs) ∧ (∀ y ∈ l, ty.ok w y) ∧ (Fit (DataW.weightsAll P e (elems.map (·.1))) → ∀ y ∈ l, ty.big y) := by
  intro elems
  have key : ∀ (k : Nat) (elems : List (DataW H × List MemPlace)), elems.length = k → (∀ i, i < elems.length → (w.cells? 0 (a.add (i * P.cellsOf e)) (P.cellsOf e)).bind (DataW.trod enc P w 0 (fun _ => true) true m e) = elems[i]?) →
      ∃ l : List ty.T, l.length = elems.length ∧ CellsAt w a (l.flatMap ty.vs) ∧ (∀ y ∈ l, ty.ok w y) ∧ (Fit (DataW.weightsAll P e (elems.map (·.1))) → ∀ y ∈ l, ty.big y) := by
    intro k
    induction k with
    | zero =>
      intro elems hk _
      have := List.length_eq_zero_iff.1 hk
      subst this
      exact ⟨[], rfl, fun j v hv => by simp at hv, fun y hy => (List.not_mem_nil hy).elim, fun _ y hy => (List.not_mem_nil hy).elim⟩
    | succ k ih2 =>
      intro elems hk h
      have hne : elems ≠ [] := fun e0 => by rw [e0] at hk; simp at hk
      have hsplit := List.dropLast_concat_getLast hne
      have hlen1 : elems.dropLast.length = k := by simp [hk]
      obtain ⟨l, hl, hcl, hol, hbl⟩ := ih2 elems.dropLast hlen1 (fun i hi => by
        rw [h i (by omega), List.getElem?_eq_getElem (by omega), List.getElem?_eq_getElem hi, List.getElem_dropLast])
      have hy := h k (by omega)
      rw [List.getElem?_eq_getElem (by omega)] at hy
      have hlast : elems[k]'(by omega) = elems.getLast hne := by rw [List.getLast_eq_getElem]; congr 1; omega
      rw [hlast] at hy
      obtain ⟨c, hcs, ht⟩ := Option.bind_eq_some_iff.1 hy
      obtain ⟨v, e1, o1, b1⟩ := ih ty e m c _ hc hp ht
      obtain ⟨_, hlen, hcell⟩ := World.cells?_some hcs
      have hl' : l.length = k := by rw [hl, hlen1]
      refine ⟨l ++ [v], by simp [hl', hk], ?_, ?_, ?_⟩
      · rw [List.flatMap_append, List.flatMap_singleton]
        refine CellsAt.append' hcl ?_
        have : (l.flatMap ty.vs).length = k * P.cellsOf e := by
          rw [hn, ← hl']
          clear hcl hol hl hbl hl' hlast
          induction l with
          | nil => simp
          | cons z l ih3 => rw [List.flatMap_cons, List.length_append, Ty.vs_length, ih3, List.length_cons, Nat.add_mul]; omega
        rw [this]
        intro j u hu
        rw [← e1] at hu
        have hj : j < P.cellsOf e := by rw [← hlen]; exact (List.getElem?_eq_some_iff.1 hu).1
        rw [hcell j hj, hu]
      · intro y hy
        rcases List.mem_append.1 hy with h1 | h1
        · exact hol y h1
        · rw [List.mem_singleton.1 h1]; exact o1
      · intro hw
        rw [← hsplit, List.map_append, weightsAll_append] at hw
        obtain ⟨g1, g2⟩ := Fit.app.1 hw
        simp only [List.map_cons, List.map_nil, DataW.weightsAll, List.append_nil] at g2
        intro y hy
        rcases List.mem_append.1 hy with h1 | h1
        · exact hbl g1 y h1
        · rw [List.mem_singleton.1 h1]; exact b1 g2
  exact key _ elems rfl

theorem opensS : ∀ d : Nat, OpensS enc P w d
  | 0 => fun ty t fuel cs x hc => by simp [conf] at hc
  | d + 1 => by
    have ih := opensS d
    intro ty t fuel cs x hc hp h
    unfold conf at hc
    unfold pos at hp
    split at hc
    · rename_i k k' ht
      obtain ⟨n, rfl, _, hw⟩ := DataW.trod_int ht h
      have := of_decide_eq_true hc
      subst this
      exact ⟨n, rfl, wfRng hw, fun _ => trivial⟩
    · rename_i ht
      obtain ⟨b, rfl, _⟩ := DataW.trod_bool ht h
      exact ⟨b, rfl, trivial, fun _ => trivial⟩
    · rename_i ht
      obtain ⟨s, rfl, rfl, hs⟩ := DataW.trod_string ht h
      refine ⟨s, rfl, hs, fun hw => ?_⟩
      simp only [DataW.weights] at hw
      have := (Fit.cons.1 hw).1
      have e : reachBytes = 140737488351232 := by decide
      rw [e] at this
      simpa [Ty.big] using this
    · rename_i e t' ht
      rw [ht] at hp
      simp only [Bool.and_eq_true, beq_iff_eq] at hc hp
      obtain ⟨hc1, hc2⟩ := hc
      rcases DataW.trod_slice ht h with ⟨rfl, _⟩ | ⟨a, len, cap, elems, rest, n, _, rfl, rfl, hb, hl, hm, hlen, hel, _⟩
      · exact ⟨⟨none, 0, 0, []⟩, rfl, ⟨rfl, Nat.le_refl _, Nat.zero_le _, .inl ⟨rfl, rfl⟩, fun y hy => (List.not_mem_nil hy).elim⟩, fun _ => ⟨by show (0 : Nat) ≤ _; omega, fun y hy => (List.not_mem_nil hy).elim⟩⟩
      · obtain ⟨l, h1, h2, h3, h4⟩ := openSS ih hc1 hp.1 hc2 (a := a) (m := n) elems fun i hi => hel i (by omega)
        refine ⟨⟨some a, len, cap, l⟩, rfl, ⟨by rw [h1, hlen], hl, hm, .inr ⟨a, rfl, h2⟩, h3⟩, fun hw => ?_⟩
        simp only [DataW.weights, ht] at hw
        obtain ⟨g1, g2⟩ := Fit.cons.1 hw
        refine ⟨?_, h4 (Fit.app.1 g2).1⟩
        have hb1 : 1 ≤ P.bytesOf e := Nat.le_of_ble_eq_true hp.2
        rw [List.length_map, List.length_map, hlen] at g1
        have g3 : len * 1 ≤ (len + rest.length) * P.bytesOf e := Nat.mul_le_mul (by omega) hb1
        have : reachBytes = 140737488351232 := by decide
        show len ≤ _
        omega
    · rename_i ty _ _ fs ht
      rw [ht] at hp
      simp only [Bool.and_eq_true, beq_iff_eq] at hc
      obtain ⟨xs, n, _, rfl, hl, hlen, hf⟩ := DataW.trod_struct ht h
      obtain ⟨v, e1, o1, b1⟩ := openFS ih (n := n) (cs := cs) ty fs.toList 0 xs hc.1 (by simpa using hp) (by rw [hl, hc.2]; omega) (by simpa using hlen) fun i f hfi => hf i f (by simpa using hfi)
      refine ⟨v, by simpa using e1, o1, fun hw => b1 ?_⟩
      simpa only [DataW.weights, ht] using hw
    · rename_i ty _ _ n e ht
      rw [ht] at hp
      simp only [Bool.and_eq_true, beq_iff_eq] at hc
      obtain ⟨xs, m, _, rfl, hl, hlen, hf⟩ := DataW.trod_array ht h
      obtain ⟨v, e1, o1, b1⟩ := openAS ih (n := m) (cs := cs) ty n 0 xs hc.1 (by simpa using hp) (by rw [hl, hc.2]; omega) hlen fun j hj => by rw [Nat.zero_add]; exact hf j hj
      refine ⟨v, by simpa using e1, o1, fun hw => b1 ?_⟩
      simpa only [DataW.weights, ht] using hw
    · cases hc

/-- A parameter that is a struct or an array, and the sizes in it. -/
theorem openAggS {ty : Ty} {t : TypeId} {cs : Array Value} {d : Nat} {x : DataW H} {ps : List MemPlace} (hc : conf P d ty t = true) (hp : pos P d ty t = true)
    {ts : List TypeId} {ds : List (DataW H)} {j : Nat} (htj : ts[j]? = some t) (hdj : ds[j]? = some x) (hsz : (DataW.weightsEach P ts ds).all (· ≤ reachBytes) = true)
    (h : DataW.Trod enc P w 0 (fun _ => true) true t (.agg cs) x ps) : ∃ v : ty.T, Value.agg cs = .agg (ty.vs v).toArray ∧ ty.ok w v ∧ ty.big v := by
  obtain ⟨fuel, hf⟩ := h
  obtain ⟨v, e, o, b⟩ := opensS d ty t fuel _ _ hc hp hf
  refine ⟨v, ?_, o, b (List.all_eq_true.2 fun n hn => List.all_eq_true.1 hsz n (DataW.weights_mem_each htj hdj n hn))⟩
  rw [← e]
  simp [Value.cells]
/-- A parameter that is a slice, and the sizes in it. -/
theorem openSlS {ty : Ty} {t : TypeId} {a : Option Addr} {n c : Nat} {d : Nat} {x : DataW H} {ps : List MemPlace} (hc : conf P d (.sl ty) t = true) (hp : pos P d (.sl ty) t = true)
    {ts : List TypeId} {ds : List (DataW H)} {j : Nat} (htj : ts[j]? = some t) (hdj : ds[j]? = some x) (hsz : (DataW.weightsEach P ts ds).all (· ≤ reachBytes) = true)
    (h : DataW.Trod enc P w 0 (fun _ => true) true t (.slice a n c) x ps) : ∃ l : List ty.T, (Ty.sl ty).ok w ⟨a, n, c, l⟩ ∧ (Ty.sl ty).big ⟨a, n, c, l⟩ := by
  obtain ⟨fuel, hf⟩ := h
  obtain ⟨v, e, o, b⟩ := opensS d (.sl ty) t fuel _ _ hc hp hf
  have b := b (List.all_eq_true.2 fun n hn => List.all_eq_true.1 hsz n (DataW.weights_mem_each htj hdj n hn))
  simp [Value.cells, Ty.vs] at e
  obtain ⟨h1, h2, h3⟩ := e
  refine ⟨v.l, ?_⟩
  subst h1; subst h2; subst h3
  exact ⟨o, b⟩
end

end Go.Proofs.Ytfpkaebmiojicaa.Vc

/-! The law NandReads of layer 13: each call gives true, and what it read stays. -/
namespace Go.Proofs.Ytfpkaebmiojicaa.Vc
open Go Go.Eng Go.RowKit
set_option linter.unusedVariables false
set_option linter.unusedSimpArgs false

theorem aw13 {w w' : World} (he : Ext w w') : CallV Try.prog 42 #[] w' [.one .bool] fun r w3 => r.1 = true ∧ Ext w w3 := awake13_c.mono fun r w3 ⟨h, e⟩ => ⟨h, he.trans e⟩
abbrev TSt : Ty := .cons (.int .i64) (.cons (.cons (.int .i64) (.cons (.int .i64) .nil)) (.cons (.int .u8) (.cons .bool .nil)))
abbrev LSt : Ty := .sl TSt
/-- A step of both, among other parts. -/
theorem stepS {E : Nat → Prop} {w0 w : World} {Ts : List Asr} {p : Nat} {y : Lay} {C : CD} {L : List TOp} {B : SlP TBd.T} {f : SlP TF.T} {k bl pa sd : Int} {on : Bool} (hC : COk C) (ho : C.ops < 1000000) (hF : fds y.F = C.pl) (hdf : fds f = C.pl) (hdb : B.l.map bdOf = C.bs) (hsd : 0 ≤ sd ∧ sd < 256)
    (hf : LF.rd w (fun k => k < w0.heap.size ∧ ¬ E k) f) (S : Sep E w0 w (RdT (Ty.sl TBd) B :: StarA (ChipP p y C L) :: Ts)) :
    CallV Try.prog 45 #[.pointer (some ⟨p, 0, none⟩), chVal B f C, .agg #[.int .i64 k, .int .i64 bl, .int .i64 pa, .int .u8 sd, .bool on]] w [.agg SH10, .one .bool] fun r w' =>
      r.2.1 = true ∧ ∃ (B' : SlP TBd.T) (y' : Lay) (L' : List TOp), r.1 = chT B' f (stC C k bl pa sd on) ∧ fds y'.F = C.pl ∧ B'.l.map bdOf = (stC C k bl pa sd on).bs ∧ L'.map TOp.dat = L.map TOp.dat ++ stT C k bl pa sd ∧
        Sep E w0 w' (RdT (Ty.sl TBd) B' :: StarA (ChipP p y' (stC C k bl pa sd on) L') :: Ts) := by
  have S := ((S.perm (List.Perm.swap (StarA (ChipP p y C L)) (RdT (Ty.sl TBd) B) Ts)).unfold (Rs := ChipP p y C L)).perm (List.perm_middle (l₁ := ChipP p y C L))
  refine Sep.callB (RdT (Ty.sl TBd) B :: ChipP p y C L) (Ts := Ts) S (fun F hFF SF => step13_c hC ho hF hdf hdb hsd (LF.rd_mono (fun k hk _ hFk => (hFF k hFk).1.elim hk.2 (by omega)) hf) SF) ?_
  rintro F fr r w' ⟨h1, B', ta, tc, L', h2, h3, h4, S'⟩
  refine ⟨h1, B', upT y ta tc, L', h2, hF, h3, h4, ?_⟩
  have S2 := fr _ _ S'
  have S3 : Sep E w0 w' (ChipP p (upT y ta tc) (stC C k bl pa sd on) L' ++ (RdT (Ty.sl TBd) B' :: Ts)) := S2.perm (List.perm_middle (l₁ := ChipP p (upT y ta tc) (stC C k bl pa sd on) L')).symm
  exact S3.fold.perm (List.Perm.swap _ _ _)

theorem fds_byt {w : World} {G : Nat → Prop} {f : SlP TF.T} (hf : LF.rd w G f) : ∀ F ∈ fds f, Byt F.2.2.1 := fun F hF => by
  obtain ⟨x, hx, rfl⟩ := List.mem_map.1 hF
  rw [TF_dat]
  exact fun v hv => rng_u8 ((hf.2.2.2.2 x hx).2.2.1.2.2.2.2 v hv)
theorem readC_right {C : CD} {bl pa : Int} (hg : Right C.g) (ho : C.off = false) : readC C bl pa = if plOk C.g bl pa then 0 else 2 := by
  unfold readC
  rw [if_neg (by rw [ho]; decide)]
  by_cases h : inC C bl pa
  · rw [if_pos h, if_pos ⟨hg, h⟩]
  · rw [if_neg h, if_neg (fun k => h k.2)]
theorem pageOf {H : Nat → Prop} {w : World} {B : SlP TBd.T} {f : SlP TF.T} {C : CD} {bl pa : Int} (h : RefR H w B f C) (hC : COk C) (hi : inC C bl pa) :
    ∃ q x q2 y, B.a = some q ∧ CellsAt w (q.add (bl.toNat * 5)) (bdV x) ∧ q.block < w.heap.size ∧ x.1.a = some q2 ∧ CellsAt w (q2.add (pa.toNat * 1)) (TB.vs y) ∧ q2.block < w.heap.size ∧ TB.rd w All y ∧ y.l = pgC13 C bl pa ∧ (0 ≤ bl ∧ bl < (B.n : Int)) ∧ (0 ≤ pa ∧ pa < (x.1.n : Int)) := by
  obtain ⟨⟨n1, n2⟩, ⟨n3, n4⟩, ⟨n5, n6⟩, n7, n8⟩ := hC.num
  have hBn := h.len
  rw [hC.bl] at hBn
  obtain ⟨h0, h1⟩ := hi.1
  obtain ⟨q, x, hq, hc, hr, hx, hbd, hb⟩ := h.nth (i := bl) h0 (by omega)
  have hbk := (hC.blk hi.1).2
  have hpl : x.1.n = C.g.p.toNat := by rw [← bd_len (x := x) (by rw [hbd]; exact hbk)]; exact hr.1.1.symm
  obtain ⟨p0, p1⟩ := hi.2
  obtain ⟨q2, y, hq2, hy, hc2, hry, -, hb2⟩ := TBB_nth hr.1 (i := pa) (by omega) (by omega)
  refine ⟨q, x, q2, y, hq, hc, hb, hq2, hc2, hb2, hry, ?_, ⟨h0, by omega⟩, ⟨p0, by omega⟩⟩
  have h1 : (x.1.l.map (·.l))[pa.toNat]? = some y.l := by rw [List.getElem?_map, hy]; rfl
  have h2 : (blkC C bl).pg = x.1.l.map (·.l) := by rw [← hbd]; rfl
  show _ = (blkC C bl).pg.getD pa.toNat []
  rw [h2, getD_some h1]
theorem NandReads_law {w : World} {g : Geo} {f : SlP TF.T} {s : SlP TSt.T} {bl pa : Int} (hf : LF.rd w All f) (hs : LSt.rd w All s) :
    CallV Try.prog 11 #[.agg #[.int .i64 g.b, .int .i64 g.p, .int .i64 g.s, .int .i64 g.sp, .int .i64 g.wr, .int .i64 g.ro, .slice f.a f.n f.c, .slice s.a s.n s.c], .agg #[.int .i64 bl, .int .i64 pa]] w [.one .bool] fun r w' => r.1 = true ∧ Ext w w' := by
  apply law13_NandReads.vc
  unfold law13_NandReads.P
  have S := Sep.start NoB w
  refine S.newB fun b1 w1 S f1 _ => ?_
  refine S.newB fun b3 w3 S f3 _ => ?_
  refine S.lb1 (o := 0) rfl ?_
  refine (Right_c (g := g)).mono ?_
  rintro ⟨(r : Bool), ⟨⟩⟩ w4 ⟨h4, x4⟩
  dsimp only at h4 ⊢
  subst h4
  have S := S.stepE x4
  by_cases hR : Right g
  case neg => exact cond_t (by rw [decide_eq_false hR]; rfl) (aw13 S.ext)
  refine cond_f (by rw [decide_eq_true hR]; rfl) ?_
  refine S.ld1 (j := 6) rfl rfl ?_
  refine (rRight12_c (Ty.rd_ext S.ext _ hf)).mono ?_
  rintro ⟨(r : Bool), ⟨⟩⟩ _ ⟨h5, rfl⟩
  dsimp only at h5 ⊢
  subst h5
  by_cases hFR : FRight (fds f)
  case neg => exact cond_t (by rw [decide_eq_false hFR]; rfl) (aw13 S.ext)
  refine cond_f (by rw [decide_eq_true hFR]; rfl) ?_
  refine S.lb1 (o := 0) rfl ?_
  refine (light_c (g := g)).mono ?_
  rintro ⟨(r : Bool), ⟨⟩⟩ w6 ⟨h6, x6⟩
  dsimp only at h6 ⊢
  subst h6
  have S := S.stepE x6
  by_cases hL : LG g
  case neg => exact cond_t (by rw [decide_eq_false hL]; rfl) (aw13 S.ext)
  refine cond_f (by rw [decide_eq_true hL]; rfl) ?_
  refine S.lb1 (o := 0) rfl (S.ld1 (j := 6) rfl rfl ?_)
  refine (New13_c (g := g) (x := f) (Ty.rd_ext S.ext _ hf) hFR.fit).mono ?_
  rintro ⟨_, (e : Int), ⟨⟩⟩ w7 ⟨x7, -, h7⟩
  obtain ⟨he, p, y, hp, hyF, S7⟩ := h7 ⟨hR, hFR⟩
  dsimp only at he hp
  subst he; subst hp
  have S := (S.frame0 S7).fold
  refine S.lb2 (o := 0) rfl (S.ld2 (j := 6) rfl rfl ?_)
  refine (rNew13_c (f := f) hR (Ty.rd_ext S.ext _ hf)).mono ?_
  rintro ⟨_, ⟨⟩⟩ w8 ⟨B, hB, hRf, x8⟩
  dsimp only at hB
  subst hB
  have S := S.push (R := RdT (Ty.sl TBd) B) (F := fun k => w7.heap.size ≤ k ∧ k < w8.heap.size) (.of x8) ((Ty.sl TBd).rd_mono (fun k h1 h2 => ⟨h1, h2⟩) hRf.rb) fun k hk => hk
  refine S.newB fun b28 w9 S f9 _ => ?_
  refine S.st0 (by rfl) fun w10 S f10 => ?_
  have hC0 : COk (newC g (fds f)) := newC_ok hR hL fun F hF => ⟨fds_byt hf F hF, hFR.fit F hF⟩
  refine ⟨fun (_ : Unit) w' => ∃ (C : CD) (B : SlP TBd.T) (y : Lay) (L : List TOp), COk C ∧ C.g = g ∧ C.pl = fds f ∧ B.l.map bdOf = C.bs ∧ Sep NoB w w' [BoxA b28 88 (chV B f C), RdT (Ty.sl TBd) B, StarA (ChipP p y C L), BoxA b3 81 [.int .i64 bl, .int .i64 pa], BoxA b1 79 [.int .i64 g.b, .int .i64 g.p, .int .i64 g.s, .int .i64 g.sp, .int .i64 g.wr, .int .i64 g.ro, .slice f.a f.n f.c, .slice s.a s.n s.c]], ?_, ?_⟩
  case refine_2 =>
    refine Loop1 (fun (v : Int × Unit) w' => ∃ (i : Nat) (C : CD) (B : SlP TBd.T) (y : Lay) (L : List TOp), v.1 = (i : Int) ∧ i ≤ 20 ∧ COk C ∧ C.g = g ∧ C.ops ≤ i ∧ C.pl = fds f ∧ fds y.F = fds f ∧ B.l.map bdOf = C.bs ∧ Sep NoB w w' [BoxA b28 88 (chV B f C), RdT (Ty.sl TBd) B, StarA (ChipP p y C L), BoxA b3 81 [.int .i64 bl, .int .i64 pa], BoxA b1 79 [.int .i64 g.b, .int .i64 g.p, .int .i64 g.s, .int .i64 g.sp, .int .i64 g.wr, .int .i64 g.ro, .slice f.a f.n f.c, .slice s.a s.n s.c]])
      (fun (v : Int × Unit) _ => ((s.n : Int) - v.1).toNat) ⟨0, newC g (fds f), B, y, [], rfl, by omega, hC0, rfl, Nat.le_refl _, rfl, hyF, hRf.db, S⟩ ?_
    rintro ⟨(v : Int), ⟨⟩⟩ w11 ⟨i, C, B, y, L, hv, hi, hC, hg, ho, hpl, hyF, hdb, S⟩
    dsimp only at hv
    subst hv
    have J : ∃ (C : CD) (B : SlP TBd.T) (y : Lay) (L : List TOp), COk C ∧ C.g = g ∧ C.pl = fds f ∧ B.l.map bdOf = C.bs ∧ Sep NoB w w11 [BoxA b28 88 (chV B f C), RdT (Ty.sl TBd) B, StarA (ChipP p y C L), BoxA b3 81 [.int .i64 bl, .int .i64 pa], BoxA b1 79 [.int .i64 g.b, .int .i64 g.p, .int .i64 g.s, .int .i64 g.sp, .int .i64 g.wr, .int .i64 g.ro, .slice f.a f.n f.c, .slice s.a s.n s.c]] := ⟨C, B, y, L, hC, hg, hpl, hdb, S⟩
    refine S.ld4 (j := 7) rfl rfl ?_
    dsimp only
    refine cond_d (fun hlt => ?_) (fun _ => J)
    refine cond_d (fun h20 => ?_) (fun _ => J)
    clear J
    refine Sep.regC [_, _, _] S fun G D hG T S hDt hDo hkeep back => ?_
    refine ⟨hDt 1 _ _ _ rfl, S.ld4 (j := 7) rfl rfl ?_⟩
    obtain ⟨q, z, hq, hz, hc, hr, hGq, hqb⟩ := Ty.nth (LSt.rd_mono (G' := fun k => k < w.heap.size) (fun k _ hk => hk) hs) (i := (i : Int)) (by omega) hlt (by decide)
    refine ⟨⟨by omega, hlt⟩, q, hq, by rw [add_block]; exact hDo _ hGq (fun x => x), ?_⟩
    obtain ⟨zk, ⟨zb, zp, ⟨⟩⟩, zs, zo, ⟨⟩⟩ := z
    refine ⟨(zk, zb, zp, zs, zo, ()), S.ext.cells hc, S.la0 rfl ⟨hkeep _ (Fr.refl _ _), ?_⟩⟩
    refine (stepS (p := p) (y := y) (C := C) (B := B) (f := f) (L := L) (k := zk) (bl := zb) (pa := zp) (sd := zs) (on := zo) (w := w11.drew) (Ts := [BoxA b28 _ (chV B f C)]) hC (by omega) (by rw [hyF, hpl]) hpl.symm hdb (rng_u8 hr.2.2.1) (LF.rd_mono (fun k hk _ => ⟨Nat.lt_of_lt_of_le hk S.ext.size, fun hGk => by have := (hG k hGk).1.resolve_left (fun x => x); omega⟩) (Ty.rd_ext S.ext _ (LF.rd_mono (G' := fun k => k < w.heap.size) (fun k _ hk => hk) hf))) (T.sel [1, 1, 0] rfl)).mono ?_
    rintro ⟨_, (ok : Bool), ⟨⟩⟩ w12 ⟨-, B', y', L', hr1, hF', hdb', hL', T⟩
    dsimp only at hr1
    subst hr1
    refine ⟨hkeep _ T.fr, T.st2 (by rfl) fun w13 T f13 => ⟨hkeep _ T.fr, Rng.i64 (by omega) (by omega), ⟨i + 1, stC C zk zb zp zs zo, B', y', L', by push_cast; rfl, by omega, stC_ok hC (by omega) (rng_u8 hr.2.2.1), by rw [stC_same.1, hg], ?_, by rw [stC_same.2.1, hpl], by rw [hF', hpl], hdb', back _ _ (T.sel [2, 0, 0] rfl)⟩, by omega⟩⟩
    rw [stC_same.2.2]
    have := stT_len (C := C) (k := zk) (bl := zb) (pa := zp) (sd := zs)
    omega
  rintro ⟨⟩ w11 ⟨C, B, y, L, hC, hg, hdf, hdb, S⟩
  clear hC0 hRf hyF S7
  subst hg
  refine S.la3 rfl ?_
  have hread : ∀ {E : Nat → Prop} {w0 w : World} {Rs : List Asr} (S : Sep E w0 w (StarA (ChipP p y C L) :: Rs)), CallV Try.prog 46 #[.pointer (some ⟨p, 0, none⟩), .agg #[.int .i64 bl, .int .i64 pa]] w [.one .sl, .one (.int .i64)] fun r w' =>
      r.2.1 = readC C bl pa ∧ (readC C bl pa ≠ 0 → r.1 = (⟨none, 0, 0⟩ : SlV) ∧ Ext w w') ∧ (readC C bl pa = 0 → Res w w' r.1 (pgC13 C bl pa)) := fun {E w0 w Rs} S => Read13_c (Rs := Rs) hC S.unfold
  refine (hread (S.sel [2, 0, 0, 0, 0] rfl)).mono ?_
  rintro ⟨⟨ra, rn, rc⟩, (e : Int), ⟨⟩⟩ w12 ⟨he, h1, h2⟩
  dsimp only at he h1 h2 ⊢
  subst he
  have x12 : Ext w11 w12 := by
    by_cases h0 : readC C bl pa = 0
    · exact (h2 h0).ext
    · exact (h1 h0).2
  have S11 := S
  have S := S.stepE x12
  refine S.ld0 (j := 8) rfl rfl (cond_of (fun hoff => ?_) (fun hoff => ?_))
  · have hoff : C.off = true := hoff
    have hrd : readC C bl pa = 4 := by unfold readC; rw [if_pos hoff]
    have hz := (h1 (by rw [hrd]; decide)).1
    cases hz
    rw [hrd]
    exact cond_t rfl (cond_t rfl (aw13 S.ext))
  have hoff : C.off = false := hoff
  have hrd := readC_right (bl := bl) (pa := pa) hC.g hoff
  refine S.lb4 (o := 0) rfl (S.la3 rfl ?_)
  refine (rRight13_c (g := C.g) (b := bl) (p := pa)).mono ?_
  rintro ⟨(r : Bool), ⟨⟩⟩ w13 ⟨h13, x13⟩
  dsimp only at h13 ⊢
  subst h13
  have S := S.stepE x13
  by_cases hpl : plOk C.g bl pa
  case neg =>
    rw [if_neg hpl] at hrd
    have hz := (h1 (by rw [hrd]; decide)).1
    cases hz
    rw [hrd]
    exact cond_t (by rw [decide_eq_false hpl]; rfl) (cond_t rfl (cond_t rfl (aw13 S.ext)))
  rw [if_pos hpl] at hrd
  have hres := h2 hrd
  rw [hrd]
  refine cond_f (by rw [decide_eq_true hpl]; rfl) ?_
  have hRR : ∀ {w' : World} {R : Asr} {Rs : List Asr}, Sep NoB w w' (R :: BoxA b28 88 (chV B f C) :: RdT (Ty.sl TBd) B :: Rs) → RefR All w' B f C := fun {w' R Rs} S => by
    obtain ⟨G, hG, -⟩ := S.get (i := 2) rfl
    exact ⟨(Ty.sl TBd).rd_mono (fun _ _ _ => trivial) hG, hdb, Ty.rd_ext S.ext _ hf, hdf.symm⟩
  have hlen := (hC.page hpl.2).2.1
  have hbyt := (hC.page hpl.2).2.2
  obtain ⟨⟨n1, n2⟩, ⟨n3, n4⟩, ⟨n5, n6⟩, n7, n8⟩ := hC.num
  have hrl := hres.ints.len
  rw [hlen] at hrl
  dsimp only at hrl
  have S := (S11.pushO hres.ext hres.own).stepE x13
  refine S.reg fun D hD hkeep S T => cond_f rfl ?_
  obtain ⟨q, x, q2, z, a1, a2, a3, a4, a5, a6, a7, a8, a9, a10⟩ := pageOf (hRR S) hC hpl.2
  refine ⟨hD _ S.bl1, S.ld1 (j := 6) rfl rfl ⟨hD _ S.bl4, S.ld4 (j := 0) rfl rfl ⟨a9, q, a1, by rw [add_block]; exact hD _ a3, ldp0 a2 (h := .sl) (x := ⟨x.1.a, x.1.n, x.1.c⟩) rfl ⟨hD _ S.bl4, S.ld4 (j := 1) rfl rfl ⟨a10, q2, a4, by rw [add_block]; exact hD _ a6, ldp0 a5 (h := .sl) (x := ⟨z.a, z.n, z.c⟩) rfl ?_⟩⟩⟩⟩⟩
  refine (SameBytes_c (S.ints 0 rfl) (Ty.ints a7)).mono ?_
  rintro ⟨(r : Bool), ⟨⟩⟩ w14 ⟨h14, x14⟩
  dsimp only at h14 ⊢
  rw [a8, decide_eq_true rfl] at h14
  subst h14
  have S := S.stepE x14
  refine ⟨hkeep _ (.of x14), cond_f rfl ?_⟩
  obtain ⟨q3, g1, -, g3⟩ := (S.ints 0 rfl).at (i := 0) (by omega) (show (0 : Int) < ((rn : Nat) : Int) by omega)
  refine ⟨⟨by omega, show (0 : Int) < ((rn : Nat) : Int) by omega⟩, q3, g1, _, g3, ?_⟩
  refine S.put (i := 0) rfl (j := 0) (by omega) (show (0 : Int) < ((rn : Nat) : Int) by omega) (v := .int .u8 _) rfl fun w15 S f15 => ?_
  refine S.la4 rfl ?_
  refine (hread (S.sel [3, 0, 0, 0, 0, 0] rfl)).mono ?_
  rintro ⟨⟨ua, un, uc⟩, (e : Int), ⟨⟩⟩ w16 ⟨he, -, u2⟩
  dsimp only at he u2 ⊢
  have u2 := u2 hrd
  rw [hrd] at he
  subst he
  have S := S.pushO u2.ext u2.own
  have S := S.sel [1, 1, 1, 1, 1, 1, 0] rfl
  refine S.reg fun D hD hkeep S T => cond_t rfl ?_
  obtain ⟨q, x, q2, z, a1, a2, a3, a4, a5, a6, a7, a8, a9, a10⟩ := pageOf (hRR S) hC hpl.2
  refine ⟨hD _ S.bl1, S.ld1 (j := 6) rfl rfl ⟨hD _ S.bl4, S.ld4 (j := 0) rfl rfl ⟨a9, q, a1, by rw [add_block]; exact hD _ a3, ldp0 a2 (h := .sl) (x := ⟨x.1.a, x.1.n, x.1.c⟩) rfl ⟨hD _ S.bl4, S.ld4 (j := 1) rfl rfl ⟨a10, q2, a4, by rw [add_block]; exact hD _ a6, ldp0 a5 (h := .sl) (x := ⟨z.a, z.n, z.c⟩) rfl ?_⟩⟩⟩⟩⟩
  refine (SameBytes_c (S.ints 6 rfl) (Ty.ints a7)).mono ?_
  rintro ⟨(r : Bool), ⟨⟩⟩ w17 ⟨h17, x17⟩
  dsimp only at h17 ⊢
  rw [a8, decide_eq_true rfl] at h17
  subst h17
  have S := S.stepE x17
  refine ⟨hkeep _ (.of x17), cond_t rfl ?_⟩
  exact awake13_c.mono fun r w18 ⟨h18, x18⟩ => ⟨hkeep _ (.of (x17.trans x18)), h18, S.ext.trans x18⟩

theorem TBy_max : (140737488351232 : Nat) ≤ maxLen := by decide
theorem NandReads_of {w : World} {x : (Ty.cons TGeo (.cons LF (.cons LSt .nil))).T} {pl : (Ty.cons (.int .i64) (.cons (.int .i64) .nil)).T} (g0 : (Ty.cons TGeo (.cons LF (.cons LSt .nil))).ok w x) (g1 : (Ty.cons (.int .i64) (.cons (.int .i64) .nil)).ok w pl) :
    CallV Try.prog 11 #[.agg ((Ty.cons TGeo (.cons LF (.cons LSt .nil))).vs x).toArray, .agg ((Ty.cons (.int .i64) (.cons (.int .i64) .nil)).vs pl).toArray] w [.one .bool] fun r w' => r.1 = true ∧ Ext w w' := by
  obtain ⟨⟨b, p, s, sp, wr, ro, ⟨⟩⟩, f, l, ⟨⟩⟩ := x
  obtain ⟨bl, pa, ⟨⟩⟩ := pl
  exact NandReads_law (g := ⟨b, p, s, sp, wr, ro⟩) (f := f) (s := l) (LF.rd_of g0.2.1) (LSt.rd_of g0.2.2.1)
end Go.Proofs.Ytfpkaebmiojicaa.Vc
