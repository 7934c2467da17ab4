/- Texts in one: The law PageReads of layer 15: each call gives true, and what it read stays. The law HeadMarks of layer 14: each call gives true, and what it read stays. Parts of plans, cut out by wip/tools/vccut.py. The law PageBack of layer 15: each call gives true, and what it read stays. Plain laws of layer 19 (chunk): a record's pages, and what they hold. The plans of functions as plain statements, printed by wip/tools/vcgen.py; the kernel holds each to the code. The contracts of layer 19 (chunk): a record's pages. The plans of functions as plain statements, printed by wip/tools/vcgen.py; the kernel holds each to the code. The contracts of layer 13 (nand): the array's parts, and what only reads it. The contracts of layer 13 (nand): what only reads an array, and a byte changed. The contracts of layer 13 (nand): the power, and a byte changed. -/
import Derived.Test.YtfpkaebmiojicaaZNandReadsd

/-! The law PageReads of layer 15: each call gives true, and what it read stays. -/
namespace Go.Proofs.Ytfpkaebmiojicaa.Vc
open Go Go.Eng Go.RowKit
set_option linter.unusedVariables false
set_option linter.unusedSimpArgs false

structure PgS where
  h : Hd
  d : Bool
  x : List Int
  t : List Int
abbrev zS : PgS := ⟨zeroH, false, [], []⟩
abbrev fS (g : Geo) (xs : List Int) : PgS := ⟨hdOf (endP g xs), comm (endP g xs), pays g xs, tags g xs⟩
def pSpec (g : Geo) (xs : List Int) : PgS := if lenP g xs ∧ okR (endP g xs) then fS g xs else zS
def dOk (g : Geo) (xs : List Int) (kind : Int) : Prop := lenP g xs ∧ okR (endP g xs) ∧ comm (endP g xs) = true ∧ (hdOf (endP g xs)).k = kind
instance (g : Geo) (xs : List Int) (kind : Int) : Decidable (dOk g xs kind) := by unfold dOk; infer_instance
def dSpec (g : Geo) (xs : List Int) (kind : Int) : PgS := if dOk g xs kind then fS g xs else zS
def rdE (g : Geo) (xs : List Int) : Int := if lenP g xs then (if okR (endP g xs) then 0 else 1) else 2
/-- A told page in memory. -/
def PgM (w : World) (p : PgS) (q : PgT) : Prop := ∃ s t : SlV, q = pgT p.h s t p.d ∧ Ints w .u8 s.a s.n s.c p.x ∧ Ints w .u8 t.a t.n t.c p.t
def PgN (w : World) (p : PgS) (o : Bool) (q : PgU) : Prop := ∃ s t : SlV, q = (p.h.k, p.h.n, p.h.c, p.h.l, p.h.e, p.h.t, s, t, p.d, o, ()) ∧ Ints w .u8 s.a s.n s.c p.x ∧ Ints w .u8 t.a t.n t.c p.t

theorem PgM.zero {w : World} : PgM w zS zPg := ⟨⟨none, 0, 0⟩, ⟨none, 0, 0⟩, rfl, intsNil, intsNil⟩
theorem PgM.is {w w' : World} {g : Geo} {xs : List Int} {q : PgT} (h : PgIs w w' g xs q) : PgM w' (fS g xs) q := by
  obtain ⟨s, t, h1, _, _, T⟩ := h
  exact ⟨s, t, h1, T.in0, T.in1⟩
theorem PReadU_c {w : World} {g : Geo} {a : Option Addr} {n c : Nat} {xs : List Int} (hx : Ints w .u8 a n c xs) (bx : Byt xs) :
    CallV Try.prog 23 #[g.val, .slice a n c] w [.agg [.int .i64, .int .i64, .int .i64, .int .u32, .int .u64, .int .u64, .sl, .sl, .bool], .one (.int .i64)] fun r w' => Ext w w' ∧ r.2.1 = rdE g xs ∧ PgM w' (pSpec g xs) r.1 := by
  refine (PRead_c hx bx).mono ?_
  rintro r w' ⟨e, h1, h2, h3⟩
  unfold rdE pSpec
  by_cases hL : lenP g xs
  · by_cases hO : okR (endP g xs)
    · rw [if_pos hL, if_pos hO, if_pos ⟨hL, hO⟩]
      exact ⟨e, (h3 hL hO).1, .is (h3 hL hO).2⟩
    · rw [if_pos hL, if_neg hO, if_neg fun h => hO h.2, (h2 hL hO).1]
      exact ⟨e, (h2 hL hO).2, .zero⟩
  · rw [if_neg hL, if_neg fun h => hL h.1, (h1 hL).1]
    exact ⟨e, (h1 hL).2, .zero⟩
theorem PDoneU_c {w : World} {g : Geo} {a : Option Addr} {n c : Nat} {kind : Int} {xs : List Int} (hx : Ints w .u8 a n c xs) (bx : Byt xs) :
    CallV Try.prog 24 #[g.val, .slice a n c, .int .i64 kind] w [.agg [.int .i64, .int .i64, .int .i64, .int .u32, .int .u64, .int .u64, .sl, .sl, .bool], .one .bool] fun r w' => Ext w w' ∧ r.2.1 = decide (dOk g xs kind) ∧ PgM w' (dSpec g xs kind) r.1 := by
  refine (PDone_c hx bx).mono ?_
  rintro r w' ⟨e, h1, h2⟩
  unfold dSpec
  by_cases h : dOk g xs kind
  · rw [if_pos h, decide_eq_true h]
    exact ⟨e, (h2 h).1, .is (h2 h).2⟩
  · rw [if_neg h, decide_eq_false h, (h1 h).1]
    exact ⟨e, (h1 h).2, .zero⟩
theorem rPReadU_c {w0 w : World} {g : Geo} {a : Option Addr} {n c : Nat} {xs : List Int} (hx : Ints w0 .u8 a n c xs) (e0 : Ext w0 w) (bx : Byt xs) (hL : lenP g xs) :
    CallV Try.prog 28 #[g.val, .slice a n c] w [.agg [.int .i64, .int .i64, .int .i64, .int .u32, .int .u64, .int .u64, .sl, .sl, .bool, .bool]] fun r w' => Ext w w' ∧ PgN w0 (pSpec g xs) (decide (okR (endP g xs))) r.1 := by
  refine (rPRead_c hx e0 bx hL).mono ?_
  rintro r w' ⟨e, h1, h2⟩
  unfold pSpec
  by_cases h : okR (endP g xs)
  · rw [if_pos ⟨hL, h⟩, decide_eq_true h]
    exact ⟨e, h2 h⟩
  · rw [if_neg fun hh => h hh.2, decide_eq_false h, h1 h]
    exact ⟨e, ⟨none, 0, 0⟩, ⟨none, 0, 0⟩, rfl, intsNil, intsNil⟩
theorem rPDoneU_c {w0 w : World} {g : Geo} {a : Option Addr} {n c : Nat} {kind : Int} {xs : List Int} (hx : Ints w0 .u8 a n c xs) (e0 : Ext w0 w) (bx : Byt xs) (hL : lenP g xs) :
    CallV Try.prog 29 #[g.val, .slice a n c, .int .i64 kind] w [.agg [.int .i64, .int .i64, .int .i64, .int .u32, .int .u64, .int .u64, .sl, .sl, .bool, .bool]] fun r w' => Ext w w' ∧ PgN w0 (dSpec g xs kind) (decide (dOk g xs kind)) r.1 := by
  refine (rPDone_c hx e0 bx hL).mono ?_
  rintro r w' ⟨e, h1, h2⟩
  unfold dSpec
  by_cases h : dOk g xs kind
  · rw [if_pos h, decide_eq_true h]
    exact ⟨e, h2 h.2⟩
  · rw [if_neg h, decide_eq_false h, h1 fun hh => h ⟨hL, hh⟩]
    exact ⟨e, ⟨none, 0, 0⟩, ⟨none, 0, 0⟩, rfl, intsNil, intsNil⟩

theorem PageReads_law {w : World} {g : Geo} {a : Option Addr} {n c : Nat} {kind : Int} {xs : List Int} (hx : Ints w .u8 a n c xs) (bx : Byt xs) :
    CallV Try.prog 4 #[g.val, .slice a n c, .int .i64 kind] w [.one .bool] fun r w' => r.1 = true ∧ Ext w w' := by
  apply law15_PageReads.vc
  unfold law15_PageReads.P
  have lx := hx.len
  have S := Sep.start NoB w
  (repeat ((first | refine S.newB fun _ _ S f _ => ?_ | refine S.la0 rfl ?_ | refine S.la1 rfl ?_ | refine S.la2 rfl ?_ | refine S.la3 rfl ?_ | refine S.la4 rfl ?_ | refine S.la5 rfl ?_ | refine S.ld0 rfl rfl ?_ | refine S.ld1 rfl rfl ?_ | refine S.ld2 rfl rfl ?_ | refine S.ld3 rfl rfl ?_ | refine S.ld4 rfl rfl ?_ | refine S.ld5 rfl rfl ?_ | refine S.st0 (by rfl) fun _ S f => ?_ | refine S.st1 (by rfl) fun _ S f => ?_ | refine S.st2 (by rfl) fun _ S f => ?_ | refine S.st3 (by rfl) fun _ S f => ?_ | refine S.st4 (by rfl) fun _ S f => ?_ | refine S.st5 (by rfl) fun _ S f => ?_ | refine S.su0 (by rfl) fun _ S f => ?_ | refine S.su1 (by rfl) fun _ S f => ?_ | refine S.su2 (by rfl) fun _ S f => ?_ | refine S.su3 (by rfl) fun _ S f => ?_ | refine S.su4 (by rfl) fun _ S f => ?_ | refine S.su5 (by rfl) fun _ S f => ?_ | refine ⟨by decide, ?_⟩); try dsimp only [List.set_cons_zero, List.set_cons_succ, cond_true, cond_false, Bool.not_true, Bool.not_false]))
  refine cond_d (fun _ => aw15 S.ext) (fun hn => ?_)
  (repeat ((first | refine S.newB fun _ _ S f _ => ?_ | refine S.la0 rfl ?_ | refine S.la1 rfl ?_ | refine S.la2 rfl ?_ | refine S.la3 rfl ?_ | refine S.la4 rfl ?_ | refine S.la5 rfl ?_ | refine S.ld0 rfl rfl ?_ | refine S.ld1 rfl rfl ?_ | refine S.ld2 rfl rfl ?_ | refine S.ld3 rfl rfl ?_ | refine S.ld4 rfl rfl ?_ | refine S.ld5 rfl rfl ?_ | refine S.st0 (by rfl) fun _ S f => ?_ | refine S.st1 (by rfl) fun _ S f => ?_ | refine S.st2 (by rfl) fun _ S f => ?_ | refine S.st3 (by rfl) fun _ S f => ?_ | refine S.st4 (by rfl) fun _ S f => ?_ | refine S.st5 (by rfl) fun _ S f => ?_ | refine S.su0 (by rfl) fun _ S f => ?_ | refine S.su1 (by rfl) fun _ S f => ?_ | refine S.su2 (by rfl) fun _ S f => ?_ | refine S.su3 (by rfl) fun _ S f => ?_ | refine S.su4 (by rfl) fun _ S f => ?_ | refine S.su5 (by rfl) fun _ S f => ?_ | refine ⟨by decide, ?_⟩); try dsimp only [List.set_cons_zero, List.set_cons_succ, cond_true, cond_false, Bool.not_true, Bool.not_false]))
  refine (PReadU_c (g := g) (hx.ext S.ext) bx).mono ?_
  rintro ⟨⟨(k1 : Int), (k2 : Int), (k3 : Int), (k4 : Int), (k5 : Int), (k6 : Int), ⟨ua, un, uc⟩, ⟨ta, tn, tc⟩, (d : Bool), ⟨⟩⟩, (e2 : Int), ⟨⟩⟩ w2 ⟨x2, h2, s, t, q, is, it⟩
  dsimp only at h2 q ⊢
  cases q
  dsimp only at is it
  have S := S.stepE x2
  refine S.newB fun _ w3 S f3 _ => ?_
  refine S.st0 (by rfl) fun w4 S f4 => ?_
  have X4 : Ext w2 w4 := Fr.ext (f3.trans' f4 fun k hk => .inr (by omega))
  (repeat ((first | refine S.newB fun _ _ S f _ => ?_ | refine S.la0 rfl ?_ | refine S.la1 rfl ?_ | refine S.la2 rfl ?_ | refine S.la3 rfl ?_ | refine S.la4 rfl ?_ | refine S.la5 rfl ?_ | refine S.ld0 rfl rfl ?_ | refine S.ld1 rfl rfl ?_ | refine S.ld2 rfl rfl ?_ | refine S.ld3 rfl rfl ?_ | refine S.ld4 rfl rfl ?_ | refine S.ld5 rfl rfl ?_ | refine S.st0 (by rfl) fun _ S f => ?_ | refine S.st1 (by rfl) fun _ S f => ?_ | refine S.st2 (by rfl) fun _ S f => ?_ | refine S.st3 (by rfl) fun _ S f => ?_ | refine S.st4 (by rfl) fun _ S f => ?_ | refine S.st5 (by rfl) fun _ S f => ?_ | refine S.su0 (by rfl) fun _ S f => ?_ | refine S.su1 (by rfl) fun _ S f => ?_ | refine S.su2 (by rfl) fun _ S f => ?_ | refine S.su3 (by rfl) fun _ S f => ?_ | refine S.su4 (by rfl) fun _ S f => ?_ | refine S.su5 (by rfl) fun _ S f => ?_ | refine ⟨by decide, ?_⟩); try dsimp only [List.set_cons_zero, List.set_cons_succ, cond_true, cond_false, Bool.not_true, Bool.not_false]))
  refine (PDoneU_c (g := g) (kind := kind) (hx.ext S.ext) bx).mono ?_
  rintro ⟨⟨(k1 : Int), (k2 : Int), (k3 : Int), (k4 : Int), (k5 : Int), (k6 : Int), ⟨va, vn, vc⟩, ⟨za, zn, zc⟩, (d : Bool), ⟨⟩⟩, (o : Bool), ⟨⟩⟩ w5 ⟨x5, h5, s5, t5, q5, is5, it5⟩
  dsimp only at h5 q5 ⊢
  cases q5
  dsimp only at is5 it5
  have S := S.stepE x5
  refine S.newB fun _ w6 S f6 _ => ?_
  refine S.st0 (by rfl) fun w7 S f7 => ?_
  have X7 : Ext w5 w7 := Fr.ext (f6.trans' f7 fun k hk => .inr (by omega))
  refine (Blank_c (hx.ext S.ext) bx).mono ?_
  rintro ⟨(r8 : Bool), ⟨⟩⟩ w8 ⟨h8, rfl⟩
  dsimp only at h8 ⊢
  refine rFill_c.mono ?_
  rintro ⟨(s9 : SlV), ⟨⟩⟩ w9 h9
  dsimp only at h9 ⊢
  have hf : (max 0 (min (65536 : Int) ((n : Nat) : Int))).toNat = n := by generalize hL : (65536 : Int) = L; omega
  rw [hf] at h9
  have S := S.stepE h9.ext
  refine (SameBytes_c (hx.ext S.ext) h9.ints).mono ?_
  rintro ⟨(r10 : Bool), ⟨⟩⟩ w10 ⟨h10, x10⟩
  dsimp only at h10 ⊢
  have S := S.stepE x10
  refine cond_f (by rw [h8, h10, lx]; simp) ?_
  (repeat ((first | refine S.newB fun _ _ S f _ => ?_ | refine S.la0 rfl ?_ | refine S.la1 rfl ?_ | refine S.la2 rfl ?_ | refine S.la3 rfl ?_ | refine S.la4 rfl ?_ | refine S.la5 rfl ?_ | refine S.ld0 rfl rfl ?_ | refine S.ld1 rfl rfl ?_ | refine S.ld2 rfl rfl ?_ | refine S.ld3 rfl rfl ?_ | refine S.ld4 rfl rfl ?_ | refine S.ld5 rfl rfl ?_ | refine S.st0 (by rfl) fun _ S f => ?_ | refine S.st1 (by rfl) fun _ S f => ?_ | refine S.st2 (by rfl) fun _ S f => ?_ | refine S.st3 (by rfl) fun _ S f => ?_ | refine S.st4 (by rfl) fun _ S f => ?_ | refine S.st5 (by rfl) fun _ S f => ?_ | refine S.su0 (by rfl) fun _ S f => ?_ | refine S.su1 (by rfl) fun _ S f => ?_ | refine S.su2 (by rfl) fun _ S f => ?_ | refine S.su3 (by rfl) fun _ S f => ?_ | refine S.su4 (by rfl) fun _ S f => ?_ | refine S.su5 (by rfl) fun _ S f => ?_ | refine ⟨by decide, ?_⟩); try dsimp only [List.set_cons_zero, List.set_cons_succ, cond_true, cond_false, Bool.not_true, Bool.not_false]))
  refine (Right_c (g := g)).mono ?_
  rintro ⟨(r11 : Bool), ⟨⟩⟩ w11 ⟨h11, x11⟩
  dsimp only at h11 ⊢
  have S := S.stepE x11
  subst h11
  have Y : Ext w8 w11 := h9.ext.trans (x10.trans x11)
  have YA : Ext w2 w11 := X4.trans (x5.trans (X7.trans Y))
  have YB : Ext w5 w11 := X7.trans Y
  subst h2; subst h5
  by_cases hL : lenP g xs
  case neg =>
    have hp : pSpec g xs = zS := by unfold pSpec; rw [if_neg fun h => hL h.1]
    have hd : dSpec g xs kind = zS := by unfold dSpec; rw [if_neg fun h => hL h.1]
    have hd' : ¬ dOk g xs kind := fun h => hL h.1
    have he : rdE g xs = 2 := by unfold rdE; rw [if_neg hL]
    rw [hp] at S is it
    rw [hd] at S is5 it5
    rw [he, decide_eq_false hd']
    by_cases hR : Right g
    case' pos =>
      refine cond_f (by rw [decide_eq_true hR]; rfl) ?_
      have hs := hR.sec
      (repeat ((first | refine S.newB fun _ _ S f _ => ?_ | refine S.la0 rfl ?_ | refine S.la1 rfl ?_ | refine S.la2 rfl ?_ | refine S.la3 rfl ?_ | refine S.la4 rfl ?_ | refine S.la5 rfl ?_ | refine S.ld0 rfl rfl ?_ | refine S.ld1 rfl rfl ?_ | refine S.ld2 rfl rfl ?_ | refine S.ld3 rfl rfl ?_ | refine S.ld4 rfl rfl ?_ | refine S.ld5 rfl rfl ?_ | refine S.st0 (by rfl) fun _ S f => ?_ | refine S.st1 (by rfl) fun _ S f => ?_ | refine S.st2 (by rfl) fun _ S f => ?_ | refine S.st3 (by rfl) fun _ S f => ?_ | refine S.st4 (by rfl) fun _ S f => ?_ | refine S.st5 (by rfl) fun _ S f => ?_ | refine S.su0 (by rfl) fun _ S f => ?_ | refine S.su1 (by rfl) fun _ S f => ?_ | refine S.su2 (by rfl) fun _ S f => ?_ | refine S.su3 (by rfl) fun _ S f => ?_ | refine S.su4 (by rfl) fun _ S f => ?_ | refine S.su5 (by rfl) fun _ S f => ?_ | refine ⟨by decide, ?_⟩); try dsimp only [List.set_cons_zero, List.set_cons_succ, cond_true, cond_false, Bool.not_true, Bool.not_false]))
      refine ⟨Rng.i64 (by omega) (by omega), cond_ne (fun _ => ?_) (fun h => absurd ⟨hR, by omega⟩ hL)⟩
    case' neg => refine cond_t (by rw [decide_eq_false hR]; rfl) ?_
    all_goals
      refine cond_t rfl (cond_t rfl ?_)
      (repeat ((first | refine S.newB fun _ _ S f _ => ?_ | refine S.la0 rfl ?_ | refine S.la1 rfl ?_ | refine S.la2 rfl ?_ | refine S.la3 rfl ?_ | refine S.la4 rfl ?_ | refine S.la5 rfl ?_ | refine S.ld0 rfl rfl ?_ | refine S.ld1 rfl rfl ?_ | refine S.ld2 rfl rfl ?_ | refine S.ld3 rfl rfl ?_ | refine S.ld4 rfl rfl ?_ | refine S.ld5 rfl rfl ?_ | refine S.st0 (by rfl) fun _ S f => ?_ | refine S.st1 (by rfl) fun _ S f => ?_ | refine S.st2 (by rfl) fun _ S f => ?_ | refine S.st3 (by rfl) fun _ S f => ?_ | refine S.st4 (by rfl) fun _ S f => ?_ | refine S.st5 (by rfl) fun _ S f => ?_ | refine S.su0 (by rfl) fun _ S f => ?_ | refine S.su1 (by rfl) fun _ S f => ?_ | refine S.su2 (by rfl) fun _ S f => ?_ | refine S.su3 (by rfl) fun _ S f => ?_ | refine S.su4 (by rfl) fun _ S f => ?_ | refine S.su5 (by rfl) fun _ S f => ?_ | refine ⟨by decide, ?_⟩); try dsimp only [List.set_cons_zero, List.set_cons_succ, cond_true, cond_false, Bool.not_true, Bool.not_false]))
      refine (same15_c (g := zeroH) (h := zeroH) (s := ⟨ua, un, uc⟩) (t := ⟨ta, tn, tc⟩) (s' := ⟨none, 0, 0⟩) (t' := ⟨none, 0, 0⟩) (is.ext YA) (it.ext YA) intsNil intsNil).mono ?_
      rintro ⟨(r : Bool), ⟨⟩⟩ w12 ⟨x12, h12⟩
      have h12 := h12 rfl rfl rfl rfl
      have S := S.stepE x12
      dsimp only at h12 ⊢
      refine cond_t h12 ?_
      (repeat ((first | refine S.newB fun _ _ S f _ => ?_ | refine S.la0 rfl ?_ | refine S.la1 rfl ?_ | refine S.la2 rfl ?_ | refine S.la3 rfl ?_ | refine S.la4 rfl ?_ | refine S.la5 rfl ?_ | refine S.ld0 rfl rfl ?_ | refine S.ld1 rfl rfl ?_ | refine S.ld2 rfl rfl ?_ | refine S.ld3 rfl rfl ?_ | refine S.ld4 rfl rfl ?_ | refine S.ld5 rfl rfl ?_ | refine S.st0 (by rfl) fun _ S f => ?_ | refine S.st1 (by rfl) fun _ S f => ?_ | refine S.st2 (by rfl) fun _ S f => ?_ | refine S.st3 (by rfl) fun _ S f => ?_ | refine S.st4 (by rfl) fun _ S f => ?_ | refine S.st5 (by rfl) fun _ S f => ?_ | refine S.su0 (by rfl) fun _ S f => ?_ | refine S.su1 (by rfl) fun _ S f => ?_ | refine S.su2 (by rfl) fun _ S f => ?_ | refine S.su3 (by rfl) fun _ S f => ?_ | refine S.su4 (by rfl) fun _ S f => ?_ | refine S.su5 (by rfl) fun _ S f => ?_ | refine ⟨by decide, ?_⟩); try dsimp only [List.set_cons_zero, List.set_cons_succ, cond_true, cond_false, Bool.not_true, Bool.not_false]))
      refine (same15_c (g := zeroH) (h := zeroH) (s := ⟨va, vn, vc⟩) (t := ⟨za, zn, zc⟩) (s' := ⟨none, 0, 0⟩) (t' := ⟨none, 0, 0⟩) (is5.ext (YB.trans x12)) (it5.ext (YB.trans x12)) intsNil intsNil).mono ?_
      rintro ⟨(r : Bool), ⟨⟩⟩ w13 ⟨x13, h13⟩
      have h13 := h13 rfl rfl rfl rfl
      dsimp only at h13 ⊢
      exact cond_t h13 (aw15 (S.ext.trans x13))
  refine cond_f (by rw [decide_eq_true hL.1]; rfl) ?_
  have hs := hL.1.sec
  (repeat ((first | refine S.newB fun _ _ S f _ => ?_ | refine S.la0 rfl ?_ | refine S.la1 rfl ?_ | refine S.la2 rfl ?_ | refine S.la3 rfl ?_ | refine S.la4 rfl ?_ | refine S.la5 rfl ?_ | refine S.ld0 rfl rfl ?_ | refine S.ld1 rfl rfl ?_ | refine S.ld2 rfl rfl ?_ | refine S.ld3 rfl rfl ?_ | refine S.ld4 rfl rfl ?_ | refine S.ld5 rfl rfl ?_ | refine S.st0 (by rfl) fun _ S f => ?_ | refine S.st1 (by rfl) fun _ S f => ?_ | refine S.st2 (by rfl) fun _ S f => ?_ | refine S.st3 (by rfl) fun _ S f => ?_ | refine S.st4 (by rfl) fun _ S f => ?_ | refine S.st5 (by rfl) fun _ S f => ?_ | refine S.su0 (by rfl) fun _ S f => ?_ | refine S.su1 (by rfl) fun _ S f => ?_ | refine S.su2 (by rfl) fun _ S f => ?_ | refine S.su3 (by rfl) fun _ S f => ?_ | refine S.su4 (by rfl) fun _ S f => ?_ | refine S.su5 (by rfl) fun _ S f => ?_ | refine ⟨by decide, ?_⟩); try dsimp only [List.set_cons_zero, List.set_cons_succ, cond_true, cond_false, Bool.not_true, Bool.not_false]))
  refine ⟨Rng.i64 (by omega) (by omega), cond_ne (fun h => absurd hL.2 (by omega)) (fun _ => ?_)⟩
  (repeat ((first | refine S.newB fun _ _ S f _ => ?_ | refine S.la0 rfl ?_ | refine S.la1 rfl ?_ | refine S.la2 rfl ?_ | refine S.la3 rfl ?_ | refine S.la4 rfl ?_ | refine S.la5 rfl ?_ | refine S.ld0 rfl rfl ?_ | refine S.ld1 rfl rfl ?_ | refine S.ld2 rfl rfl ?_ | refine S.ld3 rfl rfl ?_ | refine S.ld4 rfl rfl ?_ | refine S.ld5 rfl rfl ?_ | refine S.st0 (by rfl) fun _ S f => ?_ | refine S.st1 (by rfl) fun _ S f => ?_ | refine S.st2 (by rfl) fun _ S f => ?_ | refine S.st3 (by rfl) fun _ S f => ?_ | refine S.st4 (by rfl) fun _ S f => ?_ | refine S.st5 (by rfl) fun _ S f => ?_ | refine S.su0 (by rfl) fun _ S f => ?_ | refine S.su1 (by rfl) fun _ S f => ?_ | refine S.su2 (by rfl) fun _ S f => ?_ | refine S.su3 (by rfl) fun _ S f => ?_ | refine S.su4 (by rfl) fun _ S f => ?_ | refine S.su5 (by rfl) fun _ S f => ?_ | refine ⟨by decide, ?_⟩); try dsimp only [List.set_cons_zero, List.set_cons_succ, cond_true, cond_false, Bool.not_true, Bool.not_false]))
  refine (rPReadU_c (g := g) hx S.ext bx hL).mono ?_
  rintro ⟨⟨(k1 : Int), (k2 : Int), (k3 : Int), (k4 : Int), (k5 : Int), (k6 : Int), ⟨ma, mn, mc⟩, ⟨na, nn, nc⟩, (d : Bool), (o : Bool), ⟨⟩⟩, ⟨⟩⟩ w12 ⟨x12, s12, t12, q12, is12, it12⟩
  dsimp only at q12 ⊢
  cases q12
  have S := S.stepE x12
  refine S.newB fun _ w13 S f13 _ => ?_
  refine S.st0 (by rfl) fun w14 S f14 => ?_
  have X14 : Ext w12 w14 := Fr.ext (f13.trans' f14 fun k hk => .inr (by omega))
  (repeat ((first | refine S.newB fun _ _ S f _ => ?_ | refine S.la0 rfl ?_ | refine S.la1 rfl ?_ | refine S.la2 rfl ?_ | refine S.la3 rfl ?_ | refine S.la4 rfl ?_ | refine S.la5 rfl ?_ | refine S.ld0 rfl rfl ?_ | refine S.ld1 rfl rfl ?_ | refine S.ld2 rfl rfl ?_ | refine S.ld3 rfl rfl ?_ | refine S.ld4 rfl rfl ?_ | refine S.ld5 rfl rfl ?_ | refine S.st0 (by rfl) fun _ S f => ?_ | refine S.st1 (by rfl) fun _ S f => ?_ | refine S.st2 (by rfl) fun _ S f => ?_ | refine S.st3 (by rfl) fun _ S f => ?_ | refine S.st4 (by rfl) fun _ S f => ?_ | refine S.st5 (by rfl) fun _ S f => ?_ | refine S.su0 (by rfl) fun _ S f => ?_ | refine S.su1 (by rfl) fun _ S f => ?_ | refine S.su2 (by rfl) fun _ S f => ?_ | refine S.su3 (by rfl) fun _ S f => ?_ | refine S.su4 (by rfl) fun _ S f => ?_ | refine S.su5 (by rfl) fun _ S f => ?_ | refine ⟨by decide, ?_⟩); try dsimp only [List.set_cons_zero, List.set_cons_succ, cond_true, cond_false, Bool.not_true, Bool.not_false]))
  refine (rPDoneU_c (g := g) (kind := kind) hx S.ext bx hL).mono ?_
  rintro ⟨⟨(k1 : Int), (k2 : Int), (k3 : Int), (k4 : Int), (k5 : Int), (k6 : Int), ⟨oa, on, oc⟩, ⟨pa, pn, pc⟩, (d : Bool), (o : Bool), ⟨⟩⟩, ⟨⟩⟩ w15 ⟨x15, s15, t15, q15, is15, it15⟩
  dsimp only at q15 ⊢
  cases q15
  have S := S.stepE x15
  refine S.newB fun _ w16 S f16 _ => ?_
  refine S.st0 (by rfl) fun w17 S f17 => ?_
  have X17 : Ext w15 w17 := Fr.ext (f16.trans' f17 fun k hk => .inr (by omega))
  have he : rdE g xs = (if okR (endP g xs) then 0 else 1) := by unfold rdE; rw [if_pos hL]
  rw [he]
  dsimp only at is12 it12 is15 it15
  have Z : Ext w11 w17 := x12.trans (X14.trans (x15.trans X17))
  have ZA := YA.trans Z
  have ZB := YB.trans Z
  by_cases hO : okR (endP g xs)
  case' pos => rw [if_pos hO]; rw [decide_eq_true hO] at S
  case' neg => rw [if_neg hO]; rw [decide_eq_false hO] at S
  all_goals
    (repeat ((first | refine S.newB fun _ _ S f _ => ?_ | refine S.la0 rfl ?_ | refine S.la1 rfl ?_ | refine S.la2 rfl ?_ | refine S.la3 rfl ?_ | refine S.la4 rfl ?_ | refine S.la5 rfl ?_ | refine S.la6 rfl ?_ | refine S.la7 rfl ?_ | refine S.la8 rfl ?_ | refine S.la9 rfl ?_ | refine S.la10 rfl ?_ | refine S.la11 rfl ?_ | refine S.ld0 rfl rfl ?_ | refine S.ld1 rfl rfl ?_ | refine S.ld2 rfl rfl ?_ | refine S.ld3 rfl rfl ?_ | refine S.ld4 rfl rfl ?_ | refine S.ld5 rfl rfl ?_ | refine S.ld6 rfl rfl ?_ | refine S.ld7 rfl rfl ?_ | refine S.ld8 rfl rfl ?_ | refine S.ld9 rfl rfl ?_ | refine S.ld10 rfl rfl ?_ | refine S.ld11 rfl rfl ?_ | refine S.st0 (by rfl) fun _ S f => ?_ | refine S.st1 (by rfl) fun _ S f => ?_ | refine S.st2 (by rfl) fun _ S f => ?_ | refine S.st3 (by rfl) fun _ S f => ?_ | refine S.st4 (by rfl) fun _ S f => ?_ | refine S.st5 (by rfl) fun _ S f => ?_ | refine S.st6 (by rfl) fun _ S f => ?_ | refine S.st7 (by rfl) fun _ S f => ?_ | refine S.st8 (by rfl) fun _ S f => ?_ | refine S.st9 (by rfl) fun _ S f => ?_ | refine S.st10 (by rfl) fun _ S f => ?_ | refine S.st11 (by rfl) fun _ S f => ?_ | refine S.su0 (by rfl) fun _ S f => ?_ | refine S.su1 (by rfl) fun _ S f => ?_ | refine S.su2 (by rfl) fun _ S f => ?_ | refine S.su3 (by rfl) fun _ S f => ?_ | refine S.su4 (by rfl) fun _ S f => ?_ | refine S.su5 (by rfl) fun _ S f => ?_ | refine S.su6 (by rfl) fun _ S f => ?_ | refine S.su7 (by rfl) fun _ S f => ?_ | refine S.su8 (by rfl) fun _ S f => ?_ | refine S.su9 (by rfl) fun _ S f => ?_ | refine S.su10 (by rfl) fun _ S f => ?_ | refine S.su11 (by rfl) fun _ S f => ?_ | refine ⟨by decide, ?_⟩); try dsimp only [List.set_cons_zero, List.set_cons_succ, cond_true, cond_false, Bool.not_true, Bool.not_false]))
    refine (same15_c (g := (pSpec g xs).h) (h := (pSpec g xs).h) (s := ⟨ua, un, uc⟩) (t := ⟨ta, tn, tc⟩) (s' := ⟨ma, mn, mc⟩) (t' := ⟨na, nn, nc⟩) (is.ext ZA) (it.ext ZA) (is12.ext S.ext) (it12.ext S.ext)).mono ?_
    rintro ⟨(r : Bool), ⟨⟩⟩ w18 ⟨x18, h18⟩
    have h18 := h18 rfl rfl rfl rfl
    have S := S.stepE x18
    dsimp only at h18 ⊢
    refine cond_t h18 ?_
    (repeat ((first | refine S.newB fun _ _ S f _ => ?_ | refine S.la0 rfl ?_ | refine S.la1 rfl ?_ | refine S.la2 rfl ?_ | refine S.la3 rfl ?_ | refine S.la4 rfl ?_ | refine S.la5 rfl ?_ | refine S.la6 rfl ?_ | refine S.la7 rfl ?_ | refine S.la8 rfl ?_ | refine S.la9 rfl ?_ | refine S.la10 rfl ?_ | refine S.la11 rfl ?_ | refine S.ld0 rfl rfl ?_ | refine S.ld1 rfl rfl ?_ | refine S.ld2 rfl rfl ?_ | refine S.ld3 rfl rfl ?_ | refine S.ld4 rfl rfl ?_ | refine S.ld5 rfl rfl ?_ | refine S.ld6 rfl rfl ?_ | refine S.ld7 rfl rfl ?_ | refine S.ld8 rfl rfl ?_ | refine S.ld9 rfl rfl ?_ | refine S.ld10 rfl rfl ?_ | refine S.ld11 rfl rfl ?_ | refine S.st0 (by rfl) fun _ S f => ?_ | refine S.st1 (by rfl) fun _ S f => ?_ | refine S.st2 (by rfl) fun _ S f => ?_ | refine S.st3 (by rfl) fun _ S f => ?_ | refine S.st4 (by rfl) fun _ S f => ?_ | refine S.st5 (by rfl) fun _ S f => ?_ | refine S.st6 (by rfl) fun _ S f => ?_ | refine S.st7 (by rfl) fun _ S f => ?_ | refine S.st8 (by rfl) fun _ S f => ?_ | refine S.st9 (by rfl) fun _ S f => ?_ | refine S.st10 (by rfl) fun _ S f => ?_ | refine S.st11 (by rfl) fun _ S f => ?_ | refine S.su0 (by rfl) fun _ S f => ?_ | refine S.su1 (by rfl) fun _ S f => ?_ | refine S.su2 (by rfl) fun _ S f => ?_ | refine S.su3 (by rfl) fun _ S f => ?_ | refine S.su4 (by rfl) fun _ S f => ?_ | refine S.su5 (by rfl) fun _ S f => ?_ | refine S.su6 (by rfl) fun _ S f => ?_ | refine S.su7 (by rfl) fun _ S f => ?_ | refine S.su8 (by rfl) fun _ S f => ?_ | refine S.su9 (by rfl) fun _ S f => ?_ | refine S.su10 (by rfl) fun _ S f => ?_ | refine S.su11 (by rfl) fun _ S f => ?_ | refine ⟨by decide, ?_⟩); try dsimp only [List.set_cons_zero, List.set_cons_succ, cond_true, cond_false, Bool.not_true, Bool.not_false]))
    refine cond_t (by simp) ?_
    (repeat ((first | refine S.newB fun _ _ S f _ => ?_ | refine S.la0 rfl ?_ | refine S.la1 rfl ?_ | refine S.la2 rfl ?_ | refine S.la3 rfl ?_ | refine S.la4 rfl ?_ | refine S.la5 rfl ?_ | refine S.la6 rfl ?_ | refine S.la7 rfl ?_ | refine S.la8 rfl ?_ | refine S.la9 rfl ?_ | refine S.la10 rfl ?_ | refine S.la11 rfl ?_ | refine S.ld0 rfl rfl ?_ | refine S.ld1 rfl rfl ?_ | refine S.ld2 rfl rfl ?_ | refine S.ld3 rfl rfl ?_ | refine S.ld4 rfl rfl ?_ | refine S.ld5 rfl rfl ?_ | refine S.ld6 rfl rfl ?_ | refine S.ld7 rfl rfl ?_ | refine S.ld8 rfl rfl ?_ | refine S.ld9 rfl rfl ?_ | refine S.ld10 rfl rfl ?_ | refine S.ld11 rfl rfl ?_ | refine S.st0 (by rfl) fun _ S f => ?_ | refine S.st1 (by rfl) fun _ S f => ?_ | refine S.st2 (by rfl) fun _ S f => ?_ | refine S.st3 (by rfl) fun _ S f => ?_ | refine S.st4 (by rfl) fun _ S f => ?_ | refine S.st5 (by rfl) fun _ S f => ?_ | refine S.st6 (by rfl) fun _ S f => ?_ | refine S.st7 (by rfl) fun _ S f => ?_ | refine S.st8 (by rfl) fun _ S f => ?_ | refine S.st9 (by rfl) fun _ S f => ?_ | refine S.st10 (by rfl) fun _ S f => ?_ | refine S.st11 (by rfl) fun _ S f => ?_ | refine S.su0 (by rfl) fun _ S f => ?_ | refine S.su1 (by rfl) fun _ S f => ?_ | refine S.su2 (by rfl) fun _ S f => ?_ | refine S.su3 (by rfl) fun _ S f => ?_ | refine S.su4 (by rfl) fun _ S f => ?_ | refine S.su5 (by rfl) fun _ S f => ?_ | refine S.su6 (by rfl) fun _ S f => ?_ | refine S.su7 (by rfl) fun _ S f => ?_ | refine S.su8 (by rfl) fun _ S f => ?_ | refine S.su9 (by rfl) fun _ S f => ?_ | refine S.su10 (by rfl) fun _ S f => ?_ | refine S.su11 (by rfl) fun _ S f => ?_ | refine ⟨by decide, ?_⟩); try dsimp only [List.set_cons_zero, List.set_cons_succ, cond_true, cond_false, Bool.not_true, Bool.not_false]))
    refine (same15_c (g := (dSpec g xs kind).h) (h := (dSpec g xs kind).h) (s := ⟨va, vn, vc⟩) (t := ⟨za, zn, zc⟩) (s' := ⟨oa, on, oc⟩) (t' := ⟨pa, pn, pc⟩) (is5.ext (ZB.trans x18)) (it5.ext (ZB.trans x18)) (is15.ext S.ext) (it15.ext S.ext)).mono ?_
    rintro ⟨(r : Bool), ⟨⟩⟩ w19 ⟨x19, h19⟩
    have h19 := h19 rfl rfl rfl rfl
    dsimp only at h19 ⊢
    exact cond_t h19 (aw15 (S.ext.trans x19))

theorem PageReads_of {w : World} {x : TGeo.T} {a : Option Addr} {n c b : Nat} {xs : List Int} {kind : Int} (g0 : TGeo.ok w x) (g1 : SlI w .u8 a n c xs b) (g2 : Rng .i64 kind) :
    CallV Try.prog 4 #[.agg (TGeo.vs x).toArray, .slice a n c, .int .i64 kind] w [.one .bool] fun r w' => r.1 = true ∧ Ext w w' := by
  rw [geoT_val]
  exact PageReads_law g1.ints g1.byt

end Go.Proofs.Ytfpkaebmiojicaa.Vc

/-! The law HeadMarks of layer 14: each call gives true, and what it read stays. -/
namespace Go.Proofs.Ytfpkaebmiojicaa.Vc
open Go Go.Eng Go.RowKit
set_option linter.unusedVariables false
set_option linter.unusedSimpArgs false

def core (h : Hd) (tg : List Int) : List Int := (hdL h ++ invL (hdL h)) ++ tagL tg
def markL (h : Hd) (tg : List Int) : List Int := core h tg ++ List.replicate 8 0
theorem core_length (h : Hd) {tg : List Int} (hl : tg.length = 0 ∨ tg.length = 32) : (core h tg).length = 80 := by
  unfold core
  rw [List.length_append, List.length_append, invL_length, hdL_length, tagL_length hl]
theorem core_byt {h : Hd} (hR : HRight h) {tg : List Int} (bt : Byt tg) : Byt (core h tg) := by
  unfold core
  refine ((hdL_byt hR).append (invL_byt _)).append ?_
  unfold tagL
  split
  · exact Byt.replicate (by omega) (by omega) _
  · exact bt
theorem markL_length (h : Hd) {tg : List Int} (hl : tg.length = 0 ∨ tg.length = 32) : (markL h tg).length = 88 := by
  unfold markL
  rw [List.length_append, core_length h hl, List.length_replicate]
theorem markL_byt {h : Hd} (hR : HRight h) {tg : List Int} (bt : Byt tg) : Byt (markL h tg) := (core_byt hR bt).append (Byt.replicate (by omega) (by omega) _)
theorem markL_hd (h : Hd) (hg : h.rng) (tg : List Int) : hdOf (markL h tg) = h := by
  unfold markL core
  rw [List.append_assoc, List.append_assoc]
  exact part_hdL h hg _
theorem markL_ok (h : Hd) {tg : List Int} (hR : HRight h) : okR (markL h tg) := by
  refine ⟨hR.1, rfl, ?_⟩
  have p1 : part (markL h tg) 0 24 = hdL h := by
    unfold part markL core
    rw [List.drop_zero, List.append_assoc, List.append_assoc, List.take_left' (by rw [hdL_length])]
  have p2 : part (markL h tg) 24 48 = invL (hdL h) := by
    unfold part markL core
    rw [List.append_assoc, List.append_assoc, List.drop_left' (by rw [hdL_length]), List.take_left' (by rw [invL_length, hdL_length])]
  rw [p1, p2]
theorem part_core (h : Hd) {tg : List Int} (hl : tg.length = 0 ∨ tg.length = 32) : part (markL h tg) 48 80 = part (endL h tg) 48 80 := by
  unfold part markL endL
  rw [show ((hdL h ++ invL (hdL h)) ++ tagL tg) = core h tg from rfl, List.drop_append_of_le_length (by rw [core_length h hl]; omega), List.drop_append_of_le_length (by rw [core_length h hl]; omega),
    List.take_left' (by rw [List.length_drop, core_length h hl]), List.take_left' (by rw [List.length_drop, core_length h hl])]
theorem markL_comm (h : Hd) {tg : List Int} (hl : tg.length = 0 ∨ tg.length = 32) : comm (markL h tg) = true := by
  refine decide_eq_true ⟨markL_length h hl, ?_⟩
  unfold markL
  rw [List.drop_left' (by rw [core_length h hl])]
theorem and255 : ∀ x : Fin 256, Go.bits .and .u8 ((x.val : Nat) : Int) 255 = ((x.val : Nat) : Int) := by decide +kernel
theorem getD_left {xs ys : List Int} {i : Nat} (h : i < xs.length) : (xs ++ ys).getD i 0 = xs.getD i 0 := by
  rw [List.getD_eq_getElem?_getD, List.getElem?_append_left h, ← List.getD_eq_getElem?_getD]
theorem getD_right {xs ys : List Int} {i : Nat} (h : xs.length ≤ i) : (xs ++ ys).getD i 0 = ys.getD (i - xs.length) 0 := by
  rw [List.getD_eq_getElem?_getD, List.getElem?_append_right h, ← List.getD_eq_getElem?_getD]
theorem and_mark {h : Hd} (hR : HRight h) {tg : List Int} (bt : Byt tg) (hl : tg.length = 0 ∨ tg.length = 32) : andL (endL h tg) (List.replicate 80 255 ++ List.replicate 8 0) = markL h tg := by
  refine List.ext_getElem (by rw [andL_length, endL_length h hl, markL_length h hl]) fun i h1 h2 => ?_
  have hc := core_length h hl
  rw [← getD_get h2]
  rw [markL_length h hl] at h2
  rw [show (andL (endL h tg) (List.replicate 80 255 ++ List.replicate 8 0))[i] = Go.bits .and .u8 ((endL h tg).getD i 0) ((List.replicate 80 255 ++ List.replicate 8 0 : List Int).getD i 0) by simp [andL]]
  unfold endL markL
  rw [show ((hdL h ++ invL (hdL h)) ++ tagL tg) = core h tg from rfl]
  by_cases hi : i < 80
  · rw [getD_left (xs := core h tg) (by omega), getD_left (xs := List.replicate 80 255) (by simpa using hi), getD_left (xs := core h tg) (by omega), getD_get (xs := List.replicate 80 255) (by simpa using hi), List.getElem_replicate, getD_get (xs := core h tg) (by omega)]
    obtain ⟨x, hx⟩ := byte_nat ((core_byt hR bt) _ (List.getElem_mem (by omega : i < (core h tg).length)))
    rw [hx]
    exact and255 x
  · rw [getD_right (xs := core h tg) (by omega), getD_right (xs := List.replicate 80 255) (by simp; omega), getD_right (xs := core h tg) (by omega), hc, List.length_replicate,
      getD_get (xs := List.replicate 8 (255 : Int)) (by simp; omega), List.getElem_replicate, getD_get (xs := List.replicate 8 (0 : Int)) (by simp; omega), List.getElem_replicate]
    decide +kernel

theorem MarkLow_c {w : World} {n : Int} (h : ¬ (88 ≤ n ∧ n ≤ 4184)) : CallV Try.prog 60 #[.int .i64 n] w [.one .sl] fun r w' => r.1 = (⟨none, 0, 0⟩ : SlV) ∧ w' = w := by
  refine head_Mark.vc _ _ _ ?_
  unfold head_Mark.P
  exact cond_d (fun h => ⟨rfl, rfl⟩) (fun _ => cond_d (fun h => ⟨rfl, rfl⟩) (fun _ => by omega))

end Go.Proofs.Ytfpkaebmiojicaa.Vc

/-! Parts of plans, cut out by wip/tools/vccut.py. -/
namespace Go.Proofs.Ytfpkaebmiojicaa.Vc
open Go Go.Eng
set_option linter.unusedVariables false

def law15_PageBack.T (b21 : Nat) (b30 : Nat) (b5 : Nat) (K : Bool × Unit → World → Prop) (r19 : (Int × Int × Int × Int × Int × Int × SlV × SlV × Bool × Unit) × Int × Unit) (w32 : World) (r28 : (Int × Int × Int × Int × Int × Int × SlV × SlV × Bool × Unit) × Int × Unit) (b3 : Nat) (r11 : SlV × Int × Unit) : Prop :=
JoinV [] (fun (v34 : Unit) w35 =>
  LoadS w35 ⟨b21, 6, none⟩ .sl fun (x36 : SlV) =>
  LoadS w35 ⟨b30, 6, none⟩ .sl fun (x37 : SlV) =>
  CallV Try.prog 19 #[.slice x36.a x36.n x36.c, .slice x37.a x37.n x37.c] w35 [.one .bool] fun (r38 : Bool × Unit) w39 =>
  cond r38.1
  (LoadS w39 ⟨b21, 7, none⟩ .sl fun (x40 : SlV) =>
  LoadS w39 ⟨b30, 7, none⟩ .sl fun (x41 : SlV) =>
  CallV Try.prog 19 #[.slice x40.a x40.n x40.c, .slice x41.a x41.n x41.c] w39 [.one .bool] fun (r42 : Bool × Unit) w43 =>
  cond r42.1
  ((0 ≤ (0 : Int) ∧ 0 < (2 : Int)) ∧
  LoadS w43 ⟨b5, 0, none⟩ .sl fun (x44 : SlV) =>
  cond (((x44.n : Nat) : Int) == 0)
  ((0 ≤ (1 : Int) ∧ 1 < (2 : Int)) ∧
  LoadS w43 ⟨b5, 1, none⟩ .sl fun (x45 : SlV) =>
  cond (((x45.n : Nat) : Int) == 0)
  (CallV Try.prog 18 #[] w43 [.one .bool] fun (r46 : Bool × Unit) w47 =>
  K (r46.1, ()) w47)
  (LoadS w43 ⟨b21, 7, none⟩ .sl fun (x48 : SlV) =>
  (0 ≤ (1 : Int) ∧ 1 < (2 : Int)) ∧
  LoadS w43 ⟨b5, 1, none⟩ .sl fun (x49 : SlV) =>
  CallV Try.prog 19 #[.slice x48.a x48.n x48.c, .slice x49.a x49.n x49.c] w43 [.one .bool] fun (r50 : Bool × Unit) w51 =>
  cond r50.1
  (CallV Try.prog 18 #[] w51 [.one .bool] fun (r52 : Bool × Unit) w53 =>
  K (r52.1, ()) w53)
  (K (false, ()) w51)))
  (LoadS w43 ⟨b21, 6, none⟩ .sl fun (x54 : SlV) =>
  (0 ≤ (0 : Int) ∧ 0 < (2 : Int)) ∧
  LoadS w43 ⟨b5, 0, none⟩ .sl fun (x55 : SlV) =>
  CallV Try.prog 19 #[.slice x54.a x54.n x54.c, .slice x55.a x55.n x55.c] w43 [.one .bool] fun (r56 : Bool × Unit) w57 =>
  cond r56.1
  ((0 ≤ (1 : Int) ∧ 1 < (2 : Int)) ∧
  LoadS w57 ⟨b5, 1, none⟩ .sl fun (x58 : SlV) =>
  cond (((x58.n : Nat) : Int) == 0)
  (CallV Try.prog 18 #[] w57 [.one .bool] fun (r59 : Bool × Unit) w60 =>
  K (r59.1, ()) w60)
  (LoadS w57 ⟨b21, 7, none⟩ .sl fun (x61 : SlV) =>
  (0 ≤ (1 : Int) ∧ 1 < (2 : Int)) ∧
  LoadS w57 ⟨b5, 1, none⟩ .sl fun (x62 : SlV) =>
  CallV Try.prog 19 #[.slice x61.a x61.n x61.c, .slice x62.a x62.n x62.c] w57 [.one .bool] fun (r63 : Bool × Unit) w64 =>
  cond r63.1
  (CallV Try.prog 18 #[] w64 [.one .bool] fun (r65 : Bool × Unit) w66 =>
  K (r65.1, ()) w66)
  (K (false, ()) w64)))
  (K (false, ()) w57)))
  (K (false, ()) w43))
  (K (false, ()) w39)) fun (J33 : Unit → World → Prop) =>
  cond (r19.2.1 != 0)
  (K (false, ()) w32)
  (cond (r28.2.1 != 0)
  (K (false, ()) w32)
  (LoadS w32 ⟨b21, 8, none⟩ .bool fun (x67 : Bool) =>
  cond x67
  (K (false, ()) w32)
  (LoadS w32 ⟨b30, 8, none⟩ .bool fun (x68 : Bool) =>
  cond (!x68)
  (K (false, ()) w32)
  (LoadA w32 ⟨b21, 0, none⟩ [.int .i64, .int .i64, .int .i64, .int .u32, .int .u64, .int .u64] fun (x69 : Int × Int × Int × Int × Int × Int × Unit) =>
  LoadA w32 ⟨b3, 0, none⟩ [.int .i64, .int .i64, .int .i64, .int .u32, .int .u64, .int .u64] fun (x70 : Int × Int × Int × Int × Int × Int × Unit) =>
  AggEq Try.prog 27 #[.int .i64 x69.1, .int .i64 x69.2.1, .int .i64 x69.2.2.1, .int .u32 x69.2.2.2.1, .int .u64 x69.2.2.2.2.1, .int .u64 x69.2.2.2.2.2.1] #[.int .i64 x70.1, .int .i64 x70.2.1, .int .i64 x70.2.2.1, .int .u32 x70.2.2.2.1, .int .u64 x70.2.2.2.2.1, .int .u64 x70.2.2.2.2.2.1] fun e71 =>
  cond (!e71)
  (K (false, ()) w32)
  (LoadA w32 ⟨b30, 0, none⟩ [.int .i64, .int .i64, .int .i64, .int .u32, .int .u64, .int .u64] fun (x72 : Int × Int × Int × Int × Int × Int × Unit) =>
  LoadA w32 ⟨b3, 0, none⟩ [.int .i64, .int .i64, .int .i64, .int .u32, .int .u64, .int .u64] fun (x73 : Int × Int × Int × Int × Int × Int × Unit) =>
  AggEq Try.prog 27 #[.int .i64 x72.1, .int .i64 x72.2.1, .int .i64 x72.2.2.1, .int .u32 x72.2.2.2.1, .int .u64 x72.2.2.2.2.1, .int .u64 x72.2.2.2.2.2.1] #[.int .i64 x73.1, .int .i64 x73.2.1, .int .i64 x73.2.2.1, .int .u32 x73.2.2.2.1, .int .u64 x73.2.2.2.2.1, .int .u64 x73.2.2.2.2.2.1] fun e74 =>
  cond (!e74)
  (K (false, ()) w32)
  (CallV Try.prog 25 #[.slice r11.1.a r11.1.n r11.1.c] w32 [.one .bool] fun (r75 : Bool × Unit) w76 =>
  cond r75.1
  (K (false, ()) w76)
  (J33 (()) w76)))))))

end Go.Proofs.Ytfpkaebmiojicaa.Vc

/-! The law PageBack of layer 15: each call gives true, and what it read stays. -/
namespace Go.Proofs.Ytfpkaebmiojicaa.Vc
open Go Go.Eng Go.RowKit
set_option linter.unusedVariables false
set_option linter.unusedSimpArgs false

abbrev pgC (h : Hd) (s t : SlV) (d : Bool) : List Value := [.int .i64 h.k, .int .i64 h.n, .int .i64 h.c, .int .u32 h.l, .int .u64 h.e, .int .u64 h.t, .slice s.a s.n s.c, .slice t.a t.n t.c, .bool d]

theorem back_tail {w w32 : World} {h : Hd} {s t s' t' E : SlV} {b21 b30 b5 b3 : Nat} {a a2 : Option Addr} {n c m c2 : Nat} {xs ts P T bs : List Int} {e1 e2 e3 e4 : TypeId}
    (S : Sep NoB w w32 [BoxA b30 e1 (pgC h s' t' true), BoxA b21 e2 (pgC h s t false), BoxA b5 e3 [.slice a n c, .slice a2 m c2], BoxA b3 e4 h.vs])
    (is : Ints w32 .u8 s.a s.n s.c P) (it : Ints w32 .u8 t.a t.n t.c T) (is' : Ints w32 .u8 s'.a s'.n s'.c P) (it' : Ints w32 .u8 t'.a t'.n t'.c T) (hx : Ints w .u8 a n c xs) (ht : Ints w .u8 a2 m c2 ts)
    (hP : n ≠ 0 → P = xs) (hT : m ≠ 0 → T = ts) (hb : Ints w32 .u8 E.a E.n E.c bs) (bb : Byt bs) (hnb : bs ≠ List.replicate bs.length 255) :
    law15_PageBack.T b21 b30 b5 (fun r w' => r.1 = true ∧ Ext w w') (pgT h s t false, (0 : Int), ()) w32 (pgT h s' t' true, (0 : Int), ()) b3 (E, (0 : Int), ()) := by
  unfold law15_PageBack.T
  refine ⟨fun _ w' => w' = w32, ?_, ?_⟩
  · rintro ⟨⟩ w35 rfl
    (repeat ((first | refine S.newB fun _ _ S f _ => ?_ | refine S.la0 rfl ?_ | refine S.la1 rfl ?_ | refine S.la2 rfl ?_ | refine S.la3 rfl ?_ | refine S.la4 rfl ?_ | refine S.la5 rfl ?_ | refine S.ld0 rfl rfl ?_ | refine S.ld1 rfl rfl ?_ | refine S.ld2 rfl rfl ?_ | refine S.ld3 rfl rfl ?_ | refine S.ld4 rfl rfl ?_ | refine S.ld5 rfl rfl ?_ | refine S.st0 (by rfl) fun _ S f => ?_ | refine S.st1 (by rfl) fun _ S f => ?_ | refine S.st2 (by rfl) fun _ S f => ?_ | refine S.st3 (by rfl) fun _ S f => ?_ | refine S.st4 (by rfl) fun _ S f => ?_ | refine S.st5 (by rfl) fun _ S f => ?_ | refine S.su0 (by rfl) fun _ S f => ?_ | refine S.su1 (by rfl) fun _ S f => ?_ | refine S.su2 (by rfl) fun _ S f => ?_ | refine S.su3 (by rfl) fun _ S f => ?_ | refine S.su4 (by rfl) fun _ S f => ?_ | refine S.su5 (by rfl) fun _ S f => ?_ | refine ⟨by decide, ?_⟩); try dsimp only [List.set_cons_zero, List.set_cons_succ, cond_true, cond_false, Bool.not_true, Bool.not_false]))
    refine (SameBytes_c is is').mono ?_
    rintro ⟨(r1 : Bool), ⟨⟩⟩ w1 ⟨h1, x1⟩
    dsimp only at h1 ⊢
    have S := S.stepE x1
    refine cond_t (by rw [h1]; simp) ?_
    (repeat ((first | refine S.newB fun _ _ S f _ => ?_ | refine S.la0 rfl ?_ | refine S.la1 rfl ?_ | refine S.la2 rfl ?_ | refine S.la3 rfl ?_ | refine S.la4 rfl ?_ | refine S.la5 rfl ?_ | refine S.ld0 rfl rfl ?_ | refine S.ld1 rfl rfl ?_ | refine S.ld2 rfl rfl ?_ | refine S.ld3 rfl rfl ?_ | refine S.ld4 rfl rfl ?_ | refine S.ld5 rfl rfl ?_ | refine S.st0 (by rfl) fun _ S f => ?_ | refine S.st1 (by rfl) fun _ S f => ?_ | refine S.st2 (by rfl) fun _ S f => ?_ | refine S.st3 (by rfl) fun _ S f => ?_ | refine S.st4 (by rfl) fun _ S f => ?_ | refine S.st5 (by rfl) fun _ S f => ?_ | refine S.su0 (by rfl) fun _ S f => ?_ | refine S.su1 (by rfl) fun _ S f => ?_ | refine S.su2 (by rfl) fun _ S f => ?_ | refine S.su3 (by rfl) fun _ S f => ?_ | refine S.su4 (by rfl) fun _ S f => ?_ | refine S.su5 (by rfl) fun _ S f => ?_ | refine ⟨by decide, ?_⟩); try dsimp only [List.set_cons_zero, List.set_cons_succ, cond_true, cond_false, Bool.not_true, Bool.not_false]))
    refine (SameBytes_c (it.ext x1) (it'.ext x1)).mono ?_
    rintro ⟨(r2 : Bool), ⟨⟩⟩ w2 ⟨h2, x2⟩
    dsimp only at h2 ⊢
    have S := S.stepE x2
    refine cond_t (by rw [h2]; simp) ?_
    have X2 := x1.trans x2
    (repeat ((first | refine S.newB fun _ _ S f _ => ?_ | refine S.la0 rfl ?_ | refine S.la1 rfl ?_ | refine S.la2 rfl ?_ | refine S.la3 rfl ?_ | refine S.la4 rfl ?_ | refine S.la5 rfl ?_ | refine S.ld0 rfl rfl ?_ | refine S.ld1 rfl rfl ?_ | refine S.ld2 rfl rfl ?_ | refine S.ld3 rfl rfl ?_ | refine S.ld4 rfl rfl ?_ | refine S.ld5 rfl rfl ?_ | refine S.st0 (by rfl) fun _ S f => ?_ | refine S.st1 (by rfl) fun _ S f => ?_ | refine S.st2 (by rfl) fun _ S f => ?_ | refine S.st3 (by rfl) fun _ S f => ?_ | refine S.st4 (by rfl) fun _ S f => ?_ | refine S.st5 (by rfl) fun _ S f => ?_ | refine S.su0 (by rfl) fun _ S f => ?_ | refine S.su1 (by rfl) fun _ S f => ?_ | refine S.su2 (by rfl) fun _ S f => ?_ | refine S.su3 (by rfl) fun _ S f => ?_ | refine S.su4 (by rfl) fun _ S f => ?_ | refine S.su5 (by rfl) fun _ S f => ?_ | refine ⟨by decide, ?_⟩); try dsimp only [List.set_cons_zero, List.set_cons_succ, cond_true, cond_false, Bool.not_true, Bool.not_false]))
    refine cond_eq (fun h0 => ?_) (fun h0 => ?_)
    · (repeat ((first | refine S.newB fun _ _ S f _ => ?_ | refine S.la0 rfl ?_ | refine S.la1 rfl ?_ | refine S.la2 rfl ?_ | refine S.la3 rfl ?_ | refine S.la4 rfl ?_ | refine S.la5 rfl ?_ | refine S.ld0 rfl rfl ?_ | refine S.ld1 rfl rfl ?_ | refine S.ld2 rfl rfl ?_ | refine S.ld3 rfl rfl ?_ | refine S.ld4 rfl rfl ?_ | refine S.ld5 rfl rfl ?_ | refine S.st0 (by rfl) fun _ S f => ?_ | refine S.st1 (by rfl) fun _ S f => ?_ | refine S.st2 (by rfl) fun _ S f => ?_ | refine S.st3 (by rfl) fun _ S f => ?_ | refine S.st4 (by rfl) fun _ S f => ?_ | refine S.st5 (by rfl) fun _ S f => ?_ | refine S.su0 (by rfl) fun _ S f => ?_ | refine S.su1 (by rfl) fun _ S f => ?_ | refine S.su2 (by rfl) fun _ S f => ?_ | refine S.su3 (by rfl) fun _ S f => ?_ | refine S.su4 (by rfl) fun _ S f => ?_ | refine S.su5 (by rfl) fun _ S f => ?_ | refine ⟨by decide, ?_⟩); try dsimp only [List.set_cons_zero, List.set_cons_succ, cond_true, cond_false, Bool.not_true, Bool.not_false]))
      refine cond_eq (fun h0 => aw15 S.ext) (fun h0 => ?_)
      (repeat ((first | refine S.newB fun _ _ S f _ => ?_ | refine S.la0 rfl ?_ | refine S.la1 rfl ?_ | refine S.la2 rfl ?_ | refine S.la3 rfl ?_ | refine S.la4 rfl ?_ | refine S.la5 rfl ?_ | refine S.ld0 rfl rfl ?_ | refine S.ld1 rfl rfl ?_ | refine S.ld2 rfl rfl ?_ | refine S.ld3 rfl rfl ?_ | refine S.ld4 rfl rfl ?_ | refine S.ld5 rfl rfl ?_ | refine S.st0 (by rfl) fun _ S f => ?_ | refine S.st1 (by rfl) fun _ S f => ?_ | refine S.st2 (by rfl) fun _ S f => ?_ | refine S.st3 (by rfl) fun _ S f => ?_ | refine S.st4 (by rfl) fun _ S f => ?_ | refine S.st5 (by rfl) fun _ S f => ?_ | refine S.su0 (by rfl) fun _ S f => ?_ | refine S.su1 (by rfl) fun _ S f => ?_ | refine S.su2 (by rfl) fun _ S f => ?_ | refine S.su3 (by rfl) fun _ S f => ?_ | refine S.su4 (by rfl) fun _ S f => ?_ | refine S.su5 (by rfl) fun _ S f => ?_ | refine ⟨by decide, ?_⟩); try dsimp only [List.set_cons_zero, List.set_cons_succ, cond_true, cond_false, Bool.not_true, Bool.not_false]))
      refine (SameBytes_c (it.ext X2) (ht.ext S.ext)).mono ?_
      rintro ⟨(r3 : Bool), ⟨⟩⟩ w3 ⟨h3, x3⟩
      dsimp only at h3 ⊢
      exact cond_t (by rw [h3]; exact decide_eq_true (hT (by omega))) (aw15 (S.ext.trans x3))
    · (repeat ((first | refine S.newB fun _ _ S f _ => ?_ | refine S.la0 rfl ?_ | refine S.la1 rfl ?_ | refine S.la2 rfl ?_ | refine S.la3 rfl ?_ | refine S.la4 rfl ?_ | refine S.la5 rfl ?_ | refine S.ld0 rfl rfl ?_ | refine S.ld1 rfl rfl ?_ | refine S.ld2 rfl rfl ?_ | refine S.ld3 rfl rfl ?_ | refine S.ld4 rfl rfl ?_ | refine S.ld5 rfl rfl ?_ | refine S.st0 (by rfl) fun _ S f => ?_ | refine S.st1 (by rfl) fun _ S f => ?_ | refine S.st2 (by rfl) fun _ S f => ?_ | refine S.st3 (by rfl) fun _ S f => ?_ | refine S.st4 (by rfl) fun _ S f => ?_ | refine S.st5 (by rfl) fun _ S f => ?_ | refine S.su0 (by rfl) fun _ S f => ?_ | refine S.su1 (by rfl) fun _ S f => ?_ | refine S.su2 (by rfl) fun _ S f => ?_ | refine S.su3 (by rfl) fun _ S f => ?_ | refine S.su4 (by rfl) fun _ S f => ?_ | refine S.su5 (by rfl) fun _ S f => ?_ | refine ⟨by decide, ?_⟩); try dsimp only [List.set_cons_zero, List.set_cons_succ, cond_true, cond_false, Bool.not_true, Bool.not_false]))
      refine (SameBytes_c (is.ext X2) (hx.ext S.ext)).mono ?_
      rintro ⟨(r3 : Bool), ⟨⟩⟩ w3 ⟨h3, x3⟩
      dsimp only at h3 ⊢
      have S := S.stepE x3
      refine cond_t (by rw [h3]; exact decide_eq_true (hP (by omega))) ?_
      (repeat ((first | refine S.newB fun _ _ S f _ => ?_ | refine S.la0 rfl ?_ | refine S.la1 rfl ?_ | refine S.la2 rfl ?_ | refine S.la3 rfl ?_ | refine S.la4 rfl ?_ | refine S.la5 rfl ?_ | refine S.ld0 rfl rfl ?_ | refine S.ld1 rfl rfl ?_ | refine S.ld2 rfl rfl ?_ | refine S.ld3 rfl rfl ?_ | refine S.ld4 rfl rfl ?_ | refine S.ld5 rfl rfl ?_ | refine S.st0 (by rfl) fun _ S f => ?_ | refine S.st1 (by rfl) fun _ S f => ?_ | refine S.st2 (by rfl) fun _ S f => ?_ | refine S.st3 (by rfl) fun _ S f => ?_ | refine S.st4 (by rfl) fun _ S f => ?_ | refine S.st5 (by rfl) fun _ S f => ?_ | refine S.su0 (by rfl) fun _ S f => ?_ | refine S.su1 (by rfl) fun _ S f => ?_ | refine S.su2 (by rfl) fun _ S f => ?_ | refine S.su3 (by rfl) fun _ S f => ?_ | refine S.su4 (by rfl) fun _ S f => ?_ | refine S.su5 (by rfl) fun _ S f => ?_ | refine ⟨by decide, ?_⟩); try dsimp only [List.set_cons_zero, List.set_cons_succ, cond_true, cond_false, Bool.not_true, Bool.not_false]))
      refine cond_eq (fun h0 => aw15 S.ext) (fun h0 => ?_)
      (repeat ((first | refine S.newB fun _ _ S f _ => ?_ | refine S.la0 rfl ?_ | refine S.la1 rfl ?_ | refine S.la2 rfl ?_ | refine S.la3 rfl ?_ | refine S.la4 rfl ?_ | refine S.la5 rfl ?_ | refine S.ld0 rfl rfl ?_ | refine S.ld1 rfl rfl ?_ | refine S.ld2 rfl rfl ?_ | refine S.ld3 rfl rfl ?_ | refine S.ld4 rfl rfl ?_ | refine S.ld5 rfl rfl ?_ | refine S.st0 (by rfl) fun _ S f => ?_ | refine S.st1 (by rfl) fun _ S f => ?_ | refine S.st2 (by rfl) fun _ S f => ?_ | refine S.st3 (by rfl) fun _ S f => ?_ | refine S.st4 (by rfl) fun _ S f => ?_ | refine S.st5 (by rfl) fun _ S f => ?_ | refine S.su0 (by rfl) fun _ S f => ?_ | refine S.su1 (by rfl) fun _ S f => ?_ | refine S.su2 (by rfl) fun _ S f => ?_ | refine S.su3 (by rfl) fun _ S f => ?_ | refine S.su4 (by rfl) fun _ S f => ?_ | refine S.su5 (by rfl) fun _ S f => ?_ | refine ⟨by decide, ?_⟩); try dsimp only [List.set_cons_zero, List.set_cons_succ, cond_true, cond_false, Bool.not_true, Bool.not_false]))
      refine (SameBytes_c (it.ext (X2.trans x3)) (ht.ext S.ext)).mono ?_
      rintro ⟨(r4 : Bool), ⟨⟩⟩ w4 ⟨h4, x4⟩
      dsimp only at h4 ⊢
      exact cond_t (by rw [h4]; exact decide_eq_true (hT (by omega))) (aw15 (S.ext.trans x4))
  · refine cond_f rfl (cond_f rfl ?_)
    (repeat ((first | refine S.newB fun _ _ S f _ => ?_ | refine S.la0 rfl ?_ | refine S.la1 rfl ?_ | refine S.la2 rfl ?_ | refine S.la3 rfl ?_ | refine S.la4 rfl ?_ | refine S.la5 rfl ?_ | refine S.ld0 rfl rfl ?_ | refine S.ld1 rfl rfl ?_ | refine S.ld2 rfl rfl ?_ | refine S.ld3 rfl rfl ?_ | refine S.ld4 rfl rfl ?_ | refine S.ld5 rfl rfl ?_ | refine S.st0 (by rfl) fun _ S f => ?_ | refine S.st1 (by rfl) fun _ S f => ?_ | refine S.st2 (by rfl) fun _ S f => ?_ | refine S.st3 (by rfl) fun _ S f => ?_ | refine S.st4 (by rfl) fun _ S f => ?_ | refine S.st5 (by rfl) fun _ S f => ?_ | refine S.su0 (by rfl) fun _ S f => ?_ | refine S.su1 (by rfl) fun _ S f => ?_ | refine S.su2 (by rfl) fun _ S f => ?_ | refine S.su3 (by rfl) fun _ S f => ?_ | refine S.su4 (by rfl) fun _ S f => ?_ | refine S.su5 (by rfl) fun _ S f => ?_ | refine ⟨by decide, ?_⟩); try dsimp only [List.set_cons_zero, List.set_cons_succ, cond_true, cond_false, Bool.not_true, Bool.not_false]))
    refine S.lb1 (o := 0) rfl (S.la3 rfl ?_)
    refine eqHd (g := h) (h := h) ?_
    refine cond_f (by simp) ?_
    refine S.lb0 (o := 0) rfl (S.la3 rfl ?_)
    refine eqHd (g := h) (h := h) ?_
    refine cond_f (by simp) ?_
    refine (Blank_c hb bb).mono ?_
    rintro ⟨(r4 : Bool), ⟨⟩⟩ w4 ⟨h4, rfl⟩
    dsimp only at h4 ⊢
    exact cond_f (by rw [h4]; exact decide_eq_false hnb) rfl

theorem payL_length {g : Geo} {xs : List Int} (hs : 32 ≤ g.s ∧ g.s ≤ 4096) (h : xs.length = 0 ∨ (xs.length : Int) = g.s) : (payL g xs).length = g.s.toNat := by
  unfold payL
  split
  · rw [List.length_replicate]
  · omega
theorem end_mk {g : Geo} {h : Hd} {xs ts : List Int} (hs : 32 ≤ g.s ∧ g.s ≤ 4096) (hx : xs.length = 0 ∨ (xs.length : Int) = g.s) : endP g (mkL g h xs ts) = endL h ts := by
  unfold endP mkL
  rw [List.drop_append_of_le_length (by rw [payL_length hs hx]; omega), List.drop_eq_nil_of_le (by rw [payL_length hs hx]; omega), List.nil_append]
theorem pays_mk {g : Geo} {h : Hd} {xs ts : List Int} (hs : 32 ≤ g.s ∧ g.s ≤ 4096) (hx : xs.length = 0 ∨ (xs.length : Int) = g.s) : pays g (mkL g h xs ts) = payL g xs := by
  unfold pays mkL
  rw [List.take_append_of_le_length (by rw [payL_length hs hx]; omega), List.take_of_length_le (by rw [payL_length hs hx]; omega)]
theorem and_full {x : Int} (h : 0 ≤ x ∧ x < 256) : Go.bits .and .u8 x 255 = x := by
  obtain ⟨y, rfl⟩ := byte_nat h
  exact and255 y
theorem andL_append {xs ys zs us : List Int} (h : xs.length = zs.length) : andL (xs ++ ys) (zs ++ us) = andL xs zs ++ andL ys us := by
  refine List.ext_getElem (by simp [andL]) fun i h1 h2 => ?_
  simp only [andL, List.getElem_map, List.getElem_range, List.getElem_append, List.length_map, List.length_range]
  split
  · rename_i hi
    rw [getD_left hi, getD_left (by omega)]
  · rename_i hi
    rw [getD_right (by omega), getD_right (by omega), h]
theorem andL_ones {xs : List Int} (bx : Byt xs) {n : Nat} (h : xs.length = n) : andL xs (List.replicate n 255) = xs := by
  refine List.ext_getElem (by simp [andL]) fun i h1 h2 => ?_
  simp only [andL, List.getElem_map, List.getElem_range]
  rw [getD_get (xs := List.replicate n 255) (by simp; omega), List.getElem_replicate, and_full (bx.getD i), getD_get h2]
theorem and_mk {g : Geo} {h : Hd} {xs ts : List Int} (hs : 32 ≤ g.s ∧ g.s ≤ 4096) (hx : xs.length = 0 ∨ (xs.length : Int) = g.s) (hR : HRight h) (bx : Byt xs) (bt : Byt ts) (ht : ts.length = 0 ∨ ts.length = 32) : andL (mkL g h xs ts) (comL g) = payL g xs ++ markL h ts := by
  unfold mkL comL
  rw [show (g.s + 80).toNat = g.s.toNat + 80 by omega, ← List.replicate_append_replicate, List.append_assoc, andL_append (by rw [payL_length hs hx, List.length_replicate]), and_mark hR bt ht, andL_ones _ (payL_length hs hx)]
  unfold payL
  split
  · exact Byt.replicate (by omega) (by omega) _
  · exact bx
theorem end_mark {g : Geo} {h : Hd} {xs ts : List Int} (hs : 32 ≤ g.s ∧ g.s ≤ 4096) (hx : xs.length = 0 ∨ (xs.length : Int) = g.s) : endP g (payL g xs ++ markL h ts) = markL h ts := by
  unfold endP
  rw [List.drop_append_of_le_length (by rw [payL_length hs hx]; omega), List.drop_eq_nil_of_le (by rw [payL_length hs hx]; omega), List.nil_append]
theorem pays_mark {g : Geo} {h : Hd} {xs ts : List Int} (hs : 32 ≤ g.s ∧ g.s ≤ 4096) (hx : xs.length = 0 ∨ (xs.length : Int) = g.s) : pays g (payL g xs ++ markL h ts) = payL g xs := by
  unfold pays
  rw [List.take_append_of_le_length (by rw [payL_length hs hx]; omega), List.take_of_length_le (by rw [payL_length hs hx]; omega)]
theorem tags_end {h : Hd} {ts : List Int} (ht : ts.length = 0 ∨ ts.length = 32) : part (endL h ts) 48 80 = tagL ts := by
  have l1 : (hdL h ++ invL (hdL h)).length = 48 := by rw [List.length_append, invL_length, hdL_length]
  unfold part endL
  rw [List.append_assoc, List.drop_append_of_le_length (by omega), List.drop_eq_nil_of_le (by omega), List.nil_append, List.take_append_of_le_length (by rw [tagL_length ht]; omega), List.take_of_length_le (by rw [tagL_length ht]; omega)]

theorem PageBack_law {w : World} {g : Geo} {h : Hd} {a a2 : Option Addr} {n c m c2 : Nat} {xs ts : List Int} (hg : h.rng) (hx : Ints w .u8 a n c xs) (ht : Ints w .u8 a2 m c2 ts) (bx : Byt xs) (bt : Byt ts) :
    CallV Try.prog 6 #[g.val, h.val, .agg #[.slice a n c, .slice a2 m c2]] w [.one .bool] fun r w' => r.1 = true ∧ Ext w w' := by
  apply law15_PageBack.vc
  unfold law15_PageBack.P
  have lx := hx.len
  have lt := ht.len
  have S := Sep.start NoB w
  refine S.newB fun b1 _ S _ _ => ?_
  refine S.newB fun b3 _ S _ _ => ?_
  refine S.newB fun b5 _ S _ _ => ?_
  (repeat ((first | refine S.newB fun _ _ S f _ => ?_ | refine S.la0 rfl ?_ | refine S.la1 rfl ?_ | refine S.la2 rfl ?_ | refine S.la3 rfl ?_ | refine S.la4 rfl ?_ | refine S.la5 rfl ?_ | refine S.ld0 rfl rfl ?_ | refine S.ld1 rfl rfl ?_ | refine S.ld2 rfl rfl ?_ | refine S.ld3 rfl rfl ?_ | refine S.ld4 rfl rfl ?_ | refine S.ld5 rfl rfl ?_ | refine S.st0 (by rfl) fun _ S f => ?_ | refine S.st1 (by rfl) fun _ S f => ?_ | refine S.st2 (by rfl) fun _ S f => ?_ | refine S.st3 (by rfl) fun _ S f => ?_ | refine S.st4 (by rfl) fun _ S f => ?_ | refine S.st5 (by rfl) fun _ S f => ?_ | refine S.su0 (by rfl) fun _ S f => ?_ | refine S.su1 (by rfl) fun _ S f => ?_ | refine S.su2 (by rfl) fun _ S f => ?_ | refine S.su3 (by rfl) fun _ S f => ?_ | refine S.su4 (by rfl) fun _ S f => ?_ | refine S.su5 (by rfl) fun _ S f => ?_ | refine ⟨by decide, ?_⟩); try dsimp only [List.set_cons_zero, List.set_cons_succ, cond_true, cond_false, Bool.not_true, Bool.not_false]))
  refine (Make_c (g := g) hg (hx.ext S.ext) (ht.ext S.ext)).mono ?_
  rintro ⟨⟨sa, sn, sc⟩, (e2 : Int), ⟨⟩⟩ w2 ⟨x2, h2, h2'⟩
  dsimp only at h2 h2' ⊢
  have S := S.stepE x2
  by_cases hP : PRight g h n m
  case neg =>
    obtain ⟨-, k2⟩ := h2' hP
    subst k2
    exact cond_t rfl (aw15 S.ext)
  obtain ⟨k1, k2⟩ := h2 hP
  subst k2
  refine cond_f rfl ?_
  obtain ⟨hR, hE, hn⟩ := hP
  have hs := hR.sec
  have hm : ts.length = 0 ∨ ts.length = 32 := by have := hE.2; omega
  have hn' : xs.length = 0 ∨ (xs.length : Int) = g.s := by omega
  (repeat ((first | refine S.newB fun _ _ S f _ => ?_ | refine S.la0 rfl ?_ | refine S.la1 rfl ?_ | refine S.la2 rfl ?_ | refine S.la3 rfl ?_ | refine S.la4 rfl ?_ | refine S.la5 rfl ?_ | refine S.ld0 rfl rfl ?_ | refine S.ld1 rfl rfl ?_ | refine S.ld2 rfl rfl ?_ | refine S.ld3 rfl rfl ?_ | refine S.ld4 rfl rfl ?_ | refine S.ld5 rfl rfl ?_ | refine S.st0 (by rfl) fun _ S f => ?_ | refine S.st1 (by rfl) fun _ S f => ?_ | refine S.st2 (by rfl) fun _ S f => ?_ | refine S.st3 (by rfl) fun _ S f => ?_ | refine S.st4 (by rfl) fun _ S f => ?_ | refine S.st5 (by rfl) fun _ S f => ?_ | refine S.su0 (by rfl) fun _ S f => ?_ | refine S.su1 (by rfl) fun _ S f => ?_ | refine S.su2 (by rfl) fun _ S f => ?_ | refine S.su3 (by rfl) fun _ S f => ?_ | refine S.su4 (by rfl) fun _ S f => ?_ | refine S.su5 (by rfl) fun _ S f => ?_ | refine ⟨by decide, ?_⟩); try dsimp only [List.set_cons_zero, List.set_cons_succ, cond_true, cond_false, Bool.not_true, Bool.not_false]))
  refine (PCommit_c (g := g)).mono ?_
  rintro ⟨⟨ta, tn, tc⟩, (e3 : Int), ⟨⟩⟩ w3 ⟨x3, h3, -⟩
  obtain ⟨m1, -⟩ := h3 hR
  dsimp only at m1 ⊢
  have S := S.stepE x3
  have b1 := (k1.ints.ext x3)
  have b2 := m1.ints
  have lb : (mkL g h xs ts).length = g.s.toNat + 88 := by unfold mkL; rw [List.length_append, payL_length hs hn', endL_length h hm]
  have lc : (comL g).length = g.s.toNat + 88 := by unfold comL; rw [List.length_append, List.length_replicate, List.length_replicate]; omega
  have l1 := b1.len
  have l2 := b2.len
  dsimp only at l1 l2 b1 b2
  rw [lb] at l1; rw [lc] at l2
  have bm : Byt (mkL g h xs ts) := mkL_byt hg hE.1 bx bt
  refine cond_ne (fun hh => absurd (by omega) hh) fun _ => ?_
  have hL : lenP g (mkL g h xs ts) := ⟨hR, by rw [lb]; omega⟩
  have q1 := end_mk (h := h) (ts := ts) hs hn'
  have q2 := pays_mk (h := h) (ts := ts) hs hn'
  have hO : okR (endP g (mkL g h xs ts)) := by rw [q1]; exact endL_ok h hm hg hE.1
  (repeat ((first | refine S.newB fun _ _ S f _ => ?_ | refine S.la0 rfl ?_ | refine S.la1 rfl ?_ | refine S.la2 rfl ?_ | refine S.la3 rfl ?_ | refine S.la4 rfl ?_ | refine S.la5 rfl ?_ | refine S.ld0 rfl rfl ?_ | refine S.ld1 rfl rfl ?_ | refine S.ld2 rfl rfl ?_ | refine S.ld3 rfl rfl ?_ | refine S.ld4 rfl rfl ?_ | refine S.ld5 rfl rfl ?_ | refine S.st0 (by rfl) fun _ S f => ?_ | refine S.st1 (by rfl) fun _ S f => ?_ | refine S.st2 (by rfl) fun _ S f => ?_ | refine S.st3 (by rfl) fun _ S f => ?_ | refine S.st4 (by rfl) fun _ S f => ?_ | refine S.st5 (by rfl) fun _ S f => ?_ | refine S.su0 (by rfl) fun _ S f => ?_ | refine S.su1 (by rfl) fun _ S f => ?_ | refine S.su2 (by rfl) fun _ S f => ?_ | refine S.su3 (by rfl) fun _ S f => ?_ | refine S.su4 (by rfl) fun _ S f => ?_ | refine S.su5 (by rfl) fun _ S f => ?_ | refine ⟨by decide, ?_⟩); try dsimp only [List.set_cons_zero, List.set_cons_succ, cond_true, cond_false, Bool.not_true, Bool.not_false]))
  refine (PReadU_c (g := g) b1 bm).mono ?_
  rintro ⟨⟨(k1 : Int), (k2 : Int), (k3 : Int), (k4 : Int), (k5 : Int), (k6 : Int), ⟨ua, un, uc⟩, ⟨va, vn, vc⟩, (d : Bool), ⟨⟩⟩, (e4 : Int), ⟨⟩⟩ w4 ⟨x4, h4, s, t, q, is, it⟩
  have hps : pSpec g (mkL g h xs ts) = ⟨h, false, payL g xs, tagL ts⟩ := by
    unfold pSpec fS tags
    rw [if_pos ⟨hL, hO⟩, q1, q2, endL_hd h hg, endL_comm hm, tags_end hm]
  have he : rdE g (mkL g h xs ts) = 0 := by unfold rdE; rw [if_pos hL, if_pos hO]
  rw [he] at h4
  rw [hps] at q is it
  dsimp only at h4 q ⊢
  cases q
  subst h4
  dsimp only at is it
  have S := S.stepE x4
  refine S.newB fun b21 w5 S f5 _ => ?_
  refine S.st0 (by rfl) fun w6 S f6 => ?_
  have X6 : Ext w4 w6 := Fr.ext (f5.trans' f6 fun k hk => .inr (by omega))
  have X36 : Ext w3 w6 := x4.trans X6
  have hnb : mkL g h xs ts ≠ List.replicate (mkL g h xs ts).length 255 := fun hh => by
    have : endP g (mkL g h xs ts) = endP g (List.replicate (mkL g h xs ts).length 255) := by rw [← hh]
    rw [endP_rep, lb] at this
    rw [this] at hO
    exact blank_ok (by omega) hO
  have hA : andL (mkL g h xs ts) (comL g) = payL g xs ++ markL h ts := and_mk hs hn' hE.1 bx bt hm
  have bA : Byt (payL g xs ++ markL h ts) := by rw [← hA]; exact andL_byt _ _
  have q3 := end_mark (h := h) (ts := ts) hs hn'
  have q4 := pays_mark (h := h) (ts := ts) hs hn'
  have hLA : lenP g (payL g xs ++ markL h ts) := ⟨hR, by rw [List.length_append, payL_length hs hn', markL_length h hm]; omega⟩
  have hOA : okR (endP g (payL g xs ++ markL h ts)) := by rw [q3]; exact markL_ok h hE.1
  have hpA : pSpec g (payL g xs ++ markL h ts) = ⟨h, true, payL g xs, tagL ts⟩ := by
    unfold pSpec fS tags
    rw [if_pos ⟨hLA, hOA⟩, q3, q4, markL_hd h hg, markL_comm h hm, part_core h hm, tags_end hm]
  have heA : rdE g (payL g xs ++ markL h ts) = 0 := by unfold rdE; rw [if_pos hLA, if_pos hOA]
  have hPP : n ≠ 0 → payL g xs = xs := fun h => by unfold payL; rw [if_neg (by omega)]
  have hTT : m ≠ 0 → tagL ts = ts := fun h => by unfold tagL; rw [if_neg (by omega)]
  refine S.reg fun D hD hkeep Sd T => ?_
  have Y : Ext w3 w6.drew := X36.trans (Ext.drew _)
  have YI : Ext w4 w6.drew := X6.trans (Ext.drew _)
  refine ⟨hD _ S.bl3, Sd.la3 rfl ?_⟩
  dsimp only
  have fin : ∀ {w' : World} {Rs : List Asr} {b30 : Nat} {s' t' : SlV} {e : TypeId}, Sep NoB w6.drew w' (BoxA b30 e (pgC h s' t' true) :: Rs) → Ints w' .u8 s'.a s'.n s'.c (payL g xs) → Ints w' .u8 t'.a t'.n t'.c (tagL ts) →
      law15_PageBack.T b21 b30 b5 (fun r w' => r.1 = true ∧ Ext w w') (pgT h ⟨ua, un, uc⟩ ⟨va, vn, vc⟩ false, (0 : Int), ()) w' (pgT h s' t' true, (0 : Int), ()) b3 (⟨sa, sn, sc⟩, (0 : Int), ()) := fun T i5 i6 =>
    back_tail ((Sd.frame0 T.take1).sel [0, 0, 0, 0] rfl) (is.ext (YI.trans T.ext)) (it.ext (YI.trans T.ext)) i5 i6 hx ht hPP hTT (b1.ext (Y.trans T.ext)) bm hnb
  refine ⟨?_, ?_⟩
  · refine (And_c (b1.ext Y) (b2.ext Y) (by omega) (by omega)).mono ?_
    rintro ⟨⟨xa, xn, xc⟩, ⟨⟩⟩ w7 h7
    rw [hA] at h7
    dsimp only at h7 ⊢
    have T := T.res h7
    dsimp only at T
    refine ⟨hkeep _ T.fr, ?_, ?_⟩
    · refine (PReadU_c (g := g) T.in0 bA).mono ?_
      rintro ⟨⟨(k1 : Int), (k2 : Int), (k3 : Int), (k4 : Int), (k5 : Int), (k6 : Int), ⟨oa, on, oc⟩, ⟨pa, pn, pc⟩, (d : Bool), ⟨⟩⟩, (e8 : Int), ⟨⟩⟩ w8 ⟨x8, h8, s8, t8, q8, is8, it8⟩
      rw [heA] at h8
      rw [hpA] at q8 is8 it8
      dsimp only at h8 q8 ⊢
      cases q8
      subst h8
      have T := T.stepE x8
      refine ⟨hkeep _ T.fr, ?_⟩
      refine T.newB fun b30 w9 T f9 _ => ⟨hkeep _ T.fr, ?_⟩
      refine T.st0 (by rfl) fun w10 T f10 => ⟨hkeep _ T.fr, ?_⟩
      have X10 : Ext w8 w10 := Fr.ext (f9.trans' f10 fun k hk => .inr (by omega))
      exact fin T (is8.ext X10) (it8.ext X10)
    · refine T.newB fun b30 w9 T f9 _ => ⟨hkeep _ T.fr, ?_⟩
      refine (PRead_c (g := g) T.in1 bA).mono ?_
      rintro ⟨⟨(k1 : Int), (k2 : Int), (k3 : Int), (k4 : Int), (k5 : Int), (k6 : Int), ⟨oa, on, oc⟩, ⟨pa, pn, pc⟩, (d : Bool), ⟨⟩⟩, (e8 : Int), ⟨⟩⟩ w8 ⟨x8, -, -, hh8⟩
      obtain ⟨h8, s8, t8, q8, -, -, T8⟩ := hh8 hLA hOA
      clear hh8
      rw [q3, markL_hd h hg, markL_comm h hm] at q8
      rw [q4, show tags g (payL g xs ++ markL h ts) = tagL ts by unfold tags; rw [q3, part_core h hm, tags_end hm]] at T8
      dsimp only at h8 q8 ⊢
      cases q8
      subst h8
      have T := T.frame0 T8
      dsimp only [List.cons_append, List.nil_append] at T
      refine ⟨hkeep _ T.fr, ?_⟩
      refine T.st2 (by rfl) fun w10 T f10 => ⟨hkeep _ T.fr, ?_⟩
      exact fin (s' := ⟨oa, on, oc⟩) (t' := ⟨pa, pn, pc⟩) (T.sel [2] rfl) T.in0 T.in1
  · refine T.newB fun b30 w9 T f9 _ => ⟨hkeep _ T.fr, ?_⟩
    refine (And_c (b1.ext (Y.trans T.ext)) (b2.ext (Y.trans T.ext)) (by omega) (by omega)).mono ?_
    rintro ⟨⟨xa, xn, xc⟩, ⟨⟩⟩ w7 h7
    rw [hA] at h7
    dsimp only at h7 ⊢
    have T := T.res h7
    dsimp only at T
    refine ⟨hkeep _ T.fr, ?_⟩
    refine (PRead_c (g := g) T.in0 bA).mono ?_
    rintro ⟨⟨(k1 : Int), (k2 : Int), (k3 : Int), (k4 : Int), (k5 : Int), (k6 : Int), ⟨oa, on, oc⟩, ⟨pa, pn, pc⟩, (d : Bool), ⟨⟩⟩, (e8 : Int), ⟨⟩⟩ w8 ⟨x8, -, -, hh8⟩
    obtain ⟨h8, s8, t8, q8, -, -, T8⟩ := hh8 hLA hOA
    clear hh8
    rw [q3, markL_hd h hg, markL_comm h hm] at q8
    rw [q4, show tags g (payL g xs ++ markL h ts) = tagL ts by unfold tags; rw [q3, part_core h hm, tags_end hm]] at T8
    dsimp only at h8 q8 ⊢
    cases q8
    subst h8
    have T := T.frame0 T8
    dsimp only [List.cons_append, List.nil_append] at T
    refine ⟨hkeep _ T.fr, ?_⟩
    refine T.st3 (by rfl) fun w10 T f10 => ⟨hkeep _ T.fr, ?_⟩
    exact fin (s' := ⟨oa, on, oc⟩) (t' := ⟨pa, pn, pc⟩) (T.sel [3] rfl) T.in0 T.in1

theorem PageBack_of {w : World} {x : TGeo.T} {y : THd.T} {z : TTwo.T} (g0 : TGeo.ok w x) (g1 : THd.ok w y) (g2 : TTwo.ok w z) :
    CallV Try.prog 6 #[.agg (TGeo.vs x).toArray, .agg (THd.vs y).toArray, .agg (TTwo.vs z).toArray] w [.one .bool] fun r w' => r.1 = true ∧ Ext w w' := by
  rw [geoT_val, hdT_val]
  have r1 := Ty.rd_of _ g2.1
  have r2 := Ty.rd_of _ g2.2.1
  exact PageBack_law (hdT_rng g1) (Ty.ints r1) (Ty.ints r2) (Ty.byt r1) (Ty.byt r2)

end Go.Proofs.Ytfpkaebmiojicaa.Vc

/-! Plain laws of layer 19 (chunk): a record's pages, and what they hold. -/
namespace Go.Proofs.Ytfpkaebmiojicaa.Vc
open Go Go.Eng Go.RowKit
set_option linter.unusedVariables false
set_option linter.unusedSimpArgs false

/-- How many pages a record has. -/
def nCh (g : Geo) : Int := cei 624 g.s
def ownH (g : Geo) (i gen : Int) : Hd := ⟨4, i, 0, nCh g, gen, 0⟩
theorem nCh_bd {g : Geo} (h : Right g) : (1 ≤ nCh g ∧ nCh g ≤ 32) ∧ 624 ≤ nCh g * g.s ∧ (nCh g - 1) * g.s < 624 ∧ nCh g * g.s ≤ 5000 := by
  have hs := h.sec
  have h2 := h.2.1
  have h3 : g.p ≤ 32 := h.1.2.1.2
  have hb := cei_bd (u := g.s) (m := 624) (by omega) (by omega)
  unfold nCh
  have e : cei 624 g.s = (624 + g.s - 1) / g.s := rfl
  have d := Int.mul_ediv_add_emod (624 + g.s - 1) g.s
  have r1 := Int.emod_nonneg (624 + g.s - 1) (show g.s ≠ 0 by omega)
  have r2 := Int.emod_lt_of_pos (624 + g.s - 1) (show 0 < g.s by omega)
  rw [← e] at d
  have c1 : g.s * cei 624 g.s = cei 624 g.s * g.s := Int.mul_comm _ _
  have c2 : (cei 624 g.s - 1) * g.s = cei 624 g.s * g.s - g.s := by rw [Int.sub_mul, Int.one_mul]
  refine ⟨⟨hb.1, by omega⟩, by omega, by omega, by omega⟩
theorem ownH_rng {g : Geo} {i gen : Int} (h : Right g) (hgen : 0 ≤ gen ∧ gen < 18446744073709551616) : (ownH g i gen).rng := by
  have := nCh_bd h
  unfold Hd.rng ownH
  dsimp only
  omega
theorem ownH_right {g : Geo} {i gen : Int} (hi : 0 ≤ i ∧ i < 32) : HRight (ownH g i gen) := by
  unfold HRight ownH
  dsimp only
  omega

/-- A record, filled up. -/
def allR (g : Geo) (rec : List Int) : List Int := rec ++ List.replicate (nCh g * g.s - 624).toNat 255
def chk (g : Geo) (rec : List Int) (i : Nat) : List Int := ((allR g rec).drop (i * g.s.toNat)).take g.s.toNat
def pgOf (g : Geo) (rec : List Int) (gen : Int) (i : Nat) : List Int := mkL g (ownH g i gen) (chk g rec i) []
def pagesL (g : Geo) (rec : List Int) (gen : Int) : List (List Int) := (List.range (nCh g).toNat).map (pgOf g rec gen)
theorem allR_length {g : Geo} (h : Right g) {rec : List Int} (hr : rec.length = 624) : (allR g rec).length = (nCh g).toNat * g.s.toNat := by
  have b := nCh_bd h
  have hs := h.sec
  unfold allR
  rw [List.length_append, hr, List.length_replicate]
  have e : ((nCh g).toNat * g.s.toNat : Nat) = (nCh g * g.s).toNat := by
    rw [Int.toNat_mul (by omega) (by omega)]
  omega
theorem chk_length {g : Geo} (h : Right g) {rec : List Int} (hr : rec.length = 624) {i : Nat} (hi : i < (nCh g).toNat) : (chk g rec i).length = g.s.toNat := by
  unfold chk
  rw [List.length_take, List.length_drop, allR_length h hr]
  have : (i + 1) * g.s.toNat ≤ (nCh g).toNat * g.s.toNat := Nat.mul_le_mul_right _ hi
  rw [Nat.add_mul] at this
  omega
theorem allR_byt {g : Geo} {rec : List Int} (br : Byt rec) : Byt (allR g rec) := br.append (Byt.replicate (by omega) (by omega) _)
theorem chk_byt {g : Geo} {rec : List Int} (br : Byt rec) (i : Nat) : Byt (chk g rec i) := ((allR_byt br).drop _).take _
theorem chunks_join (xs : List Int) (s : Nat) : ∀ n : Nat, ((List.range n).map fun i => (xs.drop (i * s)).take s).flatten = xs.take (n * s)
  | 0 => by simp
  | n + 1 => by
    rw [List.range_succ, List.map_append, List.flatten_append, chunks_join xs s n, Nat.add_mul, Nat.one_mul, List.take_add]
    simp

/-- What pages hold. -/
def gen0 (g : Geo) (ps : List (List Int)) : Int := (hdOf (endP g (ps.getD 0 []))).e
def pageOk (g : Geo) (ps : List (List Int)) (i : Nat) : Prop :=
  lenP g (ps.getD i []) ∧ okR (endP g (ps.getD i [])) ∧ hdOf (endP g (ps.getD i [])) = ownH g i (gen0 g ps) ∧ ((i : Int) = nCh g - 1 → comm (endP g (ps.getD i [])) = true)
def holds (g : Geo) (ps : List (List Int)) : Prop := Right g ∧ (nCh g).toNat ≤ ps.length ∧ ∀ i : Nat, i < (nCh g).toNat → pageOk g ps i
def recOf (g : Geo) (ps : List (List Int)) : List Int := (((List.range (nCh g).toNat).map fun i => pays g (ps.getD i [])).flatten).take 624
open Classical in
noncomputable def holdS (g : Geo) (ps : List (List Int)) : Int × List Int × Bool := if holds g ps then (gen0 g ps, recOf g ps, true) else (0, [], false)

end Go.Proofs.Ytfpkaebmiojicaa.Vc

/-! The plans of functions as plain statements, printed by wip/tools/vcgen.py; the kernel holds each to the code. -/
namespace Go.Proofs.Ytfpkaebmiojicaa.Vc
open Go Go.Eng
set_option linter.unusedVariables false

/-! ### nepenthe/chunk.own: function 72 -/
def chunk_own.A : Ann := .no
def chunk_own.P (p0_0 : Int) (p0_1 : Int) (p0_2 : Int) (p0_3 : Int) (p0_4 : Int) (p0_5 : Int) (p1 : Int) (p2 : Int) (w : World) (K : (Int × Int × Int × Int × Int × Int × Unit) × Unit → World → Prop) : Prop :=
  NewV #[.int .i64 p0_0, .int .i64 p0_1, .int .i64 p0_2, .int .i64 p0_3, .int .i64 p0_4, .int .i64 p0_5] 23 w fun b1 w2 =>
  NewV #[.int .i64 0, .int .i64 0, .int .i64 0, .int .u32 0, .int .u64 0, .int .u64 0] 27 w2 fun b3 w4 =>
  LoadA w4 ⟨b1, 0, none⟩ [.int .i64, .int .i64, .int .i64, .int .i64, .int .i64, .int .i64] fun (x5 : Int × Int × Int × Int × Int × Int × Unit) =>
  CallV Try.prog 71 #[.agg #[.int .i64 x5.1, .int .i64 x5.2.1, .int .i64 x5.2.2.1, .int .i64 x5.2.2.2.1, .int .i64 x5.2.2.2.2.1, .int .i64 x5.2.2.2.2.2.1]] w4 [.one (.int .i64)] fun (r6 : Int × Unit) w7 =>
  StoreV w7 ⟨b3, 0, none⟩ [.int .i64 4, .int .i64 p1, .int .i64 0, .int .u32 (IntKind.u32.wrap r6.1), .int .u64 p2, .int .u64 0] fun w8 =>
  LoadA w8 ⟨b3, 0, none⟩ [.int .i64, .int .i64, .int .i64, .int .u32, .int .u64, .int .u64] fun (x9 : Int × Int × Int × Int × Int × Int × Unit) =>
  K ((x9.1, x9.2.1, x9.2.2.1, x9.2.2.2.1, x9.2.2.2.2.1, x9.2.2.2.2.2.1, ()), ()) w8
theorem chunk_own.vc (p0_0 : Int) (p0_1 : Int) (p0_2 : Int) (p0_3 : Int) (p0_4 : Int) (p0_5 : Int) (p1 : Int) (p2 : Int) (w : World) (K : (Int × Int × Int × Int × Int × Int × Unit) × Unit → World → Prop) (h : chunk_own.P p0_0 p0_1 p0_2 p0_3 p0_4 p0_5 p1 p2 w K) : CallV Try.prog 72 #[.agg #[.int .i64 p0_0, .int .i64 p0_1, .int .i64 p0_2, .int .i64 p0_3, .int .i64 p0_4, .int .i64 p0_5], .int .i64 p1, .int .u64 p2] w [.agg [.int .i64, .int .i64, .int .i64, .int .u32, .int .u64, .int .u64]] K := by
  have e : vcFun Try.prog okf false Try.f72 chunk_own.A #[.agg #[.int .i64 p0_0, .int .i64 p0_1, .int .i64 p0_2, .int .i64 p0_3, .int .i64 p0_4, .int .i64 p0_5], .int .i64 p1, .int .u64 p2] w [.agg [.int .i64, .int .i64, .int .i64, .int .u32, .int .u64, .int .u64]] K = chunk_own.P p0_0 p0_1 p0_2 p0_3 p0_4 p0_5 p1 p2 w K := by kernel_rfl
  exact vcFun.calls okf_ok follows Try.func72 (e.symm ▸ h)

/-! ### nepenthe/chunk.Pages: function 31 -/
-- loop 0 carries 10: .one .sl, 37: .one (.int .i64)
def chunk_Pages.A : Ann := .two .no (.two .no (.two .no (.two (.draw (.take 1 (.take 3 (.take 4 (.take 5 (.take 6 (.take 7 (.take 8 (.take 9 (.eff 0 (.eff 2 (.eff 10 (.eff 11 (.take 12 (.done))))))))))))))) (.two .no (.two (.two .no (.one (.loop [6, 7, 10, 11, 12, 13, 37, 38, 39, 40, 41, 42, 43, 44, 45, 46, 47, 48, 49, 50, 51, 52, 53, 54, 55, 56, 57, 58, 59, 60, 61, 62, 63, 64, 65, 66, 67, 68, 69, 70, 71, 72] [(10, .one .sl), (37, .one (.int .i64))] (.two .no (.two .no (.two (.one (.two .no (.two (.draw (.take 0 (.take 1 (.take 2 (.take 3 (.take 5 (.take 6 (.take 7 (.take 8 (.take 9 (.take 10 (.take 11 (.take 12 (.take 13 (.take 14 (.take 15 (.take 16 (.take 17 (.take 18 (.take 19 (.take 20 (.eff 4 (.eff 21 (.take 22 (.take 23 (.take 24 (.take 25 (.take 26 (.done))))))))))))))))))))))))))))) .no))) .no)))))) .no)))))
def chunk_Pages.P (p0_0 : Int) (p0_1 : Int) (p0_2 : Int) (p0_3 : Int) (p0_4 : Int) (p0_5 : Int) (a1 : Option Addr) (n1 c1 : Nat) (p2 : Int) (w : World) (K : SlV × Int × Unit → World → Prop) : Prop :=
  NewV #[.int .i64 p0_0, .int .i64 p0_1, .int .i64 p0_2, .int .i64 p0_3, .int .i64 p0_4, .int .i64 p0_5] 23 w fun b1 w2 =>
  LoadA w2 ⟨b1, 0, none⟩ [.int .i64, .int .i64, .int .i64, .int .i64, .int .i64, .int .i64] fun (x3 : Int × Int × Int × Int × Int × Int × Unit) =>
  CallV Try.prog 57 #[.agg #[.int .i64 x3.1, .int .i64 x3.2.1, .int .i64 x3.2.2.1, .int .i64 x3.2.2.2.1, .int .i64 x3.2.2.2.2.1, .int .i64 x3.2.2.2.2.2.1]] w2 [.one (.int .i64)] fun (r4 : Int × Unit) w5 =>
  cond (r4.1 != 0)
  (K ((⟨none, 0, 0⟩ : SlV), (2 : Int), ()) w5)
  (cond (((n1 : Nat) : Int) != 624)
  (K ((⟨none, 0, 0⟩ : SlV), (2 : Int), ()) w5)
  (LoadA w5 ⟨b1, 0, none⟩ [.int .i64, .int .i64, .int .i64, .int .i64, .int .i64, .int .i64] fun (x6 : Int × Int × Int × Int × Int × Int × Unit) =>
  CallV Try.prog 71 #[.agg #[.int .i64 x6.1, .int .i64 x6.2.1, .int .i64 x6.2.2.1, .int .i64 x6.2.2.2.1, .int .i64 x6.2.2.2.2.1, .int .i64 x6.2.2.2.2.2.1]] w5 [.one (.int .i64)] fun (r7 : Int × Unit) w8 =>
  DrawV fun D9 =>
  (D9 b1 ∧ LoadS w8.drew ⟨b1, 2, none⟩ (.int .i64) fun (x10 : Int) =>
  Rng .i64 (r7.1 * x10) ∧
  Rng .i64 ((r7.1 * x10) - ((n1 : Nat) : Int)) ∧
  NewV #[] 5 w8.drew fun b11 w12 =>
  KeepOn D9 w8.drew w12 ∧
  AppS w12 a1 n1 1 fun ns17 =>
  AppV w12 5 1 1 (some ⟨b11, 0, none⟩) 0 0 ns17 n1 fun a13 n14 c15 w16 =>
  KeepOn D9 w8.drew w16 ∧
  CallV Try.prog 58 #[.int .u8 255, .int .i64 ((r7.1 * x10) - ((n1 : Nat) : Int))] w16 [.one .sl] fun (r18 : SlV × Unit) w19 =>
  KeepOn D9 w8.drew w19 ∧
  AppS w19 r18.1.a r18.1.n 1 fun ns24 =>
  AppV w19 5 1 1 a13 n14 c15 ns24 r18.1.n fun a20 n21 c22 w23 =>
  KeepOn D9 w8.drew w23 ∧
  LoopV [.one .sl, .one (.int .i64)] ((⟨none, 0, 0⟩ : SlV), (0 : Int), ()) w23 fun (z25 : SlV × Int × Unit) w26 (K27 : SlV × Int × Unit → World → Prop) =>
  cond (decide (z25.2.1 < r7.1))
  (DrawV fun D28 =>
  (D28 b1 ∧ LoadA w26.drew ⟨b1, 0, none⟩ [.int .i64, .int .i64, .int .i64, .int .i64, .int .i64, .int .i64] fun (x29 : Int × Int × Int × Int × Int × Int × Unit) =>
  (D28 b1 ∧ LoadA w26.drew ⟨b1, 0, none⟩ [.int .i64, .int .i64, .int .i64, .int .i64, .int .i64, .int .i64] fun (x30 : Int × Int × Int × Int × Int × Int × Unit) =>
  (D28 b1 ∧ LoadS w26.drew ⟨b1, 2, none⟩ (.int .i64) fun (x31 : Int) =>
  Rng .i64 (z25.2.1 * x31) ∧
  Rng .i64 (z25.2.1 + 1) ∧
  (D28 b1 ∧ LoadS w26.drew ⟨b1, 2, none⟩ (.int .i64) fun (x32 : Int) =>
  Rng .i64 ((z25.2.1 + 1) * x32) ∧
  Rng .i64 (z25.2.1 + 1) ∧
  (D28 b1 ∧ LoadS w26.drew ⟨b1, 2, none⟩ (.int .i64) fun (x33 : Int) =>
  Rng .i64 ((z25.2.1 + 1) * x33) ∧
  ((0 : Int) ≤ (z25.2.1 * x31) ∧ (z25.2.1 * x31) ≤ ((z25.2.1 + 1) * x32) ∧ ((z25.2.1 + 1) * x32) ≤ ((z25.2.1 + 1) * x33) ∧ ((z25.2.1 + 1) * x33) ≤ ((c22 : Nat) : Int)) ∧
  SubK a20 ((z25.2.1 * x31).toNat) (((z25.2.1 + 1) * x33).toNat) 1 fun a34 =>
  CallV Try.prog 72 #[.agg #[.int .i64 x30.1, .int .i64 x30.2.1, .int .i64 x30.2.2.1, .int .i64 x30.2.2.2.1, .int .i64 x30.2.2.2.2.1, .int .i64 x30.2.2.2.2.2.1], .int .i64 z25.2.1, .int .u64 p2] w26.drew [.agg [.int .i64, .int .i64, .int .i64, .int .u32, .int .u64, .int .u64]] fun (r35 : (Int × Int × Int × Int × Int × Int × Unit) × Unit) w36 =>
  KeepOn D28 w26.drew w36 ∧
  CallV Try.prog 15 #[.agg #[.int .i64 x29.1, .int .i64 x29.2.1, .int .i64 x29.2.2.1, .int .i64 x29.2.2.2.1, .int .i64 x29.2.2.2.2.1, .int .i64 x29.2.2.2.2.2.1], .agg #[.int .i64 r35.1.1, .int .i64 r35.1.2.1, .int .i64 r35.1.2.2.1, .int .u32 r35.1.2.2.2.1, .int .u64 r35.1.2.2.2.2.1, .int .u64 r35.1.2.2.2.2.2.1], .slice a34 ((((z25.2.1 + 1) * x32).toNat) - ((z25.2.1 * x31).toNat)) ((((z25.2.1 + 1) * x33).toNat) - ((z25.2.1 * x31).toNat)), .slice none 0 0] w36 [.one .sl, .one (.int .i64)] fun (r37 : SlV × Int × Unit) w38 =>
  KeepOn D28 w26.drew w38 ∧
  cond (r37.2.1 != 0)
  (K ((⟨none, 0, 0⟩ : SlV), r37.2.1, ()) w38)
  (NewV #[.slice r37.1.a r37.1.n r37.1.c] 28 w38 fun b39 w40 =>
  AppS w40 (some ⟨b39, 0, none⟩) 1 1 fun ns45 =>
  AppV w40 28 1 24 z25.1.a z25.1.n z25.1.c ns45 1 fun a41 n42 c43 w44 =>
  Rng .i64 (z25.2.1 + 1) ∧
  K27 ((⟨a41, n42, c43⟩ : SlV), z25.2.1 + 1, ()) w44)))))))
  (K (z25.1, (0 : Int), ()) w26))))
theorem chunk_Pages.vc (p0_0 : Int) (p0_1 : Int) (p0_2 : Int) (p0_3 : Int) (p0_4 : Int) (p0_5 : Int) (a1 : Option Addr) (n1 c1 : Nat) (p2 : Int) (w : World) (K : SlV × Int × Unit → World → Prop) (h : chunk_Pages.P p0_0 p0_1 p0_2 p0_3 p0_4 p0_5 a1 n1 c1 p2 w K) : CallV Try.prog 31 #[.agg #[.int .i64 p0_0, .int .i64 p0_1, .int .i64 p0_2, .int .i64 p0_3, .int .i64 p0_4, .int .i64 p0_5], .slice a1 n1 c1, .int .u64 p2] w [.one .sl, .one (.int .i64)] K := by
  have e : vcFun Try.prog okf false Try.f31 chunk_Pages.A #[.agg #[.int .i64 p0_0, .int .i64 p0_1, .int .i64 p0_2, .int .i64 p0_3, .int .i64 p0_4, .int .i64 p0_5], .slice a1 n1 c1, .int .u64 p2] w [.one .sl, .one (.int .i64)] K = chunk_Pages.P p0_0 p0_1 p0_2 p0_3 p0_4 p0_5 a1 n1 c1 p2 w K := by kernel_rfl
  exact vcFun.calls okf_ok follows Try.func31 (e.symm ▸ h)

/-! ### nepenthe/chunk.Hold: function 36 -/
-- loop 0 carries 8: .one .sl, 9: .one (.int .u64), 24: .one (.int .i64)
def chunk_Hold.A : Ann := .two .no (.two .no (.two .no (.two .no (.two .no (.two (.two .no (.one (.loop [4, 5, 6, 8, 9, 10, 11, 12, 24, 25, 26, 27, 28, 29, 30, 31, 32, 33, 34, 35, 36, 37, 38, 39, 40, 41, 42, 43, 44, 45, 46, 47, 48, 49, 50, 51, 52, 53, 54, 55, 56, 57, 58, 59, 60, 61, 62, 63, 64, 65, 66, 67] [(8, .one .sl), (9, .one (.int .u64)), (24, .one (.int .i64))] (.two .no (.two .no (.two (.one (.two .no (.join [11, 12, 27, 28, 29, 30, 31, 32, 33, 34, 35] [(11, .one .ptr), (12, .one (.int .i64))] (.draw (.take 0 (.take 1 (.take 2 (.take 3 (.take 4 (.both 5 (.take 6 (.take 7 (.take 8 (.eff 9 (.eff 10 (.take 11 (.done))))))) 9 (.eff 5 (.take 6 (.take 7 (.take 8 (.eff 10 (.take 11 (.done)))))))))))))) (.join [9, 36, 37, 38, 39, 40] [(9, .one (.int .u64))] .no (.two (.two (.draw (.take 0 (.take 1 (.take 2 (.take 3 (.take 4 (.take 5 (.take 6 (.take 7 (.eff 8 (.take 9 (.take 10 (.take 11 (.take 12 (.take 13 (.take 14 (.take 15 (.take 16 (.take 17 (.take 18 (.take 19 (.take 20 (.take 21 (.done)))))))))))))))))))))))) .no) .no))))) .no)))))) (.two (.draw (.take 0 (.take 1 (.take 2 (.take 3 (.take 4 (.take 5 (.done)))))))) .no))))))
def chunk_Hold.P (p0_0 : Int) (p0_1 : Int) (p0_2 : Int) (p0_3 : Int) (p0_4 : Int) (p0_5 : Int) (a1 : Option Addr) (n1 c1 : Nat) (w : World) (K : Int × SlV × Bool × Unit → World → Prop) : Prop :=
  NewV #[.int .i64 p0_0, .int .i64 p0_1, .int .i64 p0_2, .int .i64 p0_3, .int .i64 p0_4, .int .i64 p0_5] 23 w fun b1 w2 =>
  LoadA w2 ⟨b1, 0, none⟩ [.int .i64, .int .i64, .int .i64, .int .i64, .int .i64, .int .i64] fun (x3 : Int × Int × Int × Int × Int × Int × Unit) =>
  CallV Try.prog 71 #[.agg #[.int .i64 x3.1, .int .i64 x3.2.1, .int .i64 x3.2.2.1, .int .i64 x3.2.2.2.1, .int .i64 x3.2.2.2.2.1, .int .i64 x3.2.2.2.2.2.1]] w2 [.one (.int .i64)] fun (r4 : Int × Unit) w5 =>
  cond (r4.1 == 0)
  (K ((0 : Int), (⟨none, 0, 0⟩ : SlV), false, ()) w5)
  (cond (decide (((n1 : Nat) : Int) < r4.1))
  (K ((0 : Int), (⟨none, 0, 0⟩ : SlV), false, ()) w5)
  (LoopV [.one .sl, .one (.int .u64), .one (.int .i64)] ((⟨none, 0, 0⟩ : SlV), (0 : Int), (0 : Int), ()) w5 fun (z6 : SlV × Int × Int × Unit) w7 (K8 : SlV × Int × Int × Unit → World → Prop) =>
  cond (decide (z6.2.2.1 < r4.1))
  (JoinV [.one .ptr, .one (.int .i64)] (fun (v10 : (Option Addr) × Int × Unit) w11 =>
  JoinV [.one (.int .u64)] (fun (v13 : Int × Unit) w14 =>
  DrawV fun D15 =>
  cond (v10.2.1 != 0)
  (K ((0 : Int), (⟨none, 0, 0⟩ : SlV), false, ()) w14.drew)
  (PtrK v10.1 fun q16 =>
  (D15 q16.block ∧ LoadA w14.drew q16 [.int .i64, .int .i64, .int .i64, .int .u32, .int .u64, .int .u64] fun (x17 : Int × Int × Int × Int × Int × Int × Unit) =>
  (D15 b1 ∧ LoadA w14.drew ⟨b1, 0, none⟩ [.int .i64, .int .i64, .int .i64, .int .i64, .int .i64, .int .i64] fun (x18 : Int × Int × Int × Int × Int × Int × Unit) =>
  CallV Try.prog 72 #[.agg #[.int .i64 x18.1, .int .i64 x18.2.1, .int .i64 x18.2.2.1, .int .i64 x18.2.2.2.1, .int .i64 x18.2.2.2.2.1, .int .i64 x18.2.2.2.2.2.1], .int .i64 z6.2.2.1, .int .u64 v13.1] w14.drew [.agg [.int .i64, .int .i64, .int .i64, .int .u32, .int .u64, .int .u64]] fun (r19 : (Int × Int × Int × Int × Int × Int × Unit) × Unit) w20 =>
  KeepOn D15 w14.drew w20 ∧
  AggEq Try.prog 27 #[.int .i64 x17.1, .int .i64 x17.2.1, .int .i64 x17.2.2.1, .int .u32 x17.2.2.2.1, .int .u64 x17.2.2.2.2.1, .int .u64 x17.2.2.2.2.2.1] #[.int .i64 r19.1.1, .int .i64 r19.1.2.1, .int .i64 r19.1.2.2.1, .int .u32 r19.1.2.2.2.1, .int .u64 r19.1.2.2.2.2.1, .int .u64 r19.1.2.2.2.2.2.1] fun e21 =>
  cond (!e21)
  (K ((0 : Int), (⟨none, 0, 0⟩ : SlV), false, ()) w20)
  (Rng .i64 (r4.1 - 1) ∧
  cond (z6.2.2.1 == (r4.1 - 1))
  (PtrK v10.1 fun q22 =>
  (D15 (q22.add 8).block ∧ LoadS w14.drew (q22.add 8) .bool fun (x23 : Bool) =>
  cond (!x23)
  (K ((0 : Int), (⟨none, 0, 0⟩ : SlV), false, ()) w20)
  (PtrK v10.1 fun q24 =>
  LoadS w20 (q24.add 6) .sl fun (x25 : SlV) =>
  AppS w20 x25.a x25.n 1 fun ns30 =>
  AppV w20 5 1 1 z6.1.a z6.1.n z6.1.c ns30 x25.n fun a26 n27 c28 w29 =>
  Rng .i64 (z6.2.2.1 + 1) ∧
  K8 ((⟨a26, n27, c28⟩ : SlV), v13.1, z6.2.2.1 + 1, ()) w29)))
  (PtrK v10.1 fun q31 =>
  LoadS w20 (q31.add 6) .sl fun (x32 : SlV) =>
  AppS w20 x32.a x32.n 1 fun ns37 =>
  AppV w20 5 1 1 z6.1.a z6.1.n z6.1.c ns37 x32.n fun a33 n34 c35 w36 =>
  Rng .i64 (z6.2.2.1 + 1) ∧
  K8 ((⟨a33, n34, c35⟩ : SlV), v13.1, z6.2.2.1 + 1, ()) w36)))))) fun (J12 : Int × Unit → World → Prop) =>
  cond (z6.2.2.1 == 0)
  (PtrK v10.1 fun q38 =>
  LoadS w11 (q38.add 4) (.int .u64) fun (x39 : Int) =>
  J12 (x39, ()) w11)
  (J12 (z6.2.1, ()) w11)) fun (J9 : (Option Addr) × Int × Unit → World → Prop) =>
  DrawV fun D40 =>
  (D40 b1 ∧ LoadA w7.drew ⟨b1, 0, none⟩ [.int .i64, .int .i64, .int .i64, .int .i64, .int .i64, .int .i64] fun (x41 : Int × Int × Int × Int × Int × Int × Unit) =>
  (0 ≤ z6.2.2.1 ∧ z6.2.2.1 < ((n1 : Nat) : Int)) ∧ ∃ q42 : Addr, a1 = some q42 ∧
  (D40 (q42.add (z6.2.2.1.toNat * 1)).block ∧ LoadS w7.drew (q42.add (z6.2.2.1.toNat * 1)) .sl fun (x43 : SlV) =>
  ((CallV Try.prog 23 #[.agg #[.int .i64 x41.1, .int .i64 x41.2.1, .int .i64 x41.2.2.1, .int .i64 x41.2.2.2.1, .int .i64 x41.2.2.2.2.1, .int .i64 x41.2.2.2.2.2.1], .slice x43.a x43.n x43.c] w7.drew [.agg [.int .i64, .int .i64, .int .i64, .int .u32, .int .u64, .int .u64, .sl, .sl, .bool], .one (.int .i64)] fun (r44 : (Int × Int × Int × Int × Int × Int × SlV × SlV × Bool × Unit) × Int × Unit) w45 =>
  KeepOn D40 w7.drew w45 ∧
  NewV #[.int .i64 0, .int .i64 0, .int .i64 0, .int .u32 0, .int .u64 0, .int .u64 0, .slice none 0 0, .slice none 0 0, .bool false] 42 w45 fun b46 w47 =>
  KeepOn D40 w7.drew w47 ∧
  StoreV w47 ⟨b46, 0, none⟩ [.int .i64 r44.1.1, .int .i64 r44.1.2.1, .int .i64 r44.1.2.2.1, .int .u32 r44.1.2.2.2.1, .int .u64 r44.1.2.2.2.2.1, .int .u64 r44.1.2.2.2.2.2.1, .slice r44.1.2.2.2.2.2.2.1.a r44.1.2.2.2.2.2.2.1.n r44.1.2.2.2.2.2.2.1.c, .slice r44.1.2.2.2.2.2.2.2.1.a r44.1.2.2.2.2.2.2.2.1.n r44.1.2.2.2.2.2.2.2.1.c, .bool r44.1.2.2.2.2.2.2.2.2.1] fun w48 =>
  KeepOn D40 w7.drew w48 ∧
  J9 ((some ⟨b46, 0, none⟩), r44.2.1, ()) w48) ∧
  (NewV #[.int .i64 0, .int .i64 0, .int .i64 0, .int .u32 0, .int .u64 0, .int .u64 0, .slice none 0 0, .slice none 0 0, .bool false] 42 w7.drew fun b49 w50 =>
  KeepOn D40 w7.drew w50 ∧
  CallV Try.prog 23 #[.agg #[.int .i64 x41.1, .int .i64 x41.2.1, .int .i64 x41.2.2.1, .int .i64 x41.2.2.2.1, .int .i64 x41.2.2.2.2.1, .int .i64 x41.2.2.2.2.2.1], .slice x43.a x43.n x43.c] w50 [.agg [.int .i64, .int .i64, .int .i64, .int .u32, .int .u64, .int .u64, .sl, .sl, .bool], .one (.int .i64)] fun (r51 : (Int × Int × Int × Int × Int × Int × SlV × SlV × Bool × Unit) × Int × Unit) w52 =>
  KeepOn D40 w7.drew w52 ∧
  StoreV w52 ⟨b49, 0, none⟩ [.int .i64 r51.1.1, .int .i64 r51.1.2.1, .int .i64 r51.1.2.2.1, .int .u32 r51.1.2.2.2.1, .int .u64 r51.1.2.2.2.2.1, .int .u64 r51.1.2.2.2.2.2.1, .slice r51.1.2.2.2.2.2.2.1.a r51.1.2.2.2.2.2.2.1.n r51.1.2.2.2.2.2.2.1.c, .slice r51.1.2.2.2.2.2.2.2.1.a r51.1.2.2.2.2.2.2.2.1.n r51.1.2.2.2.2.2.2.2.1.c, .bool r51.1.2.2.2.2.2.2.2.2.1] fun w53 =>
  KeepOn D40 w7.drew w53 ∧
  J9 ((some ⟨b49, 0, none⟩), r51.2.1, ()) w53)))))
  (DrawV fun D54 =>
  ((0 : Int) ≤ (624 : Int) ∧ (624 : Int) ≤ (624 : Int) ∧ (624 : Int) ≤ ((z6.1.c : Nat) : Int)) ∧
  SubK z6.1.a 0 624 1 fun a55 =>
  K (z6.2.1, (⟨a55, 624 - 0, 624 - 0⟩ : SlV), true, ()) w7.drew)))
theorem chunk_Hold.vc (p0_0 : Int) (p0_1 : Int) (p0_2 : Int) (p0_3 : Int) (p0_4 : Int) (p0_5 : Int) (a1 : Option Addr) (n1 c1 : Nat) (w : World) (K : Int × SlV × Bool × Unit → World → Prop) (h : chunk_Hold.P p0_0 p0_1 p0_2 p0_3 p0_4 p0_5 a1 n1 c1 w K) : CallV Try.prog 36 #[.agg #[.int .i64 p0_0, .int .i64 p0_1, .int .i64 p0_2, .int .i64 p0_3, .int .i64 p0_4, .int .i64 p0_5], .slice a1 n1 c1] w [.one (.int .u64), .one .sl, .one .bool] K := by
  have e : vcFun Try.prog okf false Try.f36 chunk_Hold.A #[.agg #[.int .i64 p0_0, .int .i64 p0_1, .int .i64 p0_2, .int .i64 p0_3, .int .i64 p0_4, .int .i64 p0_5], .slice a1 n1 c1] w [.one (.int .u64), .one .sl, .one .bool] K = chunk_Hold.P p0_0 p0_1 p0_2 p0_3 p0_4 p0_5 a1 n1 c1 w K := by kernel_rfl
  exact vcFun.calls okf_ok follows Try.func36 (e.symm ▸ h)

/-! ### nepenthe/chunk.Current: function 38 -/
-- loop 0 carries 7: .one (.int .i64), 8: .one (.int .u64), 9: .one .sl, 17: .one (.int .i64)
def chunk_Current.A : Ann := .two .no (.two .no (.two (.two .no (.one (.loop [7, 8, 9, 10, 11, 12, 13, 14, 17, 18, 19, 20, 21, 22, 23, 24, 25, 26, 27, 28, 29, 30, 31, 32, 33, 34, 35, 36, 37, 38, 39, 40, 41, 42] [(7, .one (.int .i64)), (8, .one (.int .u64)), (9, .one .sl), (17, .one (.int .i64))] .no))) .no))
def chunk_Current.P (p0_0 : Int) (p0_1 : Int) (p0_2 : Int) (p0_3 : Int) (p0_4 : Int) (p0_5 : Int) (a1 : Option Addr) (n1 c1 : Nat) (w : World) (K : Int × Int × SlV × Unit → World → Prop) : Prop :=
  NewV #[.int .i64 p0_0, .int .i64 p0_1, .int .i64 p0_2, .int .i64 p0_3, .int .i64 p0_4, .int .i64 p0_5] 23 w fun b1 w2 =>
  LoopV [.one (.int .i64), .one (.int .u64), .one .sl, .one (.int .i64)] (((-1) : Int), (0 : Int), (⟨none, 0, 0⟩ : SlV), (0 : Int), ()) w2 fun (z3 : Int × Int × SlV × Int × Unit) w4 (K5 : Int × Int × SlV × Int × Unit → World → Prop) =>
  cond (decide (z3.2.2.2.1 < ((n1 : Nat) : Int)))
  ((0 ≤ z3.2.2.2.1 ∧ z3.2.2.2.1 < ((n1 : Nat) : Int)) ∧ ∃ q6 : Addr, a1 = some q6 ∧
  LoadS w4 (q6.add (z3.2.2.2.1.toNat * 1)) .sl fun (x7 : SlV) =>
  LoadA w4 ⟨b1, 0, none⟩ [.int .i64, .int .i64, .int .i64, .int .i64, .int .i64, .int .i64] fun (x8 : Int × Int × Int × Int × Int × Int × Unit) =>
  CallV Try.prog 36 #[.agg #[.int .i64 x8.1, .int .i64 x8.2.1, .int .i64 x8.2.2.1, .int .i64 x8.2.2.2.1, .int .i64 x8.2.2.2.2.1, .int .i64 x8.2.2.2.2.2.1], .slice x7.a x7.n x7.c] w4 [.one (.int .u64), .one .sl, .one .bool] fun (r9 : Int × SlV × Bool × Unit) w10 =>
  cond r9.2.2.1
  (cond (decide (z3.1 < 0))
  (Rng .i64 (z3.2.2.2.1 + 1) ∧
  K5 (z3.2.2.2.1, r9.1, r9.2.1, z3.2.2.2.1 + 1, ()) w10)
  (cond (decide (r9.1 > z3.2.1))
  (Rng .i64 (z3.2.2.2.1 + 1) ∧
  K5 (z3.2.2.2.1, r9.1, r9.2.1, z3.2.2.2.1 + 1, ()) w10)
  (Rng .i64 (z3.2.2.2.1 + 1) ∧
  K5 (z3.1, z3.2.1, z3.2.2.1, z3.2.2.2.1 + 1, ()) w10)))
  (Rng .i64 (z3.2.2.2.1 + 1) ∧
  K5 (z3.1, z3.2.1, z3.2.2.1, z3.2.2.2.1 + 1, ()) w10))
  (K (z3.1, z3.2.1, z3.2.2.1, ()) w4)
theorem chunk_Current.vc (p0_0 : Int) (p0_1 : Int) (p0_2 : Int) (p0_3 : Int) (p0_4 : Int) (p0_5 : Int) (a1 : Option Addr) (n1 c1 : Nat) (w : World) (K : Int × Int × SlV × Unit → World → Prop) (h : chunk_Current.P p0_0 p0_1 p0_2 p0_3 p0_4 p0_5 a1 n1 c1 w K) : CallV Try.prog 38 #[.agg #[.int .i64 p0_0, .int .i64 p0_1, .int .i64 p0_2, .int .i64 p0_3, .int .i64 p0_4, .int .i64 p0_5], .slice a1 n1 c1] w [.one (.int .i64), .one (.int .u64), .one .sl] K := by
  have e : vcFun Try.prog okf false Try.f38 chunk_Current.A #[.agg #[.int .i64 p0_0, .int .i64 p0_1, .int .i64 p0_2, .int .i64 p0_3, .int .i64 p0_4, .int .i64 p0_5], .slice a1 n1 c1] w [.one (.int .i64), .one (.int .u64), .one .sl] K = chunk_Current.P p0_0 p0_1 p0_2 p0_3 p0_4 p0_5 a1 n1 c1 w K := by kernel_rfl
  exact vcFun.calls okf_ok follows Try.func38 (e.symm ▸ h)

/-! ### nepenthe/nepentheref19.head: function 73 -/
def ref19_head.A : Ann := .no
def ref19_head.P (p0_0 : Int) (p0_1 : Int) (p0_2 : Int) (p0_3 : Int) (p0_4 : Int) (p0_5 : Int) (p1 : Int) (p2 : Int) (w : World) (K : (Int × Int × Int × Int × Int × Int × Unit) × Unit → World → Prop) : Prop :=
  NewV #[.int .i64 p0_0, .int .i64 p0_1, .int .i64 p0_2, .int .i64 p0_3, .int .i64 p0_4, .int .i64 p0_5] 23 w fun b1 w2 =>
  NewV #[.int .i64 0, .int .i64 0, .int .i64 0, .int .u32 0, .int .u64 0, .int .u64 0] 27 w2 fun b3 w4 =>
  LoadA w4 ⟨b1, 0, none⟩ [.int .i64, .int .i64, .int .i64, .int .i64, .int .i64, .int .i64] fun (x5 : Int × Int × Int × Int × Int × Int × Unit) =>
  CallV Try.prog 63 #[.agg #[.int .i64 x5.1, .int .i64 x5.2.1, .int .i64 x5.2.2.1, .int .i64 x5.2.2.2.1, .int .i64 x5.2.2.2.2.1, .int .i64 x5.2.2.2.2.2.1]] w4 [.one (.int .i64)] fun (r6 : Int × Unit) w7 =>
  StoreV w7 ⟨b3, 0, none⟩ [.int .i64 4, .int .i64 p1, .int .i64 0, .int .u32 (IntKind.u32.wrap r6.1), .int .u64 p2, .int .u64 0] fun w8 =>
  LoadA w8 ⟨b3, 0, none⟩ [.int .i64, .int .i64, .int .i64, .int .u32, .int .u64, .int .u64] fun (x9 : Int × Int × Int × Int × Int × Int × Unit) =>
  K ((x9.1, x9.2.1, x9.2.2.1, x9.2.2.2.1, x9.2.2.2.2.1, x9.2.2.2.2.2.1, ()), ()) w8
theorem ref19_head.vc (p0_0 : Int) (p0_1 : Int) (p0_2 : Int) (p0_3 : Int) (p0_4 : Int) (p0_5 : Int) (p1 : Int) (p2 : Int) (w : World) (K : (Int × Int × Int × Int × Int × Int × Unit) × Unit → World → Prop) (h : ref19_head.P p0_0 p0_1 p0_2 p0_3 p0_4 p0_5 p1 p2 w K) : CallV Try.prog 73 #[.agg #[.int .i64 p0_0, .int .i64 p0_1, .int .i64 p0_2, .int .i64 p0_3, .int .i64 p0_4, .int .i64 p0_5], .int .i64 p1, .int .u64 p2] w [.agg [.int .i64, .int .i64, .int .i64, .int .u32, .int .u64, .int .u64]] K := by
  have e : vcFun Try.prog okf false Try.f73 ref19_head.A #[.agg #[.int .i64 p0_0, .int .i64 p0_1, .int .i64 p0_2, .int .i64 p0_3, .int .i64 p0_4, .int .i64 p0_5], .int .i64 p1, .int .u64 p2] w [.agg [.int .i64, .int .i64, .int .i64, .int .u32, .int .u64, .int .u64]] K = ref19_head.P p0_0 p0_1 p0_2 p0_3 p0_4 p0_5 p1 p2 w K := by kernel_rfl
  exact vcFun.calls okf_ok follows Try.func73 (e.symm ▸ h)

/-! ### nepenthe/nepentheref19.Pages: function 34 -/
-- loop 0 carries 7: .one .sl, 10: .one (.int .i64)
def ref19_Pages.A : Ann := .two .no (.two .no (.two .no (.two (.draw (.take 1 (.take 3 (.take 4 (.take 5 (.take 6 (.take 7 (.eff 0 (.eff 2 (.eff 8 (.eff 9 (.take 10 (.done))))))))))))) (.two (.two .no (.one (.loop [7, 10, 24, 25, 26, 27, 28, 29, 30, 31, 32, 33, 34, 35, 36, 37, 38, 39, 40, 41, 42, 43, 44, 45, 46, 47, 48, 49, 50] [(7, .one .sl), (10, .one (.int .i64))] (.two .no (.two (.one (.draw (.take 0 (.take 1 (.take 2 (.take 3 (.take 4 (.take 6 (.take 7 (.take 8 (.take 9 (.take 10 (.take 11 (.take 12 (.take 13 (.take 14 (.take 15 (.take 16 (.take 17 (.take 18 (.eff 5 (.eff 19 (.eff 20 (.eff 21 (.take 22 (.done)))))))))))))))))))))))))) .no))))) .no))))
def ref19_Pages.P (p0_0 : Int) (p0_1 : Int) (p0_2 : Int) (p0_3 : Int) (p0_4 : Int) (p0_5 : Int) (a1 : Option Addr) (n1 c1 : Nat) (p2 : Int) (w : World) (K : SlV × Unit → World → Prop) : Prop :=
  NewV #[.int .i64 p0_0, .int .i64 p0_1, .int .i64 p0_2, .int .i64 p0_3, .int .i64 p0_4, .int .i64 p0_5] 23 w fun b1 w2 =>
  NewV #[] 28 w2 fun b3 w4 =>
  LoadA w4 ⟨b1, 0, none⟩ [.int .i64, .int .i64, .int .i64, .int .i64, .int .i64, .int .i64] fun (x5 : Int × Int × Int × Int × Int × Int × Unit) =>
  CallV Try.prog 63 #[.agg #[.int .i64 x5.1, .int .i64 x5.2.1, .int .i64 x5.2.2.1, .int .i64 x5.2.2.2.1, .int .i64 x5.2.2.2.2.1, .int .i64 x5.2.2.2.2.2.1]] w4 [.one (.int .i64)] fun (r6 : Int × Unit) w7 =>
  DrawV fun D8 =>
  (D8 b1 ∧ LoadS w7.drew ⟨b1, 2, none⟩ (.int .i64) fun (x9 : Int) =>
  Rng .i64 (r6.1 * x9) ∧
  Rng .i64 ((r6.1 * x9) - 624) ∧
  NewV #[] 5 w7.drew fun b10 w11 =>
  KeepOn D8 w7.drew w11 ∧
  AppS w11 a1 n1 1 fun ns16 =>
  AppV w11 5 1 1 (some ⟨b10, 0, none⟩) 0 0 ns16 n1 fun a12 n13 c14 w15 =>
  KeepOn D8 w7.drew w15 ∧
  CallV Try.prog 26 #[.int .u8 255, .int .i64 ((r6.1 * x9) - 624)] w15 [.one .sl] fun (r17 : SlV × Unit) w18 =>
  KeepOn D8 w7.drew w18 ∧
  AppS w18 r17.1.a r17.1.n 1 fun ns23 =>
  AppV w18 5 1 1 a12 n13 c14 ns23 r17.1.n fun a19 n20 c21 w22 =>
  KeepOn D8 w7.drew w22 ∧
  LoopV [.one .sl, .one (.int .i64)] ((⟨(some ⟨b3, 0, none⟩), 0, 0⟩ : SlV), (0 : Int), ()) w22 fun (z24 : SlV × Int × Unit) w25 (K26 : SlV × Int × Unit → World → Prop) =>
  cond (decide (z24.2.1 < r6.1))
  (DrawV fun D27 =>
  (D27 b1 ∧ LoadA w25.drew ⟨b1, 0, none⟩ [.int .i64, .int .i64, .int .i64, .int .i64, .int .i64, .int .i64] fun (x28 : Int × Int × Int × Int × Int × Int × Unit) =>
  (D27 b1 ∧ LoadA w25.drew ⟨b1, 0, none⟩ [.int .i64, .int .i64, .int .i64, .int .i64, .int .i64, .int .i64] fun (x29 : Int × Int × Int × Int × Int × Int × Unit) =>
  (D27 b1 ∧ LoadS w25.drew ⟨b1, 2, none⟩ (.int .i64) fun (x30 : Int) =>
  Rng .i64 (z24.2.1 * x30) ∧
  (D27 b1 ∧ LoadS w25.drew ⟨b1, 2, none⟩ (.int .i64) fun (x31 : Int) =>
  Rng .i64 (z24.2.1 * x31) ∧
  (D27 b1 ∧ LoadS w25.drew ⟨b1, 2, none⟩ (.int .i64) fun (x32 : Int) =>
  Rng .i64 ((z24.2.1 * x31) + x32) ∧
  ((0 : Int) ≤ (z24.2.1 * x30) ∧ (z24.2.1 * x30) ≤ ((z24.2.1 * x31) + x32) ∧ ((z24.2.1 * x31) + x32) ≤ ((c21 : Nat) : Int)) ∧
  SubK a19 ((z24.2.1 * x30).toNat) c21 1 fun a33 =>
  CallV Try.prog 73 #[.agg #[.int .i64 x29.1, .int .i64 x29.2.1, .int .i64 x29.2.2.1, .int .i64 x29.2.2.2.1, .int .i64 x29.2.2.2.2.1, .int .i64 x29.2.2.2.2.2.1], .int .i64 z24.2.1, .int .u64 p2] w25.drew [.agg [.int .i64, .int .i64, .int .i64, .int .u32, .int .u64, .int .u64]] fun (r34 : (Int × Int × Int × Int × Int × Int × Unit) × Unit) w35 =>
  KeepOn D27 w25.drew w35 ∧
  CallV Try.prog 22 #[.agg #[.int .i64 x28.1, .int .i64 x28.2.1, .int .i64 x28.2.2.1, .int .i64 x28.2.2.2.1, .int .i64 x28.2.2.2.2.1, .int .i64 x28.2.2.2.2.2.1], .agg #[.int .i64 r34.1.1, .int .i64 r34.1.2.1, .int .i64 r34.1.2.2.1, .int .u32 r34.1.2.2.2.1, .int .u64 r34.1.2.2.2.2.1, .int .u64 r34.1.2.2.2.2.2.1], .slice a33 ((((z24.2.1 * x31) + x32).toNat) - ((z24.2.1 * x30).toNat)) (c21 - ((z24.2.1 * x30).toNat)), .slice none 0 0] w35 [.one .sl] fun (r36 : SlV × Unit) w37 =>
  KeepOn D27 w25.drew w37 ∧
  NewV #[.slice r36.1.a r36.1.n r36.1.c] 28 w37 fun b38 w39 =>
  KeepOn D27 w25.drew w39 ∧
  AppS w39 (some ⟨b38, 0, none⟩) 1 1 fun ns44 =>
  AppV w39 28 1 24 z24.1.a z24.1.n z24.1.c ns44 1 fun a40 n41 c42 w43 =>
  KeepOn D27 w25.drew w43 ∧
  Rng .i64 (z24.2.1 + 1) ∧
  K26 ((⟨a40, n41, c42⟩ : SlV), z24.2.1 + 1, ()) w43))))))
  (K (z24.1, ()) w25))
theorem ref19_Pages.vc (p0_0 : Int) (p0_1 : Int) (p0_2 : Int) (p0_3 : Int) (p0_4 : Int) (p0_5 : Int) (a1 : Option Addr) (n1 c1 : Nat) (p2 : Int) (w : World) (K : SlV × Unit → World → Prop) (h : ref19_Pages.P p0_0 p0_1 p0_2 p0_3 p0_4 p0_5 a1 n1 c1 p2 w K) : CallV Try.prog 34 #[.agg #[.int .i64 p0_0, .int .i64 p0_1, .int .i64 p0_2, .int .i64 p0_3, .int .i64 p0_4, .int .i64 p0_5], .slice a1 n1 c1, .int .u64 p2] w [.one .sl] K := by
  have e : vcFun Try.prog okf false Try.f34 ref19_Pages.A #[.agg #[.int .i64 p0_0, .int .i64 p0_1, .int .i64 p0_2, .int .i64 p0_3, .int .i64 p0_4, .int .i64 p0_5], .slice a1 n1 c1, .int .u64 p2] w [.one .sl] K = ref19_Pages.P p0_0 p0_1 p0_2 p0_3 p0_4 p0_5 a1 n1 c1 p2 w K := by kernel_rfl
  exact vcFun.calls okf_ok follows Try.func34 (e.symm ▸ h)

/-! ### nepenthe/nepentheref19.Hold: function 37 -/
-- loop 0 carries 7: .one (.int .i64)
def ref19_Hold.A : Ann := .two .no (.two .no (.two .no (.two .no (.two (.two .no (.one (.loop [7, 8, 17, 18, 19, 20, 21, 22, 23, 24, 25, 26, 27, 28, 29, 30, 31, 32, 33, 34, 35, 36, 37, 38, 39, 40, 41, 42, 43, 44, 45, 46, 47, 48, 49, 50, 51, 52, 53, 54, 55, 56, 57, 58, 59, 60, 61, 62, 63, 64, 65, 66, 67, 68, 69, 70, 71, 72, 73, 74, 75, 76] [(7, .one (.int .i64))] (.two .no (.two (.one (.two (.two (.draw (.take 0 (.take 1 (.take 2 (.take 3 (.take 4 (.take 5 (.take 6 (.take 7 (.take 8 (.done))))))))))) .no) (.join [8, 32, 33, 34, 35, 36, 37] [(8, .one .ptr)] (.draw (.take 0 (.take 1 (.take 2 (.take 3 (.take 4 (.both 5 (.eff 6 (.eff 7 (.done))) 6 (.eff 5 (.eff 7 (.done)))))))))) (.join [38, 39, 40, 41, 42, 43] [] .no (.two (.join [44, 45, 46, 47, 48, 49, 50, 51, 52, 53, 54, 55, 56, 57, 58, 59, 60, 61, 62, 63, 64, 65, 66, 67] [(67, .one .bool)] (.draw (.take 0 (.take 1 (.take 2 (.take 3 (.take 4 (.take 5 (.take 6 (.take 7 (.take 8 (.take 9 (.eff 10 (.take 11 (.take 12 (.take 13 (.take 14 (.take 15 (.take 16 (.take 17 (.take 18 (.take 19 (.take 20 (.take 21 (.take 22 (.take 23 (.done)))))))))))))))))))))))))) .no) (.draw (.take 1 (.take 4 (.take 5 (.both 0 (.eff 2 (.eff 3 (.eff 6 (.take 7 (.eff 8 (.done)))))) 2 (.eff 0 (.eff 3 (.eff 6 (.take 7 (.eff 8 (.done)))))))))))))))) .no))))) .no))))
def ref19_Hold.P (p0_0 : Int) (p0_1 : Int) (p0_2 : Int) (p0_3 : Int) (p0_4 : Int) (p0_5 : Int) (a1 : Option Addr) (n1 c1 : Nat) (w : World) (K : (Int × SlV × Bool × Unit) × Unit → World → Prop) : Prop :=
  NewV #[.int .i64 p0_0, .int .i64 p0_1, .int .i64 p0_2, .int .i64 p0_3, .int .i64 p0_4, .int .i64 p0_5] 23 w fun b1 w2 =>
  NewV #[.int .u64 0, .slice none 0 0, .bool false] 66 w2 fun b3 w4 =>
  LoadA w4 ⟨b1, 0, none⟩ [.int .i64, .int .i64, .int .i64, .int .i64, .int .i64, .int .i64] fun (x5 : Int × Int × Int × Int × Int × Int × Unit) =>
  CallV Try.prog 63 #[.agg #[.int .i64 x5.1, .int .i64 x5.2.1, .int .i64 x5.2.2.1, .int .i64 x5.2.2.2.1, .int .i64 x5.2.2.2.2.1, .int .i64 x5.2.2.2.2.2.1]] w4 [.one (.int .i64)] fun (r6 : Int × Unit) w7 =>
  cond (decide (((n1 : Nat) : Int) < r6.1))
  (StoreV w7 ⟨b3, 0, none⟩ [.int .u64 0, .slice none 0 0, .bool false] fun w8 =>
  LoadA w8 ⟨b3, 0, none⟩ [.int .u64, .sl, .bool] fun (x9 : Int × SlV × Bool × Unit) =>
  K ((x9.1, x9.2.1, x9.2.2.1, ()), ()) w8)
  (NewV #[.int .u64 0, .slice none 0 0, .bool false] 66 w7 fun b10 w11 =>
  StoreV w11 ⟨b10, 0, none⟩ [.int .u64 0, .slice none 0 0, .bool true] fun w12 =>
  LoopV [.one (.int .i64)] ((0 : Int), ()) w12 fun (z13 : Int × Unit) w14 (K15 : Int × Unit → World → Prop) =>
  cond (decide (z13.1 < r6.1))
  (DrawV fun D16 =>
  (0 ≤ z13.1 ∧ z13.1 < ((n1 : Nat) : Int)) ∧ ∃ q17 : Addr, a1 = some q17 ∧
  (D16 (q17.add (z13.1.toNat * 1)).block ∧ LoadS w14.drew (q17.add (z13.1.toNat * 1)) .sl fun (x18 : SlV) =>
  (D16 b1 ∧ LoadS w14.drew ⟨b1, 2, none⟩ (.int .i64) fun (x19 : Int) =>
  Rng .i64 (x19 + 88) ∧
  cond (((x18.n : Nat) : Int) != (x19 + 88))
  (StoreV w14.drew ⟨b3, 0, none⟩ [.int .u64 0, .slice none 0 0, .bool false] fun w20 =>
  LoadA w20 ⟨b3, 0, none⟩ [.int .u64, .sl, .bool] fun (x21 : Int × SlV × Bool × Unit) =>
  K ((x21.1, x21.2.1, x21.2.2.1, ()), ()) w20)
  (JoinV [.one .ptr] (fun (v23 : (Option Addr) × Unit) w24 =>
  JoinV [] (fun (v26 : Unit) w27 =>
  JoinV [.one .bool] (fun (v29 : Bool × Unit) w30 =>
  cond v29.1
  (StoreV w30 ⟨b3, 0, none⟩ [.int .u64 0, .slice none 0 0, .bool false] fun w31 =>
  LoadA w31 ⟨b3, 0, none⟩ [.int .u64, .sl, .bool] fun (x32 : Int × SlV × Bool × Unit) =>
  K ((x32.1, x32.2.1, x32.2.2.1, ()), ()) w31)
  (DrawV fun D33 =>
  PtrK v23.1 fun q34 =>
  (D33 (q34.add 6).block ∧ LoadS w30.drew (q34.add 6) .sl fun (x35 : SlV) =>
  ((NewV #[] 5 w30.drew fun b36 w37 =>
  KeepOn D33 w30.drew w37 ∧
  LoadS w37 ⟨b10, 1, none⟩ .sl fun (x38 : SlV) =>
  KeepOn D33 w30.drew w37 ∧
  AppS w37 x38.a x38.n 1 fun ns43 =>
  AppV w37 5 1 1 (some ⟨b36, 0, none⟩) 0 0 ns43 x38.n fun a39 n40 c41 w42 =>
  KeepOn D33 w30.drew w42 ∧
  AppS w42 x35.a x35.n 1 fun ns48 =>
  AppV w42 5 1 1 a39 n40 c41 ns48 x35.n fun a44 n45 c46 w47 =>
  KeepOn D33 w30.drew w47 ∧
  StoreV w47 ⟨b10, 1, none⟩ [.slice a44 n45 c46] fun w49 =>
  KeepOn D33 w30.drew w49 ∧
  Rng .i64 (z13.1 + 1) ∧
  K15 (z13.1 + 1, ()) w49) ∧
  (LoadS w30.drew ⟨b10, 1, none⟩ .sl fun (x50 : SlV) =>
  KeepOn D33 w30.drew w30.drew ∧
  NewV #[] 5 w30.drew fun b51 w52 =>
  KeepOn D33 w30.drew w52 ∧
  AppS w52 x50.a x50.n 1 fun ns57 =>
  AppV w52 5 1 1 (some ⟨b51, 0, none⟩) 0 0 ns57 x50.n fun a53 n54 c55 w56 =>
  KeepOn D33 w30.drew w56 ∧
  AppS w56 x35.a x35.n 1 fun ns62 =>
  AppV w56 5 1 1 a53 n54 c55 ns62 x35.n fun a58 n59 c60 w61 =>
  KeepOn D33 w30.drew w61 ∧
  StoreV w61 ⟨b10, 1, none⟩ [.slice a58 n59 c60] fun w63 =>
  KeepOn D33 w30.drew w63 ∧
  Rng .i64 (z13.1 + 1) ∧
  K15 (z13.1 + 1, ()) w63))))) fun (J28 : Bool × Unit → World → Prop) =>
  DrawV fun D64 =>
  PtrK v23.1 fun q65 =>
  (D64 (q65.add 9).block ∧ LoadS w27.drew (q65.add 9) .bool fun (x66 : Bool) =>
  cond (!x66)
  (J28 (true, ()) w27.drew)
  (PtrK v23.1 fun q67 =>
  (D64 q67.block ∧ LoadA w27.drew q67 [.int .i64, .int .i64, .int .i64, .int .u32, .int .u64, .int .u64] fun (x68 : Int × Int × Int × Int × Int × Int × Unit) =>
  (D64 b1 ∧ LoadA w27.drew ⟨b1, 0, none⟩ [.int .i64, .int .i64, .int .i64, .int .i64, .int .i64, .int .i64] fun (x69 : Int × Int × Int × Int × Int × Int × Unit) =>
  (D64 b10 ∧ LoadS w27.drew ⟨b10, 0, none⟩ (.int .u64) fun (x70 : Int) =>
  CallV Try.prog 73 #[.agg #[.int .i64 x69.1, .int .i64 x69.2.1, .int .i64 x69.2.2.1, .int .i64 x69.2.2.2.1, .int .i64 x69.2.2.2.2.1, .int .i64 x69.2.2.2.2.2.1], .int .i64 z13.1, .int .u64 x70] w27.drew [.agg [.int .i64, .int .i64, .int .i64, .int .u32, .int .u64, .int .u64]] fun (r71 : (Int × Int × Int × Int × Int × Int × Unit) × Unit) w72 =>
  KeepOn D64 w27.drew w72 ∧
  AggEq Try.prog 27 #[.int .i64 x68.1, .int .i64 x68.2.1, .int .i64 x68.2.2.1, .int .u32 x68.2.2.2.1, .int .u64 x68.2.2.2.2.1, .int .u64 x68.2.2.2.2.2.1] #[.int .i64 r71.1.1, .int .i64 r71.1.2.1, .int .i64 r71.1.2.2.1, .int .u32 r71.1.2.2.2.1, .int .u64 r71.1.2.2.2.2.1, .int .u64 r71.1.2.2.2.2.2.1] fun e73 =>
  cond (!e73)
  (J28 (true, ()) w72)
  (Rng .i64 (r6.1 - 1) ∧
  cond (z13.1 == (r6.1 - 1))
  (PtrK v23.1 fun q74 =>
  (D64 (q74.add 8).block ∧ LoadS w27.drew (q74.add 8) .bool fun (x75 : Bool) =>
  J28 (!x75, ()) w72))
  (J28 (false, ()) w72)))))))) fun (J25 : Unit → World → Prop) =>
  cond (z13.1 == 0)
  (PtrK v23.1 fun q76 =>
  LoadS w24 (q76.add 4) (.int .u64) fun (x77 : Int) =>
  StoreV w24 ⟨b10, 0, none⟩ [.int .u64 x77] fun w78 =>
  J25 (()) w78)
  (J25 (()) w24)) fun (J22 : (Option Addr) × Unit → World → Prop) =>
  DrawV fun D79 =>
  (D79 b1 ∧ LoadA w14.drew.drew ⟨b1, 0, none⟩ [.int .i64, .int .i64, .int .i64, .int .i64, .int .i64, .int .i64] fun (x80 : Int × Int × Int × Int × Int × Int × Unit) =>
  (0 ≤ z13.1 ∧ z13.1 < ((n1 : Nat) : Int)) ∧ ∃ q81 : Addr, a1 = some q81 ∧
  (D79 (q81.add (z13.1.toNat * 1)).block ∧ LoadS w14.drew.drew (q81.add (z13.1.toNat * 1)) .sl fun (x82 : SlV) =>
  ((CallV Try.prog 28 #[.agg #[.int .i64 x80.1, .int .i64 x80.2.1, .int .i64 x80.2.2.1, .int .i64 x80.2.2.2.1, .int .i64 x80.2.2.2.2.1, .int .i64 x80.2.2.2.2.2.1], .slice x82.a x82.n x82.c] w14.drew.drew [.agg [.int .i64, .int .i64, .int .i64, .int .u32, .int .u64, .int .u64, .sl, .sl, .bool, .bool]] fun (r83 : (Int × Int × Int × Int × Int × Int × SlV × SlV × Bool × Bool × Unit) × Unit) w84 =>
  KeepOn D79 w14.drew.drew w84 ∧
  NewV #[.int .i64 0, .int .i64 0, .int .i64 0, .int .u32 0, .int .u64 0, .int .u64 0, .slice none 0 0, .slice none 0 0, .bool false, .bool false] 51 w84 fun b85 w86 =>
  KeepOn D79 w14.drew.drew w86 ∧
  StoreV w86 ⟨b85, 0, none⟩ [.int .i64 r83.1.1, .int .i64 r83.1.2.1, .int .i64 r83.1.2.2.1, .int .u32 r83.1.2.2.2.1, .int .u64 r83.1.2.2.2.2.1, .int .u64 r83.1.2.2.2.2.2.1, .slice r83.1.2.2.2.2.2.2.1.a r83.1.2.2.2.2.2.2.1.n r83.1.2.2.2.2.2.2.1.c, .slice r83.1.2.2.2.2.2.2.2.1.a r83.1.2.2.2.2.2.2.2.1.n r83.1.2.2.2.2.2.2.2.1.c, .bool r83.1.2.2.2.2.2.2.2.2.1, .bool r83.1.2.2.2.2.2.2.2.2.2.1] fun w87 =>
  KeepOn D79 w14.drew.drew w87 ∧
  J22 ((some ⟨b85, 0, none⟩), ()) w87) ∧
  (NewV #[.int .i64 0, .int .i64 0, .int .i64 0, .int .u32 0, .int .u64 0, .int .u64 0, .slice none 0 0, .slice none 0 0, .bool false, .bool false] 51 w14.drew.drew fun b88 w89 =>
  KeepOn D79 w14.drew.drew w89 ∧
  CallV Try.prog 28 #[.agg #[.int .i64 x80.1, .int .i64 x80.2.1, .int .i64 x80.2.2.1, .int .i64 x80.2.2.2.1, .int .i64 x80.2.2.2.2.1, .int .i64 x80.2.2.2.2.2.1], .slice x82.a x82.n x82.c] w89 [.agg [.int .i64, .int .i64, .int .i64, .int .u32, .int .u64, .int .u64, .sl, .sl, .bool, .bool]] fun (r90 : (Int × Int × Int × Int × Int × Int × SlV × SlV × Bool × Bool × Unit) × Unit) w91 =>
  KeepOn D79 w14.drew.drew w91 ∧
  StoreV w91 ⟨b88, 0, none⟩ [.int .i64 r90.1.1, .int .i64 r90.1.2.1, .int .i64 r90.1.2.2.1, .int .u32 r90.1.2.2.2.1, .int .u64 r90.1.2.2.2.2.1, .int .u64 r90.1.2.2.2.2.2.1, .slice r90.1.2.2.2.2.2.2.1.a r90.1.2.2.2.2.2.2.1.n r90.1.2.2.2.2.2.2.1.c, .slice r90.1.2.2.2.2.2.2.2.1.a r90.1.2.2.2.2.2.2.2.1.n r90.1.2.2.2.2.2.2.2.1.c, .bool r90.1.2.2.2.2.2.2.2.2.1, .bool r90.1.2.2.2.2.2.2.2.2.2.1] fun w92 =>
  KeepOn D79 w14.drew.drew w92 ∧
  J22 ((some ⟨b88, 0, none⟩), ()) w92))))))))
  (LoadS w14 ⟨b10, 1, none⟩ .sl fun (x93 : SlV) =>
  ((0 : Int) ≤ (624 : Int) ∧ (624 : Int) ≤ ((x93.c : Nat) : Int)) ∧
  SubK x93.a 0 x93.c 1 fun a94 =>
  StoreV w14 ⟨b10, 1, none⟩ [.slice a94 (624 - 0) (x93.c - 0)] fun w95 =>
  LoadA w95 ⟨b10, 0, none⟩ [.int .u64, .sl, .bool] fun (x96 : Int × SlV × Bool × Unit) =>
  StoreV w95 ⟨b3, 0, none⟩ [.int .u64 x96.1, .slice x96.2.1.a x96.2.1.n x96.2.1.c, .bool x96.2.2.1] fun w97 =>
  LoadA w97 ⟨b3, 0, none⟩ [.int .u64, .sl, .bool] fun (x98 : Int × SlV × Bool × Unit) =>
  K ((x98.1, x98.2.1, x98.2.2.1, ()), ()) w97))
theorem ref19_Hold.vc (p0_0 : Int) (p0_1 : Int) (p0_2 : Int) (p0_3 : Int) (p0_4 : Int) (p0_5 : Int) (a1 : Option Addr) (n1 c1 : Nat) (w : World) (K : (Int × SlV × Bool × Unit) × Unit → World → Prop) (h : ref19_Hold.P p0_0 p0_1 p0_2 p0_3 p0_4 p0_5 a1 n1 c1 w K) : CallV Try.prog 37 #[.agg #[.int .i64 p0_0, .int .i64 p0_1, .int .i64 p0_2, .int .i64 p0_3, .int .i64 p0_4, .int .i64 p0_5], .slice a1 n1 c1] w [.agg [.int .u64, .sl, .bool]] K := by
  have e : vcFun Try.prog okf false Try.f37 ref19_Hold.A #[.agg #[.int .i64 p0_0, .int .i64 p0_1, .int .i64 p0_2, .int .i64 p0_3, .int .i64 p0_4, .int .i64 p0_5], .slice a1 n1 c1] w [.agg [.int .u64, .sl, .bool]] K = ref19_Hold.P p0_0 p0_1 p0_2 p0_3 p0_4 p0_5 a1 n1 c1 w K := by kernel_rfl
  exact vcFun.calls okf_ok follows Try.func37 (e.symm ▸ h)

/-! ### nepenthe/nepentheref19.Current: function 39 -/
-- loop 0 carries 6: .one (.int .i64), 8: .one (.int .i64)
def ref19_Current.A : Ann := .two .no (.two .no (.two .no (.two (.two .no (.one (.loop [6, 8, 9, 11, 12, 13, 14, 15, 16, 17, 18, 19, 20, 21, 22, 23, 24, 25, 26, 27, 28, 29, 30, 31, 32, 33, 34, 35, 36, 37] [(6, .one (.int .i64)), (8, .one (.int .i64))] (.two .no (.two (.one (.join [9, 17, 18, 19, 20, 21, 22] [(9, .one .ptr)] (.draw (.take 0 (.take 1 (.take 2 (.take 3 (.take 4 (.both 5 (.eff 6 (.eff 7 (.done))) 6 (.eff 5 (.eff 7 (.done)))))))))) .no)) .no))))) (.two (.draw (.take 0 (.take 1 (.take 2 (.eff 3 (.done)))))) .no))))
def ref19_Current.P (p0_0 : Int) (p0_1 : Int) (p0_2 : Int) (p0_3 : Int) (p0_4 : Int) (p0_5 : Int) (a1 : Option Addr) (n1 c1 : Nat) (w : World) (K : Int × (Int × SlV × Bool × Unit) × Unit → World → Prop) : Prop :=
  NewV #[.int .i64 p0_0, .int .i64 p0_1, .int .i64 p0_2, .int .i64 p0_3, .int .i64 p0_4, .int .i64 p0_5] 23 w fun b1 w2 =>
  NewV #[.int .u64 0, .slice none 0 0, .bool false] 66 w2 fun b3 w4 =>
  NewV #[.int .u64 0, .slice none 0 0, .bool false] 66 w4 fun b5 w6 =>
  StoreV w6 ⟨b5, 0, none⟩ [.int .u64 0, .slice none 0 0, .bool false] fun w7 =>
  LoopV [.one (.int .i64), .one (.int .i64)] (((-1) : Int), (0 : Int), ()) w7 fun (z8 : Int × Int × Unit) w9 (K10 : Int × Int × Unit → World → Prop) =>
  cond (decide (z8.2.1 < ((n1 : Nat) : Int)))
  (JoinV [.one .ptr] (fun (v12 : (Option Addr) × Unit) w13 =>
  PtrK v12.1 fun q14 =>
  LoadS w13 (q14.add 2) .bool fun (x15 : Bool) =>
  cond x15
  (cond (decide (z8.1 < 0))
  (PtrK v12.1 fun q16 =>
  LoadA w13 q16 [.int .u64, .sl, .bool] fun (x17 : Int × SlV × Bool × Unit) =>
  StoreV w13 ⟨b5, 0, none⟩ [.int .u64 x17.1, .slice x17.2.1.a x17.2.1.n x17.2.1.c, .bool x17.2.2.1] fun w18 =>
  Rng .i64 (z8.2.1 + 1) ∧
  K10 (z8.2.1, z8.2.1 + 1, ()) w18)
  (PtrK v12.1 fun q19 =>
  LoadS w13 q19 (.int .u64) fun (x20 : Int) =>
  LoadS w13 ⟨b5, 0, none⟩ (.int .u64) fun (x21 : Int) =>
  cond (decide (x20 > x21))
  (PtrK v12.1 fun q22 =>
  LoadA w13 q22 [.int .u64, .sl, .bool] fun (x23 : Int × SlV × Bool × Unit) =>
  StoreV w13 ⟨b5, 0, none⟩ [.int .u64 x23.1, .slice x23.2.1.a x23.2.1.n x23.2.1.c, .bool x23.2.2.1] fun w24 =>
  Rng .i64 (z8.2.1 + 1) ∧
  K10 (z8.2.1, z8.2.1 + 1, ()) w24)
  (Rng .i64 (z8.2.1 + 1) ∧
  K10 (z8.1, z8.2.1 + 1, ()) w13)))
  (Rng .i64 (z8.2.1 + 1) ∧
  K10 (z8.1, z8.2.1 + 1, ()) w13)) fun (J11 : (Option Addr) × Unit → World → Prop) =>
  DrawV fun D25 =>
  (D25 b1 ∧ LoadA w9.drew ⟨b1, 0, none⟩ [.int .i64, .int .i64, .int .i64, .int .i64, .int .i64, .int .i64] fun (x26 : Int × Int × Int × Int × Int × Int × Unit) =>
  (0 ≤ z8.2.1 ∧ z8.2.1 < ((n1 : Nat) : Int)) ∧ ∃ q27 : Addr, a1 = some q27 ∧
  (D25 (q27.add (z8.2.1.toNat * 1)).block ∧ LoadS w9.drew (q27.add (z8.2.1.toNat * 1)) .sl fun (x28 : SlV) =>
  ((CallV Try.prog 37 #[.agg #[.int .i64 x26.1, .int .i64 x26.2.1, .int .i64 x26.2.2.1, .int .i64 x26.2.2.2.1, .int .i64 x26.2.2.2.2.1, .int .i64 x26.2.2.2.2.2.1], .slice x28.a x28.n x28.c] w9.drew [.agg [.int .u64, .sl, .bool]] fun (r29 : (Int × SlV × Bool × Unit) × Unit) w30 =>
  KeepOn D25 w9.drew w30 ∧
  NewV #[.int .u64 0, .slice none 0 0, .bool false] 66 w30 fun b31 w32 =>
  KeepOn D25 w9.drew w32 ∧
  StoreV w32 ⟨b31, 0, none⟩ [.int .u64 r29.1.1, .slice r29.1.2.1.a r29.1.2.1.n r29.1.2.1.c, .bool r29.1.2.2.1] fun w33 =>
  KeepOn D25 w9.drew w33 ∧
  J11 ((some ⟨b31, 0, none⟩), ()) w33) ∧
  (NewV #[.int .u64 0, .slice none 0 0, .bool false] 66 w9.drew fun b34 w35 =>
  KeepOn D25 w9.drew w35 ∧
  CallV Try.prog 37 #[.agg #[.int .i64 x26.1, .int .i64 x26.2.1, .int .i64 x26.2.2.1, .int .i64 x26.2.2.2.1, .int .i64 x26.2.2.2.2.1, .int .i64 x26.2.2.2.2.2.1], .slice x28.a x28.n x28.c] w35 [.agg [.int .u64, .sl, .bool]] fun (r36 : (Int × SlV × Bool × Unit) × Unit) w37 =>
  KeepOn D25 w9.drew w37 ∧
  StoreV w37 ⟨b34, 0, none⟩ [.int .u64 r36.1.1, .slice r36.1.2.1.a r36.1.2.1.n r36.1.2.1.c, .bool r36.1.2.2.1] fun w38 =>
  KeepOn D25 w9.drew w38 ∧
  J11 ((some ⟨b34, 0, none⟩), ()) w38)))))
  (DrawV fun D39 =>
  (D39 b5 ∧ LoadA w9.drew ⟨b5, 0, none⟩ [.int .u64, .sl, .bool] fun (x40 : Int × SlV × Bool × Unit) =>
  StoreV w9.drew ⟨b3, 0, none⟩ [.int .u64 x40.1, .slice x40.2.1.a x40.2.1.n x40.2.1.c, .bool x40.2.2.1] fun w41 =>
  KeepOn D39 w9.drew w41 ∧
  LoadA w41 ⟨b3, 0, none⟩ [.int .u64, .sl, .bool] fun (x42 : Int × SlV × Bool × Unit) =>
  K (z8.1, (x42.1, x42.2.1, x42.2.2.1, ()), ()) w41))
theorem ref19_Current.vc (p0_0 : Int) (p0_1 : Int) (p0_2 : Int) (p0_3 : Int) (p0_4 : Int) (p0_5 : Int) (a1 : Option Addr) (n1 c1 : Nat) (w : World) (K : Int × (Int × SlV × Bool × Unit) × Unit → World → Prop) (h : ref19_Current.P p0_0 p0_1 p0_2 p0_3 p0_4 p0_5 a1 n1 c1 w K) : CallV Try.prog 39 #[.agg #[.int .i64 p0_0, .int .i64 p0_1, .int .i64 p0_2, .int .i64 p0_3, .int .i64 p0_4, .int .i64 p0_5], .slice a1 n1 c1] w [.one (.int .i64), .agg [.int .u64, .sl, .bool]] K := by
  have e : vcFun Try.prog okf false Try.f39 ref19_Current.A #[.agg #[.int .i64 p0_0, .int .i64 p0_1, .int .i64 p0_2, .int .i64 p0_3, .int .i64 p0_4, .int .i64 p0_5], .slice a1 n1 c1] w [.one (.int .i64), .agg [.int .u64, .sl, .bool]] K = ref19_Current.P p0_0 p0_1 p0_2 p0_3 p0_4 p0_5 a1 n1 c1 w K := by kernel_rfl
  exact vcFun.calls okf_ok follows Try.func39 (e.symm ▸ h)

/-! ### nepenthe/nepenthelaw19.awake: function 32 -/
def law19_awake.A : Ann := .two .no (.two .no (.two (.draw (.take 0 (.eff 1 (.eff 2 (.take 3 (.take 4 (.take 5 (.take 6 (.take 7 (.done)))))))))) .no))
def law19_awake.P  (w : World) (K : Bool × Unit → World → Prop) : Prop :=
  NewV #[.int .i64 0, .int .i64 0, .int .i64 0, .int .i64 0, .int .i64 0, .int .i64 0] 23 w fun b1 w2 =>
  StoreV w2 ⟨b1, 0, none⟩ [.int .i64 7, .int .i64 10, .int .i64 64, .int .i64 0, .int .i64 1, .int .i64 1] fun w3 =>
  DrawV fun D4 =>
  (D4 b1 ∧ LoadA w3.drew ⟨b1, 0, none⟩ [.int .i64, .int .i64, .int .i64, .int .i64, .int .i64, .int .i64] fun (x5 : Int × Int × Int × Int × Int × Int × Unit) =>
  ((0 : Int) ≤ (624 : Int) ∧ (624 : Int) ≤ (624 : Int) ∧ (624 : Int) ≤ 9223372036854775807 ∧ ((1 : Nat) : Int) * (624 : Int) ≤ 140737488355328) ∧
  NewV (List.replicate 624 [.int .u8 0]).flatten.toArray 5 w3.drew fun b6 w7 =>
  KeepOn D4 w3.drew w7 ∧
  CallV Try.prog 31 #[.agg #[.int .i64 x5.1, .int .i64 x5.2.1, .int .i64 x5.2.2.1, .int .i64 x5.2.2.2.1, .int .i64 x5.2.2.2.2.1, .int .i64 x5.2.2.2.2.2.1], .slice (some ⟨b6, 0, none⟩) 624 624, .int .u64 3] w7 [.one .sl, .one (.int .i64)] fun (r8 : SlV × Int × Unit) w9 =>
  KeepOn D4 w3.drew w9 ∧
  LoadA w9 ⟨b1, 0, none⟩ [.int .i64, .int .i64, .int .i64, .int .i64, .int .i64, .int .i64] fun (x10 : Int × Int × Int × Int × Int × Int × Unit) =>
  CallV Try.prog 38 #[.agg #[.int .i64 x10.1, .int .i64 x10.2.1, .int .i64 x10.2.2.1, .int .i64 x10.2.2.2.1, .int .i64 x10.2.2.2.2.1, .int .i64 x10.2.2.2.2.2.1], .slice none 0 0] w9 [.one (.int .i64), .one (.int .u64), .one .sl] fun (r11 : Int × Int × SlV × Unit) w12 =>
  cond (r8.2.1 == 0)
  (cond (((r8.1.n : Nat) : Int) == 10)
  (K ((r11.1 == (-1)), ()) w12)
  (K (false, ()) w12))
  (K (false, ()) w12))
theorem law19_awake.vc  (w : World) (K : Bool × Unit → World → Prop) (h : law19_awake.P  w K) : CallV Try.prog 32 #[] w [.one .bool] K := by
  have e : vcFun Try.prog okf false Try.f32 law19_awake.A #[] w [.one .bool] K = law19_awake.P  w K := by kernel_rfl
  exact vcFun.calls okf_ok follows Try.func32 (e.symm ▸ h)

/-! ### nepenthe/nepenthelaw19.light: function 33 -/
def law19_light.A : Ann := .no
def law19_light.P (p0_0 : Int) (p0_1 : Int) (p0_2 : Int) (p0_3 : Int) (p0_4 : Int) (p0_5 : Int) (w : World) (K : Bool × Unit → World → Prop) : Prop :=
  NewV #[.int .i64 p0_0, .int .i64 p0_1, .int .i64 p0_2, .int .i64 p0_3, .int .i64 p0_4, .int .i64 p0_5] 23 w fun b1 w2 =>
  LoadS w2 ⟨b1, 2, none⟩ (.int .i64) fun (x3 : Int) =>
  K (decide (x3 ≤ 700), ()) w2
theorem law19_light.vc (p0_0 : Int) (p0_1 : Int) (p0_2 : Int) (p0_3 : Int) (p0_4 : Int) (p0_5 : Int) (w : World) (K : Bool × Unit → World → Prop) (h : law19_light.P p0_0 p0_1 p0_2 p0_3 p0_4 p0_5 w K) : CallV Try.prog 33 #[.agg #[.int .i64 p0_0, .int .i64 p0_1, .int .i64 p0_2, .int .i64 p0_3, .int .i64 p0_4, .int .i64 p0_5]] w [.one .bool] K := by
  have e : vcFun Try.prog okf false Try.f33 law19_light.A #[.agg #[.int .i64 p0_0, .int .i64 p0_1, .int .i64 p0_2, .int .i64 p0_3, .int .i64 p0_4, .int .i64 p0_5]] w [.one .bool] K = law19_light.P p0_0 p0_1 p0_2 p0_3 p0_4 p0_5 w K := by kernel_rfl
  exact vcFun.calls okf_ok follows Try.func33 (e.symm ▸ h)

/-! ### nepenthe/nepenthelaw19.few: function 35 -/
-- loop 0 carries 3: .one (.int .i64)
def law19_few.A : Ann := .two .no (.two .no (.two (.two .no (.one (.loop [2, 3, 7, 8, 9, 10, 11, 12, 13, 14, 15, 16, 17, 18] [(3, .one (.int .i64))] .no))) .no))
def law19_few.P (a0 : Option Addr) (n0 c0 : Nat) (w : World) (K : Bool × Unit → World → Prop) : Prop :=
  cond (decide (((n0 : Nat) : Int) > 40))
  (K (false, ()) w)
  (LoopV [.one (.int .i64)] ((0 : Int), ()) w fun (z1 : Int × Unit) w2 (K3 : Int × Unit → World → Prop) =>
  cond (decide (z1.1 < ((n0 : Nat) : Int)))
  ((0 ≤ z1.1 ∧ z1.1 < ((n0 : Nat) : Int)) ∧ ∃ q4 : Addr, a0 = some q4 ∧
  LoadS w2 (q4.add (z1.1.toNat * 1)) .sl fun (x5 : SlV) =>
  cond (decide (((x5.n : Nat) : Int) > 900))
  (K (false, ()) w2)
  (Rng .i64 (z1.1 + 1) ∧
  K3 (z1.1 + 1, ()) w2))
  (K (true, ()) w2))
theorem law19_few.vc (a0 : Option Addr) (n0 c0 : Nat) (w : World) (K : Bool × Unit → World → Prop) (h : law19_few.P a0 n0 c0 w K) : CallV Try.prog 35 #[.slice a0 n0 c0] w [.one .bool] K := by
  have e : vcFun Try.prog okf false Try.f35 law19_few.A #[.slice a0 n0 c0] w [.one .bool] K = law19_few.P a0 n0 c0 w K := by kernel_rfl
  exact vcFun.calls okf_ok follows Try.func35 (e.symm ▸ h)

end Go.Proofs.Ytfpkaebmiojicaa.Vc

/-! The contracts of layer 19 (chunk): a record's pages. -/
namespace Go.Proofs.Ytfpkaebmiojicaa.Vc
open Go Go.Eng Go.RowKit
set_option linter.unusedVariables false
set_option linter.unusedSimpArgs false

abbrev TB : Ty := .sl (.int .u8)
abbrev TBB : Ty := .sl TB
abbrev slV (s : SlP Int) : Value := .slice s.a s.n s.c
theorem flat_sl (L : List (SlP Int)) : L.flatMap TB.vs = L.map slV := by
  induction L with
  | nil => rfl
  | cons x L ih => rw [List.flatMap_cons, ih]; rfl
/-- Slices of bytes that are read. -/
def RdL (L : List (SlP Int)) : Asr := ⟨fun w F => ∀ x ∈ L, TB.rd w F x, fun h k x hx => TB.rd_kp (fun i hi _ => k i hi) (h x hx)⟩
theorem maxLen_eq : maxLen = 9223372036854775807 := by decide
theorem own_rd {w : World} {F : Nat → Prop} {a : Option Addr} {n c : Nat} {xs : List Int} (h : (OwnA 5 1 a n c (xs.map (Value.int .u8))).p w F) (bx : Byt xs) : TB.rd w F ⟨a, n, c, xs⟩ := by
  obtain ⟨ho, hF⟩ := h
  have hm := maxLen_eq
  refine ⟨by have := ho.len; simpa using this, ho.cap, by have := ho.lim; show n ≤ maxLen; omega, ?_, fun y hy => rngU8 (bx y hy)⟩
  rw [show xs.flatMap (Ty.int .u8).vs = xs.map (Value.int .u8) from flat_ints .u8 _]
  rcases ho.rd with h | ⟨p, h1, h2⟩
  · exact .inl h
  · exact .inr ⟨p, h1, h2, fun _ => hF p h1⟩
/-- A new page behind pages. -/
theorem _root_.Go.Eng.Sep.addL {E : Nat → Prop} {w0 w : World} {Rs : List Asr} {a : Option Addr} {n c : Nat} {xs : List Int} {L : List (SlP Int)} (S : Sep E w0 w (OwnA 5 1 a n c (xs.map (Value.int .u8)) :: RdL L :: Rs)) (bx : Byt xs) : Sep E w0 w (RdL (L ++ [⟨a, n, c, xs⟩]) :: Rs) :=
  S.conv2 fun F1 F2 h1 h2 _ x hx => by
    rcases List.mem_append.1 hx with h | h
    · exact TB.rd_mono (fun k hk _ => .inr hk) (h2 x h)
    · rw [List.mem_singleton.1 h]
      exact TB.rd_mono (fun k hk _ => .inl hk) (own_rd h1 bx)
theorem _root_.Go.Eng.Sep.nilL {E : Nat → Prop} {w0 w : World} {Rs : List Asr} (S : Sep E w0 w Rs) : Sep E w0 w (RdL [] :: Rs) :=
  S.push (F := NoB) (Fr.refl _ _) (fun x hx => (List.not_mem_nil hx).elim) fun _ x => x.elim
/-- Pages that a call has made. -/
abbrev LstS (w w' : World) (y : SlP (SlP Int)) : Prop := Sep NoB w w' [OwnA 28 1 y.a y.n y.c (y.l.map slV), RdL y.l]
theorem lst_rd {E : Nat → Prop} {w0 w : World} {Rs : List Asr} {e : TypeId} {a : Option Addr} {n c : Nat} {L : List (SlP Int)} (S : Sep E w0 w (OwnA e 1 a n c (L.map slV) :: RdL L :: Rs)) : TBB.rd w All ⟨a, n, c, L⟩ := by
  obtain ⟨F, h, _⟩ := S.get (i := 1) rfl
  have ho := S.own 0 rfl
  have hm := maxLen_eq
  refine ⟨by have := ho.len; simpa using this, ho.cap, by have := ho.lim; show n ≤ maxLen; omega, .of ?_, fun x hx => TB.rd_mono (fun _ _ _ => trivial) (h x hx)⟩
  rw [show (L.flatMap TB.vs) = L.map slV from flat_sl L]
  exact ho.rd
theorem TBB_nth {w : World} {G : Nat → Prop} {x : SlP (SlP Int)} (h : TBB.rd w G x) {i : Int} (h0 : 0 ≤ i) (h1 : i < (x.n : Int)) :
    ∃ q y, x.a = some q ∧ x.l[i.toNat]? = some y ∧ CellsAt w (q.add (i.toNat * 1)) [slV y] ∧ TB.rd w G y ∧ G q.block ∧ q.block < w.heap.size := Ty.nth (e := TB) h h0 h1 (by decide)

theorem own19_c {w : World} {g : Geo} {i gen : Int} (hR : Right g) : CallV Try.prog 72 #[g.val, .int .i64 i, .int .u64 gen] w [.agg [.int .i64, .int .i64, .int .i64, .int .u32, .int .u64, .int .u64]] fun r w' => r.1 = (ownH g i gen).tup ∧ Ext w w' := by
  apply chunk_own.vc
  unfold chunk_own.P
  have b := nCh_bd hR
  have S := Sep.start NoB w
  (repeat ((first | refine S.newB fun _ _ S f _ => ?_ | refine S.la0 rfl ?_ | refine S.la1 rfl ?_ | refine S.la2 rfl ?_ | refine S.la3 rfl ?_ | refine S.la4 rfl ?_ | refine S.la5 rfl ?_ | refine S.ld0 rfl rfl ?_ | refine S.ld1 rfl rfl ?_ | refine S.ld2 rfl rfl ?_ | refine S.ld3 rfl rfl ?_ | refine S.ld4 rfl rfl ?_ | refine S.ld5 rfl rfl ?_ | refine S.st0 (by rfl) fun _ S f => ?_ | refine S.st1 (by rfl) fun _ S f => ?_ | refine S.st2 (by rfl) fun _ S f => ?_ | refine S.st3 (by rfl) fun _ S f => ?_ | refine S.st4 (by rfl) fun _ S f => ?_ | refine S.st5 (by rfl) fun _ S f => ?_ | refine S.su0 (by rfl) fun _ S f => ?_ | refine S.su1 (by rfl) fun _ S f => ?_ | refine S.su2 (by rfl) fun _ S f => ?_ | refine S.su3 (by rfl) fun _ S f => ?_ | refine S.su4 (by rfl) fun _ S f => ?_ | refine S.su5 (by rfl) fun _ S f => ?_ | refine ⟨by decide, ?_⟩); try dsimp only [List.set_cons_zero, List.set_cons_succ, cond_true, cond_false, Bool.not_true, Bool.not_false]))
  refine (Chunks_c (g := g)).mono ?_
  rintro ⟨(r : Int), ⟨⟩⟩ w2 ⟨h2, e2⟩
  dsimp only at h2 ⊢
  rw [if_pos hR] at h2
  have h2 : r = nCh g := h2
  subst h2
  have S := S.stepE e2
  have hw : IntKind.u32.wrap (nCh g) = nCh g := by rw [u32_wrap]; omega
  rw [hw]
  (repeat ((first | refine S.newB fun _ _ S f _ => ?_ | refine S.la0 rfl ?_ | refine S.la1 rfl ?_ | refine S.la2 rfl ?_ | refine S.la3 rfl ?_ | refine S.la4 rfl ?_ | refine S.la5 rfl ?_ | refine S.ld0 rfl rfl ?_ | refine S.ld1 rfl rfl ?_ | refine S.ld2 rfl rfl ?_ | refine S.ld3 rfl rfl ?_ | refine S.ld4 rfl rfl ?_ | refine S.ld5 rfl rfl ?_ | refine S.st0 (by rfl) fun _ S f => ?_ | refine S.st1 (by rfl) fun _ S f => ?_ | refine S.st2 (by rfl) fun _ S f => ?_ | refine S.st3 (by rfl) fun _ S f => ?_ | refine S.st4 (by rfl) fun _ S f => ?_ | refine S.st5 (by rfl) fun _ S f => ?_ | refine S.su0 (by rfl) fun _ S f => ?_ | refine S.su1 (by rfl) fun _ S f => ?_ | refine S.su2 (by rfl) fun _ S f => ?_ | refine S.su3 (by rfl) fun _ S f => ?_ | refine S.su4 (by rfl) fun _ S f => ?_ | refine S.su5 (by rfl) fun _ S f => ?_ | refine ⟨by decide, ?_⟩); try dsimp only [List.set_cons_zero, List.set_cons_succ, cond_true, cond_false, Bool.not_true, Bool.not_false]))
  exact ⟨rfl, S.ext⟩
theorem head19_c {w : World} {g : Geo} {i gen : Int} (hR : Right g) : CallV Try.prog 73 #[g.val, .int .i64 i, .int .u64 gen] w [.agg [.int .i64, .int .i64, .int .i64, .int .u32, .int .u64, .int .u64]] fun r w' => r.1 = (ownH g i gen).tup ∧ Ext w w' := by
  apply ref19_head.vc
  unfold ref19_head.P
  have b := nCh_bd hR
  have S := Sep.start NoB w
  (repeat ((first | refine S.newB fun _ _ S f _ => ?_ | refine S.la0 rfl ?_ | refine S.la1 rfl ?_ | refine S.la2 rfl ?_ | refine S.la3 rfl ?_ | refine S.la4 rfl ?_ | refine S.la5 rfl ?_ | refine S.ld0 rfl rfl ?_ | refine S.ld1 rfl rfl ?_ | refine S.ld2 rfl rfl ?_ | refine S.ld3 rfl rfl ?_ | refine S.ld4 rfl rfl ?_ | refine S.ld5 rfl rfl ?_ | refine S.st0 (by rfl) fun _ S f => ?_ | refine S.st1 (by rfl) fun _ S f => ?_ | refine S.st2 (by rfl) fun _ S f => ?_ | refine S.st3 (by rfl) fun _ S f => ?_ | refine S.st4 (by rfl) fun _ S f => ?_ | refine S.st5 (by rfl) fun _ S f => ?_ | refine S.su0 (by rfl) fun _ S f => ?_ | refine S.su1 (by rfl) fun _ S f => ?_ | refine S.su2 (by rfl) fun _ S f => ?_ | refine S.su3 (by rfl) fun _ S f => ?_ | refine S.su4 (by rfl) fun _ S f => ?_ | refine S.su5 (by rfl) fun _ S f => ?_ | refine ⟨by decide, ?_⟩); try dsimp only [List.set_cons_zero, List.set_cons_succ, cond_true, cond_false, Bool.not_true, Bool.not_false]))
  refine (rChunks_c (g := g) hR.sec).mono ?_
  rintro ⟨(r : Int), ⟨⟩⟩ w2 ⟨h2, e2⟩
  dsimp only at h2 ⊢
  have h2 : r = nCh g := h2
  subst h2
  have S := S.stepE e2
  have hw : IntKind.u32.wrap (nCh g) = nCh g := by rw [u32_wrap]; omega
  rw [hw]
  (repeat ((first | refine S.newB fun _ _ S f _ => ?_ | refine S.la0 rfl ?_ | refine S.la1 rfl ?_ | refine S.la2 rfl ?_ | refine S.la3 rfl ?_ | refine S.la4 rfl ?_ | refine S.la5 rfl ?_ | refine S.ld0 rfl rfl ?_ | refine S.ld1 rfl rfl ?_ | refine S.ld2 rfl rfl ?_ | refine S.ld3 rfl rfl ?_ | refine S.ld4 rfl rfl ?_ | refine S.ld5 rfl rfl ?_ | refine S.st0 (by rfl) fun _ S f => ?_ | refine S.st1 (by rfl) fun _ S f => ?_ | refine S.st2 (by rfl) fun _ S f => ?_ | refine S.st3 (by rfl) fun _ S f => ?_ | refine S.st4 (by rfl) fun _ S f => ?_ | refine S.st5 (by rfl) fun _ S f => ?_ | refine S.su0 (by rfl) fun _ S f => ?_ | refine S.su1 (by rfl) fun _ S f => ?_ | refine S.su2 (by rfl) fun _ S f => ?_ | refine S.su3 (by rfl) fun _ S f => ?_ | refine S.su4 (by rfl) fun _ S f => ?_ | refine S.su5 (by rfl) fun _ S f => ?_ | refine ⟨by decide, ?_⟩); try dsimp only [List.set_cons_zero, List.set_cons_succ, cond_true, cond_false, Bool.not_true, Bool.not_false]))
  exact ⟨rfl, S.ext⟩

theorem mul_le' {a b s : Int} (h : a ≤ b) (hs : 0 ≤ s) : a * s ≤ b * s := Int.mul_le_mul_of_nonneg_right h hs
theorem toNat_mul' {i : Nat} {s : Int} (hs : 0 ≤ s) : ((i : Int) * s).toNat = i * s.toNat := by rw [Int.toNat_mul (by omega) hs, Int.toNat_natCast]

theorem Pages_c {w : World} {g : Geo} {a : Option Addr} {n c : Nat} {gen : Int} {rec : List Int} (hx : Ints w .u8 a n c rec) (br : Byt rec) (hgen : 0 ≤ gen ∧ gen < 18446744073709551616) :
    CallV Try.prog 31 #[g.val, .slice a n c, .int .u64 gen] w [.one .sl, .one (.int .i64)] fun r w' => Ext w w' ∧ (¬ (Right g ∧ n = 624) → r.1 = (⟨none, 0, 0⟩ : SlV) ∧ r.2.1 = (2 : Int)) ∧
      (Right g ∧ n = 624 → r.2.1 = (0 : Int) ∧ ∃ y : SlP (SlP Int), r.1 = (⟨y.a, y.n, y.c⟩ : SlV) ∧ y.l.map (·.l) = pagesL g rec gen ∧ LstS w w' y) := by
  apply chunk_Pages.vc
  unfold chunk_Pages.P
  have lx := hx.len
  have S := Sep.start NoB w
  have no : ∀ {w' : World}, ¬ (Right g ∧ n = 624) → Ext w w' → (Ext w w' ∧ (¬ (Right g ∧ n = 624) → (⟨none, 0, 0⟩ : SlV) = (⟨none, 0, 0⟩ : SlV) ∧ (2 : Int) = (2 : Int)) ∧
      (Right g ∧ n = 624 → (2 : Int) = (0 : Int) ∧ ∃ y : SlP (SlP Int), (⟨none, 0, 0⟩ : SlV) = (⟨y.a, y.n, y.c⟩ : SlV) ∧ y.l.map (·.l) = pagesL g rec gen ∧ LstS w w' y)) := fun h e => ⟨e, fun _ => ⟨rfl, rfl⟩, fun hh => absurd hh h⟩
  refine S.newB fun b1 w1 S f1 _ => ?_
  (repeat ((first | refine S.newB fun _ _ S f _ => ?_ | refine S.la0 rfl ?_ | refine S.la1 rfl ?_ | refine S.la2 rfl ?_ | refine S.la3 rfl ?_ | refine S.la4 rfl ?_ | refine S.la5 rfl ?_ | refine S.ld0 rfl rfl ?_ | refine S.ld1 rfl rfl ?_ | refine S.ld2 rfl rfl ?_ | refine S.ld3 rfl rfl ?_ | refine S.ld4 rfl rfl ?_ | refine S.ld5 rfl rfl ?_ | refine S.st0 (by rfl) fun _ S f => ?_ | refine S.st1 (by rfl) fun _ S f => ?_ | refine S.st2 (by rfl) fun _ S f => ?_ | refine S.st3 (by rfl) fun _ S f => ?_ | refine S.st4 (by rfl) fun _ S f => ?_ | refine S.st5 (by rfl) fun _ S f => ?_ | refine S.su0 (by rfl) fun _ S f => ?_ | refine S.su1 (by rfl) fun _ S f => ?_ | refine S.su2 (by rfl) fun _ S f => ?_ | refine S.su3 (by rfl) fun _ S f => ?_ | refine S.su4 (by rfl) fun _ S f => ?_ | refine S.su5 (by rfl) fun _ S f => ?_ | refine ⟨by decide, ?_⟩); try dsimp only [List.set_cons_zero, List.set_cons_succ, cond_true, cond_false, Bool.not_true, Bool.not_false]))
  refine (Check_c (g := g)).mono ?_
  rintro ⟨(r : Int), ⟨⟩⟩ w2 ⟨h2, e2⟩
  dsimp only at h2 ⊢
  have S := S.stepE e2
  subst h2
  by_cases hR : Right g
  case neg => exact cond_t (by unfold chkE; rw [if_neg hR]; rfl) (no (fun h => hR h.1) S.ext)
  refine cond_f (by unfold chkE; rw [if_pos hR]; rfl) ?_
  refine cond_ne (fun hn => no (fun h => hn (by omega)) S.ext) (fun hn => ?_)
  have hs := hR.sec
  have bN := nCh_bd hR
  (repeat ((first | refine S.newB fun _ _ S f _ => ?_ | refine S.la0 rfl ?_ | refine S.la1 rfl ?_ | refine S.la2 rfl ?_ | refine S.la3 rfl ?_ | refine S.la4 rfl ?_ | refine S.la5 rfl ?_ | refine S.ld0 rfl rfl ?_ | refine S.ld1 rfl rfl ?_ | refine S.ld2 rfl rfl ?_ | refine S.ld3 rfl rfl ?_ | refine S.ld4 rfl rfl ?_ | refine S.ld5 rfl rfl ?_ | refine S.st0 (by rfl) fun _ S f => ?_ | refine S.st1 (by rfl) fun _ S f => ?_ | refine S.st2 (by rfl) fun _ S f => ?_ | refine S.st3 (by rfl) fun _ S f => ?_ | refine S.st4 (by rfl) fun _ S f => ?_ | refine S.st5 (by rfl) fun _ S f => ?_ | refine S.su0 (by rfl) fun _ S f => ?_ | refine S.su1 (by rfl) fun _ S f => ?_ | refine S.su2 (by rfl) fun _ S f => ?_ | refine S.su3 (by rfl) fun _ S f => ?_ | refine S.su4 (by rfl) fun _ S f => ?_ | refine S.su5 (by rfl) fun _ S f => ?_ | refine ⟨by decide, ?_⟩); try dsimp only [List.set_cons_zero, List.set_cons_succ, cond_true, cond_false, Bool.not_true, Bool.not_false]))
  refine (Chunks_c (g := g)).mono ?_
  rintro ⟨(r3 : Int), ⟨⟩⟩ w3 ⟨h3, e3⟩
  dsimp only at h3 ⊢
  rw [if_pos hR] at h3
  have h3 : r3 = nCh g := h3
  subst h3
  have S := S.stepE e3
  generalize hN : (nCh g).toNat = N at *
  have hNi : nCh g = (N : Int) := by omega
  refine S.reg fun D hD hkeep Sd T => ?_
  refine ⟨hD _ S.bl0, Sd.ld0 rfl rfl ⟨Rng.i64 (by omega) (by omega), Rng.i64 (by omega) (by omega), ?_⟩⟩
  refine T.newB fun b5 w5 T f5 _ => ⟨hkeep _ T.fr, ?_⟩
  have T := T.asOwn (sz := 1) (n := 0) rfl (by omega) oneAll.nil
  refine T.ab0 (xs := []) (hx.ext (Sd.ext.trans T.ext)) (by omega) fun a6 c6 w6 T f6 => ⟨hkeep _ T.fr, ?_⟩
  refine Fill_c.mono ?_
  rintro ⟨⟨sa, sn, sc⟩, ⟨⟩⟩ w7 h7
  dsimp only at h7 ⊢
  have hf : (max 0 (min (65536 : Int) (nCh g * g.s - ((n : Nat) : Int)))).toNat = (nCh g * g.s - 624).toNat := by generalize hL : (65536 : Int) = L; omega
  rw [hf] at h7
  have l7 := h7.ints.len
  rw [List.length_replicate] at l7
  have T := T.res h7
  dsimp only at l7 T
  refine ⟨hkeep _ T.fr, ?_⟩
  refine T.ab1 T.in0 (by omega) fun a8 c8 w8 T f8 => ⟨hkeep _ T.fr, ?_⟩
  have S := (Sd.frame0 T).sel [1, 1] rfl
  have hall : [] ++ rec ++ List.replicate (nCh g * g.s - 624).toNat 255 = allR g rec := rfl
  rw [hall] at S
  have la := allR_length hR (show rec.length = 624 by omega)
  rw [hN] at la
  have S := (S.nilL).nilOwn 28 1
  have lc8 := (S.own 2 rfl).cap
  have ln8 := (S.own 2 rfl).len
  rw [List.length_map, la, Nat.mul_one] at ln8
  generalize hn8 : 0 + n + sn = n8 at S lc8 ln8
  refine Loop1 (fun (y : SlV × Int × Unit) w' => ∃ (i : Nat) (L : List (SlP Int)), y.2.1 = (i : Int) ∧ i ≤ N ∧ y.1.n = i ∧ L.map (·.l) = (pagesL g rec gen).take i ∧ Sep NoB w w' [OwnA 28 1 y.1.a y.1.n y.1.c (L.map slV), RdL L, OwnA 5 1 a8 n8 c8 ((allR g rec).map (Value.int .u8)), BoxA b1 23 g.vs])
    (fun (y : SlV × Int × Unit) _ => ((N : Int) - y.2.1).toNat) ⟨0, [], rfl, by omega, rfl, rfl, S⟩ ?_
  rintro ⟨⟨ya, yn, yc⟩, (z : Int), ⟨⟩⟩ w9 ⟨i, L, hz, hi, hyn, hL, S⟩
  dsimp only at hz hyn S ⊢
  subst hz
  subst hyn
  have hpl : (pagesL g rec gen).length = N := by unfold pagesL; rw [List.length_map, List.length_range, hN]
  have hLl : L.length = yn := by
    have := congrArg List.length hL
    rw [List.length_map, List.length_take, hpl] at this
    omega
  refine cond_d (fun hlt => ?_) (fun hge => ?_)
  · have m1 := mul_le' (show (yn : Int) + 1 ≤ nCh g by omega) (show 0 ≤ g.s by omega)
    have m0 : 0 ≤ (yn : Int) * g.s := Int.mul_nonneg (by omega) (by omega)
    have m2 : ((yn : Int) + 1) * g.s = (yn : Int) * g.s + g.s := by rw [Int.add_mul, Int.one_mul]
    have t0 : ((yn : Int) * g.s).toNat = yn * g.s.toNat := toNat_mul' (by omega)
    have n0 : (((yn : Int) * g.s).toNat : Int) = (yn : Int) * g.s := Int.toNat_of_nonneg m0
    have e5000 : nCh g * g.s ≤ 5000 := bN.2.2.2
    have hcap : nCh g * g.s ≤ ((c8 : Nat) : Int) := by
      have : nCh g * g.s = ((N * g.s.toNat : Nat) : Int) := by rw [hNi, Int.natCast_mul, Int.toNat_of_nonneg (by omega)]
      omega
    refine S.reg fun D hD hkeep Sd T => ?_
    refine ⟨hD _ S.bl3, Sd.la3 rfl ⟨hD _ S.bl3, Sd.la3 rfl ⟨hD _ S.bl3, Sd.ld3 rfl rfl ⟨Rng.i64 (by omega) (by omega), Rng.i64 (by omega) (by omega), hD _ S.bl3, Sd.ld3 rfl rfl ⟨Rng.i64 (by omega) (by omega), Rng.i64 (by omega) (by omega), hD _ S.bl3, Sd.ld3 rfl rfl ⟨Rng.i64 (by omega) (by omega), ⟨by omega, by omega, by omega, by omega⟩, ?_⟩⟩⟩⟩⟩⟩
    intro a10 ha10
    dsimp only
    have i10 := (Sd.in2).sub (l := ((yn : Int) * g.s).toNat) (hh := (((yn : Int) + 1) * g.s).toNat) (m := (((yn : Int) + 1) * g.s).toNat) (by omega) (by omega) (by omega) ha10
    have hlen : (((yn : Int) + 1) * g.s).toNat - ((yn : Int) * g.s).toNat = g.s.toNat := by omega
    rw [hlen] at i10 ⊢
    rw [t0] at i10
    have i10 : Ints _ .u8 a10 g.s.toNat g.s.toNat (chk g rec yn) := i10
    refine (own19_c (g := g) (i := (yn : Int)) (gen := gen) hR).mono ?_
    rintro ⟨_, ⟨⟩⟩ w10 ⟨h10, e10⟩
    dsimp only at h10
    subst h10
    have T := T.stepE e10
    refine ⟨hkeep _ T.fr, ?_⟩
    refine (Make_c (g := g) (h := ownH g yn gen) (ownH_rng hR hgen) (i10.ext T.ext) intsNil).mono ?_
    rintro ⟨⟨pa, pn, pc⟩, (e11 : Int), ⟨⟩⟩ w11 ⟨x11, h11, -⟩
    obtain ⟨k1, k2⟩ := h11 ⟨hR, ⟨ownH_right ⟨by omega, by omega⟩, .inl rfl⟩, .inr (by omega)⟩
    dsimp only at k1 k2 ⊢
    subst k2
    have T := T.res k1
    dsimp only at T
    refine ⟨hkeep _ T.fr, cond_f rfl ?_⟩
    have S := Sd.frame0 T
    dsimp only [List.cons_append, List.nil_append] at S
    refine S.newB fun b12 w12 S f12 _ => ?_
    refine AppS.of (news := [slV ⟨pa, pn, pc, pgOf g rec gen yn⟩]) rfl (.inr ⟨_, rfl, S.cells 0 rfl⟩) ?_
    refine S.ap2 (by rfl) (fun u hu => by rw [List.mem_singleton.1 hu]; rfl) (by omega) (by omega) fun a13 c13 w13 S f13 => ?_
    have S := S.sel [1, 2, 1, 1, 1] rfl
    have S := S.addL (mkL_byt (ownH_rng hR hgen) (ownH_right ⟨by omega, by omega⟩) (chk_byt br _) Byt.nil)
    have S := S.sel [1, 0, 0, 0] rfl
    have hpg : (pagesL g rec gen)[yn]'(by omega) = pgOf g rec gen yn := by simp [pagesL]
    refine ⟨Rng.i64 (by omega) (by omega), ⟨yn + 1, L ++ [⟨pa, pn, pc, pgOf g rec gen yn⟩], by push_cast; rfl, by omega, rfl, ?_, ?_⟩, by omega⟩
    · rw [List.map_append, hL, List.take_succ_eq_append_getElem (by omega), hpg]; rfl
    · rw [List.map_append]; exact S
  · have hyN : yn = N := by omega
    subst hyN
    rw [List.take_of_length_le (by omega)] at hL
    exact ⟨S.ext, fun h => absurd ⟨hR, by omega⟩ h, fun _ => ⟨rfl, ⟨ya, yn, yc, L⟩, rfl, hL, S.sel [0, 0] rfl⟩⟩

end Go.Proofs.Ytfpkaebmiojicaa.Vc

/-! The plans of functions as plain statements, printed by wip/tools/vcgen.py; the kernel holds each to the code. -/
namespace Go.Proofs.Ytfpkaebmiojicaa.Vc
open Go Go.Eng
set_option linter.unusedVariables false

/-! ### nepenthe/nand.New: function 43 -/
-- loop 0 carries 75: .one (.int .i64)
-- loop 1 carries 42: .one (.int .i64)
def nand_New.A : Ann := .two .no (.two .no (.two (.draw (.take 0 (.take 1 (.take 3 (.eff 2 (.eff 4 (.take 5 (.eff 6 (.take 7 (.done)))))))))) (.two (.draw (.take 0 (.take 1 (.take 2 (.take 3 (.take 4 (.take 5 (.take 6 (.take 7 (.take 8 (.eff 9 (.take 10 (.eff 11 (.take 12 (.take 13 (.eff 14 (.done))))))))))))))))) (.two (.two .no (.one (.loop [7, 42, 43, 44, 45, 46, 47, 48, 49, 50, 51] [(42, .one (.int .i64))] .no))) (.two .no (.join [61, 62, 63, 64, 65, 66, 67, 68, 69, 70, 71, 72] [] (.draw (.take 0 (.take 1 (.take 2 (.take 3 (.take 5 (.take 6 (.both 4 (.take 8 (.take 9 (.both 7 (.eff 10 (.take 11 (.take 12 (.eff 13 (.done))))) 10 (.eff 7 (.take 11 (.take 12 (.eff 13 (.done)))))))) 7 (.eff 4 (.take 8 (.take 9 (.eff 10 (.take 11 (.take 12 (.eff 13 (.done)))))))))))))))) (.two (.two .no (.one (.loop [75, 76, 77, 78, 79, 80, 81, 82, 83, 84, 85, 86] [(75, .one (.int .i64))] .no))) .no)))))))
def nand_New.P (p0_0 : Int) (p0_1 : Int) (p0_2 : Int) (p0_3 : Int) (p0_4 : Int) (p0_5 : Int) (a1 : Option Addr) (n1 c1 : Nat) (w : World) (K : (Option Addr) × Int × Unit → World → Prop) : Prop :=
  NewV #[.int .i64 p0_0, .int .i64 p0_1, .int .i64 p0_2, .int .i64 p0_3, .int .i64 p0_4, .int .i64 p0_5] 23 w fun b1 w2 =>
  LoadA w2 ⟨b1, 0, none⟩ [.int .i64, .int .i64, .int .i64, .int .i64, .int .i64, .int .i64] fun (x3 : Int × Int × Int × Int × Int × Int × Unit) =>
  CallV Try.prog 57 #[.agg #[.int .i64 x3.1, .int .i64 x3.2.1, .int .i64 x3.2.2.1, .int .i64 x3.2.2.2.1, .int .i64 x3.2.2.2.2.1, .int .i64 x3.2.2.2.2.2.1]] w2 [.one (.int .i64)] fun (r4 : Int × Unit) w5 =>
  cond (r4.1 != 0)
  (K (none, (2 : Int), ()) w5)
  (CallV Try.prog 75 #[.slice a1 n1 c1] w5 [.one (.int .i64)] fun (r6 : Int × Unit) w7 =>
  cond (r6.1 != 0)
  (K (none, (2 : Int), ()) w7)
  (DrawV fun D8 =>
  (D8 b1 ∧ LoadA w7.drew ⟨b1, 0, none⟩ [.int .i64, .int .i64, .int .i64, .int .i64, .int .i64, .int .i64] fun (x9 : Int × Int × Int × Int × Int × Int × Unit) =>
  (D8 b1 ∧ LoadA w7.drew ⟨b1, 0, none⟩ [.int .i64, .int .i64, .int .i64, .int .i64, .int .i64, .int .i64] fun (x10 : Int × Int × Int × Int × Int × Int × Unit) =>
  CallV Try.prog 61 #[.agg #[.int .i64 x10.1, .int .i64 x10.2.1, .int .i64 x10.2.2.1, .int .i64 x10.2.2.2.1, .int .i64 x10.2.2.2.2.1, .int .i64 x10.2.2.2.2.2.1]] w7.drew [.one (.int .i64)] fun (r11 : Int × Unit) w12 =>
  KeepOn D8 w7.drew w12 ∧
  CallV Try.prog 76 #[.slice a1 n1 c1] w12 [.one .sl] fun (r13 : SlV × Unit) w14 =>
  KeepOn D8 w7.drew w14 ∧
  NewV #[.int .i64 x9.1, .int .i64 x9.2.1, .int .i64 x9.2.2.1, .int .i64 x9.2.2.2.1, .int .i64 x9.2.2.2.2.1, .int .i64 x9.2.2.2.2.2.1, .int .i64 r11.1, .slice none 0 0, .slice none 0 0, .slice none 0 0, .slice none 0 0, .slice none 0 0, .slice r13.1.a r13.1.n r13.1.c, .bool false, .slice none 0 0] 131 w14 fun b15 w16 =>
  KeepOn D8 w7.drew w16 ∧
  DrawV fun D17 =>
  (D17 b1 ∧ LoadS w16.drew ⟨b1, 0, none⟩ (.int .i64) fun (x18 : Int) =>
  (D17 b1 ∧ LoadS w16.drew ⟨b1, 1, none⟩ (.int .i64) fun (x19 : Int) =>
  Rng .i64 (x18 * x19) ∧
  LoadS w16.drew ⟨b15, 6, none⟩ (.int .i64) fun (x20 : Int) =>
  KeepOn D17 w16.drew w16.drew ∧
  Rng .i64 ((x18 * x19) * x20) ∧
  ((0 : Int) ≤ ((x18 * x19) * x20 : Int) ∧ ((x18 * x19) * x20 : Int) ≤ ((x18 * x19) * x20 : Int) ∧ ((x18 * x19) * x20 : Int) ≤ 9223372036854775807 ∧ ((1 : Nat) : Int) * ((x18 * x19) * x20 : Int) ≤ 140737488355328) ∧
  NewV (List.replicate (((x18 * x19) * x20).toNat) [.int .u8 0]).flatten.toArray 5 w16.drew fun b21 w22 =>
  KeepOn D17 w16.drew w22 ∧
  StoreV w22 ⟨b15, 7, none⟩ [.slice (some ⟨b21, 0, none⟩) (((x18 * x19) * x20).toNat) (((x18 * x19) * x20).toNat)] fun w23 =>
  KeepOn D17 w16.drew w23 ∧
  LoadS w23 ⟨b15, 7, none⟩ .sl fun (x24 : SlV) =>
  LoopV [.one (.int .i64)] ((0 : Int), ()) w23 fun (z25 : Int × Unit) w26 (K27 : Int × Unit → World → Prop) =>
  cond (decide (z25.1 < ((x24.n : Nat) : Int)))
  (LoadS w26 ⟨b15, 7, none⟩ .sl fun (x28 : SlV) =>
  (0 ≤ z25.1 ∧ z25.1 < ((x28.n : Nat) : Int)) ∧ ∃ q29 : Addr, x28.a = some q29 ∧
  StoreV w26 (q29.add (z25.1.toNat * 1)) [.int .u8 255] fun w30 =>
  Rng .i64 (z25.1 + 1) ∧
  K27 (z25.1 + 1, ()) w30)
  (LoadS w26 ⟨b1, 0, none⟩ (.int .i64) fun (x31 : Int) =>
  LoadS w26 ⟨b1, 1, none⟩ (.int .i64) fun (x32 : Int) =>
  Rng .i64 (x31 * x32) ∧
  ((0 : Int) ≤ (x31 * x32 : Int) ∧ (x31 * x32 : Int) ≤ (x31 * x32 : Int) ∧ (x31 * x32 : Int) ≤ 9223372036854775807 ∧ ((8 : Nat) : Int) * (x31 * x32 : Int) ≤ 140737488355328) ∧
  NewV (List.replicate ((x31 * x32).toNat) [.int .i64 0]).flatten.toArray 3 w26 fun b33 w34 =>
  StoreV w34 ⟨b15, 8, none⟩ [.slice (some ⟨b33, 0, none⟩) ((x31 * x32).toNat) ((x31 * x32).toNat)] fun w35 =>
  JoinV [] (fun (v37 : Unit) w38 =>
  LoadS w38 ⟨b1, 0, none⟩ (.int .i64) fun (x39 : Int) =>
  LoopV [.one (.int .i64)] ((0 : Int), ()) w38 fun (z40 : Int × Unit) w41 (K42 : Int × Unit → World → Prop) =>
  cond (decide (z40.1 < x39))
  (LoadS w41 ⟨b15, 9, none⟩ .sl fun (x43 : SlV) =>
  NewV #[.int .i64 (-1)] 3 w41 fun b44 w45 =>
  AppS w45 (some ⟨b44, 0, none⟩) 1 1 fun ns50 =>
  AppV w45 3 1 8 x43.a x43.n x43.c ns50 1 fun a46 n47 c48 w49 =>
  StoreV w49 ⟨b15, 9, none⟩ [.slice a46 n47 c48] fun w51 =>
  Rng .i64 (z40.1 + 1) ∧
  K42 (z40.1 + 1, ()) w51)
  (K ((some ⟨b15, 0, none⟩), (0 : Int), ()) w41)) fun (J36 : Unit → World → Prop) =>
  DrawV fun D52 =>
  (D52 b1 ∧ LoadS w35.drew ⟨b1, 0, none⟩ (.int .i64) fun (x53 : Int) =>
  (D52 b1 ∧ LoadS w35.drew ⟨b1, 0, none⟩ (.int .i64) fun (x54 : Int) =>
  ((((0 : Int) ≤ (x53 : Int) ∧ (x53 : Int) ≤ (x53 : Int) ∧ (x53 : Int) ≤ 9223372036854775807 ∧ ((8 : Nat) : Int) * (x53 : Int) ≤ 140737488355328) ∧
  NewV (List.replicate x53.toNat [.int .i64 0]).flatten.toArray 3 w35.drew fun b55 w56 =>
  KeepOn D52 w35.drew w56 ∧
  ((((0 : Int) ≤ (x54 : Int) ∧ (x54 : Int) ≤ (x54 : Int) ∧ (x54 : Int) ≤ 9223372036854775807 ∧ ((8 : Nat) : Int) * (x54 : Int) ≤ 140737488355328) ∧
  NewV (List.replicate x54.toNat [.int .i64 0]).flatten.toArray 3 w56 fun b57 w58 =>
  KeepOn D52 w35.drew w58 ∧
  StoreV w58 ⟨b15, 10, none⟩ [.slice (some ⟨b55, 0, none⟩) x53.toNat x53.toNat] fun w59 =>
  KeepOn D52 w35.drew w59 ∧
  StoreV w59 ⟨b15, 11, none⟩ [.slice (some ⟨b57, 0, none⟩) x54.toNat x54.toNat] fun w60 =>
  KeepOn D52 w35.drew w60 ∧
  J36 (()) w60) ∧
  (StoreV w56 ⟨b15, 10, none⟩ [.slice (some ⟨b55, 0, none⟩) x53.toNat x53.toNat] fun w61 =>
  KeepOn D52 w35.drew w61 ∧
  ((0 : Int) ≤ (x54 : Int) ∧ (x54 : Int) ≤ (x54 : Int) ∧ (x54 : Int) ≤ 9223372036854775807 ∧ ((8 : Nat) : Int) * (x54 : Int) ≤ 140737488355328) ∧
  NewV (List.replicate x54.toNat [.int .i64 0]).flatten.toArray 3 w61 fun b62 w63 =>
  KeepOn D52 w35.drew w63 ∧
  StoreV w63 ⟨b15, 11, none⟩ [.slice (some ⟨b62, 0, none⟩) x54.toNat x54.toNat] fun w64 =>
  KeepOn D52 w35.drew w64 ∧
  J36 (()) w64))) ∧
  (((0 : Int) ≤ (x54 : Int) ∧ (x54 : Int) ≤ (x54 : Int) ∧ (x54 : Int) ≤ 9223372036854775807 ∧ ((8 : Nat) : Int) * (x54 : Int) ≤ 140737488355328) ∧
  NewV (List.replicate x54.toNat [.int .i64 0]).flatten.toArray 3 w35.drew fun b65 w66 =>
  KeepOn D52 w35.drew w66 ∧
  ((0 : Int) ≤ (x53 : Int) ∧ (x53 : Int) ≤ (x53 : Int) ∧ (x53 : Int) ≤ 9223372036854775807 ∧ ((8 : Nat) : Int) * (x53 : Int) ≤ 140737488355328) ∧
  NewV (List.replicate x53.toNat [.int .i64 0]).flatten.toArray 3 w66 fun b67 w68 =>
  KeepOn D52 w35.drew w68 ∧
  StoreV w68 ⟨b15, 10, none⟩ [.slice (some ⟨b67, 0, none⟩) x53.toNat x53.toNat] fun w69 =>
  KeepOn D52 w35.drew w69 ∧
  StoreV w69 ⟨b15, 11, none⟩ [.slice (some ⟨b65, 0, none⟩) x54.toNat x54.toNat] fun w70 =>
  KeepOn D52 w35.drew w70 ∧
  J36 (()) w70)))))))))))
theorem nand_New.vc (p0_0 : Int) (p0_1 : Int) (p0_2 : Int) (p0_3 : Int) (p0_4 : Int) (p0_5 : Int) (a1 : Option Addr) (n1 c1 : Nat) (w : World) (K : (Option Addr) × Int × Unit → World → Prop) (h : nand_New.P p0_0 p0_1 p0_2 p0_3 p0_4 p0_5 a1 n1 c1 w K) : CallV Try.prog 43 #[.agg #[.int .i64 p0_0, .int .i64 p0_1, .int .i64 p0_2, .int .i64 p0_3, .int .i64 p0_4, .int .i64 p0_5], .slice a1 n1 c1] w [.one .ptr, .one (.int .i64)] K := by
  have e : vcFun Try.prog okf false Try.f43 nand_New.A #[.agg #[.int .i64 p0_0, .int .i64 p0_1, .int .i64 p0_2, .int .i64 p0_3, .int .i64 p0_4, .int .i64 p0_5], .slice a1 n1 c1] w [.one .ptr, .one (.int .i64)] K = nand_New.P p0_0 p0_1 p0_2 p0_3 p0_4 p0_5 a1 n1 c1 w K := by kernel_rfl
  exact vcFun.calls okf_ok follows Try.func43 (e.symm ▸ h)

/-! ### (*nepenthe/nand.Chip).page: function 87 -/
def nand_Chip_page.A : Ann := .two .no (.two (.draw (.take 0 (.take 1 (.take 2 (.take 3 (.take 4 (.take 5 (.take 6 (.take 7 (.take 8 (.take 9 (.take 10 (.take 11 (.take 12 (.take 13 (.take 14 (.take 15 (.take 16 (.take 17 (.take 18 (.take 19 (.take 20 (.take 21 (.take 22 (.take 23 (.take 24 (.take 25 (.done)))))))))))))))))))))))))))) .no)
def nand_Chip_page.P (p0 : Addr) (p1 : Int) (w : World) (K : SlV × Unit → World → Prop) : Prop :=
  DrawV fun D1 =>
  (D1 (p0.add 7).block ∧ LoadS w.drew (p0.add 7) .sl fun (x2 : SlV) =>
  (D1 (p0.add 6).block ∧ LoadS w.drew (p0.add 6) (.int .i64) fun (x3 : Int) =>
  Rng .i64 (p1 * x3) ∧
  Rng .i64 (p1 + 1) ∧
  (D1 (p0.add 6).block ∧ LoadS w.drew (p0.add 6) (.int .i64) fun (x4 : Int) =>
  Rng .i64 ((p1 + 1) * x4) ∧
  Rng .i64 (p1 + 1) ∧
  (D1 (p0.add 6).block ∧ LoadS w.drew (p0.add 6) (.int .i64) fun (x5 : Int) =>
  Rng .i64 ((p1 + 1) * x5) ∧
  ((0 : Int) ≤ (p1 * x3) ∧ (p1 * x3) ≤ ((p1 + 1) * x4) ∧ ((p1 + 1) * x4) ≤ ((p1 + 1) * x5) ∧ ((p1 + 1) * x5) ≤ ((x2.c : Nat) : Int)) ∧
  SubK x2.a ((p1 * x3).toNat) (((p1 + 1) * x5).toNat) 1 fun a6 =>
  K ((⟨a6, (((p1 + 1) * x4).toNat) - ((p1 * x3).toNat), (((p1 + 1) * x5).toNat) - ((p1 * x3).toNat)⟩ : SlV), ()) w.drew))))
theorem nand_Chip_page.vc (p0 : Addr) (p1 : Int) (w : World) (K : SlV × Unit → World → Prop) (h : nand_Chip_page.P p0 p1 w K) : CallV Try.prog 87 #[.pointer (some p0), .int .i64 p1] w [.one .sl] K := by
  have e : vcFun Try.prog okf false Try.f87 nand_Chip_page.A #[.pointer (some p0), .int .i64 p1] w [.one .sl] K = nand_Chip_page.P p0 p1 w K := by kernel_rfl
  exact vcFun.calls okf_ok follows Try.func87 (e.symm ▸ h)

/-! ### (*nepenthe/nand.Chip).block: function 113 -/
def nand_Chip_block.A : Ann := .two .no (.two (.draw (.take 0 (.take 1 (.take 2 (.take 3 (.take 4 (.take 5 (.take 6 (.take 7 (.take 8 (.take 9 (.take 10 (.done))))))))))))) .no)
def nand_Chip_block.P (p0 : Addr) (p1 : Int) (w : World) (K : SlV × Unit → World → Prop) : Prop :=
  DrawV fun D1 =>
  (D1 (p0.add 1).block ∧ LoadS w.drew (p0.add 1) (.int .i64) fun (x2 : Int) =>
  (D1 (p0.add 6).block ∧ LoadS w.drew (p0.add 6) (.int .i64) fun (x3 : Int) =>
  Rng .i64 (x2 * x3) ∧
  LoadS w.drew (p0.add 7) .sl fun (x4 : SlV) =>
  Rng .i64 (p1 * (x2 * x3)) ∧
  Rng .i64 (p1 + 1) ∧
  Rng .i64 ((p1 + 1) * (x2 * x3)) ∧
  Rng .i64 (p1 + 1) ∧
  Rng .i64 ((p1 + 1) * (x2 * x3)) ∧
  ((0 : Int) ≤ (p1 * (x2 * x3)) ∧ (p1 * (x2 * x3)) ≤ ((p1 + 1) * (x2 * x3)) ∧ ((p1 + 1) * (x2 * x3)) ≤ ((p1 + 1) * (x2 * x3)) ∧ ((p1 + 1) * (x2 * x3)) ≤ ((x4.c : Nat) : Int)) ∧
  SubK x4.a ((p1 * (x2 * x3)).toNat) (((p1 + 1) * (x2 * x3)).toNat) 1 fun a5 =>
  K ((⟨a5, (((p1 + 1) * (x2 * x3)).toNat) - ((p1 * (x2 * x3)).toNat), (((p1 + 1) * (x2 * x3)).toNat) - ((p1 * (x2 * x3)).toNat)⟩ : SlV), ()) w.drew))
theorem nand_Chip_block.vc (p0 : Addr) (p1 : Int) (w : World) (K : SlV × Unit → World → Prop) (h : nand_Chip_block.P p0 p1 w K) : CallV Try.prog 113 #[.pointer (some p0), .int .i64 p1] w [.one .sl] K := by
  have e : vcFun Try.prog okf false Try.f113 nand_Chip_block.A #[.pointer (some p0), .int .i64 p1] w [.one .sl] K = nand_Chip_block.P p0 p1 w K := by kernel_rfl
  exact vcFun.calls okf_ok follows Try.func113 (e.symm ▸ h)

/-! ### (*nepenthe/nand.Chip).done: function 106 -/
def nand_Chip_done.A : Ann := .two .no (.two .no (.join [14, 15, 16, 17, 18, 19, 20, 21, 22, 23, 24, 25, 26, 27, 28] [(14, .one .ptr), (15, .one .bool)] (.draw (.take 0 (.take 1 (.take 2 (.take 3 (.take 4 (.take 5 (.take 6 (.take 7 (.take 8 (.both 9 (.take 10 (.take 11 (.take 12 (.eff 13 (.eff 14 (.take 15 (.done))))))) 13 (.eff 9 (.take 10 (.take 11 (.take 12 (.eff 14 (.take 15 (.done)))))))))))))))))) (.join [13, 29, 30, 31, 32, 33, 34, 35, 36, 37, 38, 39, 40, 41, 42, 43, 44, 45, 46, 47, 48, 49, 50, 51, 52, 53, 54] [(13, .one (.int .i64))] .no (.join [55, 56, 57, 58, 59, 60, 61, 62, 63, 64, 65, 66, 67, 68, 69, 70] [] (.draw (.take 0 (.take 1 (.take 2 (.take 3 (.take 5 (.take 6 (.take 8 (.take 10 (.both 4 (.eff 7 (.eff 9 (.take 11 (.eff 12 (.eff 13 (.take 14 (.take 15 (.eff 16 (.done))))))))) 7 (.both 4 (.eff 9 (.take 11 (.eff 12 (.eff 13 (.take 14 (.take 15 (.eff 16 (.done)))))))) 9 (.take 11 (.both 4 (.eff 12 (.eff 13 (.take 14 (.take 15 (.eff 16 (.done)))))) 12 (.eff 4 (.eff 13 (.take 14 (.take 15 (.eff 16 (.done))))))))))))))))))) .no))))
def nand_Chip_done.P (p0 : Addr) (p1 : Int) (p2_0 : Int) (p2_1 : Int) (a3 : Option Addr) (n3 c3 : Nat) (p4_0 : (FuncId × Array Value × Array Value)) (p4_1 : (FuncId × Array Value × Array Value)) (a5 : Option Addr) (n5 c5 : Nat) (w : World) (K : Int × Unit → World → Prop) : Prop :=
  NewV #[.int .i64 p2_0, .int .i64 p2_1] 81 w fun b1 w2 =>
  NewV #[.func (.func p4_0.1) p4_0.2.1 p4_0.2.2, .func (.func p4_1.1) p4_1.2.1 p4_1.2.2] 153 w2 fun b3 w4 =>
  JoinV [.one .ptr, .one .bool] (fun (v6 : (Option Addr) × Bool × Unit) w7 =>
  JoinV [.one (.int .i64)] (fun (v9 : Int × Unit) w10 =>
  JoinV [] (fun (v12 : Unit) w13 =>
  K (v9.1, ()) w13) fun (J11 : Unit → World → Prop) =>
  DrawV fun D14 =>
  (D14 b1 ∧ LoadA w10.drew ⟨b1, 0, none⟩ [.int .i64, .int .i64] fun (x15 : Int × Int × Unit) =>
  ((LoadS w10.drew (p0.add 14) .sl fun (x16 : SlV) =>
  KeepOn D14 w10.drew w10.drew ∧
  NewV #[] 5 w10.drew fun b17 w18 =>
  KeepOn D14 w10.drew w18 ∧
  AppS w18 a3 n3 1 fun ns23 =>
  AppV w18 5 1 1 (some ⟨b17, 0, none⟩) 0 0 ns23 n3 fun a19 n20 c21 w22 =>
  KeepOn D14 w10.drew w22 ∧
  NewV #[.int .i64 p1, .int .i64 x15.1, .int .i64 x15.2.1, .slice a19 n20 c21, .int .i64 v9.1] 106 w22 fun b24 w25 =>
  KeepOn D14 w10.drew w25 ∧
  AppS w25 (some ⟨b24, 0, none⟩) 1 5 fun ns30 =>
  AppV w25 106 5 56 x16.a x16.n x16.c ns30 1 fun a26 n27 c28 w29 =>
  KeepOn D14 w10.drew w29 ∧
  StoreV w29 (p0.add 14) [.slice a26 n27 c28] fun w31 =>
  KeepOn D14 w10.drew w31 ∧
  J11 (()) w31) ∧
  (NewV #[] 5 w10.drew fun b32 w33 =>
  KeepOn D14 w10.drew w33 ∧
  ((LoadS w33 (p0.add 14) .sl fun (x34 : SlV) =>
  KeepOn D14 w10.drew w33 ∧
  AppS w33 a3 n3 1 fun ns39 =>
  AppV w33 5 1 1 (some ⟨b32, 0, none⟩) 0 0 ns39 n3 fun a35 n36 c37 w38 =>
  KeepOn D14 w10.drew w38 ∧
  NewV #[.int .i64 p1, .int .i64 x15.1, .int .i64 x15.2.1, .slice a35 n36 c37, .int .i64 v9.1] 106 w38 fun b40 w41 =>
  KeepOn D14 w10.drew w41 ∧
  AppS w41 (some ⟨b40, 0, none⟩) 1 5 fun ns46 =>
  AppV w41 106 5 56 x34.a x34.n x34.c ns46 1 fun a42 n43 c44 w45 =>
  KeepOn D14 w10.drew w45 ∧
  StoreV w45 (p0.add 14) [.slice a42 n43 c44] fun w47 =>
  KeepOn D14 w10.drew w47 ∧
  J11 (()) w47) ∧
  (AppS w33 a3 n3 1 fun ns52 =>
  AppV w33 5 1 1 (some ⟨b32, 0, none⟩) 0 0 ns52 n3 fun a48 n49 c50 w51 =>
  KeepOn D14 w10.drew w51 ∧
  ((LoadS w51 (p0.add 14) .sl fun (x53 : SlV) =>
  KeepOn D14 w10.drew w51 ∧
  NewV #[.int .i64 p1, .int .i64 x15.1, .int .i64 x15.2.1, .slice a48 n49 c50, .int .i64 v9.1] 106 w51 fun b54 w55 =>
  KeepOn D14 w10.drew w55 ∧
  AppS w55 (some ⟨b54, 0, none⟩) 1 5 fun ns60 =>
  AppV w55 106 5 56 x53.a x53.n x53.c ns60 1 fun a56 n57 c58 w59 =>
  KeepOn D14 w10.drew w59 ∧
  StoreV w59 (p0.add 14) [.slice a56 n57 c58] fun w61 =>
  KeepOn D14 w10.drew w61 ∧
  J11 (()) w61) ∧
  (NewV #[.int .i64 p1, .int .i64 x15.1, .int .i64 x15.2.1, .slice a48 n49 c50, .int .i64 v9.1] 106 w51 fun b62 w63 =>
  KeepOn D14 w10.drew w63 ∧
  LoadS w63 (p0.add 14) .sl fun (x64 : SlV) =>
  KeepOn D14 w10.drew w63 ∧
  AppS w63 (some ⟨b62, 0, none⟩) 1 5 fun ns69 =>
  AppV w63 106 5 56 x64.a x64.n x64.c ns69 1 fun a65 n66 c67 w68 =>
  KeepOn D14 w10.drew w68 ∧
  StoreV w68 (p0.add 14) [.slice a65 n66 c67] fun w70 =>
  KeepOn D14 w10.drew w70 ∧
  J11 (()) w70)))))))) fun (J8 : Int × Unit → World → Prop) =>
  cond (!v6.2.1)
  (LoadS w7 ⟨b3, 0, none⟩ .fn fun (x71 : (FuncId × Array Value × Array Value)) =>
  cond (okf x71.1)
  (CallV Try.prog x71.1 ((x71.2.1).toList ++ ([] ++ (x71.2.2).toList)).toArray w7 [.one .sl] fun (r72 : SlV × Unit) w73 =>
  CopyV w73 a5 r72.1.a (Nat.min r72.1.n n5) 1 fun w74 =>
  J8 ((0 : Int), ()) w74)
  False)
  (PtrK v6.1 fun q75 =>
  LoadS w7 (q75.add 1) .bool fun (x76 : Bool) =>
  cond x76
  (LoadS w7 ⟨b3, 1, none⟩ .fn fun (x77 : (FuncId × Array Value × Array Value)) =>
  PtrK v6.1 fun q78 =>
  LoadA w7 q78 [.int .i64, .bool, .sl] fun (x79 : Int × Bool × SlV × Unit) =>
  cond (okf x77.1)
  (CallV Try.prog x77.1 ((x77.2.1).toList ++ ((([.agg #[.int .i64 x79.1, .bool x79.2.1, .slice x79.2.2.1.a x79.2.2.1.n x79.2.2.1.c]] : List Value)) ++ (x77.2.2).toList)).toArray w7 [.one .sl] fun (r80 : SlV × Unit) w81 =>
  CopyV w81 a5 r80.1.a (Nat.min r80.1.n n5) 1 fun w82 =>
  StoreV w82 (p0.add 13) [.bool true] fun w83 =>
  J8 ((4 : Int), ()) w83)
  False)
  (LoadS w7 ⟨b3, 1, none⟩ .fn fun (x84 : (FuncId × Array Value × Array Value)) =>
  PtrK v6.1 fun q85 =>
  LoadA w7 q85 [.int .i64, .bool, .sl] fun (x86 : Int × Bool × SlV × Unit) =>
  cond (okf x84.1)
  (CallV Try.prog x84.1 ((x84.2.1).toList ++ ((([.agg #[.int .i64 x86.1, .bool x86.2.1, .slice x86.2.2.1.a x86.2.2.1.n x86.2.2.1.c]] : List Value)) ++ (x84.2.2).toList)).toArray w7 [.one .sl] fun (r87 : SlV × Unit) w88 =>
  CopyV w88 a5 r87.1.a (Nat.min r87.1.n n5) 1 fun w89 =>
  J8 ((5 : Int), ()) w89)
  False))) fun (J5 : (Option Addr) × Bool × Unit → World → Prop) =>
  DrawV fun D90 =>
  (D90 (p0.add 12).block ∧ LoadS w4.drew (p0.add 12) .sl fun (x91 : SlV) =>
  (D90 (p0.add 14).block ∧ LoadS w4.drew (p0.add 14) .sl fun (x92 : SlV) =>
  ((CallV Try.prog 126 #[.slice x91.a x91.n x91.c, .int .i64 ((x92.n : Nat) : Int)] w4.drew [.agg [.int .i64, .bool, .sl], .one .bool] fun (r93 : (Int × Bool × SlV × Unit) × Bool × Unit) w94 =>
  KeepOn D90 w4.drew w94 ∧
  NewV #[.int .i64 0, .bool false, .slice none 0 0] 109 w94 fun b95 w96 =>
  KeepOn D90 w4.drew w96 ∧
  StoreV w96 ⟨b95, 0, none⟩ [.int .i64 r93.1.1, .bool r93.1.2.1, .slice r93.1.2.2.1.a r93.1.2.2.1.n r93.1.2.2.1.c] fun w97 =>
  KeepOn D90 w4.drew w97 ∧
  J5 ((some ⟨b95, 0, none⟩), r93.2.1, ()) w97) ∧
  (NewV #[.int .i64 0, .bool false, .slice none 0 0] 109 w4.drew fun b98 w99 =>
  KeepOn D90 w4.drew w99 ∧
  CallV Try.prog 126 #[.slice x91.a x91.n x91.c, .int .i64 ((x92.n : Nat) : Int)] w99 [.agg [.int .i64, .bool, .sl], .one .bool] fun (r100 : (Int × Bool × SlV × Unit) × Bool × Unit) w101 =>
  KeepOn D90 w4.drew w101 ∧
  StoreV w101 ⟨b98, 0, none⟩ [.int .i64 r100.1.1, .bool r100.1.2.1, .slice r100.1.2.2.1.a r100.1.2.2.1.n r100.1.2.2.1.c] fun w102 =>
  KeepOn D90 w4.drew w102 ∧
  J5 ((some ⟨b98, 0, none⟩), r100.2.1, ()) w102))))
theorem nand_Chip_done.vc (p0 : Addr) (p1 : Int) (p2_0 : Int) (p2_1 : Int) (a3 : Option Addr) (n3 c3 : Nat) (p4_0 : (FuncId × Array Value × Array Value)) (p4_1 : (FuncId × Array Value × Array Value)) (a5 : Option Addr) (n5 c5 : Nat) (w : World) (K : Int × Unit → World → Prop) (h : nand_Chip_done.P p0 p1 p2_0 p2_1 a3 n3 c3 p4_0 p4_1 a5 n5 c5 w K) : CallV Try.prog 106 #[.pointer (some p0), .int .i64 p1, .agg #[.int .i64 p2_0, .int .i64 p2_1], .slice a3 n3 c3, .agg #[.func (.func p4_0.1) p4_0.2.1 p4_0.2.2, .func (.func p4_1.1) p4_1.2.1 p4_1.2.2], .slice a5 n5 c5] w [.one (.int .i64)] K := by
  have e : vcFun Try.prog okf false Try.f106 nand_Chip_done.A #[.pointer (some p0), .int .i64 p1, .agg #[.int .i64 p2_0, .int .i64 p2_1], .slice a3 n3 c3, .agg #[.func (.func p4_0.1) p4_0.2.1 p4_0.2.2, .func (.func p4_1.1) p4_1.2.1 p4_1.2.2], .slice a5 n5 c5] w [.one (.int .i64)] K = nand_Chip_done.P p0 p1 p2_0 p2_1 a3 n3 c3 p4_0 p4_1 a5 n5 c5 w K := by kernel_rfl
  exact vcFun.calls okf_ok follows Try.func106 (e.symm ▸ h)

/-! ### (*nepenthe/nand.Chip).refused: function 101 -/
def nand_Chip_refused.A : Ann := .two .no (.two .no (.two (.one (.two (.draw (.take 0 (.take 1 (.take 2 (.take 3 (.take 4 (.take 5 (.take 6 (.take 7 (.take 8 (.take 9 (.take 10 (.take 11 (.take 12 (.take 13 (.take 14 (.take 15 (.take 16 (.take 17 (.take 18 (.take 19 (.done)))))))))))))))))))))) (.two .no (.two (.draw (.take 0 (.take 1 (.take 2 (.take 3 (.take 4 (.take 5 (.take 6 (.take 7 (.take 8 (.take 9 (.take 10 (.take 11 (.take 12 (.take 13 (.take 14 (.take 15 (.take 16 (.take 17 (.take 18 (.take 19 (.take 20 (.take 21 (.done)))))))))))))))))))))))) .no)))) .no))
def nand_Chip_refused.P (p0 : Addr) (p1_0 : Int) (p1_1 : Int) (p2 : Int) (p3 : Int) (w : World) (K : Int × Unit → World → Prop) : Prop :=
  NewV #[.int .i64 p1_0, .int .i64 p1_1] 81 w fun b1 w2 =>
  LoadS w2 (p0.add 6) (.int .i64) fun (x3 : Int) =>
  cond (p3 != x3)
  (K ((2 : Int), ()) w2)
  (DrawV fun D4 =>
  (D4 (p0.add 10).block ∧ LoadS w2.drew (p0.add 10) .sl fun (x5 : SlV) =>
  (D4 b1 ∧ LoadS w2.drew ⟨b1, 0, none⟩ (.int .i64) fun (x6 : Int) =>
  (0 ≤ x6 ∧ x6 < ((x5.n : Nat) : Int)) ∧ ∃ q7 : Addr, x5.a = some q7 ∧
  (D4 (q7.add (x6.toNat * 1)).block ∧ LoadS w2.drew (q7.add (x6.toNat * 1)) (.int .i64) fun (x8 : Int) =>
  cond (decide (x8 > 0))
  (K ((7 : Int), ()) w2.drew)
  ((D4 (p0.add 8).block ∧ LoadS w2.drew (p0.add 8) .sl fun (x9 : SlV) =>
  (0 ≤ p2 ∧ p2 < ((x9.n : Nat) : Int)) ∧ ∃ q10 : Addr, x9.a = some q10 ∧
  (D4 (q10.add (p2.toNat * 1)).block ∧ LoadS w2.drew (q10.add (p2.toNat * 1)) (.int .i64) fun (x11 : Int) =>
  cond (decide (x11 ≥ 2))
  (K ((7 : Int), ()) w2.drew)
  (DrawV fun D12 =>
  (D12 (p0.add 8).block ∧ LoadS w2.drew.drew (p0.add 8) .sl fun (x13 : SlV) =>
  (0 ≤ p2 ∧ p2 < ((x13.n : Nat) : Int)) ∧ ∃ q14 : Addr, x13.a = some q14 ∧
  (D12 (q14.add (p2.toNat * 1)).block ∧ LoadS w2.drew.drew (q14.add (p2.toNat * 1)) (.int .i64) fun (x15 : Int) =>
  cond (x15 == 0)
  ((D12 b1 ∧ LoadS w2.drew.drew ⟨b1, 1, none⟩ (.int .i64) fun (x16 : Int) =>
  (D12 (p0.add 9).block ∧ LoadS w2.drew.drew (p0.add 9) .sl fun (x17 : SlV) =>
  (D12 b1 ∧ LoadS w2.drew.drew ⟨b1, 0, none⟩ (.int .i64) fun (x18 : Int) =>
  (0 ≤ x18 ∧ x18 < ((x17.n : Nat) : Int)) ∧ ∃ q19 : Addr, x17.a = some q19 ∧
  (D12 (q19.add (x18.toNat * 1)).block ∧ LoadS w2.drew.drew (q19.add (x18.toNat * 1)) (.int .i64) fun (x20 : Int) =>
  cond (decide (x16 ≤ x20))
  (K ((6 : Int), ()) w2.drew.drew)
  (K ((0 : Int), ()) w2.drew.drew))))))
  (K ((0 : Int), ()) w2.drew.drew)))))))))))
theorem nand_Chip_refused.vc (p0 : Addr) (p1_0 : Int) (p1_1 : Int) (p2 : Int) (p3 : Int) (w : World) (K : Int × Unit → World → Prop) (h : nand_Chip_refused.P p0 p1_0 p1_1 p2 p3 w K) : CallV Try.prog 101 #[.pointer (some p0), .agg #[.int .i64 p1_0, .int .i64 p1_1], .int .i64 p2, .int .i64 p3] w [.one (.int .i64)] K := by
  have e : vcFun Try.prog okf false Try.f101 nand_Chip_refused.A #[.pointer (some p0), .agg #[.int .i64 p1_0, .int .i64 p1_1], .int .i64 p2, .int .i64 p3] w [.one (.int .i64)] K = nand_Chip_refused.P p0 p1_0 p1_1 p2 p3 w K := by kernel_rfl
  exact vcFun.calls okf_ok follows Try.func101 (e.symm ▸ h)

/-! ### (*nepenthe/nand.Chip).Program: function 74 -/
def nand_Chip_Program.A : Ann := .two .no (.two .no (.two (.draw (.take 0 (.take 1 (.take 2 (.take 3 (.take 4 (.eff 5 (.take 6 (.take 7 (.take 8 (.take 9 (.take 10 (.done))))))))))))) (.two .no (.two .no (.two .no (.two .no (.join [49, 50, 51, 52, 53, 54, 55, 56, 57, 58, 59, 60, 61, 62, 63, 64, 65, 66] [] (.draw (.take 0 (.take 1 (.take 2 (.take 4 (.take 5 (.take 6 (.take 7 (.take 8 (.take 10 (.take 11 (.take 14 (.take 15 (.both 3 (.eff 9 (.take 12 (.eff 13 (.take 16 (.take 17 (.eff 18 (.done))))))) 9 (.take 12 (.both 3 (.eff 13 (.take 16 (.take 17 (.eff 18 (.done))))) 13 (.take 16 (.eff 3 (.take 17 (.eff 18 (.done))))))))))))))))))))) .no)))))))
def nand_Chip_Program.P (p0 : Addr) (p1_0 : Int) (p1_1 : Int) (a2 : Option Addr) (n2 c2 : Nat) (w : World) (K : Int × Unit → World → Prop) : Prop :=
  NewV #[.int .i64 p1_0, .int .i64 p1_1] 81 w fun b1 w2 =>
  NewV #[.slice a2 n2 c2] 28 w2 fun b3 w4 =>
  CallV Try.prog 54 #[.pointer (some p0)] w4 [.one .bool] fun (r5 : Bool × Unit) w6 =>
  cond (!r5.1)
  (K ((4 : Int), ()) w6)
  (DrawV fun D7 =>
  (D7 p0.block ∧ LoadA w6.drew p0 [.int .i64, .int .i64, .int .i64, .int .i64, .int .i64, .int .i64] fun (x8 : Int × Int × Int × Int × Int × Int × Unit) =>
  (D7 b1 ∧ LoadA w6.drew ⟨b1, 0, none⟩ [.int .i64, .int .i64] fun (x9 : Int × Int × Unit) =>
  CallV Try.prog 86 #[.agg #[.int .i64 x8.1, .int .i64 x8.2.1, .int .i64 x8.2.2.1, .int .i64 x8.2.2.2.1, .int .i64 x8.2.2.2.2.1, .int .i64 x8.2.2.2.2.2.1], .agg #[.int .i64 x9.1, .int .i64 x9.2.1]] w6.drew [.one (.int .i64), .one (.int .i64)] fun (r10 : Int × Int × Unit) w11 =>
  KeepOn D7 w6.drew w11 ∧
  cond (r10.2.1 != 0)
  (K (r10.2.1, ()) w11)
  (LoadA w11 ⟨b1, 0, none⟩ [.int .i64, .int .i64] fun (x12 : Int × Int × Unit) =>
  LoadS w11 ⟨b3, 0, none⟩ .sl fun (x13 : SlV) =>
  CallV Try.prog 101 #[.pointer (some p0), .agg #[.int .i64 x12.1, .int .i64 x12.2.1], .int .i64 r10.1, .int .i64 ((x13.n : Nat) : Int)] w11 [.one (.int .i64)] fun (r14 : Int × Unit) w15 =>
  cond (r14.1 != 0)
  (K (r14.1, ()) w15)
  (CallV Try.prog 87 #[.pointer (some p0), .int .i64 r10.1] w15 [.one .sl] fun (r16 : SlV × Unit) w17 =>
  NewV #[.slice none 0 0] 28 w17 fun b18 w19 =>
  StoreV w19 ⟨b18, 0, none⟩ [.slice r16.1.a r16.1.n r16.1.c] fun w20 =>
  LoadS w20 (p0.add 8) .sl fun (x21 : SlV) =>
  (0 ≤ r10.1 ∧ r10.1 < ((x21.n : Nat) : Int)) ∧ ∃ q22 : Addr, x21.a = some q22 ∧
  LoadS w20 (q22.add (r10.1.toNat * 1)) (.int .i64) fun (x23 : Int) =>
  Rng .i64 (x23 + 1) ∧
  (0 ≤ r10.1 ∧ r10.1 < ((x21.n : Nat) : Int)) ∧ ∃ q24 : Addr, x21.a = some q24 ∧
  StoreV w20 (q24.add (r10.1.toNat * 1)) [.int .i64 (x23 + 1)] fun w25 =>
  JoinV [] (fun (v27 : Unit) w28 =>
  LoadA w28 ⟨b1, 0, none⟩ [.int .i64, .int .i64] fun (x29 : Int × Int × Unit) =>
  LoadS w28 ⟨b3, 0, none⟩ .sl fun (x30 : SlV) =>
  LoadS w28 ⟨b18, 0, none⟩ .sl fun (x31 : SlV) =>
  CallV Try.prog 106 #[.pointer (some p0), .int .i64 1, .agg #[.int .i64 x29.1, .int .i64 x29.2.1], .slice x30.a x30.n x30.c, .agg #[.func (.func 102) #[] #[.pointer (some ⟨b18, 0, none⟩), .pointer (some ⟨b3, 0, none⟩)], .func (.func 104) #[] #[.pointer (some ⟨b18, 0, none⟩), .pointer (some ⟨b3, 0, none⟩)]], .slice x31.a x31.n x31.c] w28 [.one (.int .i64)] fun (r32 : Int × Unit) w33 =>
  K (r32.1, ()) w33) fun (J26 : Unit → World → Prop) =>
  DrawV fun D34 =>
  (D34 b1 ∧ LoadS w25.drew ⟨b1, 0, none⟩ (.int .i64) fun (x35 : Int) =>
  (D34 b1 ∧ LoadS w25.drew ⟨b1, 0, none⟩ (.int .i64) fun (x36 : Int) =>
  (D34 b1 ∧ LoadS w25.drew ⟨b1, 1, none⟩ (.int .i64) fun (x37 : Int) =>
  ((LoadS w25.drew (p0.add 9) .sl fun (x38 : SlV) =>
  KeepOn D34 w25.drew w25.drew ∧
  LoadS w25.drew (p0.add 9) .sl fun (x39 : SlV) =>
  KeepOn D34 w25.drew w25.drew ∧
  (0 ≤ x36 ∧ x36 < ((x39.n : Nat) : Int)) ∧ ∃ q40 : Addr, x39.a = some q40 ∧
  LoadS w25.drew (q40.add (x36.toNat * 1)) (.int .i64) fun (x41 : Int) =>
  KeepOn D34 w25.drew w25.drew ∧
  NameI (max x41 x37) fun z42 =>
  (0 ≤ x35 ∧ x35 < ((x38.n : Nat) : Int)) ∧ ∃ q43 : Addr, x38.a = some q43 ∧
  StoreV w25.drew (q43.add (x35.toNat * 1)) [.int .i64 z42] fun w44 =>
  KeepOn D34 w25.drew w44 ∧
  J26 (()) w44) ∧
  (LoadS w25.drew (p0.add 9) .sl fun (x45 : SlV) =>
  KeepOn D34 w25.drew w25.drew ∧
  (0 ≤ x36 ∧ x36 < ((x45.n : Nat) : Int)) ∧ ∃ q46 : Addr, x45.a = some q46 ∧
  ((LoadS w25.drew (p0.add 9) .sl fun (x47 : SlV) =>
  KeepOn D34 w25.drew w25.drew ∧
  LoadS w25.drew (q46.add (x36.toNat * 1)) (.int .i64) fun (x48 : Int) =>
  KeepOn D34 w25.drew w25.drew ∧
  NameI (max x48 x37) fun z49 =>
  (0 ≤ x35 ∧ x35 < ((x47.n : Nat) : Int)) ∧ ∃ q50 : Addr, x47.a = some q50 ∧
  StoreV w25.drew (q50.add (x35.toNat * 1)) [.int .i64 z49] fun w51 =>
  KeepOn D34 w25.drew w51 ∧
  J26 (()) w51) ∧
  (LoadS w25.drew (q46.add (x36.toNat * 1)) (.int .i64) fun (x52 : Int) =>
  KeepOn D34 w25.drew w25.drew ∧
  NameI (max x52 x37) fun z53 =>
  LoadS w25.drew (p0.add 9) .sl fun (x54 : SlV) =>
  KeepOn D34 w25.drew w25.drew ∧
  (0 ≤ x35 ∧ x35 < ((x54.n : Nat) : Int)) ∧ ∃ q55 : Addr, x54.a = some q55 ∧
  StoreV w25.drew (q55.add (x35.toNat * 1)) [.int .i64 z53] fun w56 =>
  KeepOn D34 w25.drew w56 ∧
  J26 (()) w56))))))))))))
theorem nand_Chip_Program.vc (p0 : Addr) (p1_0 : Int) (p1_1 : Int) (a2 : Option Addr) (n2 c2 : Nat) (w : World) (K : Int × Unit → World → Prop) (h : nand_Chip_Program.P p0 p1_0 p1_1 a2 n2 c2 w K) : CallV Try.prog 74 #[.pointer (some p0), .agg #[.int .i64 p1_0, .int .i64 p1_1], .slice a2 n2 c2] w [.one (.int .i64)] K := by
  have e : vcFun Try.prog okf false Try.f74 nand_Chip_Program.A #[.pointer (some p0), .agg #[.int .i64 p1_0, .int .i64 p1_1], .slice a2 n2 c2] w [.one (.int .i64)] K = nand_Chip_Program.P p0 p1_0 p1_1 a2 n2 c2 w K := by kernel_rfl
  exact vcFun.calls okf_ok follows Try.func74 (e.symm ▸ h)

/-! ### (*nepenthe/nand.Chip).Program$1: function 102 -/
def nand_Chip_Program_1.A : Ann := .no
def nand_Chip_Program_1.P (q0 : Addr) (q1 : Addr) (w : World) (K : SlV × Unit → World → Prop) : Prop :=
  LoadS w q0 .sl fun (x1 : SlV) =>
  LoadS w q1 .sl fun (x2 : SlV) =>
  CallV Try.prog 103 #[.slice x1.a x1.n x1.c, .slice x2.a x2.n x2.c, .slice none 0 0] w [.one .sl, .one (.int .i64)] fun (r3 : SlV × Int × Unit) w4 =>
  K (r3.1, ()) w4
theorem nand_Chip_Program_1.vc (q0 : Addr) (q1 : Addr) (w : World) (K : SlV × Unit → World → Prop) (h : nand_Chip_Program_1.P q0 q1 w K) : CallV Try.prog 102 #[.pointer (some q0), .pointer (some q1)] w [.one .sl] K := by
  have e : vcFun Try.prog okf false Try.f102 nand_Chip_Program_1.A #[.pointer (some q0), .pointer (some q1)] w [.one .sl] K = nand_Chip_Program_1.P q0 q1 w K := by kernel_rfl
  exact vcFun.calls okf_ok follows Try.func102 (e.symm ▸ h)

/-! ### (*nepenthe/nand.Chip).Program$2: function 104 -/
def nand_Chip_Program_2.A : Ann := .no
def nand_Chip_Program_2.P (p0_0 : Int) (p0_1 : Bool) (a0_2 : Option Addr) (n0_2 c0_2 : Nat) (q0 : Addr) (q1 : Addr) (w : World) (K : SlV × Unit → World → Prop) : Prop :=
  NewV #[.int .i64 p0_0, .bool p0_1, .slice a0_2 n0_2 c0_2] 109 w fun b1 w2 =>
  LoadS w2 q0 .sl fun (x3 : SlV) =>
  LoadS w2 q1 .sl fun (x4 : SlV) =>
  LoadS w2 ⟨b1, 2, none⟩ .sl fun (x5 : SlV) =>
  CallV Try.prog 103 #[.slice x3.a x3.n x3.c, .slice x4.a x4.n x4.c, .slice x5.a x5.n x5.c] w2 [.one .sl, .one (.int .i64)] fun (r6 : SlV × Int × Unit) w7 =>
  LoadS w7 ⟨b1, 1, none⟩ .bool fun (x8 : Bool) =>
  cond (!x8)
  (LoadS w7 q0 .sl fun (x9 : SlV) =>
  LoadS w7 q1 .sl fun (x10 : SlV) =>
  LoadS w7 ⟨b1, 2, none⟩ .sl fun (x11 : SlV) =>
  CallV Try.prog 105 #[.slice x9.a x9.n x9.c, .slice x10.a x10.n x10.c, .slice x11.a x11.n x11.c] w7 [.one .sl, .one (.int .i64)] fun (r12 : SlV × Int × Unit) w13 =>
  K (r12.1, ()) w13)
  (K (r6.1, ()) w7)
theorem nand_Chip_Program_2.vc (p0_0 : Int) (p0_1 : Bool) (a0_2 : Option Addr) (n0_2 c0_2 : Nat) (q0 : Addr) (q1 : Addr) (w : World) (K : SlV × Unit → World → Prop) (h : nand_Chip_Program_2.P p0_0 p0_1 a0_2 n0_2 c0_2 q0 q1 w K) : CallV Try.prog 104 #[.agg #[.int .i64 p0_0, .bool p0_1, .slice a0_2 n0_2 c0_2], .pointer (some q0), .pointer (some q1)] w [.one .sl] K := by
  have e : vcFun Try.prog okf false Try.f104 nand_Chip_Program_2.A #[.agg #[.int .i64 p0_0, .bool p0_1, .slice a0_2 n0_2 c0_2], .pointer (some q0), .pointer (some q1)] w [.one .sl] K = nand_Chip_Program_2.P p0_0 p0_1 a0_2 n0_2 c0_2 q0 q1 w K := by kernel_rfl
  exact vcFun.calls okf_ok follows Try.func104 (e.symm ▸ h)

/-! ### (*nepenthe/nand.Chip).may: function 112 -/
def nand_Chip_may.A : Ann := .no
def nand_Chip_may.P (p0 : Addr) (p1 : Int) (w : World) (K : Int × Unit → World → Prop) : Prop :=
  CallV Try.prog 54 #[.pointer (some p0)] w [.one .bool] fun (r1 : Bool × Unit) w2 =>
  cond (!r1.1)
  (K ((4 : Int), ()) w2)
  (cond (decide (p1 < 0))
  (K ((2 : Int), ()) w2)
  (LoadS w2 p0 (.int .i64) fun (x3 : Int) =>
  cond (decide (p1 ≥ x3))
  (K ((2 : Int), ()) w2)
  (K ((0 : Int), ()) w2)))
theorem nand_Chip_may.vc (p0 : Addr) (p1 : Int) (w : World) (K : Int × Unit → World → Prop) (h : nand_Chip_may.P p0 p1 w K) : CallV Try.prog 112 #[.pointer (some p0), .int .i64 p1] w [.one (.int .i64)] K := by
  have e : vcFun Try.prog okf false Try.f112 nand_Chip_may.A #[.pointer (some p0), .int .i64 p1] w [.one (.int .i64)] K = nand_Chip_may.P p0 p1 w K := by kernel_rfl
  exact vcFun.calls okf_ok follows Try.func112 (e.symm ▸ h)

/-! ### (*nepenthe/nand.Chip).Erase: function 80 -/
def nand_Chip_Erase.A : Ann := .two .no (.two .no (.two .no (.two .no (.two .no (.two .no (.two .no (.two (.two .no (.two (.two (.draw (.take 0 (.take 1 (.take 2 (.take 3 (.take 4 (.take 5 (.take 6 (.take 7 (.take 8 (.take 9 (.take 10 (.take 11 (.take 12 (.take 13 (.take 14 (.take 15 (.take 16 (.take 17 (.take 18 (.take 19 (.eff 20 (.done))))))))))))))))))))))) (.draw (.take 0 (.take 1 (.take 2 (.take 4 (.take 5 (.take 6 (.take 7 (.take 9 (.both 3 (.eff 8 (.take 10 (.eff 11 (.take 12 (.eff 13 (.done)))))) 8 (.eff 3 (.take 10 (.eff 11 (.take 12 (.eff 13 (.done))))))))))))))))) .no)) .no)))))))
def nand_Chip_Erase.P (p0 : Addr) (p1 : Int) (w : World) (K : Int × Unit → World → Prop) : Prop :=
  CallV Try.prog 112 #[.pointer (some p0), .int .i64 p1] w [.one (.int .i64)] fun (r1 : Int × Unit) w2 =>
  cond (r1.1 != 0)
  (K (r1.1, ()) w2)
  (CallV Try.prog 113 #[.pointer (some p0), .int .i64 p1] w2 [.one .sl] fun (r3 : SlV × Unit) w4 =>
  NewV #[.slice none 0 0] 28 w4 fun b5 w6 =>
  StoreV w6 ⟨b5, 0, none⟩ [.slice r3.1.a r3.1.n r3.1.c] fun w7 =>
  LoadS w7 (p0.add 11) .sl fun (x8 : SlV) =>
  (0 ≤ p1 ∧ p1 < ((x8.n : Nat) : Int)) ∧ ∃ q9 : Addr, x8.a = some q9 ∧
  LoadS w7 (q9.add (p1.toNat * 1)) (.int .i64) fun (x10 : Int) =>
  Rng .i64 (x10 + 1) ∧
  (0 ≤ p1 ∧ p1 < ((x8.n : Nat) : Int)) ∧ ∃ q11 : Addr, x8.a = some q11 ∧
  StoreV w7 (q11.add (p1.toNat * 1)) [.int .i64 (x10 + 1)] fun w12 =>
  LoadS w12 ⟨b5, 0, none⟩ .sl fun (x13 : SlV) =>
  CallV Try.prog 106 #[.pointer (some p0), .int .i64 2, .agg #[.int .i64 p1, .int .i64 0], .slice none 0 0, .agg #[.func (.func 116) #[] #[.pointer (some ⟨b5, 0, none⟩)], .func (.func 114) #[] #[.pointer (some ⟨b5, 0, none⟩)]], .slice x13.a x13.n x13.c] w12 [.one (.int .i64)] fun (r14 : Int × Unit) w15 =>
  cond (r14.1 == 0)
  (DrawV fun D16 =>
  (D16 (p0.add 8).block ∧ LoadS w15.drew (p0.add 8) .sl fun (x17 : SlV) =>
  (D16 (p0.add 1).block ∧ LoadS w15.drew (p0.add 1) (.int .i64) fun (x18 : Int) =>
  Rng .i64 (p1 * x18) ∧
  Rng .i64 (p1 + 1) ∧
  (D16 (p0.add 1).block ∧ LoadS w15.drew (p0.add 1) (.int .i64) fun (x19 : Int) =>
  Rng .i64 ((p1 + 1) * x19) ∧
  ((0 : Int) ≤ (p1 * x18) ∧ (p1 * x18) ≤ ((p1 + 1) * x19) ∧ ((p1 + 1) * x19) ≤ ((x17.c : Nat) : Int)) ∧
  SubK x17.a ((p1 * x18).toNat) x17.c 1 fun a20 =>
  ClearV w15.drew a20 ((((p1 + 1) * x19).toNat) - ((p1 * x18).toNat)) [.int .i64 0] fun w21 =>
  KeepOn D16 w15.drew w21 ∧
  DrawV fun D22 =>
  ((LoadS w21.drew (p0.add 9) .sl fun (x23 : SlV) =>
  KeepOn D22 w21.drew w21.drew ∧
  LoadS w21.drew (p0.add 10) .sl fun (x24 : SlV) =>
  KeepOn D22 w21.drew w21.drew ∧
  (0 ≤ p1 ∧ p1 < ((x23.n : Nat) : Int)) ∧ ∃ q25 : Addr, x23.a = some q25 ∧
  StoreV w21.drew (q25.add (p1.toNat * 1)) [.int .i64 (-1)] fun w26 =>
  KeepOn D22 w21.drew w26 ∧
  (0 ≤ p1 ∧ p1 < ((x24.n : Nat) : Int)) ∧ ∃ q27 : Addr, x24.a = some q27 ∧
  StoreV w26 (q27.add (p1.toNat * 1)) [.int .i64 0] fun w28 =>
  KeepOn D22 w21.drew w28 ∧
  K (r14.1, ()) w28) ∧
  (LoadS w21.drew (p0.add 10) .sl fun (x29 : SlV) =>
  KeepOn D22 w21.drew w21.drew ∧
  LoadS w21.drew (p0.add 9) .sl fun (x30 : SlV) =>
  KeepOn D22 w21.drew w21.drew ∧
  (0 ≤ p1 ∧ p1 < ((x30.n : Nat) : Int)) ∧ ∃ q31 : Addr, x30.a = some q31 ∧
  StoreV w21.drew (q31.add (p1.toNat * 1)) [.int .i64 (-1)] fun w32 =>
  KeepOn D22 w21.drew w32 ∧
  (0 ≤ p1 ∧ p1 < ((x29.n : Nat) : Int)) ∧ ∃ q33 : Addr, x29.a = some q33 ∧
  StoreV w32 (q33.add (p1.toNat * 1)) [.int .i64 0] fun w34 =>
  KeepOn D22 w21.drew w34 ∧
  K (r14.1, ()) w34))))))
  (K (r14.1, ()) w15))
theorem nand_Chip_Erase.vc (p0 : Addr) (p1 : Int) (w : World) (K : Int × Unit → World → Prop) (h : nand_Chip_Erase.P p0 p1 w K) : CallV Try.prog 80 #[.pointer (some p0), .int .i64 p1] w [.one (.int .i64)] K := by
  have e : vcFun Try.prog okf false Try.f80 nand_Chip_Erase.A #[.pointer (some p0), .int .i64 p1] w [.one (.int .i64)] K = nand_Chip_Erase.P p0 p1 w K := by kernel_rfl
  exact vcFun.calls okf_ok follows Try.func80 (e.symm ▸ h)

/-! ### (*nepenthe/nand.Chip).Erase$1: function 114 -/
def nand_Chip_Erase_1.A : Ann := .no
def nand_Chip_Erase_1.P (p0_0 : Int) (p0_1 : Bool) (a0_2 : Option Addr) (n0_2 c0_2 : Nat) (q0 : Addr) (w : World) (K : SlV × Unit → World → Prop) : Prop :=
  NewV #[.int .i64 p0_0, .bool p0_1, .slice a0_2 n0_2 c0_2] 109 w fun b1 w2 =>
  LoadS w2 q0 .sl fun (x3 : SlV) =>
  LoadS w2 ⟨b1, 2, none⟩ .sl fun (x4 : SlV) =>
  CallV Try.prog 115 #[.slice x3.a x3.n x3.c, .slice x4.a x4.n x4.c] w2 [.one .sl] fun (r5 : SlV × Unit) w6 =>
  K (r5.1, ()) w6
theorem nand_Chip_Erase_1.vc (p0_0 : Int) (p0_1 : Bool) (a0_2 : Option Addr) (n0_2 c0_2 : Nat) (q0 : Addr) (w : World) (K : SlV × Unit → World → Prop) (h : nand_Chip_Erase_1.P p0_0 p0_1 a0_2 n0_2 c0_2 q0 w K) : CallV Try.prog 114 #[.agg #[.int .i64 p0_0, .bool p0_1, .slice a0_2 n0_2 c0_2], .pointer (some q0)] w [.one .sl] K := by
  have e : vcFun Try.prog okf false Try.f114 nand_Chip_Erase_1.A #[.agg #[.int .i64 p0_0, .bool p0_1, .slice a0_2 n0_2 c0_2], .pointer (some q0)] w [.one .sl] K = nand_Chip_Erase_1.P p0_0 p0_1 a0_2 n0_2 c0_2 q0 w K := by kernel_rfl
  exact vcFun.calls okf_ok follows Try.func114 (e.symm ▸ h)

/-! ### (*nepenthe/nand.Chip).Erase$2: function 116 -/
def nand_Chip_Erase_2.A : Ann := .no
def nand_Chip_Erase_2.P (q0 : Addr) (w : World) (K : SlV × Unit → World → Prop) : Prop :=
  LoadS w q0 .sl fun (x1 : SlV) =>
  CallV Try.prog 115 #[.slice x1.a x1.n x1.c, .slice none 0 0] w [.one .sl] fun (r2 : SlV × Unit) w3 =>
  K (r2.1, ()) w3
theorem nand_Chip_Erase_2.vc (q0 : Addr) (w : World) (K : SlV × Unit → World → Prop) (h : nand_Chip_Erase_2.P q0 w K) : CallV Try.prog 116 #[.pointer (some q0)] w [.one .sl] K := by
  have e : vcFun Try.prog okf false Try.f116 nand_Chip_Erase_2.A #[.pointer (some q0)] w [.one .sl] K = nand_Chip_Erase_2.P q0 w K := by kernel_rfl
  exact vcFun.calls okf_ok follows Try.func116 (e.symm ▸ h)

/-! ### (*nepenthe/nand.Chip).Scrub: function 82 -/
def nand_Chip_Scrub.A : Ann := .no
def nand_Chip_Scrub.P (p0 : Addr) (p1 : Int) (w : World) (K : Int × Unit → World → Prop) : Prop :=
  CallV Try.prog 112 #[.pointer (some p0), .int .i64 p1] w [.one (.int .i64)] fun (r1 : Int × Unit) w2 =>
  cond (r1.1 != 0)
  (K (r1.1, ()) w2)
  (CallV Try.prog 113 #[.pointer (some p0), .int .i64 p1] w2 [.one .sl] fun (r3 : SlV × Unit) w4 =>
  NewV #[.slice none 0 0] 28 w4 fun b5 w6 =>
  StoreV w6 ⟨b5, 0, none⟩ [.slice r3.1.a r3.1.n r3.1.c] fun w7 =>
  LoadS w7 (p0.add 10) .sl fun (x8 : SlV) =>
  (0 ≤ p1 ∧ p1 < ((x8.n : Nat) : Int)) ∧ ∃ q9 : Addr, x8.a = some q9 ∧
  StoreV w7 (q9.add (p1.toNat * 1)) [.int .i64 1] fun w10 =>
  LoadS w10 ⟨b5, 0, none⟩ .sl fun (x11 : SlV) =>
  ((0 : Int) ≤ (((x11.n : Nat) : Int) : Int) ∧ (((x11.n : Nat) : Int) : Int) ≤ (((x11.n : Nat) : Int) : Int) ∧ (((x11.n : Nat) : Int) : Int) ≤ 9223372036854775807 ∧ ((1 : Nat) : Int) * (((x11.n : Nat) : Int) : Int) ≤ 140737488355328) ∧
  NewV (List.replicate (((x11.n : Nat) : Int).toNat) [.int .u8 0]).flatten.toArray 5 w10 fun b12 w13 =>
  NewV #[.slice none 0 0] 28 w13 fun b14 w15 =>
  StoreV w15 ⟨b14, 0, none⟩ [.slice (some ⟨b12, 0, none⟩) (((x11.n : Nat) : Int).toNat) (((x11.n : Nat) : Int).toNat)] fun w16 =>
  LoadS w16 ⟨b5, 0, none⟩ .sl fun (x17 : SlV) =>
  CallV Try.prog 106 #[.pointer (some p0), .int .i64 3, .agg #[.int .i64 p1, .int .i64 0], .slice none 0 0, .agg #[.func (.func 117) #[] #[.pointer (some ⟨b14, 0, none⟩)], .func (.func 118) #[] #[.pointer (some ⟨b5, 0, none⟩), .pointer (some ⟨b14, 0, none⟩)]], .slice x17.a x17.n x17.c] w16 [.one (.int .i64)] fun (r18 : Int × Unit) w19 =>
  K (r18.1, ()) w19)
theorem nand_Chip_Scrub.vc (p0 : Addr) (p1 : Int) (w : World) (K : Int × Unit → World → Prop) (h : nand_Chip_Scrub.P p0 p1 w K) : CallV Try.prog 82 #[.pointer (some p0), .int .i64 p1] w [.one (.int .i64)] K := by
  have e : vcFun Try.prog okf false Try.f82 nand_Chip_Scrub.A #[.pointer (some p0), .int .i64 p1] w [.one (.int .i64)] K = nand_Chip_Scrub.P p0 p1 w K := by kernel_rfl
  exact vcFun.calls okf_ok follows Try.func82 (e.symm ▸ h)

/-! ### (*nepenthe/nand.Chip).Scrub$1: function 117 -/
def nand_Chip_Scrub_1.A : Ann := .no
def nand_Chip_Scrub_1.P (q0 : Addr) (w : World) (K : SlV × Unit → World → Prop) : Prop :=
  LoadS w q0 .sl fun (x1 : SlV) =>
  K (x1, ()) w
theorem nand_Chip_Scrub_1.vc (q0 : Addr) (w : World) (K : SlV × Unit → World → Prop) (h : nand_Chip_Scrub_1.P q0 w K) : CallV Try.prog 117 #[.pointer (some q0)] w [.one .sl] K := by
  have e : vcFun Try.prog okf false Try.f117 nand_Chip_Scrub_1.A #[.pointer (some q0)] w [.one .sl] K = nand_Chip_Scrub_1.P q0 w K := by kernel_rfl
  exact vcFun.calls okf_ok follows Try.func117 (e.symm ▸ h)

/-! ### (*nepenthe/nand.Chip).Scrub$2: function 118 -/
def nand_Chip_Scrub_2.A : Ann := .no
def nand_Chip_Scrub_2.P (p0_0 : Int) (p0_1 : Bool) (a0_2 : Option Addr) (n0_2 c0_2 : Nat) (q0 : Addr) (q1 : Addr) (w : World) (K : SlV × Unit → World → Prop) : Prop :=
  NewV #[.int .i64 p0_0, .bool p0_1, .slice a0_2 n0_2 c0_2] 109 w fun b1 w2 =>
  LoadS w2 q0 .sl fun (x3 : SlV) =>
  LoadS w2 q1 .sl fun (x4 : SlV) =>
  LoadS w2 ⟨b1, 2, none⟩ .sl fun (x5 : SlV) =>
  CallV Try.prog 103 #[.slice x3.a x3.n x3.c, .slice x4.a x4.n x4.c, .slice x5.a x5.n x5.c] w2 [.one .sl, .one (.int .i64)] fun (r6 : SlV × Int × Unit) w7 =>
  K (r6.1, ()) w7
theorem nand_Chip_Scrub_2.vc (p0_0 : Int) (p0_1 : Bool) (a0_2 : Option Addr) (n0_2 c0_2 : Nat) (q0 : Addr) (q1 : Addr) (w : World) (K : SlV × Unit → World → Prop) (h : nand_Chip_Scrub_2.P p0_0 p0_1 a0_2 n0_2 c0_2 q0 q1 w K) : CallV Try.prog 118 #[.agg #[.int .i64 p0_0, .bool p0_1, .slice a0_2 n0_2 c0_2], .pointer (some q0), .pointer (some q1)] w [.one .sl] K := by
  have e : vcFun Try.prog okf false Try.f118 nand_Chip_Scrub_2.A #[.agg #[.int .i64 p0_0, .bool p0_1, .slice a0_2 n0_2 c0_2], .pointer (some q0), .pointer (some q1)] w [.one .sl] K = nand_Chip_Scrub_2.P p0_0 p0_1 a0_2 n0_2 c0_2 q0 q1 w K := by kernel_rfl
  exact vcFun.calls okf_ok follows Try.func118 (e.symm ▸ h)

/-! ### (*nepenthe/nand.Chip).Read: function 46 -/
def nand_Chip_Read.A : Ann := .two .no (.two .no (.two (.draw (.take 0 (.take 1 (.take 2 (.take 3 (.take 4 (.eff 5 (.take 6 (.take 7 (.take 8 (.take 9 (.take 10 (.done))))))))))))) .no))
def nand_Chip_Read.P (p0 : Addr) (p1_0 : Int) (p1_1 : Int) (w : World) (K : SlV × Int × Unit → World → Prop) : Prop :=
  NewV #[.int .i64 p1_0, .int .i64 p1_1] 81 w fun b1 w2 =>
  CallV Try.prog 54 #[.pointer (some p0)] w2 [.one .bool] fun (r3 : Bool × Unit) w4 =>
  cond (!r3.1)
  (K ((⟨none, 0, 0⟩ : SlV), (4 : Int), ()) w4)
  (DrawV fun D5 =>
  (D5 p0.block ∧ LoadA w4.drew p0 [.int .i64, .int .i64, .int .i64, .int .i64, .int .i64, .int .i64] fun (x6 : Int × Int × Int × Int × Int × Int × Unit) =>
  (D5 b1 ∧ LoadA w4.drew ⟨b1, 0, none⟩ [.int .i64, .int .i64] fun (x7 : Int × Int × Unit) =>
  CallV Try.prog 86 #[.agg #[.int .i64 x6.1, .int .i64 x6.2.1, .int .i64 x6.2.2.1, .int .i64 x6.2.2.2.1, .int .i64 x6.2.2.2.2.1, .int .i64 x6.2.2.2.2.2.1], .agg #[.int .i64 x7.1, .int .i64 x7.2.1]] w4.drew [.one (.int .i64), .one (.int .i64)] fun (r8 : Int × Int × Unit) w9 =>
  KeepOn D5 w4.drew w9 ∧
  cond (r8.2.1 != 0)
  (K ((⟨none, 0, 0⟩ : SlV), r8.2.1, ()) w9)
  (NewV #[] 5 w9 fun b10 w11 =>
  CallV Try.prog 87 #[.pointer (some p0), .int .i64 r8.1] w11 [.one .sl] fun (r12 : SlV × Unit) w13 =>
  AppS w13 r12.1.a r12.1.n 1 fun ns18 =>
  AppV w13 5 1 1 (some ⟨b10, 0, none⟩) 0 0 ns18 r12.1.n fun a14 n15 c16 w17 =>
  K ((⟨a14, n15, c16⟩ : SlV), (0 : Int), ()) w17))))
theorem nand_Chip_Read.vc (p0 : Addr) (p1_0 : Int) (p1_1 : Int) (w : World) (K : SlV × Int × Unit → World → Prop) (h : nand_Chip_Read.P p0 p1_0 p1_1 w K) : CallV Try.prog 46 #[.pointer (some p0), .agg #[.int .i64 p1_0, .int .i64 p1_1]] w [.one .sl, .one (.int .i64)] K := by
  have e : vcFun Try.prog okf false Try.f46 nand_Chip_Read.A #[.pointer (some p0), .agg #[.int .i64 p1_0, .int .i64 p1_1]] w [.one .sl, .one (.int .i64)] K = nand_Chip_Read.P p0 p1_0 p1_1 w K := by kernel_rfl
  exact vcFun.calls okf_ok follows Try.func46 (e.symm ▸ h)

/-! ### (*nepenthe/nand.Chip).Poke: function 84 -/
def nand_Chip_Poke.A : Ann := .two .no (.two .no (.two (.draw (.take 0 (.take 1 (.take 2 (.take 3 (.take 4 (.eff 5 (.take 6 (.take 7 (.take 8 (.take 9 (.take 10 (.done))))))))))))) .no))
def nand_Chip_Poke.P (p0 : Addr) (p1_0 : Int) (p1_1 : Int) (p2 : Int) (p3 : Int) (w : World) (K : Int × Unit → World → Prop) : Prop :=
  NewV #[.int .i64 p1_0, .int .i64 p1_1] 81 w fun b1 w2 =>
  CallV Try.prog 54 #[.pointer (some p0)] w2 [.one .bool] fun (r3 : Bool × Unit) w4 =>
  cond r3.1
  (K ((4 : Int), ()) w4)
  (DrawV fun D5 =>
  (D5 p0.block ∧ LoadA w4.drew p0 [.int .i64, .int .i64, .int .i64, .int .i64, .int .i64, .int .i64] fun (x6 : Int × Int × Int × Int × Int × Int × Unit) =>
  (D5 b1 ∧ LoadA w4.drew ⟨b1, 0, none⟩ [.int .i64, .int .i64] fun (x7 : Int × Int × Unit) =>
  CallV Try.prog 86 #[.agg #[.int .i64 x6.1, .int .i64 x6.2.1, .int .i64 x6.2.2.1, .int .i64 x6.2.2.2.1, .int .i64 x6.2.2.2.2.1, .int .i64 x6.2.2.2.2.2.1], .agg #[.int .i64 x7.1, .int .i64 x7.2.1]] w4.drew [.one (.int .i64), .one (.int .i64)] fun (r8 : Int × Int × Unit) w9 =>
  KeepOn D5 w4.drew w9 ∧
  cond (r8.2.1 != 0)
  (K ((2 : Int), ()) w9)
  (cond (decide (p2 < 0))
  (K ((2 : Int), ()) w9)
  (LoadS w9 (p0.add 6) (.int .i64) fun (x10 : Int) =>
  cond (decide (p2 ≥ x10))
  (K ((2 : Int), ()) w9)
  (CallV Try.prog 87 #[.pointer (some p0), .int .i64 r8.1] w9 [.one .sl] fun (r11 : SlV × Unit) w12 =>
  (0 ≤ p2 ∧ p2 < ((r11.1.n : Nat) : Int)) ∧ ∃ q13 : Addr, r11.1.a = some q13 ∧
  StoreV w12 (q13.add (p2.toNat * 1)) [.int .u8 p3] fun w14 =>
  K ((0 : Int), ()) w14))))))
theorem nand_Chip_Poke.vc (p0 : Addr) (p1_0 : Int) (p1_1 : Int) (p2 : Int) (p3 : Int) (w : World) (K : Int × Unit → World → Prop) (h : nand_Chip_Poke.P p0 p1_0 p1_1 p2 p3 w K) : CallV Try.prog 84 #[.pointer (some p0), .agg #[.int .i64 p1_0, .int .i64 p1_1], .int .i64 p2, .int .u8 p3] w [.one (.int .i64)] K := by
  have e : vcFun Try.prog okf false Try.f84 nand_Chip_Poke.A #[.pointer (some p0), .agg #[.int .i64 p1_0, .int .i64 p1_1], .int .i64 p2, .int .u8 p3] w [.one (.int .i64)] K = nand_Chip_Poke.P p0 p1_0 p1_1 p2 p3 w K := by kernel_rfl
  exact vcFun.calls okf_ok follows Try.func84 (e.symm ▸ h)

/-! ### (*nepenthe/nand.Chip).Power: function 85 -/
def nand_Chip_Power.A : Ann := .no
def nand_Chip_Power.P (p0 : Addr) (p1 : Bool) (w : World) (K : Unit → World → Prop) : Prop :=
  StoreV w (p0.add 13) [.bool (!p1)] fun w1 =>
  K () w1
set_option maxRecDepth 65536 in
theorem nand_Chip_Power.vc (p0 : Addr) (p1 : Bool) (w : World) (K : Unit → World → Prop) (h : nand_Chip_Power.P p0 p1 w K) : CallV Try.prog 85 #[.pointer (some p0), .bool p1] w [] K := by
  have e : vcFun Try.prog okf false Try.f85 nand_Chip_Power.A #[.pointer (some p0), .bool p1] w [] K = nand_Chip_Power.P p0 p1 w K := by kernel_rfl
  exact vcFun.calls okf_ok follows Try.func85 (e.mpr h)

/-! ### (*nepenthe/nand.Chip).On: function 54 -/
def nand_Chip_On.A : Ann := .no
def nand_Chip_On.P (p0 : Addr) (w : World) (K : Bool × Unit → World → Prop) : Prop :=
  LoadS w (p0.add 6) (.int .i64) fun (x1 : Int) =>
  cond (decide (x1 > 0))
  (LoadS w (p0.add 13) .bool fun (x2 : Bool) =>
  K (!x2, ()) w)
  (K (false, ()) w)
theorem nand_Chip_On.vc (p0 : Addr) (w : World) (K : Bool × Unit → World → Prop) (h : nand_Chip_On.P p0 w K) : CallV Try.prog 54 #[.pointer (some p0)] w [.one .bool] K := by
  have e : vcFun Try.prog okf false Try.f54 nand_Chip_On.A #[.pointer (some p0)] w [.one .bool] K = nand_Chip_On.P p0 w K := by kernel_rfl
  exact vcFun.calls okf_ok follows Try.func54 (e.symm ▸ h)

/-! ### (*nepenthe/nand.Chip).Ops: function 49 -/
def nand_Chip_Ops.A : Ann := .no
def nand_Chip_Ops.P (p0 : Addr) (w : World) (K : Int × Unit → World → Prop) : Prop :=
  LoadS w (p0.add 14) .sl fun (x1 : SlV) =>
  K (((x1.n : Nat) : Int), ()) w
theorem nand_Chip_Ops.vc (p0 : Addr) (w : World) (K : Int × Unit → World → Prop) (h : nand_Chip_Ops.P p0 w K) : CallV Try.prog 49 #[.pointer (some p0)] w [.one (.int .i64)] K := by
  have e : vcFun Try.prog okf false Try.f49 nand_Chip_Ops.A #[.pointer (some p0)] w [.one (.int .i64)] K = nand_Chip_Ops.P p0 w K := by kernel_rfl
  exact vcFun.calls okf_ok follows Try.func49 (e.symm ▸ h)

/-! ### (*nepenthe/nand.Chip).Erases: function 55 -/
def nand_Chip_Erases.A : Ann := .no
def nand_Chip_Erases.P (p0 : Addr) (p1 : Int) (w : World) (K : Int × Unit → World → Prop) : Prop :=
  cond (decide (p1 < 0))
  (K ((0 : Int), ()) w)
  (LoadS w (p0.add 11) .sl fun (x1 : SlV) =>
  cond (decide (p1 ≥ ((x1.n : Nat) : Int)))
  (K ((0 : Int), ()) w)
  (LoadS w (p0.add 11) .sl fun (x2 : SlV) =>
  (0 ≤ p1 ∧ p1 < ((x2.n : Nat) : Int)) ∧ ∃ q3 : Addr, x2.a = some q3 ∧
  LoadS w (q3.add (p1.toNat * 1)) (.int .i64) fun (x4 : Int) =>
  K (x4, ()) w))
theorem nand_Chip_Erases.vc (p0 : Addr) (p1 : Int) (w : World) (K : Int × Unit → World → Prop) (h : nand_Chip_Erases.P p0 p1 w K) : CallV Try.prog 55 #[.pointer (some p0), .int .i64 p1] w [.one (.int .i64)] K := by
  have e : vcFun Try.prog okf false Try.f55 nand_Chip_Erases.A #[.pointer (some p0), .int .i64 p1] w [.one (.int .i64)] K = nand_Chip_Erases.P p0 p1 w K := by kernel_rfl
  exact vcFun.calls okf_ok follows Try.func55 (e.symm ▸ h)

/-! ### (*nepenthe/nand.Chip).Image: function 48 -/
def nand_Chip_Image.A : Ann := .no
def nand_Chip_Image.P (p0 : Addr) (w : World) (K : SlV × Unit → World → Prop) : Prop :=
  NewV #[] 5 w fun b1 w2 =>
  LoadS w2 (p0.add 7) .sl fun (x3 : SlV) =>
  AppS w2 x3.a x3.n 1 fun ns8 =>
  AppV w2 5 1 1 (some ⟨b1, 0, none⟩) 0 0 ns8 x3.n fun a4 n5 c6 w7 =>
  K ((⟨a4, n5, c6⟩ : SlV), ()) w7
theorem nand_Chip_Image.vc (p0 : Addr) (w : World) (K : SlV × Unit → World → Prop) (h : nand_Chip_Image.P p0 w K) : CallV Try.prog 48 #[.pointer (some p0)] w [.one .sl] K := by
  have e : vcFun Try.prog okf false Try.f48 nand_Chip_Image.A #[.pointer (some p0)] w [.one .sl] K = nand_Chip_Image.P p0 w K := by kernel_rfl
  exact vcFun.calls okf_ok follows Try.func48 (e.symm ▸ h)

/-! ### (*nepenthe/nand.Chip).Geometry: function 53 -/
def nand_Chip_Geometry.A : Ann := .no
def nand_Chip_Geometry.P (p0 : Addr) (w : World) (K : (Int × Int × Int × Int × Int × Int × Unit) × Unit → World → Prop) : Prop :=
  NewV #[.int .i64 0, .int .i64 0, .int .i64 0, .int .i64 0, .int .i64 0, .int .i64 0] 23 w fun b1 w2 =>
  LoadA w2 p0 [.int .i64, .int .i64, .int .i64, .int .i64, .int .i64, .int .i64] fun (x3 : Int × Int × Int × Int × Int × Int × Unit) =>
  StoreV w2 ⟨b1, 0, none⟩ [.int .i64 x3.1, .int .i64 x3.2.1, .int .i64 x3.2.2.1, .int .i64 x3.2.2.2.1, .int .i64 x3.2.2.2.2.1, .int .i64 x3.2.2.2.2.2.1] fun w4 =>
  LoadA w4 ⟨b1, 0, none⟩ [.int .i64, .int .i64, .int .i64, .int .i64, .int .i64, .int .i64] fun (x5 : Int × Int × Int × Int × Int × Int × Unit) =>
  K ((x5.1, x5.2.1, x5.2.2.1, x5.2.2.2.1, x5.2.2.2.2.1, x5.2.2.2.2.2.1, ()), ()) w4
theorem nand_Chip_Geometry.vc (p0 : Addr) (w : World) (K : (Int × Int × Int × Int × Int × Int × Unit) × Unit → World → Prop) (h : nand_Chip_Geometry.P p0 w K) : CallV Try.prog 53 #[.pointer (some p0)] w [.agg [.int .i64, .int .i64, .int .i64, .int .i64, .int .i64, .int .i64]] K := by
  have e : vcFun Try.prog okf false Try.f53 nand_Chip_Geometry.A #[.pointer (some p0)] w [.agg [.int .i64, .int .i64, .int .i64, .int .i64, .int .i64, .int .i64]] K = nand_Chip_Geometry.P p0 w K := by kernel_rfl
  exact vcFun.calls okf_ok follows Try.func53 (e.symm ▸ h)

/-! ### (*nepenthe/nand.Chip).Trace: function 52 -/
-- loop 0 carries 3: .one .sl, 13: .one (.int .i64)
def nand_Chip_Trace.A : Ann := .two .no (.two .no (.two .no (.two (.two .no (.one (.loop [3, 5, 13, 14, 15, 16, 17, 18, 19, 20, 21, 22, 23, 24, 25, 26] [(3, .one .sl), (13, .one (.int .i64))] .no))) .no)))
def nand_Chip_Trace.P (p0 : Addr) (w : World) (K : SlV × Unit → World → Prop) : Prop :=
  LoadS w (p0.add 14) .sl fun (x1 : SlV) =>
  LoopV [.one .sl, .one (.int .i64)] ((⟨none, 0, 0⟩ : SlV), (0 : Int), ()) w fun (z2 : SlV × Int × Unit) w3 (K4 : SlV × Int × Unit → World → Prop) =>
  cond (decide (z2.2.1 < ((x1.n : Nat) : Int)))
  ((0 ≤ z2.2.1 ∧ z2.2.1 < ((x1.n : Nat) : Int)) ∧ ∃ q5 : Addr, x1.a = some q5 ∧
  LoadA w3 (q5.add (z2.2.1.toNat * 5)) [.int .i64, .int .i64, .int .i64, .sl, .int .i64] fun (x6 : Int × Int × Int × SlV × Int × Unit) =>
  NewV #[.int .i64 0, .int .i64 0, .int .i64 0, .slice none 0 0, .int .i64 0] 106 w3 fun b7 w8 =>
  StoreV w8 ⟨b7, 0, none⟩ [.int .i64 x6.1, .int .i64 x6.2.1, .int .i64 x6.2.2.1, .slice x6.2.2.2.1.a x6.2.2.2.1.n x6.2.2.2.1.c, .int .i64 x6.2.2.2.2.1] fun w9 =>
  NewV #[] 5 w9 fun b10 w11 =>
  LoadS w11 ⟨b7, 3, none⟩ .sl fun (x12 : SlV) =>
  AppS w11 x12.a x12.n 1 fun ns17 =>
  AppV w11 5 1 1 (some ⟨b10, 0, none⟩) 0 0 ns17 x12.n fun a13 n14 c15 w16 =>
  StoreV w16 ⟨b7, 3, none⟩ [.slice a13 n14 c15] fun w18 =>
  LoadA w18 ⟨b7, 0, none⟩ [.int .i64, .int .i64, .int .i64, .sl, .int .i64] fun (x19 : Int × Int × Int × SlV × Int × Unit) =>
  NewV #[.int .i64 x19.1, .int .i64 x19.2.1, .int .i64 x19.2.2.1, .slice x19.2.2.2.1.a x19.2.2.2.1.n x19.2.2.2.1.c, .int .i64 x19.2.2.2.2.1] 106 w18 fun b20 w21 =>
  AppS w21 (some ⟨b20, 0, none⟩) 1 5 fun ns26 =>
  AppV w21 106 5 56 z2.1.a z2.1.n z2.1.c ns26 1 fun a22 n23 c24 w25 =>
  Rng .i64 (z2.2.1 + 1) ∧
  K4 ((⟨a22, n23, c24⟩ : SlV), z2.2.1 + 1, ()) w25)
  (K (z2.1, ()) w3)
theorem nand_Chip_Trace.vc (p0 : Addr) (w : World) (K : SlV × Unit → World → Prop) (h : nand_Chip_Trace.P p0 w K) : CallV Try.prog 52 #[.pointer (some p0)] w [.one .sl] K := by
  have e : vcFun Try.prog okf false Try.f52 nand_Chip_Trace.A #[.pointer (some p0)] w [.one .sl] K = nand_Chip_Trace.P p0 w K := by kernel_rfl
  exact vcFun.calls okf_ok follows Try.func52 (e.symm ▸ h)

end Go.Proofs.Ytfpkaebmiojicaa.Vc

/-! The contracts of layer 13 (nand): the array's parts, and what only reads it. -/
namespace Go.Proofs.Ytfpkaebmiojicaa.Vc
open Go Go.Eng Go.RowKit
set_option linter.unusedVariables false
set_option linter.unusedSimpArgs false

/-- A value that is read. -/
def RdT (t : Ty) (x : t.T) : Asr := ⟨fun w F => t.rd w F x, fun h k => t.rd_kp (fun i hi _ => k i hi) h⟩
theorem rdT_get {t : Ty} {x : t.T} {E : Nat → Prop} {w0 w : World} {Rs : List Asr} (S : Sep E w0 w Rs) (i : Nat) (hi : Rs[i]? = some (RdT t x)) : t.rd w All x := by
  obtain ⟨F, h, _⟩ := S.get hi
  exact t.rd_mono (fun _ _ _ => trivial) h
structure TOp where
  k : Int
  bl : Int
  pa : Int
  d : SlP Int
  e : Int
abbrev TOp.vs (o : TOp) : List Value := [.int .i64 o.k, .int .i64 o.bl, .int .i64 o.pa, .slice o.d.a o.d.n o.d.c, .int .i64 o.e]
abbrev TOp.dat (o : TOp) : Int × Int × Int × List Int × Int := (o.k, o.bl, o.pa, o.d.l, o.e)
theorem TOp.one (o : TOp) : oneAll o.vs := fun u hu => by
  simp only [List.mem_cons, List.not_mem_nil, or_false] at hu
  rcases hu with rfl | rfl | rfl | rfl | rfl <;> rfl
/-- Where an array lies. -/
structure Lay where
  P : SlV
  U : SlV
  A : SlV
  S : SlV
  E : SlV
  F : SlP TF.T
  T : SlV
def pagesC (C : CD) : List (List Int) := C.bs.flatMap (·.pg)
def imgC (C : CD) : List Int := C.bs.flatMap fun x => x.pg.flatten
def usL (C : CD) : List Int := C.bs.flatMap (·.us)
def laL (C : CD) : List Int := C.bs.map (·.la)
def scI (b : Bool) : Int := if b then 1 else 0
def scL (C : CD) : List Int := C.bs.map fun x => scI x.sc
def erL (C : CD) : List Int := C.bs.map (·.er)
abbrev iv (l : List Int) : List Value := l.map (Value.int .i64)
abbrev bv8 (l : List Int) : List Value := l.map (Value.int .u8)
abbrev chipV (y : Lay) (C : CD) : List Value := [.int .i64 C.g.b, .int .i64 C.g.p, .int .i64 C.g.s, .int .i64 C.g.sp, .int .i64 C.g.wr, .int .i64 C.g.ro, .int .i64 (C.g.s + 88), .slice y.P.a y.P.n y.P.c, .slice y.U.a y.U.n y.U.c, .slice y.A.a y.A.n y.A.c,
  .slice y.S.a y.S.n y.S.c, .slice y.E.a y.E.n y.E.c, .slice y.F.a y.F.n y.F.c, .bool C.off, .slice y.T.a C.ops y.T.c]
/-- An array of one's own. -/
abbrev ChipQ (p : Nat) (y : Lay) (C : CD) (L : List TOp) (Rs : List Asr) : List Asr := BoxA p 131 (chipV y C) :: OwnA 5 1 y.P.a y.P.n y.P.c (bv8 (imgC C)) :: OwnA 3 1 y.U.a y.U.n y.U.c (iv (usL C)) :: OwnA 3 1 y.A.a y.A.n y.A.c (iv (laL C)) ::
  OwnA 3 1 y.S.a y.S.n y.S.c (iv (scL C)) :: OwnA 3 1 y.E.a y.E.n y.E.c (iv (erL C)) :: RdT LF y.F :: OwnA 106 5 y.T.a C.ops y.T.c (L.flatMap TOp.vs) :: RdL (L.map (·.d)) :: Rs
abbrev ChipP (p : Nat) (y : Lay) (C : CD) (L : List TOp) : List Asr := ChipQ p y C L []

/-! ### Numbers -/
theorem COk.num {C : CD} (h : COk C) : (7 ≤ C.g.b ∧ C.g.b ≤ 16) ∧ (4 ≤ C.g.p ∧ C.g.p ≤ 20) ∧ (32 ≤ C.g.s ∧ C.g.s ≤ 128) ∧ szP C.g = C.g.s.toNat + 88 ∧ (szP C.g : Int) = C.g.s + 88 := by
  have h1 := h.g.1
  obtain ⟨h2, h3, h4⟩ := h.lg
  unfold Kept at h1
  refine ⟨by omega, by omega, by omega, ?_, ?_⟩
  · show (C.g.s + 88).toNat = _; omega
  · show (((C.g.s + 88).toNat : Nat) : Int) = _; omega
theorem COk.blk {C : CD} (h : COk C) {bl : Int} (hb : 0 ≤ bl ∧ bl < C.g.b) : C.bs[bl.toNat]? = some (blkC C bl) ∧ BOk C.g C.ops (blkC C bl) := by
  have hl : bl.toNat < C.bs.length := by rw [h.bl]; omega
  have := some_getD (d := default) hl
  exact ⟨this, h.bo _ (List.mem_of_getElem? this)⟩
theorem COk.page {C : CD} (h : COk C) {bl pa : Int} (hi : inC C bl pa) : (blkC C bl).pg[pa.toNat]? = some (pgC13 C bl pa) ∧ (pgC13 C bl pa).length = szP C.g ∧ Byt (pgC13 C bl pa) := by
  obtain ⟨-, hb⟩ := h.blk hi.1
  have hl : pa.toNat < (blkC C bl).pg.length := by rw [hb.pl]; have := hi.2; omega
  have := some_getD (d := []) hl
  exact ⟨this, hb.pb _ (List.mem_of_getElem? this)⟩
theorem COk.us {C : CD} (h : COk C) {bl pa : Int} (hi : inC C bl pa) : (blkC C bl).us[pa.toNat]? = some (usC C bl pa) ∧ (0 ≤ usC C bl pa ∧ usC C bl pa ≤ 2) := by
  obtain ⟨-, hb⟩ := h.blk hi.1
  have hl : pa.toNat < (blkC C bl).us.length := by rw [hb.ul]; have := hi.2; omega
  have := some_getD (d := 0) hl
  exact ⟨this, hb.ub _ (List.mem_of_getElem? this)⟩
/-- A page's number. -/
abbrev ixC (C : CD) (bl pa : Int) : Nat := bl.toNat * C.g.p.toNat + pa.toNat
theorem COk.ix {C : CD} (h : COk C) {bl pa : Int} (hi : inC C bl pa) : ((ixC C bl pa : Nat) : Int) = bl * C.g.p + pa ∧ ixC C bl pa < C.g.b.toNat * C.g.p.toNat ∧ C.g.b.toNat * C.g.p.toNat ≤ 320 := by
  obtain ⟨⟨n1, n2⟩, ⟨n3, n4⟩, -⟩ := h.num
  obtain ⟨⟨b0, b1⟩, ⟨p0, p1⟩⟩ := hi
  have e : (bl.toNat : Int) * (C.g.p.toNat : Int) = bl * C.g.p := by rw [Int.toNat_of_nonneg b0, Int.toNat_of_nonneg (by omega)]
  have m1 : (bl.toNat + 1) * C.g.p.toNat ≤ C.g.b.toNat * C.g.p.toNat := Nat.mul_le_mul_right _ (by omega)
  have m2 : C.g.b.toNat * C.g.p.toNat ≤ 16 * 20 := Nat.mul_le_mul (by omega) (by omega)
  rw [Nat.add_mul] at m1
  refine ⟨by push_cast; omega, by show bl.toNat * C.g.p.toNat + pa.toNat < _; omega, by omega⟩
theorem pagesC_len {C : CD} (h : COk C) : (pagesC C).length = C.g.b.toNat * C.g.p.toNat := by
  unfold pagesC
  rw [fl_len (m := C.g.p.toNat) fun x hx => (h.bo x hx).pl, h.bl]
theorem pagesC_mem {C : CD} (h : COk C) : ∀ q ∈ pagesC C, q.length = szP C.g := fun q hq => by
  obtain ⟨x, hx, hq⟩ := List.mem_flatMap.1 hq
  exact ((h.bo x hx).pb q hq).1
theorem imgC_pages (C : CD) : imgC C = (pagesC C).flatMap id := by
  unfold imgC pagesC
  rw [List.flatMap_assoc]
  congr 1
  funext x
  simp [List.flatMap_id]
theorem imgC_len {C : CD} (h : COk C) : (imgC C).length = C.g.b.toNat * C.g.p.toNat * szP C.g := by
  rw [imgC_pages, fl_len (f := id) (m := szP C.g) (pagesC_mem h), pagesC_len h]
theorem imgC_byt {C : CD} (h : COk C) : Byt (imgC C) := fun v hv => by
  obtain ⟨x, hx, hv⟩ := List.mem_flatMap.1 hv
  obtain ⟨q, hq, hv⟩ := List.mem_flatten.1 hv
  exact ((h.bo x hx).pb q hq).2 v hv
theorem pagesC_get {C : CD} (h : COk C) {bl pa : Int} (hi : inC C bl pa) : (pagesC C)[ixC C bl pa]? = some (pgC13 C bl pa) := by
  unfold pagesC
  rw [fl_get (m := C.g.p.toNat) (fun x hx => (h.bo x hx).pl) (h.blk hi.1).1 (by have := hi.2; omega)]
  exact (h.page hi).1
theorem imgC_split {C : CD} (h : COk C) {bl pa : Int} (hi : inC C bl pa) : ∃ pre post, imgC C = pre ++ (pgC13 C bl pa ++ post) ∧ pre.length = ixC C bl pa * szP C.g ∧
    ∀ q : List Int, ∀ C' : CD, C'.bs = C.bs.set bl.toNat { blkC C bl with pg := (blkC C bl).pg.set pa.toNat q, us := (C'.bs.getD bl.toNat default).us, la := (C'.bs.getD bl.toNat default).la } → imgC C' = pre ++ (q ++ post) := by
  have hs := pagesC_get h hi
  refine ⟨((pagesC C).take (ixC C bl pa)).flatMap id, ((pagesC C).drop (ixC C bl pa + 1)).flatMap id, ?_, ?_, fun q C' hC => ?_⟩
  · rw [imgC_pages]; exact fl_split (f := id) hs
  · exact fl_take (pagesC_mem h) (by rw [pagesC_len h]; exact Nat.le_of_lt (h.ix hi).2.1)
  · rw [imgC_pages, show pagesC C' = (pagesC C).set (ixC C bl pa) q from ?_]
    · exact fl_set (f := id) hs
    · unfold pagesC
      rw [hC]
      exact fl_put (m := C.g.p.toNat) (fun x hx => (h.bo x hx).pl) (h.blk hi.1).1 (by have := hi.2; omega) rfl

/-! ### What only reads it -/
section
variable {E : Nat → Prop} {w0 w : World} {Rs : List Asr} {p : Nat} {y : Lay} {C : CD} {L : List TOp}
theorem On_c (hC : COk C) (S : Sep E w0 w (BoxA p 131 (chipV y C) :: Rs)) : CallV Try.prog 54 #[.pointer (some ⟨p, 0, none⟩)] w [.one .bool] fun r w' => r.1 = (!C.off) ∧ w' = w := by
  apply nand_Chip_On.vc
  unfold nand_Chip_On.P
  simp only [Addr.add_lit, Nat.zero_add]
  have n := hC.num
  refine S.ld0 (j := 6) rfl rfl (cond_d (fun _ => S.ld0 (j := 13) rfl rfl ⟨rfl, trivial⟩) fun h => absurd (by omega) h)
theorem Ops_c (S : Sep E w0 w (BoxA p 131 (chipV y C) :: Rs)) : CallV Try.prog 49 #[.pointer (some ⟨p, 0, none⟩)] w [.one (.int .i64)] fun r w' => r.1 = (C.ops : Int) ∧ w' = w := by
  apply nand_Chip_Ops.vc
  unfold nand_Chip_Ops.P
  simp only [Addr.add_lit, Nat.zero_add]
  exact S.ld0 (j := 14) rfl rfl ⟨rfl, trivial⟩
theorem may_c {n : Int} (hC : COk C) (S : Sep E w0 w (BoxA p 131 (chipV y C) :: Rs)) : CallV Try.prog 112 #[.pointer (some ⟨p, 0, none⟩), .int .i64 n] w [.one (.int .i64)] fun r w' => r.1 = mayC C n ∧ w' = w := by
  apply nand_Chip_may.vc
  unfold nand_Chip_may.P mayC
  refine (On_c hC S).mono ?_
  rintro ⟨(r : Bool), ⟨⟩⟩ w1 ⟨h1, rfl⟩
  dsimp only at h1 ⊢
  subst h1
  by_cases ho : C.off = true
  · rw [if_pos ho, ho]
    exact cond_t rfl ⟨rfl, rfl⟩
  rw [if_neg ho]
  refine cond_f (by simpa using ho) (cond_d (fun h => ⟨by rw [if_pos (by omega)], rfl⟩) fun h => ?_)
  refine S.ld0 (j := 0) rfl rfl (cond_d (fun h => ⟨by rw [if_pos (by omega)], rfl⟩) fun h => ⟨by rw [if_neg (by omega)], rfl⟩)
theorem page_c {k blk : Nat} (hC : COk C) (hk : k < C.g.b.toNat * C.g.p.toNat) (hP : y.P.a = some ⟨blk, 0, none⟩) (hc : C.g.b.toNat * C.g.p.toNat * szP C.g ≤ y.P.c) (S : Sep E w0 w (BoxA p 131 (chipV y C) :: Rs)) :
    CallV Try.prog 87 #[.pointer (some ⟨p, 0, none⟩), .int .i64 (k : Int)] w [.one .sl] fun r w' => r.1 = (⟨some ⟨blk, k * szP C.g, none⟩, szP C.g, szP C.g⟩ : SlV) ∧ Ext w w' := by
  apply nand_Chip_page.vc
  unfold nand_Chip_page.P
  simp only [Addr.add_lit, Nat.zero_add]
  obtain ⟨⟨n1, n2⟩, ⟨n3, n4⟩, ⟨n5, n6⟩, n7, n8⟩ := hC.num
  have m1 : (k + 1) * szP C.g ≤ C.g.b.toNat * C.g.p.toNat * szP C.g := Nat.mul_le_mul_right _ hk
  have m2 : C.g.b.toNat * C.g.p.toNat ≤ 16 * 20 := Nat.mul_le_mul (by omega) (by omega)
  have m3 : C.g.b.toNat * C.g.p.toNat * szP C.g ≤ 320 * 216 := Nat.mul_le_mul (by omega) (by omega)
  have m4 : (k + 1) * szP C.g = k * szP C.g + szP C.g := by rw [Nat.add_mul, Nat.one_mul]
  have e1 : (k : Int) * (C.g.s + 88) = ((k * szP C.g : Nat) : Int) := by rw [← n8]; push_cast; rfl
  have e2 : ((k : Int) + 1) * (C.g.s + 88) = (((k + 1) * szP C.g : Nat) : Int) := by rw [← n8]; push_cast; rfl
  generalize hz : szP C.g = z at *
  refine S.reg fun D hD hkeep S T => ?_
  have hb := hD _ S.bl0
  refine ⟨hb, S.ld0 (j := 7) rfl rfl ⟨hb, S.ld0 (j := 6) rfl rfl ⟨by rw [e1]; exact Rng.i64 (by omega) (by omega), Rng.i64 (by omega) (by omega), hb, S.ld0 (j := 6) rfl rfl ⟨by rw [e2]; exact Rng.i64 (by omega) (by omega), Rng.i64 (by omega) (by omega), hb, S.ld0 (j := 6) rfl rfl
    ⟨by rw [e2]; exact Rng.i64 (by omega) (by omega), ⟨by rw [e1]; omega, by rw [e1, e2]; omega, by omega, by rw [e2]; dsimp only; omega⟩, ?_⟩⟩⟩⟩⟩
  intro a6 ha6
  rw [e1, e2] at ha6 ⊢
  rw [Int.toNat_natCast, Int.toNat_natCast, if_neg (by omega), hP] at ha6
  refine ⟨?_, Ext.drew _⟩
  rw [ha6, Int.toNat_natCast, Int.toNat_natCast]
  have e3 : (⟨blk, 0, none⟩ : Addr).add (k * z * 1) = ⟨blk, k * z, none⟩ := by simp [Addr.add_lit]
  show (⟨some ((⟨blk, 0, none⟩ : Addr).add (k * z * 1)), _, _⟩ : SlV) = _
  rw [e3, show (k + 1) * z - k * z = z by omega]
end

end Go.Proofs.Ytfpkaebmiojicaa.Vc

/-! The contracts of layer 13 (nand): what only reads an array, and a byte changed. -/
namespace Go.Proofs.Ytfpkaebmiojicaa.Vc
open Go Go.Eng Go.RowKit
set_option linter.unusedVariables false
set_option linter.unusedSimpArgs false

theorem usL_len {C : CD} (h : COk C) : (usL C).length = C.g.b.toNat * C.g.p.toNat := by
  unfold usL
  rw [fl_len (m := C.g.p.toNat) fun x hx => (h.bo x hx).ul, h.bl]
theorem usL_get {C : CD} (h : COk C) {bl pa : Int} (hi : inC C bl pa) : (usL C).getD (ixC C bl pa) 0 = usC C bl pa := by
  apply getD_some
  unfold usL
  rw [fl_get (m := C.g.p.toNat) (fun x hx => (h.bo x hx).ul) (h.blk hi.1).1 (by have := hi.2; omega)]
  exact (h.us hi).1
theorem laL_get {C : CD} (h : COk C) {bl : Int} (hb : 0 ≤ bl ∧ bl < C.g.b) : (laL C).getD bl.toNat 0 = (blkC C bl).la := getD_some (by unfold laL; rw [List.getElem?_map, (h.blk hb).1]; rfl)
theorem scL_get {C : CD} (h : COk C) {bl : Int} (hb : 0 ≤ bl ∧ bl < C.g.b) : (scL C).getD bl.toNat 0 = scI (blkC C bl).sc := getD_some (by unfold scL; rw [List.getElem?_map, (h.blk hb).1]; rfl)
theorem erL_get {C : CD} (h : COk C) {bl : Int} (hb : 0 ≤ bl ∧ bl < C.g.b) : (erL C).getD bl.toNat 0 = (blkC C bl).er := getD_some (by unfold erL; rw [List.getElem?_map, (h.blk hb).1]; rfl)

section
variable {E : Nat → Prop} {w0 w : World} {Rs : List Asr} {p : Nat} {y : Lay} {C : CD} {L : List TOp}
/-- The lengths of an array's lists. -/
theorem chip_len (hC : COk C) (S : Sep E w0 w (ChipQ p y C L Rs)) : y.P.n = C.g.b.toNat * C.g.p.toNat * szP C.g ∧ y.P.n ≤ y.P.c ∧ y.U.n = C.g.b.toNat * C.g.p.toNat ∧ y.U.n ≤ y.U.c ∧ y.A.n = C.g.b.toNat ∧ y.S.n = C.g.b.toNat ∧ y.E.n = C.g.b.toNat ∧ L.length = C.ops := by
  have h1 := (S.own 1 rfl).len
  have h2 := (S.own 2 rfl).len
  have h3 := (S.own 3 rfl).len
  have h4 := (S.own 4 rfl).len
  have h5 := (S.own 5 rfl).len
  have h7 := (S.own 7 rfl).len
  have c1 := (S.own 1 rfl).cap
  have c2 := (S.own 2 rfl).cap
  rw [List.length_map, imgC_len hC] at h1
  rw [List.length_map, usL_len hC] at h2
  rw [List.length_map, laL, List.length_map, hC.bl] at h3
  rw [List.length_map, scL, List.length_map, hC.bl] at h4
  rw [List.length_map, erL, List.length_map, hC.bl] at h5
  rw [flatF_len (f := TOp.vs) (m := 5) (fun _ => rfl)] at h7
  refine ⟨by omega, c1, by omega, c2, by omega, by omega, by omega, by omega⟩
theorem chip_adr (hC : COk C) (S : Sep E w0 w (ChipQ p y C L Rs)) : ∃ blk, y.P.a = some ⟨blk, 0, none⟩ := by
  have hl := chip_len hC S
  obtain ⟨⟨n1, n2⟩, ⟨n3, n4⟩, ⟨n5, n6⟩, n7, n8⟩ := hC.num
  have h0 : 0 < C.g.b.toNat * C.g.p.toNat * szP C.g := Nat.mul_pos (Nat.mul_pos (by omega) (by omega)) (by omega)
  rcases (S.own 1 rfl).at_ with ⟨_, _, h⟩ | ⟨b, cs, h, _⟩
  · have := congrArg List.length h
    rw [List.length_map, imgC_len hC, List.length_nil] at this
    omega
  · exact ⟨b, h⟩

theorem refused_c {bl pa : Int} {n : Nat} (hC : COk C) (hi : inC C bl pa) (S0 : Sep E w0 w (ChipQ p y C L Rs)) :
    CallV Try.prog 101 #[.pointer (some ⟨p, 0, none⟩), .agg #[.int .i64 bl, .int .i64 pa], .int .i64 ((ixC C bl pa : Nat) : Int), .int .i64 (n : Int)] w [.one (.int .i64)] fun r w' =>
      r.1 = (if n ≠ szP C.g then 2 else if (blkC C bl).sc = true ∨ 2 ≤ usC C bl pa then 7 else if usC C bl pa = 0 ∧ pa ≤ (blkC C bl).la then 6 else (0 : Int)) ∧ Ext w w' := by
  apply nand_Chip_refused.vc
  unfold nand_Chip_refused.P
  simp only [Addr.add_lit, Nat.zero_add]
  obtain ⟨⟨n1, n2⟩, ⟨n3, n4⟩, ⟨n5, n6⟩, n7, n8⟩ := hC.num
  obtain ⟨l1, l1', l2, l2', l3, l4, l5, -⟩ := chip_len hC S0
  obtain ⟨i1, i2, -⟩ := hC.ix hi
  have T := Sep.start NoB w
  refine T.newB fun b1 w1 T f1 _ => ?_
  have S0 := S0.stepE T.ext
  refine S0.ld0 (j := 6) rfl rfl (cond_ne (fun h => ⟨by rw [if_pos (by omega)], T.ext⟩) fun h => ?_)
  rw [if_neg (by omega)]
  refine T.reg fun D hD hkeep T _ => ?_
  have S1 := S0.drew
  have hs : (0 : Int) ≤ bl ∧ bl < (y.S.n : Int) := by rw [l4]; have := hi.1; omega
  have hu : (0 : Int) ≤ ((ixC C bl pa : Nat) : Int) ∧ ((ixC C bl pa : Nat) : Int) < (y.U.n : Int) := by rw [l2]; omega
  have ha : (0 : Int) ≤ bl ∧ bl < (y.A.n : Int) := by rw [l3]; have := hi.1; omega
  refine ⟨hD _ S0.bl0, S1.ld0 (j := 10) rfl rfl ⟨hD _ T.bl0, T.ld0 (j := 0) rfl rfl ((S0.ints 4 rfl).idxD (Ext.drew _) hs.1 hs.2 hD ?_)⟩⟩
  rw [scL_get hC hi.1]
  refine cond_d (fun hg => ?_) (fun hg => ?_)
  · have hsc : (blkC C bl).sc = true := by
      unfold scI at hg
      by_cases h : (blkC C bl).sc = true
      · exact h
      · rw [if_neg h] at hg; omega
    exact ⟨by rw [if_pos (.inl hsc)], T.ext⟩
  have hsc : ¬ (blkC C bl).sc = true := fun h => hg (by unfold scI; rw [if_pos h]; decide)
  refine ⟨hD _ S0.bl0, S1.ld0 (j := 8) rfl rfl ((S0.ints 2 rfl).idxD (Ext.drew _) hu.1 hu.2 hD ?_)⟩
  rw [Int.toNat_natCast, usL_get hC hi]
  refine cond_d (fun hg => ⟨by rw [if_pos (.inr hg)], T.ext⟩) (fun hg2 => ?_)
  rw [if_neg (fun h => h.elim hsc hg2)]
  refine T.reg fun D2 hD2 hkeep2 T2 _ => ?_
  have S2 := S1.drew
  refine ⟨hD2 _ S1.bl0, S2.ld0 (j := 8) rfl rfl ((S1.ints 2 rfl).idxD (Ext.drew _) hu.1 hu.2 hD2 ?_)⟩
  rw [Int.toNat_natCast, usL_get hC hi]
  refine cond_eq (fun h0 => ?_) (fun h0 => ⟨by rw [if_neg (fun h => h0 h.1)], T2.ext⟩)
  refine ⟨hD2 _ T.bl0, T2.ld0 (j := 1) rfl rfl ⟨hD2 _ S1.bl0, S2.ld0 (j := 9) rfl rfl ⟨hD2 _ T.bl0, T2.ld0 (j := 0) rfl rfl ((S1.ints 3 rfl).idxD (Ext.drew _) ha.1 ha.2 hD2 ?_)⟩⟩⟩
  rw [laL_get hC hi.1]
  exact cond_d (fun h => ⟨by rw [if_pos ⟨h0, h⟩], T2.ext⟩) (fun h => ⟨by rw [if_neg (fun k => h k.2)], T2.ext⟩)
def erasesC (C : CD) (n : Int) : Int := if 0 ≤ n ∧ n < C.g.b then (blkC C n).er else 0
theorem Erases_c {n : Int} (hC : COk C) (S : Sep E w0 w (ChipQ p y C L Rs)) :
    CallV Try.prog 55 #[.pointer (some ⟨p, 0, none⟩), .int .i64 n] w [.one (.int .i64)] fun r w' => r.1 = erasesC C n ∧ Ext w w' := by
  apply nand_Chip_Erases.vc
  unfold nand_Chip_Erases.P erasesC
  simp only [Addr.add_lit, Nat.zero_add]
  obtain ⟨⟨n1, n2⟩, -⟩ := hC.num
  obtain ⟨-, -, -, -, -, -, l5, -⟩ := chip_len hC S
  refine cond_d (fun h => ⟨by rw [if_neg (by omega)], Ext.refl _⟩) fun h => ?_
  refine S.ld0 (j := 11) rfl rfl (cond_d (fun h2 => ⟨by rw [if_neg (by dsimp only at h2; omega)], Ext.refl _⟩) fun h2 => ?_)
  dsimp only at h2
  have hn : 0 ≤ n ∧ n < C.g.b := by omega
  refine S.ld0 (j := 11) rfl rfl ((S.ints 5 rfl).idx hn.1 (by omega) ?_)
  rw [erL_get hC hn, if_pos hn]
  exact ⟨rfl, Ext.refl _⟩
theorem Image_c (hC : COk C) (S : Sep E w0 w (ChipQ p y C L Rs)) :
    CallV Try.prog 48 #[.pointer (some ⟨p, 0, none⟩)] w [.one .sl] fun r w' => Res w w' r.1 (imgC C) := by
  apply nand_Chip_Image.vc
  unfold nand_Chip_Image.P
  simp only [Addr.add_lit, Nat.zero_add]
  have T := Sep.start NoB w
  refine T.newB fun b1 w1 T f1 _ => ?_
  have S := S.stepE T.ext
  have hl := (S.own 1 rfl).len
  have hlim := imgC_len hC
  obtain ⟨⟨n1, n2⟩, ⟨n3, n4⟩, ⟨n5, n6⟩, n7, n8⟩ := hC.num
  have m2 : C.g.b.toNat * C.g.p.toNat ≤ 16 * 20 := Nat.mul_le_mul (by omega) (by omega)
  have m3 : C.g.b.toNat * C.g.p.toNat * szP C.g ≤ 320 * 216 := Nat.mul_le_mul (by omega) (by omega)
  rw [List.length_map, hlim] at hl
  refine S.ld0 (j := 7) rfl rfl ?_
  have T := T.asOwn (sz := 1) (n := 0) rfl (by omega) oneAll.nil
  refine T.ab0 (xs := []) (S.ints 1 rfl) (by omega) fun a' c' w' T f' => ?_
  exact T.out
theorem Geometry_c (S : Sep E w0 w (BoxA p 131 (chipV y C) :: Rs)) :
    CallV Try.prog 53 #[.pointer (some ⟨p, 0, none⟩)] w [.agg [.int .i64, .int .i64, .int .i64, .int .i64, .int .i64, .int .i64]] fun r w' => r.1 = C.g.tup ∧ Ext w w' := by
  apply nand_Chip_Geometry.vc
  unfold nand_Chip_Geometry.P
  have T := Sep.start NoB w
  refine T.newB fun b1 w1 T f1 _ => ?_
  have S := S.stepE T.ext
  refine S.lb0 (o := 0) rfl (T.st0 (by rfl) fun w2 T f2 => T.la0 rfl ?_)
  exact ⟨rfl, T.ext⟩
/-- A page's bytes, as they stand. -/
theorem page_ints {bl pa : Int} {blk : Nat} (hC : COk C) (hi : inC C bl pa) (hP : y.P.a = some ⟨blk, 0, none⟩) (S : Sep E w0 w (ChipQ p y C L Rs)) : Ints w .u8 (some ⟨blk, ixC C bl pa * szP C.g, none⟩) (szP C.g) (szP C.g) (pgC13 C bl pa) := by
  have hI := S.ints 1 rfl
  obtain ⟨l1, l1', -⟩ := chip_len hC S
  obtain ⟨pre, post, h1, h2, -⟩ := imgC_split hC hi
  have hp := (hC.page hi).2.1
  have i2 := (hC.ix hi).2.1
  have m1 : (ixC C bl pa + 1) * szP C.g ≤ C.g.b.toNat * C.g.p.toNat * szP C.g := Nat.mul_le_mul_right _ i2
  rw [Nat.add_mul, Nat.one_mul] at m1
  obtain ⟨-, -, -, n7, -⟩ := hC.num
  have := hI.sub (l := ixC C bl pa * szP C.g) (hh := ixC C bl pa * szP C.g + szP C.g) (m := ixC C bl pa * szP C.g + szP C.g) (by omega) (by omega) (Nat.le_refl _) (a' := some ⟨blk, ixC C bl pa * szP C.g, none⟩) (by
    rw [if_neg (by omega), hP]
    show some _ = some ((⟨blk, 0, none⟩ : Addr).add _)
    simp [Addr.add_lit])
  rw [h1, ← h2, List.drop_append_of_le_length (Nat.le_refl _), List.drop_length, List.nil_append, Nat.add_sub_cancel_left] at this
  rw [← hp, List.take_append_of_le_length (by omega), List.take_length, hp] at this
  rw [h2] at this
  exact this
def readC (C : CD) (bl pa : Int) : Int := if C.off = true then 4 else if inC C bl pa then 0 else 2
theorem Read13_c {bl pa : Int} (hC : COk C) (S : Sep E w0 w (ChipQ p y C L Rs)) :
    CallV Try.prog 46 #[.pointer (some ⟨p, 0, none⟩), .agg #[.int .i64 bl, .int .i64 pa]] w [.one .sl, .one (.int .i64)] fun r w' =>
      r.2.1 = readC C bl pa ∧ (readC C bl pa ≠ 0 → r.1 = (⟨none, 0, 0⟩ : SlV) ∧ Ext w w') ∧ (readC C bl pa = 0 → Res w w' r.1 (pgC13 C bl pa)) := by
  apply nand_Chip_Read.vc
  unfold nand_Chip_Read.P readC
  have T := Sep.start NoB w
  refine T.newB fun b1 w1 T f1 _ => ?_
  have S := S.stepE T.ext
  refine (On_c hC S).mono ?_
  rintro ⟨(r : Bool), ⟨⟩⟩ w2 ⟨h2, rfl⟩
  dsimp only at h2 ⊢
  subst h2
  by_cases ho : C.off = true
  · rw [if_pos ho, ho]
    exact cond_t rfl ⟨rfl, fun _ => ⟨rfl, T.ext⟩, fun h => by cases h⟩
  rw [if_neg ho]
  refine cond_f (by simpa using ho) ?_
  refine T.reg fun D hD hkeep T _ => ?_
  have S1 := S.drew
  refine ⟨hD _ S.bl0, S1.lb0 (o := 0) rfl ⟨hD _ T.bl0, T.la0 rfl ?_⟩⟩
  refine (Index_c (g := C.g) (b := bl) (p := pa)).mono ?_
  rintro ⟨(ix : Int), (e : Int), ⟨⟩⟩ w3 ⟨h3, h3', x3⟩
  dsimp only at h3 h3' ⊢
  have S3 := S1.stepE x3
  have T3 := (Sep.start NoB _).stepE x3
  refine ⟨hkeep _ T3.fr, ?_⟩
  have T := T.stepE x3
  by_cases hi : inC C bl pa
  case neg =>
    rw [if_neg (fun h => hi h.2)] at h3'
    subst h3'
    rw [if_neg hi]
    exact cond_t rfl ⟨rfl, fun _ => ⟨rfl, T.ext⟩, fun h => by cases h⟩
  have hok : plOk C.g bl pa := ⟨hC.g, hi⟩
  rw [if_pos hok] at h3 h3'
  obtain ⟨i1, i2, -⟩ := hC.ix hi
  rw [← i1] at h3
  subst h3; subst h3'
  rw [if_pos hi]
  refine cond_f rfl (T.newB fun b10 w11 T f11 _ => ?_)
  have X : Ext w3 w11 := Fr.ext f11
  have S4 := S3.stepE X
  obtain ⟨blk, hP⟩ := chip_adr hC S4
  obtain ⟨l1, l1', -⟩ := chip_len hC S4
  refine (page_c (k := ixC C bl pa) hC i2 hP (by omega) S4).mono ?_
  rintro ⟨⟨ra, rn, rc⟩, ⟨⟩⟩ w13 ⟨h13, x13⟩
  cases h13
  dsimp only
  have T := (T.stepE x13).asOwn (sz := 1) (n := 0) rfl (by omega) oneAll.nil
  have I := page_ints hC hi hP (S4.stepE x13)
  obtain ⟨-, -, ⟨n5, n6⟩, n7, -⟩ := hC.num
  refine T.ab0 (xs := []) I (by omega) fun a' c' w' T f' => ⟨rfl, fun h => absurd rfl h, fun _ => ?_⟩
  exact T.out
end

end Go.Proofs.Ytfpkaebmiojicaa.Vc

/-! The contracts of layer 13 (nand): the power, and a byte changed. -/
namespace Go.Proofs.Ytfpkaebmiojicaa.Vc
open Go Go.Eng Go.RowKit
set_option linter.unusedVariables false
set_option linter.unusedSimpArgs false

theorem fl_same {α β : Type} {f : α → List β} {l : List α} {i : Nat} {x y : α} (hi : l[i]? = some x) (h : f y = f x) : (l.set i y).flatMap f = l.flatMap f := by
  rw [fl_set hi, fl_split hi, h]
theorem map_set_same {α β : Type} {f : α → β} {l : List α} {i : Nat} {x y : α} (hi : l[i]? = some x) (h : f y = f x) : (l.set i y).map f = l.map f := by
  rw [List.map_set, h]
  refine List.ext_getElem? fun j => ?_
  rw [List.getElem?_set]
  split
  · rename_i e
    subst e
    split
    · rw [List.getElem?_map, hi]; rfl
    · rename_i hh
      rw [List.length_map] at hh
      exact absurd (List.getElem?_eq_some_iff.1 hi).1 hh
  · rfl
theorem BOk.up {g : Geo} {m m' : Nat} {x : BD} (h : BOk g m x) (hm : m ≤ m') : BOk g m' x := ⟨h.pl, h.pb, h.ul, h.ub, h.la, h.er.1, by have := h.er.2; omega⟩
theorem COk.upd {C : CD} (h : COk C) {i : Nat} {y : BD} {off : Bool} {ops : Nat} (ho : C.ops ≤ ops) (ho2 : ops ≤ 1000000) (hy : BOk C.g ops y) : COk { C with bs := C.bs.set i y, off := off, ops := ops } :=
  ⟨h.g, h.lg, by show (C.bs.set i y).length = _; rw [List.length_set]; exact h.bl, fun x hx => by
    rcases List.mem_or_eq_of_mem_set hx with h1 | h1
    · exact (h.bo x h1).up ho
    · rw [h1]; exact hy, h.pm, ho2⟩
theorem pg_set_ok {C : CD} (h : COk C) {bl pa : Int} (hi : inC C bl pa) {q : List Int} (hq : q.length = szP C.g ∧ Byt q) : ((blkC C bl).pg.set pa.toNat q).length = C.g.p.toNat ∧ ∀ z ∈ (blkC C bl).pg.set pa.toNat q, z.length = szP C.g ∧ Byt z := by
  obtain ⟨-, hb⟩ := h.blk hi.1
  refine ⟨by rw [List.length_set]; exact hb.pl, fun z hz => ?_⟩
  rcases List.mem_or_eq_of_mem_set hz with h1 | h1
  · exact hb.pb z h1
  · rw [h1]; exact hq
theorem Byt.set {xs : List Int} (h : Byt xs) {i : Nat} {v : Int} (hv : 0 ≤ v ∧ v < 256) : Byt (xs.set i v) := fun x hx => by
  rcases List.mem_or_eq_of_mem_set hx with h1 | h1
  · exact h x h1
  · rw [h1]; exact hv
theorem pokC_ok {C : CD} (h : COk C) {bl pa at_ x : Int} (hx : 0 ≤ x ∧ x < 256) : COk (pokC C bl pa at_ x).1 := by
  unfold pokC
  split
  · exact h
  split
  · exact h
  · rename_i _ hh
    have hi : inC C bl pa := (Decidable.not_not.1 hh).1
    obtain ⟨-, hb⟩ := h.blk hi.1
    obtain ⟨-, hl, hby⟩ := h.page hi
    have hp := pg_set_ok h hi (q := (pgC13 C bl pa).set at_.toNat x) ⟨by rw [List.length_set]; exact hl, Byt.set hby hx⟩
    exact h.upd (Nat.le_refl _) h.ops ⟨hp.1, hp.2, hb.ul, hb.ub, hb.la, hb.er⟩

theorem chip_mk {E : Nat → Prop} {w0 w : World} {p : Nat} {y : Lay} {C : CD} {L : List TOp} {Rs : List Asr} {i1 i2 i3 i4 i5 : List Int}
    (S : Sep E w0 w (BoxA p 131 (chipV y C) :: OwnA 5 1 y.P.a y.P.n y.P.c (bv8 i1) :: OwnA 3 1 y.U.a y.U.n y.U.c (iv i2) :: OwnA 3 1 y.A.a y.A.n y.A.c (iv i3) ::
      OwnA 3 1 y.S.a y.S.n y.S.c (iv i4) :: OwnA 3 1 y.E.a y.E.n y.E.c (iv i5) :: RdT LF y.F :: OwnA 106 5 y.T.a C.ops y.T.c (L.flatMap TOp.vs) :: RdL (L.map (·.d)) :: Rs))
    (h1 : imgC C = i1) (h2 : usL C = i2) (h3 : laL C = i3) (h4 : scL C = i4) (h5 : erL C = i5) : Sep E w0 w (ChipQ p y C L Rs) := by
  subst h1; subst h2; subst h3; subst h4; subst h5; exact S
section
variable {F : Nat → Prop} {w : World} {p : Nat} {y : Lay} {C : CD} {L : List TOp}
theorem Power_c {on : Bool} (S : Sep F w w (ChipP p y C L)) :
    CallV Try.prog 85 #[.pointer (some ⟨p, 0, none⟩), .bool on] w [] fun _ w' => Sep F w w' (ChipP p y { C with off := !on } L) := by
  apply nand_Chip_Power.vc
  unfold nand_Chip_Power.P
  simp only [Addr.add_lit, Nat.zero_add]
  refine S.su0 (j := 13) (by rfl) fun w1 S f => ?_
  exact S
theorem Poke_c {bl pa at_ x : Int} (hC : COk C) (hx : 0 ≤ x ∧ x < 256) (S : Sep F w w (ChipP p y C L)) :
    CallV Try.prog 84 #[.pointer (some ⟨p, 0, none⟩), .agg #[.int .i64 bl, .int .i64 pa], .int .i64 at_, .int .u8 x] w [.one (.int .i64)] fun r w' =>
      r.1 = (pokC C bl pa at_ x).2 ∧ Sep F w w' (ChipP p y (pokC C bl pa at_ x).1 L) := by
  apply nand_Chip_Poke.vc
  unfold nand_Chip_Poke.P pokC
  refine S.newB fun b1 w1 S f1 _ => ?_
  refine (On_c hC S.tail).mono ?_
  rintro ⟨(r : Bool), ⟨⟩⟩ w2 ⟨h2, rfl⟩
  dsimp only at h2 ⊢
  subst h2
  by_cases ho : C.off = false
  · rw [if_pos ho, ho]
    exact cond_t rfl ⟨rfl, S.tail⟩
  rw [if_neg ho]
  refine cond_f (by simpa using ho) ?_
  refine S.reg fun D hD hkeep S1 T => ?_
  refine ⟨hD _ S.bl1, S1.lb1 (o := 0) rfl ⟨hD _ S.bl0, S1.la0 rfl ?_⟩⟩
  refine (Index_c (g := C.g) (b := bl) (p := pa)).mono ?_
  rintro ⟨(ix : Int), (e : Int), ⟨⟩⟩ w3 ⟨h3, h3', x3⟩
  dsimp only at h3 h3' ⊢
  have T3 := T.stepE x3
  refine ⟨hkeep _ T3.fr, ?_⟩
  have S3 := S1.stepE x3
  by_cases hi : inC C bl pa
  case neg =>
    rw [if_neg (fun h => hi h.2)] at h3'
    subst h3'
    rw [if_pos (fun h => hi h.1)]
    exact cond_t rfl ⟨rfl, S3.tail⟩
  have hok : plOk C.g bl pa := ⟨hC.g, hi⟩
  rw [if_pos hok] at h3 h3'
  obtain ⟨i1, i2, -⟩ := hC.ix hi
  rw [← i1] at h3
  subst h3; subst h3'
  refine cond_f rfl ?_
  simp only [Addr.add_lit, Nat.zero_add]
  refine cond_d (fun h => ?_) (fun h0 => S3.ld1 (j := 6) rfl rfl (cond_d (fun h => ?_) fun h1 => ?_))
  · rw [if_pos (by omega)]; exact ⟨rfl, S3.tail⟩
  · rw [if_pos (by omega)]; exact ⟨rfl, S3.tail⟩
  rw [if_neg (fun k => k ⟨hi, by omega, by omega⟩)]
  have S4 := S3.tail
  obtain ⟨blk, hP⟩ := chip_adr hC S4
  obtain ⟨l1, l1', -⟩ := chip_len hC S4
  refine (page_c (k := ixC C bl pa) hC i2 hP (by omega) S4).mono ?_
  rintro ⟨⟨ra, rn, rc⟩, ⟨⟩⟩ w4 ⟨h4, x4⟩
  cases h4
  dsimp only
  obtain ⟨-, -, ⟨n5, n6⟩, n7, n8⟩ := hC.num
  refine ⟨⟨by omega, by omega⟩, _, rfl, ?_⟩
  have S5 := S4.stepE x4
  have m1 : (ixC C bl pa + 1) * szP C.g ≤ C.g.b.toNat * C.g.p.toNat * szP C.g := Nat.mul_le_mul_right _ i2
  rw [Nat.add_mul, Nat.one_mul] at m1
  have hput := S5.put (i := 1) rfl (j := ((ixC C bl pa * szP C.g + at_.toNat : Nat) : Int)) (by omega) (by rw [l1]; omega) (v := .int .u8 x) rfl (K := fun w' => (0 : Int) = 0 ∧ Sep F w w' (ChipP p y { C with bs := C.bs.set bl.toNat { blkC C bl with pg := (blkC C bl).pg.set pa.toNat ((pgC13 C bl pa).set at_.toNat x) } } L)) fun w' S6 f6 => ⟨rfl, ?_⟩
  · obtain ⟨-, q, hq, hst⟩ := hput
    rw [hP] at hq
    cases hq
    rw [Int.toNat_natCast] at hst
    rw [show (⟨blk, ixC C bl pa * szP C.g, none⟩ : Addr).add (at_.toNat * 1) = (⟨blk, 0, none⟩ : Addr).add ((ixC C bl pa * szP C.g + at_.toNat) * 1) by simp [Addr.add_lit]]
    exact hst
  · rw [Int.toNat_natCast] at S6
    obtain ⟨pre, post, g1, g2, g3⟩ := imgC_split hC hi
    obtain ⟨hb0, hb⟩ := hC.blk hi.1
    have hlp := (hC.page hi).2.1
    have hlt : bl.toNat < C.bs.length := by rw [hC.bl]; have := hi.1; omega
    have e1 : imgC { C with bs := C.bs.set bl.toNat { blkC C bl with pg := (blkC C bl).pg.set pa.toNat ((pgC13 C bl pa).set at_.toNat x) } } = (imgC C).set (ixC C bl pa * szP C.g + at_.toNat) x := by
      rw [g3 ((pgC13 C bl pa).set at_.toNat x) _ (by
        dsimp only
        rw [List.getD_eq_getElem?_getD, List.getElem?_set_self hlt]
        rfl), g1, List.set_append_right _ _ (by omega), List.set_append_left _ _ (by omega)]
      congr 3
      omega
    have e2 : usL { C with bs := C.bs.set bl.toNat { blkC C bl with pg := (blkC C bl).pg.set pa.toNat ((pgC13 C bl pa).set at_.toNat x) } } = usL C := fl_same hb0 rfl
    have e3 : laL { C with bs := C.bs.set bl.toNat { blkC C bl with pg := (blkC C bl).pg.set pa.toNat ((pgC13 C bl pa).set at_.toNat x) } } = laL C := map_set_same hb0 rfl
    have e4 : scL { C with bs := C.bs.set bl.toNat { blkC C bl with pg := (blkC C bl).pg.set pa.toNat ((pgC13 C bl pa).set at_.toNat x) } } = scL C := map_set_same hb0 rfl
    have e5 : erL { C with bs := C.bs.set bl.toNat { blkC C bl with pg := (blkC C bl).pg.set pa.toNat ((pgC13 C bl pa).set at_.toNat x) } } = erL C := map_set_same hb0 rfl
    refine chip_mk (Rs := []) ?_ e1 e2 e3 e4 e5
    rw [bv8, List.map_set]
    exact S6
end

end Go.Proofs.Ytfpkaebmiojicaa.Vc
