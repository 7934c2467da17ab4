/- Texts in one: The contracts of layer 22 (pagemap): steps that are read. The law PagemapRuns of layer 22: each call gives true, and what it read stays. -/
import Derived.Test.YtiemdjnmghackaaZPagemapRunsd

/-! The contracts of layer 22 (pagemap): steps that are read. -/
namespace Go.Proofs.Ytiemdjnmghackaa.Vc
open Go Go.Eng Go.RowKit
set_option linter.unusedVariables false
set_option linter.unusedSimpArgs false

abbrev THh : Ty := .cons (.int .i64) (.cons (.int .i64) (.cons (.int .i64) (.cons (.int .u32) (.cons (.int .u64) (.cons (.int .u64) .nil)))))
abbrev TPl : Ty := .cons (.int .i64) (.cons (.int .i64) .nil)
abbrev TSp : Ty := .cons TPl (.cons THh (.cons THh .nil))
abbrev TS22 : Ty := .cons (.int .i64) (.cons (.int .i64) (.cons (.int .i64) (.cons TSp (.cons TPl .nil))))
def toSp (y : TSp.T) : Sp := ⟨y.1.1, y.1.2.1, ⟨y.2.1.1, y.2.1.2.1, y.2.1.2.2.1, y.2.1.2.2.2.1, y.2.1.2.2.2.2.1, y.2.1.2.2.2.2.2.1⟩, ⟨y.2.2.1.1, y.2.2.1.2.1, y.2.2.1.2.2.1, y.2.2.1.2.2.2.1, y.2.2.1.2.2.2.2.1, y.2.2.1.2.2.2.2.2.1⟩⟩
def toStp (y : TS22.T) : Stp := ⟨y.1, y.2.1, y.2.2.1, toSp y.2.2.2.1, (y.2.2.2.2.1.1, y.2.2.2.2.1.2.1)⟩
theorem toStp_vs (y : TS22.T) : TS22.vs y = (toStp y).vs := rfl
abbrev tupSt (x : Stp) : Int × Int × Int × Int × Int × Int × Int × Int × Int × Int × Int × Int × Int × Int × Int × Int × Int × Int × Int × Unit := (x.k, x.n, x.z, x.s.b, x.s.p, x.s.h.k, x.s.h.n, x.s.h.c, x.s.h.l, x.s.h.e, x.s.h.t, x.s.o.k, x.s.o.n, x.s.o.c, x.s.o.l, x.s.o.e, x.s.o.t, x.t.1, x.t.2, ())
theorem aw22 {w w' : World} (he : Ext w w') : CallV Try.prog 36 #[] w' [.one .bool] fun r w3 => r.1 = true ∧ Ext w w3 := awake22_c.mono fun r w3 ⟨h, e⟩ => ⟨h, he.trans e⟩
abbrev z00 : Sz := ⟨0, 0, 0, 0⟩
theorem X0_get (ns : Int) : getX X0 ns = noC := by
  unfold getX
  split
  · rename_i h
    have : ns = 0 ∨ ns = 1 ∨ ns = 2 ∨ ns = 3 := by omega
    rcases this with e | e | e | e <;> rw [e] <;> rfl
  · rfl
theorem St0 : StI X0 z00 [] := by
  refine ⟨⟨X0_ok, fun ns => ?_, .nil, fun c => ?_⟩, fun ns => by rw [X0_get]; exact Nat.zero_le _, fun c hc => (List.not_mem_nil hc).elim⟩
  · rw [X0_get]
    unfold Sz.get
    split
    · rfl
    · split
      · rfl
      · split
        · rfl
        · split <;> rfl
  · rw [X0_get]
    exact ⟨fun h => (List.not_mem_nil h).elim, fun h => by have := h.2.2; cases (show ([] : List Ce)[c.lba.toNat]? = none by simp) ▸ this⟩
abbrev stW (b p r : Nat) (X : List (SlP Ce)) (z : Sz) (y : SlV) (L : List Rc) : List Asr := BoxA b 81 (rmL z y) :: stQ p r X y L
/-- A step of a list of steps. -/
theorem stp_at {w w' : World} {x : SlP TS22.T} {G : Nat → Prop} (hx : (Ty.sl TS22).rd w G x) (e : Ext w w') {i : Nat} (hi : (i : Int) < (x.n : Int)) : ∃ (q : Addr) (st : Stp), x.a = some q ∧ x.l[i]?.map toStp = some st ∧ CellsAt w' (q.add (i * 19)) st.vs ∧ (0 ≤ st.s.h.l ∧ st.s.h.l < 4294967296) ∧ q.block < w.heap.size := by
  obtain ⟨q, u, hq, hu, hc, hr, -, -⟩ := Ty.nth (e := TS22) (Ty.rd_ext e _ hx) (i := (i : Int)) (Int.natCast_nonneg i) hi (by decide)
  obtain ⟨q', u', hq', hu', hc', -, -, hb⟩ := Ty.nth (e := TS22) hx (i := (i : Int)) (Int.natCast_nonneg i) hi (by decide)
  rw [hq] at hq'
  cases hq'
  rw [Int.toNat_natCast] at hu hc
  have h5 : Rng .u32 (toStp u).s.h.l := hr.2.2.2.1.2.1.2.2.2.1
  have e1 : IntKind.u32.min = 0 := by decide
  have e2 : IntKind.u32.max = 4294967295 := by decide
  unfold Rng at h5
  rw [e1, e2] at h5
  exact ⟨q, toStp u, hq, by rw [hu]; rfl, hc, ⟨h5.1, Int.lt_of_le_of_lt h5.2 (by decide)⟩, hb⟩
end Go.Proofs.Ytiemdjnmghackaa.Vc

/-! The law PagemapRuns of layer 22: each call gives true, and what it read stays. -/
namespace Go.Proofs.Ytiemdjnmghackaa.Vc
open Go Go.Eng Go.RowKit
set_option linter.unusedVariables false
set_option linter.unusedSimpArgs false
theorem PagemapRuns_law {w : World} {x : SlP TS22.T} {G : Nat → Prop} (hx : (Ty.sl TS22).rd w G x) :
    CallV Try.prog 7 #[.slice x.a x.n x.c] w [.one .bool] fun r w' => r.1 = true ∧ Ext w w' := by
  apply law22_PagemapRuns.vc
  unfold law22_PagemapRuns.P
  have S := Sep.start NoB w
  refine New22_c.mono ?_
  rintro ⟨_, ⟨⟩⟩ w2 ⟨p, r, hp, T⟩
  dsimp only at hp ⊢
  subst hp
  have S := S.frame0 (fromQ T)
  dsimp only [List.cons_append, List.nil_append] at S
  rw [← X0_cnt] at S
  refine (S.nilOwn 93 16).newB fun b3 w3 S f3 _ => ?_
  refine S.st0 (by rfl) fun w4 S f4 => ?_
  have S : Sep NoB w w4 (stW b3 p r X0 z00 ⟨none, 0, 0⟩ []) := S.sel [0, 1, 1, 1, 0] rfl
  have hlenx := hx.1
  refine ⟨fun _ w' => ∃ X z y L, StI X z L ∧ Sep NoB w w' (stW b3 p r X z y L), ?_, ?_⟩
  · rintro _ w5 ⟨X, z, y, L, h, S⟩
    refine Loop1 (fun (v : Int × Unit) w' => -1 ≤ v.1 ∧ v.1 ≤ 5 ∧ Sep NoB w w' (stW b3 p r X z y L)) (fun (v : Int × Unit) _ => (5 - v.1).toNat) ⟨by omega, by show (-1 : Int) ≤ 5; decide, S⟩ ?_
    clear S
    rintro ⟨(v : Int), ⟨⟩⟩ w6 ⟨hv1, hv2, S⟩
    dsimp only at hv1 hv2 ⊢
    refine cond_d (fun hlt => ?_) (fun hge => aw22 S.ext)
    refine S.la0 rfl ?_
    refine (same_c (ns := v) h S.tail).mono ?_
    rintro ⟨rb, ⟨⟩⟩ w7 ⟨x7, hr⟩
    dsimp only at hr ⊢
    subst hr
    exact cond_f rfl ⟨Rng.i64 (by omega) (by omega), ⟨by omega, by omega, S.stepE x7⟩, by omega⟩
  refine Loop1 (fun (v : Int × Unit) w' => ∃ (i : Nat) (X : List (SlP Ce)) (z : Sz) (y : SlV) (L : List Rc), v.1 = (i : Int) ∧ i ≤ x.n ∧ StI X z L ∧ Sep NoB w w' (stW b3 p r X z y L)) (fun (v : Int × Unit) _ => ((x.n : Int) - v.1).toNat) ⟨0, X0, z00, ⟨none, 0, 0⟩, [], rfl, by omega, St0, S⟩ ?_
  clear S
  rintro ⟨(v : Int), ⟨⟩⟩ w5 ⟨i, X, z, y, L, hv, hi, h, S⟩
  dsimp only at hv ⊢
  subst hv
  refine cond_d (fun hlt => ?_) (fun hge => ⟨X, z, y, L, h, S⟩)
  refine cond_d (fun hlt2 => ?_) (fun hge => ⟨X, z, y, L, h, S⟩)
  have rg : Rng .i64 ((i : Int) + 1) := Rng.i64 (by omega) (by omega)
  obtain ⟨q, st, hq, hst, hc, hu, hqb⟩ := stp_at hx S.ext hlt
  refine ⟨⟨by omega, hlt⟩, q, hq, ⟨tupSt st, hc, ?_⟩⟩
  refine (light_c (st := st)).mono ?_
  rintro ⟨rb, ⟨⟩⟩ w6 ⟨x6, hr⟩
  dsimp only at hr ⊢
  subst hr
  have S := S.stepE x6
  by_cases hl : lgt st
  case neg => exact cond_t (by rw [decide_eq_false hl]; rfl) ⟨rg, ⟨i + 1, X, z, y, L, by push_cast; rfl, by omega, h, S⟩, by omega⟩
  refine cond_f (by rw [decide_eq_true hl]; rfl) ?_
  have S := S.sel [1, 1, 1, 1, 0] rfl
  refine Sep.regC [_, _, _, _] S fun G D hG T S hDt hDo hkeep back => ?_
  obtain ⟨q', st', hq', hst', hc', -, -⟩ := stp_at hx S.ext hlt
  rw [hst] at hst'
  cases hst'
  rw [hq] at hq'
  cases hq'
  refine ⟨hDt 0 _ _ _ rfl, S.la4 rfl ⟨⟨by omega, hlt⟩, q, hq, ⟨by rw [add_block]; exact hDo _ hqb fun x => x, ⟨tupSt st, hc', ⟨?_, ?_⟩⟩⟩⟩⟩
  · refine (step_c h hl hu T).mono ?_
    rintro rr w7 ⟨X', z', y', L', h', hr, T⟩
    subst hr
    dsimp only
    refine ⟨hkeep _ T.fr, T.newB fun b30 w8 T f8 _ => ⟨hkeep _ T.fr, T.st0 (by rfl) fun w9 T f9 => ⟨hkeep _ T.fr, T.la0 rfl ?_⟩⟩⟩
    have S := back _ _ T
    refine S.st5 (by rfl) fun w10 S f10 => ?_
    have S : Sep NoB w w10 (stW b3 p r X' z' y' L') := S.sel [5, 1, 1, 1, 1] rfl
    have hyn : L'.length = y'.n := (S.own 4 rfl).lenF Rc_len (by decide)
    have hlen := h'.rel.len h'.sm
    have h4 := h'.rel.ok.four
    refine S.reg fun D hD hkeep S U => ?_
    obtain ⟨q', st', hq', hst', hc2, -, -⟩ := stp_at hx S.ext hlt
    rw [hst] at hst'
    cases hst'
    rw [hq] at hq'
    cases hq'
    have hbD : D b3 := hD _ S.bl0
    have S0 := S
    have hqD : ∀ k, D ((q.add ((i : Int).toNat * 19)).add k).block := fun k => hD _ (by rw [add_block, add_block]; exact Nat.lt_of_lt_of_le hqb S.ext.size)
    refine cond_f rfl ⟨⟨by omega, hlt⟩, q, hq, ⟨hqD 3, ⟨(st.s.b, st.s.p, ()), (hc2.drop 3).take 2, ⟨hD _ S.bl0, S.la0 rfl ⟨⟨by omega, hlt⟩, q, hq, ⟨hqD 3, ⟨(st.s.b, st.s.p, ()), (hc2.drop 3).take 2, ?_⟩⟩⟩⟩⟩⟩⟩
    refine (Refs22_c (b := st.s.b) (q := st.s.p) h4 (toQ (S.sel [1, 1, 1] rfl))).mono ?_
    rintro ⟨r1, ⟨⟩⟩ w11 ⟨h1, x1⟩
    dsimp only at h1 ⊢
    subst h1
    have S := S.stepE x1
    have U := U.stepE x1
    refine ⟨hkeep _ U.fr, ?_⟩
    refine (rRefs_c (z := z') (k1 := st.s.b) (k2 := st.s.p) (S.own 4 rfl) (by omega)).mono ?_
    rintro ⟨r1, ⟨⟩⟩ w12 ⟨x2, h1⟩
    dsimp only at h1 ⊢
    subst h1
    have S := S.stepE x2
    have U := U.stepE x2
    refine ⟨hkeep _ U.fr, cond_ne (fun g => absurd (h'.rel.cnt _).symm g) fun _ => ?_⟩
    refine ⟨⟨by omega, hlt⟩, q, hq, ⟨hqD 17, ⟨(st.t.1, st.t.2, ()), (hc2.drop 17).take 2, ⟨hbD, S0.la0 rfl ⟨⟨by omega, hlt⟩, q, hq, ⟨hqD 17, ⟨(st.t.1, st.t.2, ()), (hc2.drop 17).take 2, ?_⟩⟩⟩⟩⟩⟩⟩
    refine (Refs22_c (b := st.t.1) (q := st.t.2) h4 (toQ (S.sel [1, 1, 1] rfl))).mono ?_
    rintro ⟨r1, ⟨⟩⟩ w13 ⟨h1, x1⟩
    dsimp only at h1 ⊢
    subst h1
    have S := S.stepE x1
    have U := U.stepE x1
    refine ⟨hkeep _ U.fr, ?_⟩
    refine (rRefs_c (z := z') (k1 := st.t.1) (k2 := st.t.2) (S.own 4 rfl) (by omega)).mono ?_
    rintro ⟨r1, ⟨⟩⟩ w14 ⟨x2, h1⟩
    dsimp only at h1 ⊢
    subst h1
    have S := S.stepE x2
    have U := U.stepE x2
    exact ⟨hkeep _ U.fr, cond_ne (fun g => absurd (h'.rel.cnt _).symm g) fun _ => ⟨rg, ⟨i + 1, X', z', y', L', by push_cast; rfl, by omega, h', S⟩, by omega⟩⟩
  · refine T.newB fun b30 w8 T f8 _ => ⟨hkeep _ T.fr, ?_⟩
    have T := T.sel [1, 1, 1, 1, 0] rfl
    refine Sep.call [_, _, _, _] (Ts := [_]) T (fun G2 SG => step_c (st := st) h hl hu SG) fun G2 fr rr w7 hr => ?_
    obtain ⟨X', z', y', L', h', hr, T2⟩ := hr
    subst hr
    have T := (fr _ _ T2).sel [4, 0, 0, 0, 0] rfl
    dsimp only
    refine ⟨hkeep _ T.fr, T.st0 (by rfl) fun w9 T f9 => ⟨hkeep _ T.fr, T.la0 rfl ?_⟩⟩
    have S := back _ _ T
    refine S.st5 (by rfl) fun w10 S f10 => ?_
    have S : Sep NoB w w10 (stW b3 p r X' z' y' L') := S.sel [5, 1, 1, 1, 1] rfl
    have hyn : L'.length = y'.n := (S.own 4 rfl).lenF Rc_len (by decide)
    have hlen := h'.rel.len h'.sm
    have h4 := h'.rel.ok.four
    refine S.reg fun D hD hkeep S U => ?_
    obtain ⟨q', st', hq', hst', hc2, -, -⟩ := stp_at hx S.ext hlt
    rw [hst] at hst'
    cases hst'
    rw [hq] at hq'
    cases hq'
    have hbD : D b3 := hD _ S.bl0
    have S0 := S
    have hqD : ∀ k, D ((q.add ((i : Int).toNat * 19)).add k).block := fun k => hD _ (by rw [add_block, add_block]; exact Nat.lt_of_lt_of_le hqb S.ext.size)
    refine cond_f rfl ⟨⟨by omega, hlt⟩, q, hq, ⟨hqD 3, ⟨(st.s.b, st.s.p, ()), (hc2.drop 3).take 2, ⟨hD _ S.bl0, S.la0 rfl ⟨⟨by omega, hlt⟩, q, hq, ⟨hqD 3, ⟨(st.s.b, st.s.p, ()), (hc2.drop 3).take 2, ?_⟩⟩⟩⟩⟩⟩⟩
    refine (Refs22_c (b := st.s.b) (q := st.s.p) h4 (toQ (S.sel [1, 1, 1] rfl))).mono ?_
    rintro ⟨r1, ⟨⟩⟩ w11 ⟨h1, x1⟩
    dsimp only at h1 ⊢
    subst h1
    have S := S.stepE x1
    have U := U.stepE x1
    refine ⟨hkeep _ U.fr, ?_⟩
    refine (rRefs_c (z := z') (k1 := st.s.b) (k2 := st.s.p) (S.own 4 rfl) (by omega)).mono ?_
    rintro ⟨r1, ⟨⟩⟩ w12 ⟨x2, h1⟩
    dsimp only at h1 ⊢
    subst h1
    have S := S.stepE x2
    have U := U.stepE x2
    refine ⟨hkeep _ U.fr, cond_ne (fun g => absurd (h'.rel.cnt _).symm g) fun _ => ?_⟩
    refine ⟨⟨by omega, hlt⟩, q, hq, ⟨hqD 17, ⟨(st.t.1, st.t.2, ()), (hc2.drop 17).take 2, ⟨hbD, S0.la0 rfl ⟨⟨by omega, hlt⟩, q, hq, ⟨hqD 17, ⟨(st.t.1, st.t.2, ()), (hc2.drop 17).take 2, ?_⟩⟩⟩⟩⟩⟩⟩
    refine (Refs22_c (b := st.t.1) (q := st.t.2) h4 (toQ (S.sel [1, 1, 1] rfl))).mono ?_
    rintro ⟨r1, ⟨⟩⟩ w13 ⟨h1, x1⟩
    dsimp only at h1 ⊢
    subst h1
    have S := S.stepE x1
    have U := U.stepE x1
    refine ⟨hkeep _ U.fr, ?_⟩
    refine (rRefs_c (z := z') (k1 := st.t.1) (k2 := st.t.2) (S.own 4 rfl) (by omega)).mono ?_
    rintro ⟨r1, ⟨⟩⟩ w14 ⟨x2, h1⟩
    dsimp only at h1 ⊢
    subst h1
    have S := S.stepE x2
    have U := U.stepE x2
    exact ⟨hkeep _ U.fr, cond_ne (fun g => absurd (h'.rel.cnt _).symm g) fun _ => ⟨rg, ⟨i + 1, X', z', y', L', by push_cast; rfl, by omega, h', S⟩, by omega⟩⟩
theorem PagemapRuns_of {w : World} {a : Option Addr} {n c : Nat} {l : List TS22.T} (g0 : (Ty.sl TS22).ok w ⟨a, n, c, l⟩) :
    CallV Try.prog 7 #[.slice a n c] w [.one .bool] fun r w' => r.1 = true ∧ Ext w w' := PagemapRuns_law (x := ⟨a, n, c, l⟩) (Ty.rd_of _ g0)
end Go.Proofs.Ytiemdjnmghackaa.Vc
