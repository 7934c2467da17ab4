/- Texts in one: The contracts of layer 22 (pagemap): steps that are read. The contracts of layer 22 (pagemap): spots, sorted by their places. The contracts of layer 22 (pagemap): a block's live places. The law PagemapIns of layer 22: each call gives true, and what it read stays. -/
import Derived.Test.YtiemdjnmghackaaZPagemapInsd

/-! The contracts of layer 22 (pagemap): steps that are read. -/
namespace Go.Proofs.Ytiemdjnmghackaa.Vc
open Go Go.Eng Go.RowKit
set_option linter.unusedVariables false
set_option linter.unusedSimpArgs false

abbrev THh : Ty := .cons (.int .i64) (.cons (.int .i64) (.cons (.int .i64) (.cons (.int .u32) (.cons (.int .u64) (.cons (.int .u64) .nil)))))
abbrev TPl : Ty := .cons (.int .i64) (.cons (.int .i64) .nil)
abbrev TSp : Ty := .cons TPl (.cons THh (.cons THh .nil))
abbrev TS22 : Ty := .cons (.int .i64) (.cons (.int .i64) (.cons (.int .i64) (.cons TSp (.cons TPl .nil))))
def toSp (y : TSp.T) : Sp := ⟨y.1.1, y.1.2.1, ⟨y.2.1.1, y.2.1.2.1, y.2.1.2.2.1, y.2.1.2.2.2.1, y.2.1.2.2.2.2.1, y.2.1.2.2.2.2.2.1⟩, ⟨y.2.2.1.1, y.2.2.1.2.1, y.2.2.1.2.2.1, y.2.2.1.2.2.2.1, y.2.2.1.2.2.2.2.1, y.2.2.1.2.2.2.2.2.1⟩⟩
def toStp (y : TS22.T) : Stp := ⟨y.1, y.2.1, y.2.2.1, toSp y.2.2.2.1, (y.2.2.2.2.1.1, y.2.2.2.2.1.2.1)⟩
theorem toStp_vs (y : TS22.T) : TS22.vs y = (toStp y).vs := rfl
abbrev tupSt (x : Stp) : Int × Int × Int × Int × Int × Int × Int × Int × Int × Int × Int × Int × Int × Int × Int × Int × Int × Int × Int × Unit := (x.k, x.n, x.z, x.s.b, x.s.p, x.s.h.k, x.s.h.n, x.s.h.c, x.s.h.l, x.s.h.e, x.s.h.t, x.s.o.k, x.s.o.n, x.s.o.c, x.s.o.l, x.s.o.e, x.s.o.t, x.t.1, x.t.2, ())
theorem aw22 {w w' : World} (he : Ext w w') : CallV Try.prog 36 #[] w' [.one .bool] fun r w3 => r.1 = true ∧ Ext w w3 := awake22_c.mono fun r w3 ⟨h, e⟩ => ⟨h, he.trans e⟩
abbrev z00 : Sz := ⟨0, 0, 0, 0⟩
theorem X0_get (ns : Int) : getX X0 ns = noC := by
  unfold getX
  split
  · rename_i h
    have : ns = 0 ∨ ns = 1 ∨ ns = 2 ∨ ns = 3 := by omega
    rcases this with e | e | e | e <;> rw [e] <;> rfl
  · rfl
theorem St0 : StI X0 z00 [] := by
  refine ⟨⟨X0_ok, fun ns => ?_, .nil, fun c => ?_⟩, fun ns => by rw [X0_get]; exact Nat.zero_le _, fun c hc => (List.not_mem_nil hc).elim⟩
  · rw [X0_get]
    unfold Sz.get
    split
    · rfl
    · split
      · rfl
      · split
        · rfl
        · split <;> rfl
  · rw [X0_get]
    exact ⟨fun h => (List.not_mem_nil h).elim, fun h => by have := h.2.2; cases (show ([] : List Ce)[c.lba.toNat]? = none by simp) ▸ this⟩
abbrev stW (b p r : Nat) (X : List (SlP Ce)) (z : Sz) (y : SlV) (L : List Rc) : List Asr := BoxA b 81 (rmL z y) :: stQ p r X y L
/-- A step of a list of steps. -/
theorem stp_at {w w' : World} {x : SlP TS22.T} {G : Nat → Prop} (hx : (Ty.sl TS22).rd w G x) (e : Ext w w') {i : Nat} (hi : (i : Int) < (x.n : Int)) : ∃ (q : Addr) (st : Stp), x.a = some q ∧ x.l[i]?.map toStp = some st ∧ CellsAt w' (q.add (i * 19)) st.vs ∧ (0 ≤ st.s.h.l ∧ st.s.h.l < 4294967296) ∧ q.block < w.heap.size := by
  obtain ⟨q, u, hq, hu, hc, hr, -, -⟩ := Ty.nth (e := TS22) (Ty.rd_ext e _ hx) (i := (i : Int)) (Int.natCast_nonneg i) hi (by decide)
  obtain ⟨q', u', hq', hu', hc', -, -, hb⟩ := Ty.nth (e := TS22) hx (i := (i : Int)) (Int.natCast_nonneg i) hi (by decide)
  rw [hq] at hq'
  cases hq'
  rw [Int.toNat_natCast] at hu hc
  have h5 : Rng .u32 (toStp u).s.h.l := hr.2.2.2.1.2.1.2.2.2.1
  have e1 : IntKind.u32.min = 0 := by decide
  have e2 : IntKind.u32.max = 4294967295 := by decide
  unfold Rng at h5
  rw [e1, e2] at h5
  exact ⟨q, toStp u, hq, by rw [hu]; rfl, hc, ⟨h5.1, Int.lt_of_le_of_lt h5.2 (by decide)⟩, hb⟩
end Go.Proofs.Ytiemdjnmghackaa.Vc

/-! The contracts of layer 22 (pagemap): spots, sorted by their places. -/
namespace Go.Proofs
open Go.Shelf Go.RowKit Go.Lib Go.Sort
set_option maxHeartbeats 4000000 in
theorem Try.lessS_walk (x y : Go.Proofs.Ytiemdjnmghackaa.Vc.Sp) (W : World) : Calls Try.prog 90 #[x.val, y.val] W fun e w' => e = .returned (.int .i64 (Try.plC (x.b, x.p) (y.b, y.p))) ∧ ∃ q os', w' = grow (W.drewN q) os' := by
  obtain ⟨x1, x2, ⟨x3, x4, x5, x6, x7, x8⟩, ⟨x9, x10, x11, x12, x13, x14⟩⟩ := x
  obtain ⟨y1, y2, ⟨y3, y4, y5, y6, y7, y8⟩, ⟨y9, y10, y11, y12, y13, y14⟩⟩ := y
  have hcon := fun W' => Try.less_walk (x1, x2) (y1, y2) W'
  dsimp only at hcon ⊢
  change ∀ W', Calls Try.prog 91 _ _ _ at hcon
  generalize Try.plC (x1, x2) (y1, y2) = r at hcon ⊢
  go_enter Try.func90, Try.ntmps90
  go_wp2_with (go_at_call 91; refine (hcon _).mono ?_; rintro e w' ⟨rfl, q, os, rfl⟩)
  go_ret
  exact ⟨rfl, q, _, by rw [alloc_eq_grow, alloc_eq_grow, grow_grow]; show grow (grow (W.drewN q) _) os = _; rw [grow_grow]⟩
end Go.Proofs
namespace Go.Proofs.Ytiemdjnmghackaa.Vc
open Go Go.Eng Go.RowKit Go.Shelf Go.Proofs
set_option linter.unusedVariables false
set_option linter.unusedSimpArgs false
theorem lessS_enters : ∀ args w, (callFunc 90 args).run Try.prog w = .ok (.enter 90 args) w := enters_of Try.func90 (by kernel_rfl) rfl
abbrev Sp.pk (s : Sp) : Int × Int := (s.b, s.p)
abbrev BdS := { s : Sp // Bd s.pk }
instance : Inhabited BdS := ⟨⟨Sp0, by unfold Bd; decide⟩⟩
def cfS (x y : BdS) : Int := Try.plC x.1.pk y.1.pk
def encS (x : BdS) : List Value := x.1.vs
theorem encS_len (x : BdS) : (encS x).length = 14 := rfl
theorem encS_one (x : BdS) : ∀ v ∈ encS x, v.oneCell' = true := fun v hv => by
  simp [encS] at hv
  rcases hv with h | h | h | h | h | h | h | h | h | h | h | h | h | h <;> subst h <;> rfl
theorem cfS_lt (x y : BdS) : ltOf cfS x y = true ↔ plL x.1.pk y.1.pk := by
  unfold ltOf
  rw [decide_eq_true_iff]
  exact plC_lt0 x.1.pk y.1.pk x.2 y.2
theorem cfS_swo : Go.Sort.SWO (ltOf cfS) where
  irrefl x := Bool.eq_false_iff.2 fun h => by have := (cfS_lt x x).1 h; unfold plL at this; omega
  trans x y z h1 h2 := by rw [cfS_lt] at *; unfold plL at *; omega
  ntrans x y z h1 h2 := by
    rw [Bool.eq_false_iff, Ne, cfS_lt] at *; unfold plL at *; omega
abbrev outS (a : Option Addr) (n c : Nat) (L : List Sp) : Asr := OwnA 61 14 a n c (L.flatMap Sp.vs)
theorem Spv_len (s : Sp) : s.vs.length = 14 := rfl
/-- Spots, sorted by their places. -/
theorem sortSp_c {E : Nat → Prop} {w0 w : World} {Rs : List Asr} {a : Option Addr} {n c : Nat} {L : List Sp} (hB : ∀ s ∈ L, Bd s.pk) (hn : n ≤ 1000000) (S : Sep E w0 w (outS a n c L :: Rs)) :
    CallV Try.prog 89 #[.slice a n c, .func (.func 90) #[] #[]] w [] fun _ w' => ∃ L', (L'.Perm L ∧ L'.Pairwise fun x y => ¬ plL y.pk x.pk) ∧ Sep E w0 w' (outS a n c L' :: Rs) := by
  have o := S.own 0 rfl
  rcases o.at_ with ⟨h1, h2, h3⟩ | ⟨b, cs, h1, -⟩
  · have h0 : L = [] := by cases L with | nil => rfl | cons x l => cases h3
    subst h0
    have hn0 : n = 0 := by have := o.len; simp at this; omega
    subst hn0
    exact Calls.mono (Go.Proofs.AnyF.slices_SortFunc_none Try.srtS a c _ w) fun e w' ⟨h1, h2⟩ => ⟨(), h1, [], ⟨.refl _, .nil⟩, by rw [h2]; exact S⟩
  subst h1
  obtain ⟨M, rfl⟩ : ∃ M : List BdS, L = M.map (·.1) := ⟨L.pmap Subtype.mk hB, by rw [List.map_pmap]; simp⟩
  have e : ∀ M : List BdS, (M.map (·.1)).flatMap Sp.vs = M.flatMap encS := fun M => by rw [List.flatMap_map]; rfl
  have hL : M.length = n := by have := o.len; rw [flat_len Spv_len] at this; simp at this; omega
  unfold outS at S
  rw [e] at S o
  have h := AnyQ.slices_SortFunc Try.srtS 14 Try.isAgg61 Try.sizeOf61 encS encS_len encS_one cfS cfS_swo 90 #[] b 0 c M.toArray w lessS_enters (fun _ _ _ _ x y => Try.lessS_walk x.1 y.1 _) (Own.holdsK encS_len (d := M.toArray) o) (o.lt _ rfl) (by simp [hL]; omega)
  rw [show M.toArray.size = n by simpa using hL] at h
  refine h.mono fun e' w' ⟨he, d', m, os, hp, hs, hw⟩ => ⟨(), he, ?_⟩
  subst hw
  have hsz : d'.size = M.length := by simpa using hp.1
  refine ⟨d'.toList.map (·.1), ⟨?_, ?_⟩, ?_⟩
  · have := hp.2.2
    rw [show n = d'.size by omega, Array.extract_size, show d'.size = M.toArray.size by simpa using hsz, Array.extract_size] at this
    exact this.map _
  · rw [List.pairwise_map]
    have := sortedIn_pw (d := d') (by rw [hsz, hL]; exact hs)
    exact this.imp fun {x y} h => fun k => by rw [(cfS_lt y x).2 k] at h; cases h
  · unfold outS
    rw [e]
    exact S.sorted encS_len encS_one hsz m os
end Go.Proofs.Ytiemdjnmghackaa.Vc

/-! The contracts of layer 22 (pagemap): a block's live places. -/
namespace Go.Proofs.Ytiemdjnmghackaa.Vc
open Go Go.Eng Go.RowKit
set_option linter.unusedVariables false
set_option linter.unusedSimpArgs false

theorem SpS_one (s : Sp) : oneAll s.vs := fun u hu => by
  simp only [List.mem_cons, List.not_mem_nil, or_false] at hu
  rcases hu with h | h | h | h | h | h | h | h | h | h | h | h | h | h <;> subst h <;> rfl
/-- Spots of a block's live places, each place once: of those sectors that were looked at. -/
structure InI (X : List (SlP Ce)) (blk : Int) (a : Int) (b : Nat) (O : List Sp) : Prop where
  nd : (O.map Sp.pk).Nodup
  ok : ∀ s ∈ O, s.b = blk ∧ 1 ≤ cntX X s.pk
  all : ∀ (ns : Int) (j : Nat) (c : Ce), (0 ≤ ns ∧ ns < 4) → (ns < a ∨ (ns = a ∧ j < b)) → (getX X ns).l[j]? = some c → c.has = true → c.s.b = blk → c.s.pk ∈ O.map Sp.pk
theorem InI.nil {X : List (SlP Ce)} {blk : Int} : InI X blk 0 0 [] := ⟨.nil, fun s h => (List.not_mem_nil h).elim, fun ns j c h1 h2 => by omega⟩
theorem InI.next {X : List (SlP Ce)} {blk a : Int} {O : List Sp} (hX : XOk X) (h : InI X blk a (getX X a).n O) : InI X blk (a + 1) 0 O := ⟨h.nd, h.ok, fun ns j c h1 h2 hc => by
  by_cases h3 : ns < a
  · exact h.all ns j c h1 (.inl h3) hc
  · have h4 : ns = a := by omega
    subst h4
    exact h.all ns j c h1 (.inr ⟨rfl, by rw [← (hX.get ns).1]; exact (List.getElem?_eq_some_iff.1 hc).1⟩) hc⟩
theorem InI.skip {X : List (SlP Ce)} {blk a : Int} {b : Nat} {O : List Sp} {x : Ce} (h : InI X blk a b O) (hx : (getX X a).l[b]? = some x) (hs : x.has = true → x.s.b = blk → x.s.pk ∈ O.map Sp.pk) : InI X blk a (b + 1) O := ⟨h.nd, h.ok, fun ns j c h1 h2 hc hh hb => by
  by_cases h3 : ns = a ∧ j = b
  · obtain ⟨rfl, rfl⟩ := h3
    rw [hx] at hc
    cases hc
    exact hs hh hb
  · exact h.all ns j c h1 (by omega) hc hh hb⟩
theorem InI.put {X : List (SlP Ce)} {blk a : Int} {b : Nat} {O : List Sp} {x : Ce} (hX : XOk X) (ha : 0 ≤ a ∧ a < 4) (h : InI X blk a b O) (hx : (getX X a).l[b]? = some x) (hh : x.has = true) (hb : x.s.b = blk) (hn : x.s.pk ∉ O.map Sp.pk) : InI X blk a (b + 1) (O ++ [x.s]) := by
  refine ⟨?_, fun s hs => ?_, fun ns j c h1 h2 hc hh2 hb2 => ?_⟩
  · rw [List.map_append, List.nodup_append]
    refine ⟨h.nd, by simp, fun u hu v hv e => ?_⟩
    have hv : v = x.s.pk := List.mem_singleton.1 hv
    rw [e, hv] at hu
    exact hn hu
  · rcases List.mem_append.1 hs with hs | hs
    · exact h.ok s hs
    · rw [List.mem_singleton.1 hs]
      exact ⟨hb, cntX_pos hX.four ha hx hh⟩
  · rw [List.map_append, List.mem_append]
    by_cases h3 : ns = a ∧ j = b
    · obtain ⟨rfl, rfl⟩ := h3
      rw [hx] at hc
      cases hc
      exact .inr (List.mem_singleton.2 rfl)
    · exact .inl (h.all ns j c h1 (by omega) hc hh2 hb2)
/-- Spots of a block's live places, each place once, in order. -/
structure InF (X : List (SlP Ce)) (blk : Int) (O : List Sp) : Prop where
  so : O.Pairwise fun x y => plL x.pk y.pk
  ok : ∀ s ∈ O, s.b = blk ∧ 1 ≤ cntX X s.pk
  all : ∀ c ∈ flatX X, c.has = true → c.s.b = blk → c.s.pk ∈ O.map Sp.pk
theorem InI.fin {X : List (SlP Ce)} {blk : Int} {O O' : List Sp} (hX : XOk X) (h : InI X blk 4 0 O) (hp : O'.Perm O) (hs : O'.Pairwise fun x y => ¬ plL y.pk x.pk) : InF X blk O' := by
  refine ⟨?_, fun s hs => h.ok s (hp.mem_iff.1 hs), fun c hc hh hb => ?_⟩
  · have hn : (O'.map Sp.pk).Nodup := (hp.map Sp.pk).nodup_iff.2 h.nd
    have hn2 : O'.Pairwise fun x y => x.pk ≠ y.pk := List.pairwise_map.1 hn
    refine (hs.and hn2).imp fun {x y} ⟨h1, h2⟩ => ?_
    have h3 : ¬ (x.pk.1 = y.pk.1 ∧ x.pk.2 = y.pk.2) := fun e => h2 (Prod.ext e.1 e.2)
    unfold plL at h1 ⊢
    omega
  · obtain ⟨x, hx, hc⟩ := List.mem_flatMap.1 hc
    obtain ⟨i, hi, rfl⟩ := List.getElem_of_mem hx
    obtain ⟨j, hj⟩ := List.getElem?_of_mem hc
    have h4 := hX.four
    have hg := getX_at h4 (ns := (i : Int)) (by omega)
    rw [Int.toNat_natCast, List.getElem?_eq_getElem hi] at hg
    rw [Option.some.inj hg] at hj
    have := h.all (i : Int) j c (by omega) (.inl (by omega)) hj hh hb
    exact (hp.map Sp.pk).mem_iff.2 this
section
variable {E : Nat → Prop} {w0 w : World} {p r : Nat} {X : List (SlP Ce)} {m : Int × Int → Int} {Rs : List Asr}
theorem In22_c {blk : Int} (hX : XOk X) (hsm : ∀ ns, (getX X ns).n ≤ 40) (hB : ∀ (ns : Int) (j : Nat) (c : Ce), (0 ≤ ns ∧ ns < 4) → (getX X ns).l[j]? = some c → c.has = true → Bd c.s.pk) (S : Sep E w0 w [boxP p r X, MapF r m, ownsA X]) :
    CallV Try.prog 46 #[.pointer (some ⟨p, 0, none⟩), .int .i64 blk] w [.one .sl] fun rr w' => ∃ O, InF X blk O ∧ O.length ≤ 160 ∧ Sep E w0 w' [outS rr.1.a rr.1.n rr.1.c O, boxP p r X, MapF r m, ownsA X] := by
  apply pagemap_Map_In.vc
  unfold pagemap_Map_In.P
  have h4 := hX.four
  refine S.newM fun b1 w1 S f1 _ => ?_
  have S := S.nilOwn 61 14
  refine Loop1 (fun (v : SlV × Int × Unit) w' => ∃ (O : List Sp) (sn : Int × Int → Int), (0 ≤ v.2.1 ∧ v.2.1 ≤ 4) ∧ InI X blk v.2.1 0 O ∧ (O.length : Int) ≤ 40 * v.2.1 ∧ (∀ s ∈ O, Bd s.pk) ∧ (∀ k, sn k = if k ∈ O.map Sp.pk then 1 else 0) ∧ Sep E w0 w' [outS v.1.a v.1.n v.1.c O, MapF b1 sn, boxP p r X, MapF r m, ownsA X])
    (fun (v : SlV × Int × Unit) _ => (4 - v.2.1).toNat) ⟨[], _, ⟨by decide, by decide⟩, .nil, by decide, fun s hs => (List.not_mem_nil hs).elim, fun k => rfl, S⟩ ?_
  clear S
  rintro ⟨⟨oa, on, oc⟩, (v : Int), ⟨⟩⟩ w2 ⟨O, sn, hv, hI, hOl, hOB, hsn, S⟩
  dsimp only at hv hI hOl S ⊢
  refine cond_d (fun hlt => ?_) (fun hge => ?_)
  case refine_2 =>
    have hv4 : v = 4 := by omega
    subst hv4
    have hl := (S.own 0 rfl).lenF Spv_len (by decide)
    refine (sortSp_c hOB (by omega) S).mono ?_
    rintro ⟨⟩ w3 ⟨O', ⟨hp, hs⟩, S⟩
    exact ⟨O', hI.fin hX hp hs, by rw [hp.length_eq]; omega, S.sel [0, 1, 1, 1] rfl⟩
  have hn : 0 ≤ v ∧ v < 4 := ⟨hv.1, hlt⟩
  refine (own22_c (ns := v) h4 (toQ (S.sel [2, 2, 2] rfl))).mono ?_
  rintro ⟨_, ⟨⟩⟩ w3 ⟨h3, e3⟩
  subst e3
  dsimp only at h3
  subst h3
  dsimp only
  have hln := hX.get v
  have h40 := hsm v
  refine Loop1 (fun (u : SlV × Int × Unit) w' => ∃ (i : Nat) (O : List Sp) (sn : Int × Int → Int), u.2.1 = (i : Int) ∧ i ≤ (getX X v).n ∧ InI X blk v i O ∧ (O.length : Int) ≤ 40 * v + i ∧ (∀ s ∈ O, Bd s.pk) ∧ (∀ k, sn k = if k ∈ O.map Sp.pk then 1 else 0) ∧ Sep E w0 w' [outS u.1.a u.1.n u.1.c O, MapF b1 sn, boxP p r X, MapF r m, ownsA X])
    (fun (u : SlV × Int × Unit) _ => (((getX X v).n : Int) - u.2.1).toNat) ⟨0, O, sn, rfl, by omega, hI, by omega, hOB, hsn, S⟩ ?_
  clear S hI hOl hOB hsn
  rintro ⟨⟨oa, on, oc⟩, (u : Int), ⟨⟩⟩ w4 ⟨i, O, sn, hu, hi, hI, hOl, hOB, hsn, S⟩
  dsimp only at hu S ⊢
  subst hu
  refine cond_d (fun hlt2 => ?_) (fun hge2 => ?_)
  case refine_2 =>
    have hie : i = (getX X v).n := by omega
    subst hie
    exact ⟨Rng.i64 (by omega) (by omega), ⟨O, sn, by omega, hI.next hX, by omega, hOB, hsn, S⟩, by omega⟩
  have rg : Rng .i64 ((i : Int) + 1) := Rng.i64 (by omega) (by omega)
  obtain ⟨q, x, hq, hx, hcx, hqb⟩ := cellR h4 hn 4 S rfl (j := (i : Int)) (by omega) hlt2
  rw [Int.toNat_natCast] at hx
  refine ⟨⟨by omega, hlt2⟩, q, hq, x.tup, hcx, ?_⟩
  refine S.newB fun b13 w5 S f5 _ => ?_
  refine S.st0 (by rfl) fun w6 S f6 => ?_
  have skip : ∀ {w' : World}, (x.has = true → x.s.b = blk → x.s.pk ∈ O.map Sp.pk) → Sep E w0 w' [outS oa on oc O, MapF b1 sn, boxP p r X, MapF r m, ownsA X] → (∃ (i' : Nat) (O' : List Sp) (sn' : Int × Int → Int), (i : Int) + 1 = (i' : Int) ∧ i' ≤ (getX X v).n ∧ InI X blk v i' O' ∧ (O'.length : Int) ≤ 40 * v + i' ∧ (∀ s ∈ O', Bd s.pk) ∧ (∀ k, sn' k = if k ∈ O'.map Sp.pk then 1 else 0) ∧ Sep E w0 w' [outS oa on oc O', MapF b1 sn', boxP p r X, MapF r m, ownsA X]) ∧ (((getX X v).n : Int) - ((i : Int) + 1)).toNat < (((getX X v).n : Int) - (i : Int)).toNat := fun hs S =>
    ⟨⟨i + 1, O, sn, by push_cast; rfl, by omega, hI.skip hx hs, by push_cast; omega, hOB, hsn, S⟩, by omega⟩
  refine S.ld0 (j := 0) rfl rfl (cond_of (fun (hh : x.has = true) => ?_) (fun (hh : x.has = false) => ⟨rg, skip (fun e => by rw [hh] at e; cases e) S.tail⟩))
  refine S.ld0 (j := 1) rfl rfl (cond_eq (fun (hb : x.s.b = blk) => ?_) (fun (hb : x.s.b ≠ blk) => ⟨rg, skip (fun _ e => absurd e hb) S.tail⟩))
  refine S.lb0 (o := 1) rfl ?_
  refine S.lookM (k := x.s.pk) 2 rfl ?_
  refine cond_eq (fun (h0 : sn x.s.pk = 0) => ?_) (fun (h0 : sn x.s.pk ≠ 0) => ⟨rg, skip (fun _ _ => ?_) S.tail⟩)
  case refine_2 =>
    refine Classical.byContradiction fun e => h0 ?_
    rw [hsn, if_neg e]
  have hnm : x.s.pk ∉ O.map Sp.pk := fun e => by rw [hsn, if_pos e] at h0; cases h0
  have hxB := hB v i x hn hx hh
  have hon : O.length = on := (S.own 1 rfl).lenF Spv_len (by decide)
  have S := S.sel [2, 0, 0, 0, 0, 0] rfl
  refine Sep.regC [_] S fun G D hG T S hDt hDo hkeep back => ?_
  have hGr : G b1 := by
    obtain ⟨F, ⟨h1, l, cc, h2, -⟩, h3⟩ := T.get (i := 0) rfl
    exact (h3 b1 h1).1.resolve_right (fun h => by have := (Array.getElem?_eq_some_iff.1 h2).1; omega)
  have hk2 := fun w' (f : Fr (fun k => k = b1) _ w') => hkeep w' (f.mono fun k hk => by subst hk; exact hGr)
  have rv : Rng .i64 (sn x.s.pk + 1) := by rw [h0]; exact Rng.i64 (by decide) (by decide)
  have hsn' : ∀ k, updM sn x.s.pk (sn x.s.pk + 1) k = if k ∈ (O ++ [x.s]).map Sp.pk then 1 else 0 := fun k => by
    unfold updM
    rw [h0]
    by_cases e : k = x.s.pk
    · rw [if_pos e, if_pos (by rw [List.map_append, List.mem_append]; exact .inr (List.mem_singleton.2 e))]; rfl
    · rw [if_neg e, hsn]
      by_cases e2 : k ∈ O.map Sp.pk
      · rw [if_pos e2, if_pos (by rw [List.map_append, List.mem_append]; exact .inl e2)]
      · rw [if_neg e2, if_neg (by rw [List.map_append, List.mem_append]; exact fun h => h.elim e2 fun h => e (List.mem_singleton.1 h))]
  have app : ∀ {w' : World}, Sep E w0 w' [MapF b1 (updM sn x.s.pk (sn x.s.pk + 1)), BoxA b13 120 x.vs, outS oa on oc O, boxP p r X, MapF r m, ownsA X] → LoadA w' ⟨b13, 1, none⟩ SH14 fun (y : Int × Int × Int × Int × Int × Int × Int × Int × Int × Int × Int × Int × Int × Int × Unit) =>
      NewV #[.int .i64 y.1, .int .i64 y.2.1, .int .i64 y.2.2.1, .int .i64 y.2.2.2.1, .int .i64 y.2.2.2.2.1, .int .u32 y.2.2.2.2.2.1, .int .u64 y.2.2.2.2.2.2.1, .int .u64 y.2.2.2.2.2.2.2.1, .int .i64 y.2.2.2.2.2.2.2.2.1, .int .i64 y.2.2.2.2.2.2.2.2.2.1, .int .i64 y.2.2.2.2.2.2.2.2.2.2.1, .int .u32 y.2.2.2.2.2.2.2.2.2.2.2.1, .int .u64 y.2.2.2.2.2.2.2.2.2.2.2.2.1, .int .u64 y.2.2.2.2.2.2.2.2.2.2.2.2.2.1] 61 w' fun b w2 =>
        AppS w2 (some ⟨b, 0, none⟩) 1 14 fun ns => AppV w2 61 14 112 oa on oc ns 1 fun a' n' c' w3 => Rng .i64 ((i : Int) + 1) ∧ (∃ (i' : Nat) (O' : List Sp) (sn' : Int × Int → Int), (i : Int) + 1 = (i' : Int) ∧ i' ≤ (getX X v).n ∧ InI X blk v i' O' ∧ (O'.length : Int) ≤ 40 * v + i' ∧ (∀ s ∈ O', Bd s.pk) ∧ (∀ k, sn' k = if k ∈ O'.map Sp.pk then 1 else 0) ∧ Sep E w0 w3 [outS a' n' c' O', MapF b1 sn', boxP p r X, MapF r m, ownsA X]) ∧ (((getX X v).n : Int) - ((i : Int) + 1)).toNat < (((getX X v).n : Int) - (i : Int)).toNat := fun S => by
    refine S.lb1 (o := 1) rfl ?_
    refine S.newB (vs := x.s.vs) fun b9 w9 S f9 _ => ?_
    refine AppS.of (news := x.s.vs) rfl (.inr ⟨_, rfl, S.cells 0 rfl⟩) ?_
    refine S.ap3 rfl (SpS_one x.s) (by omega) (by omega) fun a' c' w10 S f10 => ⟨rg, ⟨i + 1, O ++ [x.s], _, by push_cast; rfl, by omega, hI.put hX hn hx hh hb hnm, by rw [List.length_append]; push_cast; simp; omega, fun s hs => ?_, hsn', ?_⟩, by omega⟩
    · rcases List.mem_append.1 hs with hs | hs
      · exact hOB s hs
      · rw [List.mem_singleton.1 hs]; exact hxB
    · have e : (O ++ [x.s]).flatMap Sp.vs = O.flatMap Sp.vs ++ x.s.vs := by rw [List.flatMap_append]; simp
      show Sep E w0 w10 [OwnA _ _ _ _ _ ((O ++ [x.s]).flatMap Sp.vs), _, _, _, _]
      rw [e]
      exact S.sel [3, 1, 2, 2, 2] rfl
  refine ⟨hDt 0 _ _ _ rfl, S.lb1 (o := 1) rfl ⟨?_, ?_⟩⟩
  · refine T.incA (k := x.s.pk) (fun x => x + 1) 0 rfl hk2 rv fun w7 T f7 => ?_
    have S := back _ _ T
    dsimp only [List.set_cons_zero, List.cons_append, List.nil_append] at S
    exact app S
  · refine T.incB (k := x.s.pk) (fun x => x + 1) 0 rfl hk2 rv fun w7 T f7 => ?_
    have S := back _ _ T
    dsimp only [List.set_cons_zero, List.cons_append, List.nil_append] at S
    exact app S
end
end Go.Proofs.Ytiemdjnmghackaa.Vc

/-! The law PagemapIns of layer 22: each call gives true, and what it read stays. -/
namespace Go.Proofs.Ytiemdjnmghackaa.Vc
open Go Go.Eng Go.RowKit
set_option linter.unusedVariables false
set_option linter.unusedSimpArgs false

theorem sum_one (q : Int × Int) : ∀ P : List (Int × Int), P.Nodup → (P.map fun k => if q = k then (1 : Int) else 0).sum = if q ∈ P then 1 else 0
  | [], _ => by simp
  | k :: P, h => by
    rw [List.nodup_cons] at h
    rw [List.map_cons, List.sum_cons, sum_one q P h.2]
    by_cases e : q = k
    · subst e
      rw [if_pos rfl, if_neg h.1, if_pos List.mem_cons_self]; rfl
    · rw [if_neg e, Int.zero_add]
      by_cases e2 : q ∈ P
      · rw [if_pos e2, if_pos (List.mem_cons_of_mem _ e2)]
      · rw [if_neg e2, if_neg (fun h => (List.mem_cons.1 h).elim e e2)]
theorem sum_zero : ∀ P : List (Int × Int), (P.map fun _ => (0 : Int)).sum = 0
  | [] => rfl
  | k :: P => by rw [List.map_cons, List.sum_cons, sum_zero P]; rfl
theorem sum_add (f g : Int × Int → Int) : ∀ P : List (Int × Int), (P.map fun k => f k + g k).sum = (P.map f).sum + (P.map g).sum
  | [] => rfl
  | k :: P => by
    rw [List.map_cons, List.sum_cons, List.map_cons, List.sum_cons, List.map_cons, List.sum_cons, sum_add f g P]
    omega
theorem in_sum {blk : Int} {P : List (Int × Int)} (hn : P.Nodup) (hb : ∀ k ∈ P, k.1 = blk) : ∀ l : List Ce, (∀ c ∈ l, c.has = true → c.s.b = blk → c.pl ∈ P) → (P.map fun k => (cntC l k : Int)).sum = (l.countP fun c => c.has && decide (c.s.b = blk) : Nat)
  | [], _ => by show (P.map fun _ => (0 : Int)).sum = 0; exact sum_zero P
  | c :: l, h => by
    have ih := in_sum hn hb l fun d hd => h d (List.mem_cons_of_mem _ hd)
    have e : (fun k => (cntC (c :: l) k : Int)) = fun k => (cntC l k : Int) + (if isP k c = true then 1 else 0) := funext fun k => by
      unfold cntC
      rw [List.countP_cons]
      push_cast
      split <;> rfl
    rw [e, sum_add, ih, List.countP_cons]
    have e2 : (P.map fun k => if isP k c = true then (1 : Int) else 0).sum = if (c.has && decide (c.s.b = blk)) = true then 1 else 0 := by
      by_cases hh : c.has = true
      · have e3 : (fun k => if isP k c = true then (1 : Int) else 0) = fun k => if c.pl = k then (1 : Int) else 0 := funext fun k => by
          unfold isP
          rw [hh]
          simp
        rw [e3, sum_one c.pl P hn]
        by_cases hbl : c.s.b = blk
        · rw [if_pos (h c List.mem_cons_self hh hbl), if_pos (by rw [hh, decide_eq_true hbl]; rfl)]
        · rw [if_neg (fun k => hbl (hb _ k)), if_neg (by rw [decide_eq_false hbl]; simp)]
      · have e3 : (fun k => if isP k c = true then (1 : Int) else 0) = fun _ => (0 : Int) := funext fun k => by
          unfold isP
          rw [if_neg (by simp [hh])]
        rw [e3, sum_zero, if_neg (by simp [hh])]
    rw [e2]
    push_cast
    split <;> rfl
section
variable {X : List (SlP Ce)} {z : Sz} {L : List Rc} {blk : Int} {O : List Sp}
theorem InF.sum (h : InF X blk O) : (O.map fun s => cntX X s.pk).sum = ((flatX X).countP fun c => c.has && decide (c.s.b = blk) : Nat) := by
  have hn : (O.map Sp.pk).Nodup := List.pairwise_map.2 (h.so.imp fun {x y} h e => by unfold plL at h; rw [e] at h; omega)
  have := in_sum (blk := blk) hn (fun k hk => by
    obtain ⟨s, hs, rfl⟩ := List.mem_map.1 hk
    exact (h.ok s hs).1) (flatX X) h.all
  rw [← this, List.map_map]
  rfl
def blkR (L : List Rc) (blk : Int) : Nat := L.countP fun c => decide (c.s.b = blk)
theorem blk_eq (h : RelX X z L) : blkR L blk = (flatX X).countP fun c => c.has && decide (c.s.b = blk) := by
  unfold blkR
  rw [h.perm.countP_eq, canX_cnt h.ok.four (fun s => decide (s.b = blk))]
end
theorem PagemapIns_law {w : World} {x : SlP TS22.T} {blk : Int} {G : Nat → Prop} (hx : (Ty.sl TS22).rd w G x) :
    CallV Try.prog 8 #[.slice x.a x.n x.c, .int .i64 blk] w [.one .bool] fun r w' => r.1 = true ∧ Ext w w' := by
  apply law22_PagemapIns.vc
  unfold law22_PagemapIns.P
  have S := Sep.start NoB w
  refine New22_c.mono ?_
  rintro ⟨_, ⟨⟩⟩ w2 ⟨p, r, hp, T⟩
  dsimp only at hp ⊢
  subst hp
  have S := S.frame0 (fromQ T)
  dsimp only [List.cons_append, List.nil_append] at S
  rw [← X0_cnt] at S
  refine (S.nilOwn 93 16).newB fun b3 w3 S f3 _ => ?_
  refine S.st0 (by rfl) fun w4 S f4 => ?_
  have S : Sep NoB w w4 (stW b3 p r X0 z00 ⟨none, 0, 0⟩ []) := S.sel [0, 1, 1, 1, 0] rfl
  have hlenx := hx.1
  refine ⟨fun _ w' => ∃ X z y L, StI X z L ∧ Sep NoB w w' (stW b3 p r X z y L), ?_, ?_⟩
  case refine_2 =>
    refine Loop1 (fun (v : Int × Unit) w' => ∃ (i : Nat) (X : List (SlP Ce)) (z : Sz) (y : SlV) (L : List Rc), v.1 = (i : Int) ∧ i ≤ x.n ∧ StI X z L ∧ Sep NoB w w' (stW b3 p r X z y L)) (fun (v : Int × Unit) _ => ((x.n : Int) - v.1).toNat) ⟨0, X0, z00, ⟨none, 0, 0⟩, [], rfl, by omega, St0, S⟩ ?_
    clear S
    rintro ⟨(v : Int), ⟨⟩⟩ w5 ⟨i, X, z, y, L, hv, hi, h, S⟩
    dsimp only at hv ⊢
    subst hv
    refine cond_d (fun hlt => ?_) (fun hge => ⟨X, z, y, L, h, S⟩)
    refine cond_d (fun hlt2 => ?_) (fun hge => ⟨X, z, y, L, h, S⟩)
    have rg : Rng .i64 ((i : Int) + 1) := Rng.i64 (by omega) (by omega)
    obtain ⟨q, st, hq, hst, hc, hu, hqb⟩ := stp_at hx S.ext hlt
    refine ⟨⟨by omega, hlt⟩, q, hq, ⟨tupSt st, hc, ?_⟩⟩
    refine (light_c (st := st)).mono ?_
    rintro ⟨rb, ⟨⟩⟩ w6 ⟨x6, hr⟩
    dsimp only at hr ⊢
    subst hr
    have S := S.stepE x6
    by_cases hl : lgt st
    case neg => exact cond_f (decide_eq_false hl) ⟨rg, ⟨i + 1, X, z, y, L, by push_cast; rfl, by omega, h, S⟩, by omega⟩
    refine cond_t (decide_eq_true hl) ?_
    refine Sep.regC [_, _, _, _, _] (Ts := []) S fun G D hG T S hDt hDo hkeep back => ?_
    obtain ⟨q', st', hq', hst', hc', -, -⟩ := stp_at hx S.ext hlt
    rw [hst] at hst'
    cases hst'
    rw [hq] at hq'
    cases hq'
    refine ⟨⟨by omega, hlt⟩, q, hq, ⟨by rw [add_block]; exact hDo _ hqb fun x => x, ⟨tupSt st, hc', T.la0 rfl ⟨hkeep _ T.fr, ?_⟩⟩⟩⟩
    have T := T.sel [1, 1, 1, 1, 0] rfl
    refine Sep.call [_, _, _, _] (Ts := [_]) T (fun G2 SG => step_c (st := st) h hl hu SG) fun G2 fr rr w7 hr => ?_
    obtain ⟨X', z', y', L', h', hr, T2⟩ := hr
    subst hr
    have T := (fr _ _ T2).sel [4, 0, 0, 0, 0] rfl
    dsimp only
    refine ⟨hkeep _ T.fr, T.st0 (by rfl) fun w9 T f9 => ⟨hkeep _ T.fr, rg, ⟨i + 1, X', z', y', L', by push_cast; rfl, by omega, h', ?_⟩, by omega⟩⟩
    have S := back _ _ T
    exact S
  rintro _ w5 ⟨X, z, y, L, h, S⟩
  have hyn : L.length = y.n := (S.own 4 rfl).lenF Rc_len (by decide)
  have hlen := h.rel.len h.sm
  have h4 := h.rel.ok.four
  have hcn := cntX_le h.rel.ok
  have S := S.sel [1, 1, 1, 0, 0] rfl
  refine Sep.call [_, _, _] (Ts := [_, _]) S (fun G SG => In22_c (blk := blk) h.rel.ok h.sm (fun ns j c hn hj hh => h.bd ⟨ns, (j : Int), c.s⟩ ((h.rel.mem _).2 ⟨hn, Int.natCast_nonneg j, by
    show (getX X ns).l[((j : Int)).toNat]? = _
    rw [Int.toNat_natCast, hj]
    obtain ⟨a, b⟩ := c
    cases hh
    rfl⟩)) SG) fun G fr rr w6 hr => ?_
  obtain ⟨O, hO, hOl, S2⟩ := hr
  obtain ⟨⟨oa, on, oc⟩, ⟨⟩⟩ := rr
  dsimp only at S2 ⊢
  have S := (fr _ _ S2).sel [0, 3, 0, 0, 0, 0] rfl
  dsimp only [List.cons_append, List.nil_append] at S
  have hon : O.length = on := (S.own 0 rfl).lenF Spv_len (by decide)
  refine Loop1 (fun (v : Int × Int × Unit) w' => ∃ i : Nat, v.2.1 = (i : Int) ∧ i ≤ on ∧ v.1 = ((O.take i).map fun s => cntX X s.pk).sum ∧ (0 ≤ v.1 ∧ v.1 ≤ 262140 * (i : Int)) ∧ Sep NoB w w' (outS oa on oc O :: stW b3 p r X z y L))
    (fun (v : Int × Int × Unit) _ => ((on : Int) - v.2.1).toNat) ⟨0, rfl, by omega, rfl, ⟨by decide, by decide⟩, S⟩ ?_
  clear S
  rintro ⟨(sm : Int), (v : Int), ⟨⟩⟩ w7 ⟨i, hv, hi, hsm, hsb, S⟩
  dsimp only at hv hsm hsb ⊢
  subst hv
  refine cond_d (fun hlt => ?_) (fun hge => ?_)
  · have rg : Rng .i64 ((i : Int) + 1) := Rng.i64 (by omega) (by omega)
    obtain ⟨q, s, hq, hs, hc⟩ := S.nthF 0 rfl Spv_len (by decide) (j := (i : Int)) (by omega) hlt
    have hqb : q.block < w7.heap.size := (S.own 0 rfl).lt q hq
    rw [Int.toNat_natCast] at hs
    obtain ⟨hsb1, hsb2⟩ := hO.ok s (List.mem_of_getElem? hs)
    have hcs := hcn s.pk
    have hct : ((O.take (i + 1)).map fun s => cntX X s.pk).sum = sm + cntX X s.pk := by
      rw [List.take_add_one, hs, List.map_append, List.sum_append, hsm]
      simp
    refine ⟨⟨by omega, hlt⟩, q, hq, ⟨(s.b, s.p, ()), hc.take 2, ?_⟩⟩
    refine S.newB fun b27 w8 S f8 _ => ?_
    refine S.st0 (by rfl) fun w9 S f9 => ?_
    refine S.reg fun D hD hkeep S U => ⟨hD _ S.bl0, S.ld0 (j := 0) rfl rfl (cond_ne (fun (g : s.b ≠ blk) => absurd hsb1 g) fun _ => ?_)⟩
    have hrel := h.rel.cnt s.pk
    refine cond_d (fun hpos => ?_) (fun hpos => ?_)
    · obtain ⟨q', s', hq', hs', hc'⟩ := S.nthF 1 rfl Spv_len (by decide) (j := (i : Int) - 1) (by omega) (by omega)
      have hqb' : q'.block < w9.drew.heap.size := (S.own 1 rfl).lt q' hq'
      rw [show ((i : Int) - 1).toNat = i - 1 by omega] at hs'
      have hlt' : s'.p < s.p := by
        have h1 := List.pairwise_iff_getElem.1 hO.so (i - 1) i (by have := (List.getElem?_eq_some_iff.1 hs').1; omega) (List.getElem?_eq_some_iff.1 hs).1 (by omega)
        rw [(List.getElem?_eq_some_iff.1 hs').2, (List.getElem?_eq_some_iff.1 hs).2] at h1
        have h2 := (hO.ok s' (List.mem_of_getElem? hs')).1
        have h1 : s'.b < s.b ∨ s'.b = s.b ∧ s'.p < s.p := h1
        omega
      refine ⟨Rng.i64 (by omega) (by omega), ⟨by omega, by omega⟩, q', hq', ⟨hD _ (by rw [add_block, add_block]; exact hqb'), ldc hc' 1 (h := .int .i64) (x := s'.p) rfl ⟨hD _ S.bl0, S.ld0 (j := 1) rfl rfl (cond_d (fun (g : s'.p ≥ s.p) => by omega) fun _ => ?_)⟩⟩⟩
      have S0 := S
      have b27D := hD _ S.bl0
      have b3D := hD _ S.bl2
      refine ⟨b3D, S0.la2 rfl ⟨b27D, S0.la0 rfl ?_⟩⟩
      refine (rRefs_c (z := z) (k1 := s.b) (k2 := s.p) (S.own 6 rfl) (by omega)).mono ?_
      rintro ⟨r1, ⟨⟩⟩ w10 ⟨x1, h1⟩
      dsimp only at h1 ⊢
      subst h1
      have S := S.stepE x1
      have U := U.stepE x1
      have hge1 : (1 : Int) ≤ (cntR L (s.b, s.p) : Int) := by have hrel : (cntR L (s.b, s.p) : Int) = cntX X s.pk := hrel; omega
      refine ⟨hkeep _ U.fr, cond_eq (fun g => by omega) fun _ => ⟨b27D, S0.la0 rfl ⟨b3D, S0.la2 rfl ⟨b27D, S0.la0 rfl ?_⟩⟩⟩⟩
      refine (Refs22_c (b := s.b) (q := s.p) h4 (toQ (S.sel [3, 3, 3] rfl))).mono ?_
      rintro ⟨r1, ⟨⟩⟩ w11 ⟨h1, x1⟩
      dsimp only at h1 ⊢
      subst h1
      have S := S.stepE x1
      have U := U.stepE x1
      refine ⟨hkeep _ U.fr, ?_⟩
      refine (rRefs_c (z := z) (k1 := s.b) (k2 := s.p) (S.own 6 rfl) (by omega)).mono ?_
      rintro ⟨r1, ⟨⟩⟩ w12 ⟨x2, h1⟩
      dsimp only at h1 ⊢
      subst h1
      have S := S.stepE x2
      have U := U.stepE x2
      refine ⟨hkeep _ U.fr, cond_ne (fun g => absurd hrel.symm g) fun _ => S.la2 rfl (S.la0 rfl ?_)⟩
      refine (rRefs_c (z := z) (k1 := s.b) (k2 := s.p) (S.own 6 rfl) (by omega)).mono ?_
      rintro ⟨r1, ⟨⟩⟩ w13 ⟨x3, h1⟩
      dsimp only at h1 ⊢
      subst h1
      have S := S.stepE x3
      have hrel2 : (cntR L (s.b, s.p) : Int) = cntX X s.pk := hrel
      rw [hrel2]
      exact ⟨Rng.i64 (by omega) (by omega), rg, ⟨i + 1, by push_cast; rfl, by omega, hct.symm, ⟨by omega, by push_cast; omega⟩, S.tail⟩, by omega⟩
    · have S0 := S
      have b27D := hD _ S.bl0
      have b3D := hD _ S.bl2
      refine ⟨b3D, S0.la2 rfl ⟨b27D, S0.la0 rfl ?_⟩⟩
      refine (rRefs_c (z := z) (k1 := s.b) (k2 := s.p) (S.own 6 rfl) (by omega)).mono ?_
      rintro ⟨r1, ⟨⟩⟩ w10 ⟨x1, h1⟩
      dsimp only at h1 ⊢
      subst h1
      have S := S.stepE x1
      have U := U.stepE x1
      have hge1 : (1 : Int) ≤ (cntR L (s.b, s.p) : Int) := by have hrel : (cntR L (s.b, s.p) : Int) = cntX X s.pk := hrel; omega
      refine ⟨hkeep _ U.fr, cond_eq (fun g => by omega) fun _ => ⟨b27D, S0.la0 rfl ⟨b3D, S0.la2 rfl ⟨b27D, S0.la0 rfl ?_⟩⟩⟩⟩
      refine (Refs22_c (b := s.b) (q := s.p) h4 (toQ (S.sel [3, 3, 3] rfl))).mono ?_
      rintro ⟨r1, ⟨⟩⟩ w11 ⟨h1, x1⟩
      dsimp only at h1 ⊢
      subst h1
      have S := S.stepE x1
      have U := U.stepE x1
      refine ⟨hkeep _ U.fr, ?_⟩
      refine (rRefs_c (z := z) (k1 := s.b) (k2 := s.p) (S.own 6 rfl) (by omega)).mono ?_
      rintro ⟨r1, ⟨⟩⟩ w12 ⟨x2, h1⟩
      dsimp only at h1 ⊢
      subst h1
      have S := S.stepE x2
      have U := U.stepE x2
      refine ⟨hkeep _ U.fr, cond_ne (fun g => absurd hrel.symm g) fun _ => S.la2 rfl (S.la0 rfl ?_)⟩
      refine (rRefs_c (z := z) (k1 := s.b) (k2 := s.p) (S.own 6 rfl) (by omega)).mono ?_
      rintro ⟨r1, ⟨⟩⟩ w13 ⟨x3, h1⟩
      dsimp only at h1 ⊢
      subst h1
      have S := S.stepE x3
      have hrel2 : (cntR L (s.b, s.p) : Int) = cntX X s.pk := hrel
      rw [hrel2]
      exact ⟨Rng.i64 (by omega) (by omega), rg, ⟨i + 1, by push_cast; rfl, by omega, hct.symm, ⟨by omega, by push_cast; omega⟩, S.tail⟩, by omega⟩
  have hie : i = on := by omega
  subst hie
  rw [List.take_of_length_le (by omega)] at hsm
  refine Loop1 (fun (v : Int × Int × Unit) w' => ∃ i : Nat, v.2.1 = (i : Int) ∧ i ≤ y.n ∧ v.1 = (blkR (L.take i) blk : Int) ∧ Sep NoB w w' (stW b3 p r X z y L))
    (fun (v : Int × Int × Unit) _ => ((y.n : Int) - v.2.1).toNat) ⟨0, rfl, by omega, rfl, S.tail⟩ ?_
  clear S
  rintro ⟨(d : Int), (v : Int), ⟨⟩⟩ w8 ⟨j, hv, hj, hd, S⟩
  dsimp only at hv hd ⊢
  subst hv
  refine S.ld0 (j := 4) rfl rfl (cond_d (fun hlt => ?_) (fun hge2 => ?_))
  · have hlt : (j : Int) < (y.n : Int) := hlt
    have rg : Rng .i64 ((j : Int) + 1) := Rng.i64 (by omega) (by omega)
    obtain ⟨q, c, hq, hc, hcc, -⟩ := (S.own 4 rfl).nthF Rc_len (by decide) (j := (j : Int)) (by omega) hlt
    rw [Int.toNat_natCast] at hc
    have hct : blkR (L.take (j + 1)) blk = blkR (L.take j) blk + (if c.s.b = blk then 1 else 0) := by
      unfold blkR
      rw [List.take_add_one, hc]
      simp
    have hle : blkR (L.take j) blk ≤ j := by
      unfold blkR
      exact Nat.le_trans List.countP_le_length (by rw [List.length_take]; omega)
    refine S.ld0 (j := 4) rfl rfl ⟨⟨by omega, hlt⟩, q, hq, ldc hcc 2 (h := .int .i64) (x := c.s.b) rfl (cond_eq (fun (g : c.s.b = blk) => ?_) (fun (g : c.s.b ≠ blk) => ?_))⟩
    · rw [if_pos g] at hct
      exact ⟨Rng.i64 (by omega) (by omega), rg, ⟨j + 1, by push_cast; rfl, by omega, by rw [hct, hd]; push_cast; rfl, S⟩, by omega⟩
    · rw [if_neg g] at hct
      exact ⟨rg, ⟨j + 1, by push_cast; rfl, by omega, by rw [hct, hd]; rfl, S⟩, by omega⟩
  have hge2 : ¬ ((j : Int) < (y.n : Int)) := hge2
  rw [List.take_of_length_le (by omega)] at hd
  refine cond_eq (fun _ => aw22 S.ext) (fun g => absurd ?_ g)
  rw [hsm, hd, hO.sum, blk_eq h.rel]
theorem PagemapIns_of {w : World} {a : Option Addr} {n c : Nat} {l : List TS22.T} {blk : Int} (g0 : (Ty.sl TS22).ok w ⟨a, n, c, l⟩) (g1 : Rng .i64 blk) :
    CallV Try.prog 8 #[.slice a n c, .int .i64 blk] w [.one .bool] fun r w' => r.1 = true ∧ Ext w w' := PagemapIns_law (x := ⟨a, n, c, l⟩) (Ty.rd_of _ g0)
end Go.Proofs.Ytiemdjnmghackaa.Vc
