/- The law PagemapOrders of layer 22: each call gives true, and what it read stays. -/
import Derived.Test.YtiemdjnmghackaaZPagemapOrdersc

/-! The law PagemapOrders of layer 22: each call gives true, and what it read stays. -/
namespace Go.Proofs.Ytiemdjnmghackaa.Vc
open Go Go.Eng Go.RowKit
set_option linter.unusedVariables false
set_option linter.unusedSimpArgs false

abbrev THh : Ty := .cons (.int .i64) (.cons (.int .i64) (.cons (.int .i64) (.cons (.int .u32) (.cons (.int .u64) (.cons (.int .u64) .nil)))))
abbrev TSp : Ty := .cons (.cons (.int .i64) (.cons (.int .i64) .nil)) (.cons THh (.cons THh .nil))
def toSp (y : TSp.T) : Sp := ⟨y.1.1, y.1.2.1, ⟨y.2.1.1, y.2.1.2.1, y.2.1.2.2.1, y.2.1.2.2.2.1, y.2.1.2.2.2.2.1, y.2.1.2.2.2.2.2.1⟩, ⟨y.2.2.1.1, y.2.2.1.2.1, y.2.2.1.2.2.1, y.2.2.1.2.2.2.1, y.2.2.1.2.2.2.2.1, y.2.2.1.2.2.2.2.2.1⟩⟩
theorem toSp_vs (y : TSp.T) : TSp.vs y = (toSp y).vs := rfl
theorem Sp_len (s : Sp) : s.vs.length = 14 := rfl
theorem Sp_one (s : Sp) : oneAll s.vs := fun u hu => by
  simp only [List.mem_cons, List.not_mem_nil, or_false] at hu
  rcases hu with h | h | h | h | h | h | h | h | h | h | h | h | h | h <;> subst h <;> rfl
def s1 (s : Sp) : Sp := ⟨s.b, s.p, ⟨s.h.k, 1, s.h.c, s.h.l, s.h.e, s.h.t⟩, s.o⟩
theorem ld2 {w : World} {p : Addr} {vs : List Value} (hc : CellsAt w p vs) (i j : Nat) {h : SS} {x : h.T} (hv : vs[i + j]? = some (h.v x)) {K : h.T → Prop} (hk : K x) : LoadS w ((p.add i).add j) h K := by rw [add_add]; exact ldc hc _ hv hk
theorem aw22 {w w' : World} (he : Ext w w') : CallV Try.prog 36 #[] w' [.one .bool] fun r w3 => r.1 = true ∧ Ext w w3 := awake22_c.mono fun r w3 ⟨h, e⟩ => ⟨h, he.trans e⟩
theorem PutO_c {E : Nat → Prop} {w0 w : World} {p r : Nat} {o : List Sp} {n : Nat} {P : Nat → Prop} {X : List (SlP Ce)} {i : Nat} {s : Sp} (hu : Unl o) (h12 : o.length ≤ 12) (hO : OrdI o n P X) (hi : o[i]? = some s) (hn : s.h.n = 1) (hl : 0 ≤ s.h.l ∧ s.h.l < 4294967296) (S : Sep E w0 w [boxP p r X, MapF r (cntX X), ownsA X]) :
    CallV Try.prog 39 #[.pointer (some ⟨p, 0, none⟩), s.val] w [.one .sl, .one (.int .i64)] fun _ w' => ∃ Y, OrdI o n (fun k => P k ∨ k = i) Y ∧ Sep E w0 w' [boxP p r Y, MapF r (cntX Y), ownsA Y] := by
  obtain ⟨h1, h2⟩ := hO.put hu hi hn hl.1
  refine (Put22_c (T := fun _ _ => True) hl hO.ok (fun hk => Told.few (Nat.le_trans (h2 hk).2 h12)) S).mono ?_
  rintro _ w1 ⟨h3, h4⟩
  by_cases hk : okS X s
  · obtain ⟨-, L', -, S⟩ := h4 hk
    exact ⟨_, (h2 hk).1, S.tail⟩
  · exact ⟨X, h1 hk, (h3 hk).2.2⟩
theorem Unl.one {o : List Sp} (h : Unl o) : Unl (o.map s1) := fun i k s t hik hs ht => by
  rw [List.getElem?_map] at hs ht
  obtain ⟨s', hs', rfl⟩ := Option.map_eq_some_iff.1 hs
  obtain ⟨t', ht', rfl⟩ := Option.map_eq_some_iff.1 ht
  exact h i k s' t' hik hs' ht'
theorem own_set {o : List Sp} {i : Nat} {s : Sp} (h : o[i]? = some s) : ((o.take i).map s1 ++ o.drop i)[i]? = some s ∧ ((o.take i).map s1 ++ o.drop i).set i (s1 s) = (o.take (i + 1)).map s1 ++ o.drop (i + 1) := by
  have hi : i < o.length := (List.getElem?_eq_some_iff.1 h).1
  have hl : ((o.take i).map s1).length = i := by rw [List.length_map, List.length_take]; omega
  constructor
  · rw [List.getElem?_append_right (by omega), hl, Nat.sub_self, List.getElem?_drop, Nat.add_zero, h]
  · rw [List.set_append_right _ _ (by omega), hl, Nat.sub_self, List.drop_eq_getElem_cons hi, List.set_cons_zero, List.take_add_one, h]
    simp
theorem PagemapOrders_law {w : World} {m : Int} {x : SlP TSp.T} {y : SlP Int} {G : Nat → Prop} (hm : 0 ≤ m ∧ m < 256) (hx : (Ty.sl TSp).rd w G x) (hy : Ints w .i64 y.a y.n y.c y.l) :
    CallV Try.prog 6 #[.int .u8 m, .slice x.a x.n x.c, .slice y.a y.n y.c] w [.one .bool] fun r w' => r.1 = true ∧ Ext w w' := by
  apply law22_PagemapOrders.vc
  unfold law22_PagemapOrders.P
  obtain ⟨N, hN, hN9⟩ : ∃ N : Nat, IntKind.i64.wrap (Int.tmod m 40) = (N : Int) ∧ N ≤ 39 := by
    have h1 := Int.emod_nonneg m (show (40 : Int) ≠ 0 by decide)
    have h2 := Int.emod_lt_of_pos m (show (0 : Int) < 40 by decide)
    refine ⟨(m % 40).toNat, ?_, by omega⟩
    rw [Int.tmod_eq_emod_of_nonneg hm.1, i64_id (by omega) (by omega)]
    omega
  rw [hN]
  refine ⟨by decide, Rng.i64 (by omega) (by omega), cond_d (fun _ => aw22 (Ext.refl w)) fun h12 => cond_d (fun _ => aw22 (Ext.refl w)) fun h30 => ?_⟩
  have hlen : x.l.length = x.n := hx.1
  obtain ⟨o, ho⟩ : ∃ o, o = x.l.map toSp := ⟨_, rfl⟩
  have hol : o.length = x.n := by rw [ho, List.length_map, hlen]
  have hget : ∀ {w' : World}, Ext w w' → ∀ {i : Nat}, i < x.n → ∃ q s, x.a = some q ∧ o[i]? = some s ∧ CellsAt w' (q.add (i * 14)) s.vs := fun {w'} e {i} hi => by
    obtain ⟨q, y, hq, hy, hc, -, -, -⟩ := Ty.nth (e := TSp) (Ty.rd_ext e _ hx) (i := (i : Int)) (Int.natCast_nonneg i) (by omega) (by decide)
    rw [Int.toNat_natCast] at hy hc
    exact ⟨q, toSp y, hq, by rw [ho, List.getElem?_map, hy]; rfl, hc⟩
  have hlba : ∀ {i : Nat} {s : Sp}, o[i]? = some s → 0 ≤ s.h.l ∧ s.h.l < 4294967296 := fun {i s} h => by
    rw [ho, List.getElem?_map] at h
    obtain ⟨y, hy, rfl⟩ := Option.map_eq_some_iff.1 h
    have := (hx.2.2.2.2 y (List.mem_of_getElem? hy)).2.1.2.2.2.1
    have e1 : IntKind.u32.min = 0 := by decide
    have e2 : IntKind.u32.max = 4294967295 := by decide
    unfold Ty.rd Rng at this
    rw [e1, e2] at this
    exact ⟨this.1, Int.lt_of_le_of_lt this.2 (by decide)⟩
  refine Loop1 (fun (v : Int × Unit) w' => ∃ i : Nat, v.1 = (i : Int) ∧ i ≤ x.n ∧ (∀ (j k : Nat) (s t : Sp), j < i → k < j → o[j]? = some s → o[k]? = some t → ¬ (s.h.e = t.h.e ∧ s.h.t = t.h.t)) ∧ Ext w w')
    (fun (v : Int × Unit) _ => ((x.n : Int) - v.1).toNat) ⟨0, rfl, by omega, fun j k s t h => by omega, Ext.refl w⟩ ?_
  rintro ⟨(z : Int), ⟨⟩⟩ w1 ⟨i, hz, hi, hU, e1⟩
  dsimp only at hz ⊢
  subst hz
  refine cond_d (fun hlt => ?_) (fun hge => ?_)
  · refine Loop1 (fun (v : Int × Unit) w' => ∃ k : Nat, v.1 = (k : Int) ∧ k ≤ i ∧ (∀ (k' : Nat) (s t : Sp), k' < k → o[i]? = some s → o[k']? = some t → ¬ (s.h.e = t.h.e ∧ s.h.t = t.h.t)) ∧ Ext w w')
      (fun (v : Int × Unit) _ => ((i : Int) - v.1).toNat) ⟨0, rfl, by omega, fun j s t h => by omega, e1⟩ ?_
    rintro ⟨(z : Int), ⟨⟩⟩ w2 ⟨k, hz, hk, hV, e2⟩
    dsimp only at hz ⊢
    subst hz
    refine cond_d (fun hlt2 => ?_) (fun hge2 => ?_)
    · refine DrawV.any fun D hD => ?_
      have e3 : Ext w w2.drew := e2.trans (Ext.drew w2)
      obtain ⟨q, s, hq, hs, hc⟩ := hget e3 (i := i) (by omega)
      obtain ⟨q', t, hq', ht, hc'⟩ := hget e3 (i := k) (by omega)
      have next : ¬ (s.h.e = t.h.e ∧ s.h.t = t.h.t) → (∃ k' : Nat, ((k : Int) + 1) = (k' : Int) ∧ k' ≤ i ∧ (∀ (k'' : Nat) (s t : Sp), k'' < k' → o[i]? = some s → o[k'']? = some t → ¬ (s.h.e = t.h.e ∧ s.h.t = t.h.t)) ∧ Ext w w2.drew) ∧ ((i : Int) - ((k : Int) + 1)).toNat < ((i : Int) - (k : Int)).toNat := fun hne =>
        ⟨⟨k + 1, by push_cast; rfl, by omega, fun k'' s' t' hk'' hs' ht' => by
          by_cases h : k'' = k
          · subst h
            rw [hs] at hs'; rw [ht] at ht'; cases hs'; cases ht'
            exact hne
          · exact hV k'' s' t' (by omega) hs' ht', e3⟩, by omega⟩
      refine ⟨⟨by omega, hlt⟩, q, hq, hD _, ld2 hc 2 4 (h := .int .u64) (x := s.h.e) rfl ⟨⟨by omega, by omega⟩, q', hq', hD _, ld2 hc' 2 4 (h := .int .u64) (x := t.h.e) rfl (cond_eq (fun h => ?_) (fun h => ⟨Rng.i64 (by omega) (by omega), next fun k => h k.1⟩))⟩⟩
      refine ⟨⟨by omega, hlt⟩, q, hq, hD _, ld2 hc 2 5 (h := .int .u64) (x := s.h.t) rfl ⟨⟨by omega, by omega⟩, q', hq', hD _, ld2 hc' 2 5 (h := .int .u64) (x := t.h.t) rfl (cond_eq (fun h => ?_) (fun h => ⟨Rng.i64 (by omega) (by omega), next fun k => h k.2⟩))⟩⟩
      exact aw22 e3
    · refine ⟨Rng.i64 (by omega) (by omega), ⟨i + 1, by push_cast; rfl, by omega, fun j k' s t hj hk' hs ht => ?_, e2⟩, by omega⟩
      by_cases h : j = i
      · subst h; exact hV k' s t (by omega) hs ht
      · exact hU j k' s t (by omega) hk' hs ht
  have hu : Unl o := fun i' k s t hik hs ht => hU i' k s t (by have := (List.getElem?_eq_some_iff.1 hs).1; omega) hik hs ht
  clear hU hge hi i
  obtain ⟨O, hO⟩ : ∃ O, O = o.map s1 := ⟨_, rfl⟩
  have huO : Unl O := by rw [hO]; exact hu.one
  have hOl : O.length ≤ 12 := by rw [hO, List.length_map]; omega
  have hOg : ∀ {i : Nat} {s : Sp}, o[i]? = some s → O[i]? = some (s1 s) := fun {i s} h => by rw [hO, List.getElem?_map, h]; rfl
  have hOr : ∀ {i : Nat} {t : Sp}, O[i]? = some t → t.h.n = 1 ∧ 0 ≤ t.h.l ∧ t.h.l < 4294967296 := fun {i t} h => by
    rw [hO, List.getElem?_map] at h
    obtain ⟨s, hs, rfl⟩ := Option.map_eq_some_iff.1 h
    have := hlba hs
    exact ⟨rfl, this⟩
  have S := (Sep.start NoB w).stepE e1
  refine New22_c.mono ?_
  rintro ⟨_, ⟨⟩⟩ w2 ⟨p, r, hp, T⟩
  dsimp only at hp ⊢
  subst hp
  have S := S.frame0 (fromQ T)
  refine New22_c.mono ?_
  rintro ⟨_, ⟨⟩⟩ w3 ⟨p2, r2, hp, T2⟩
  dsimp only at hp ⊢
  subst hp
  have S := S.frame0 (fromQ T2)
  dsimp only [List.cons_append, List.nil_append] at S
  have S := S.sel [3, 3, 3, 0, 0, 0] rfl
  have hnn : ((N : Int) + 1).toNat = N + 1 := by omega
  have add0 : addE X0 1 ((N : Int) + 1) = 0 := by
    unfold addE
    rw [if_neg (by decide), if_neg (by omega), if_neg (by decide)]
  refine Sep.call [boxP p r X0, MapF r (fun _ => 0), ownsA X0] (Ts := [_, _, _]) S (fun G SG => Add22_c (ns := 1) (size := (N : Int) + 1) rfl (toQ SG)) fun G fr rr w4 hr => ?_
  obtain ⟨(e : Int), ⟨⟩⟩ := rr
  obtain ⟨he, -, hA⟩ := hr
  obtain ⟨xa, hxl, hxn, SA⟩ := hA add0
  dsimp only at he
  rw [add0] at he
  subst he
  rw [hnn] at hxl hxn
  have ca : cntX (X0.set 1 xa) = fun _ => 0 := (cnt_new (X := X0) rfl (ns := 1) ⟨by decide, by decide⟩ hxl rfl).trans X0_cnt
  have OA : OrdI O (N + 1) (fun _ => False) (X0.set 1 xa) := OrdI.new hxl hxn (by omega)
  have S := fr _ [boxP p r (X0.set 1 xa), MapF r (cntX (X0.set 1 xa)), ownsA (X0.set 1 xa)] (by rw [ca]; exact fromQ SA)
  clear fr SA hA
  refine cond_ne (fun h => absurd rfl h) fun _ => ?_
  have S := S.sel [3, 3, 3, 0, 0, 0] rfl
  refine Sep.call [boxP p2 r2 X0, MapF r2 (fun _ => 0), ownsA X0] (Ts := [_, _, _]) S (fun G SG => Add22_c (ns := 1) (size := (N : Int) + 1) rfl (toQ SG)) fun G fr rr w5 hr => ?_
  obtain ⟨(e : Int), ⟨⟩⟩ := rr
  obtain ⟨he, -, hA⟩ := hr
  obtain ⟨xb, hyl, hyn, SB⟩ := hA add0
  dsimp only at he
  rw [add0] at he
  subst he
  rw [hnn] at hyl hyn
  have cb : cntX (X0.set 1 xb) = fun _ => 0 := (cnt_new (X := X0) rfl (ns := 1) ⟨by decide, by decide⟩ hyl rfl).trans X0_cnt
  have OB : OrdI O (N + 1) (fun _ => False) (X0.set 1 xb) := OrdI.new hyl hyn (by omega)
  have S := fr _ [boxP p2 r2 (X0.set 1 xb), MapF r2 (cntX (X0.set 1 xb)), ownsA (X0.set 1 xb)] (by rw [cb]; exact fromQ SB)
  clear fr SB hA
  refine cond_ne (fun h => absurd rfl h) fun _ => ?_
  have S := S.sel [3, 3, 3, 0, 0, 0] rfl
  generalize X0.set 1 xa = XA at S OA ca
  generalize X0.set 1 xb = XB at S OB cb
  clear ca cb
  refine S.newB (vs := []) fun b30 w6 S f6 _ => ?_
  refine AppS.of (news := o.flatMap Sp.vs) (by rw [flatF_len Sp_len, hol]) ?_ ?_
  · have := (Ty.rd_ext S.ext _ hx).2.2.2.1.rdc
    rw [ho, List.flatMap_map]
    exact this
  have S := S.asOwn (sz := 14) (n := 0) rfl (by omega) (fun u hu => by cases hu)
  refine S.ap0 (by rw [flatF_len Sp_len, hol]) (flatF_one Sp_one _) (by omega) (by omega) fun a' c' w7 S f7 => ?_
  rw [List.nil_append] at S
  rw [Nat.zero_add] at S ⊢
  refine Loop1 (fun (v : Int × Unit) w' => ∃ (i : Nat) (X : List (SlP Ce)), v.1 = (i : Int) ∧ i ≤ x.n ∧ OrdI O (N + 1) (fun k => k < i) X ∧ Sep NoB w w' [OwnA 61 14 a' x.n c' (((o.take i).map s1 ++ o.drop i).flatMap Sp.vs), boxP p r X, MapF r (cntX X), ownsA X, boxP p2 r2 XB, MapF r2 (cntX XB), ownsA XB])
    (fun (v : Int × Unit) _ => ((x.n : Int) - v.1).toNat) ⟨0, XA, rfl, by omega, OA.sub (fun i => ⟨fun h => by omega, False.elim⟩), S⟩ ?_
  clear S
  rintro ⟨(z : Int), ⟨⟩⟩ w8 ⟨i, X, hz, hi, hX, S⟩
  dsimp only at hz ⊢
  subst hz
  refine cond_d (fun hlt => ?_) (fun hge => ?_)
  · obtain ⟨s, hs⟩ : ∃ s, o[i]? = some s := ⟨_, List.getElem?_eq_getElem (by omega)⟩
    obtain ⟨q1, q2⟩ := own_set hs
    have hlb : 0 ≤ (s1 s).h.l ∧ (s1 s).h.l < 4294967296 := by have := hlba hs; exact this
    refine ⟨⟨by omega, hlt⟩, ?_⟩
    refine S.stF2 Sp_len Sp_one (by decide) (j := (i : Int)) ⟨by omega, hlt⟩ 2 1 (news := [.int .i64 1]) (x := s) (y := s1 s) (by rw [Int.toNat_natCast]; exact q1) (by decide) rfl fun w9 S f9 => ?_
    rw [Int.toNat_natCast, q2] at S
    obtain ⟨q, z, hq, hz, hc⟩ := S.nthF 0 rfl Sp_len (by decide) (j := (i : Int)) (by omega) hlt
    have hzs : z = s1 s := by
      rw [Int.toNat_natCast, List.getElem?_append_left (by rw [List.length_map, List.length_take]; omega), List.getElem?_map, List.getElem?_take, if_pos (by omega), hs] at hz
      exact (Option.some.inj hz).symm
    subst hzs
    refine ⟨⟨by omega, hlt⟩, q, hq, (s1 s).tup, hc, ?_⟩
    have S := S.sel [1, 1, 1, 0, 0, 0, 0] rfl
    refine Sep.call [_, _, _] (Ts := [_, _, _, _]) S (fun G SG => PutO_c (s := s1 s) huO hOl hX (hOg hs) rfl hlb SG) fun G fr rr w10 hr => ?_
    obtain ⟨Y, hY, SY⟩ := hr
    have S := fr _ _ SY
    exact ⟨Rng.i64 (by omega) (by omega), ⟨i + 1, Y, by push_cast; rfl, by omega, hY.sub (fun k => by constructor <;> intro h <;> omega), S.sel [3, 0, 0, 0, 0, 0, 0] rfl⟩, by omega⟩
  have hie : i = x.n := by omega
  subst hie
  rw [List.take_of_length_le (by omega), List.drop_eq_nil_of_le (by omega), List.append_nil, ← hO] at S
  have hXA : ∀ i, i < O.length → i < x.n := fun i h => by rw [hO, List.length_map] at h; omega
  have PutB : ∀ {w' : World} {Q : Nat → Prop} {Y : List (SlP Ce)} {j : Nat}, OrdI O (N + 1) Q Y → j < x.n → Sep NoB w w' [OwnA 61 14 a' x.n c' (O.flatMap Sp.vs), boxP p r X, MapF r (cntX X), ownsA X, boxP p2 r2 Y, MapF r2 (cntX Y), ownsA Y] →
      ∃ (q : Addr) (t : Sp), a' = some q ∧ CellsAt w' (q.add (j * 14)) t.vs ∧ CallV Try.prog 39 #[.pointer (some ⟨p2, 0, none⟩), t.val] w' [.one .sl, .one (.int .i64)] fun _ w'' => ∃ Z, OrdI O (N + 1) (fun k => Q k ∨ k = j) Z ∧ Sep NoB w w'' [OwnA 61 14 a' x.n c' (O.flatMap Sp.vs), boxP p r X, MapF r (cntX X), ownsA X, boxP p2 r2 Z, MapF r2 (cntX Z), ownsA Z] := fun {w' Q Y j} hY hj S => by
    obtain ⟨q, t, hq, ht, hc⟩ := S.nthF 0 rfl Sp_len (by decide) (j := (j : Int)) (by omega) (by omega)
    rw [Int.toNat_natCast] at ht hc
    refine ⟨q, t, hq, hc, ?_⟩
    have S := S.sel [4, 4, 4, 0, 0, 0, 0] rfl
    refine Sep.call [_, _, _] (Ts := [_, _, _, _]) S (fun G SG => PutO_c (s := t) huO hOl hY ht (hOr ht).1 (hOr ht).2 SG) fun G fr rr w10 hr => ?_
    obtain ⟨Z, hZ, SZ⟩ := hr
    exact ⟨Z, hZ, (fr _ _ SZ).sel [3, 3, 3, 3, 0, 0, 0] rfl⟩
  refine Loop1 (fun (v : Int × Unit) w' => ∃ (i : Nat) (Q : Nat → Prop) (Y : List (SlP Ce)), v.1 = (i : Int) ∧ i ≤ y.n ∧ OrdI O (N + 1) Q Y ∧ Sep NoB w w' [OwnA 61 14 a' x.n c' (O.flatMap Sp.vs), boxP p r X, MapF r (cntX X), ownsA X, boxP p2 r2 Y, MapF r2 (cntX Y), ownsA Y])
    (fun (v : Int × Unit) _ => ((y.n : Int) - v.1).toNat) ⟨0, _, XB, rfl, by omega, OB, S⟩ ?_
  clear S
  rintro ⟨(z : Int), ⟨⟩⟩ w9 ⟨i, Q, Y, hz, hi, hY, S⟩
  dsimp only at hz ⊢
  subst hz
  refine cond_d (fun hlt => ?_) (fun hge => ?_)
  · have hyi := hy.ext S.ext
    have rg : Rng .i64 ((i : Int) + 1) := Rng.i64 (by omega) (by omega)
    obtain ⟨v, hvd⟩ : ∃ v, v = y.l.getD (i : Int).toNat 0 := ⟨_, rfl⟩
    refine hyi.idx (by omega) hlt ?_
    rw [← hvd]
    refine cond_d (fun hv => ?_) (fun hv => ⟨rg, ⟨i + 1, Q, Y, by push_cast; rfl, by omega, hY, S⟩, by omega⟩)
    refine hyi.idx (by omega) hlt ?_
    rw [← hvd]
    refine cond_d (fun hv2 => ?_) (fun hv2 => ⟨rg, ⟨i + 1, Q, Y, by push_cast; rfl, by omega, hY, S⟩, by omega⟩)
    refine hyi.idx (by omega) hlt ?_
    rw [← hvd]
    obtain ⟨q, t, hq, hc, hcall⟩ := PutB hY (j := v.toNat) (by omega) S
    refine ⟨⟨by omega, hv2⟩, q, hq, t.tup, hc, hcall.mono ?_⟩
    rintro _ w10 ⟨Z, hZ, S⟩
    exact ⟨rg, ⟨i + 1, _, Z, by push_cast; rfl, by omega, hZ, S⟩, by omega⟩
  refine ⟨Rng.i64 (by omega) (by omega), ?_⟩
  refine Loop1 (fun (v : Int × Unit) w' => ∃ (k : Nat) (Q : Nat → Prop) (Y : List (SlP Ce)), v.1 = (k : Int) - 1 ∧ k ≤ x.n ∧ (∀ j, k ≤ j → j < x.n → Q j) ∧ OrdI O (N + 1) Q Y ∧ Sep NoB w w' [OwnA 61 14 a' x.n c' (O.flatMap Sp.vs), boxP p r X, MapF r (cntX X), ownsA X, boxP p2 r2 Y, MapF r2 (cntX Y), ownsA Y])
    (fun (v : Int × Unit) _ => (v.1 + 1).toNat) ⟨x.n, Q, Y, rfl, by omega, fun j h1 h2 => by omega, hY, S⟩ ?_
  clear S hY hge hi
  rintro ⟨(z : Int), ⟨⟩⟩ w10 ⟨k, Q, Y, hz, hk, hQ, hY, S⟩
  dsimp only at hz ⊢
  subst hz
  refine cond_d (fun hge => ?_) (fun hlt => ?_)
  · have e : ((k : Int) - 1).toNat = k - 1 := by omega
    obtain ⟨q, t, hq, hc, hcall⟩ := PutB hY (j := k - 1) (by omega) S
    refine ⟨⟨by omega, by omega⟩, q, hq, t.tup, by rw [e]; exact hc, hcall.mono ?_⟩
    rintro _ w11 ⟨Z, hZ, S⟩
    refine ⟨Rng.i64 (by omega) (by omega), ⟨k - 1, _, Z, by omega, by omega, fun j h1 h2 => ?_, hZ, S⟩, by omega⟩
    by_cases h : j = k - 1
    · exact .inr h
    · exact .inl (hQ j (by omega) h2)
  have hQa : ∀ j, j < O.length → Q j := fun j h => hQ j (by omega) (hXA j h)
  refine Loop1 (fun (v : Int × Unit) w' => ∃ i : Nat, v.1 = (i : Int) ∧ i ≤ N + 1 ∧ Sep NoB w w' [OwnA 61 14 a' x.n c' (O.flatMap Sp.vs), boxP p r X, MapF r (cntX X), ownsA X, boxP p2 r2 Y, MapF r2 (cntX Y), ownsA Y])
    (fun (v : Int × Unit) _ => ((N : Int) + 1 - v.1).toNat) ⟨0, rfl, by omega, S⟩ ?_
  clear S PutB
  rintro ⟨(z : Int), ⟨⟩⟩ w11 ⟨i, hz, hi, S⟩
  dsimp only at hz ⊢
  subst hz
  refine cond_d (fun hlt => ?_) (fun hge => aw22 S.ext)
  obtain ⟨hs1, hs2⟩ := OrdI.same huO hX hY hXA hQa (i := (i : Int)) ⟨by omega, by push_cast; exact hlt⟩
  have hsab : (if (getC X 1 (i : Int)).has then (getC X 1 (i : Int)).s else Sp0) = (if (getC Y 1 (i : Int)).has then (getC Y 1 (i : Int)).s else Sp0) := by
    rw [← hs1]
    by_cases h : (getC X 1 (i : Int)).has = true
    · rw [if_pos h, if_pos h, hs2 h]
    · rw [if_neg h, if_neg h]
  refine (Get22_c (ns := 1) (i := (i : Int)) hX.ok.four (toQ (S.sel [1, 1, 1] rfl))).mono ?_
  rintro ⟨_, (b1 : Bool), ⟨⟩⟩ w12 ⟨g1, g1', x12⟩
  dsimp only at g1 g1' ⊢
  subst g1
  have S := S.stepE x12
  refine S.newB fun b71 w13 S f13 _ => ?_
  refine S.st0 (by rfl) fun w14 S f14 => ?_
  refine (Get22_c (ns := 1) (i := (i : Int)) hY.ok.four (toQ (S.sel [5, 5, 5] rfl))).mono ?_
  rintro ⟨_, (b2 : Bool), ⟨⟩⟩ w15 ⟨g2, g2', x15⟩
  dsimp only at g2 g2' ⊢
  subst g2
  have S := S.stepE x15
  refine S.newB fun b76 w16 S f16 _ => ?_
  refine S.st0 (by rfl) fun w17 S f17 => ?_
  refine cond_f (by rw [g1', g2', hs1]; simp) ?_
  rw [← hsab] at S
  refine S.la1 rfl (S.la0 rfl ?_)
  refine eqSp ?_
  refine cond_f (by simp) ⟨Rng.i64 (by omega) (by omega), ⟨i + 1, by push_cast; rfl, by omega, S.sel [2, 2, 2, 2, 2, 2, 2] rfl⟩, by omega⟩
theorem PagemapOrders_of {w : World} {m : Int} {a : Option Addr} {n c : Nat} {l : List TSp.T} {a' : Option Addr} {n' c' : Nat} {l' : List Int} (g0 : Rng .u8 m) (g1 : (Ty.sl TSp).ok w ⟨a, n, c, l⟩) (g2 : SlI w .i64 a' n' c' l' (Try.prog.bytesOf 3)) :
    CallV Try.prog 6 #[.int .u8 m, .slice a n c, .slice a' n' c'] w [.one .bool] fun r w' => r.1 = true ∧ Ext w w' :=
  PagemapOrders_law (x := ⟨a, n, c, l⟩) (y := ⟨a', n', c', l'⟩) (rng_u8 g0) (Ty.rd_of _ g1) g2.ints
end Go.Proofs.Ytiemdjnmghackaa.Vc
