/- Texts in one: The contracts of layer 13 (nand): the power, and a byte changed. The contracts of layer 13 (nand): an operation that is done. The laws FaultBits, FaultSets, FaultClears and FaultWhole of layer 12: each call gives true, and what it read stays. The contracts of layer 13 (nand): a page, programmed. The contracts of layer 13 (nand): a page, programmed. The contracts of layer 13 (nand): a block's bytes; closures of erase and scrub. The contracts of layer 13 (nand): a block, scrubbed or erased. The contracts of layer 13 (nand): a block, erased. The contracts of layer 13 (nand): a new array. The laws GeometryChecks, GeometryIndexes and GeometryQuotas of layer 11: each call gives true, and what it read stays. The contracts of layer 13: the document's array. The contracts of layer 13: the document's array, its blocks. The contracts of layer 13: the document's array, a byte changed. The contracts of layer 21 (ledger): the blocks' changes. An array, and a ledger, as parts of which only the data is told. The plans of functions as plain statements, printed by wip/tools/vcgen.py; the kernel holds each to the code. The contracts of layer 14 (head): a head's bytes. The law HeadBytes of layer 14: each call gives true, and what it read stays. The contracts of layer 14 (head): an end's bytes, and is it committed. Plain laws for layer 14 (head): numbers of bytes, back as bytes. Parts of plans, cut out by wip/tools/vccut.py. The contracts of layer 14 (head): what an end tells. The contract of head.Read. Heads are the same where all their numbers are. The law HeadEnds of layer 14: each call gives true, and what it read stays. The plans of functions as plain statements, printed by wip/tools/vcgen.py; the kernel holds each to the code. The contracts of layer 15 (page): pages that are made. The contracts of layer 15 (page): what commits a page, and what a page tells. The contracts of layer 15 (page): what bytes tell. The contracts of layer 15 (page): the document's, and small ones. The laws PageMakes and PageBlank of layer 15: each call gives true, and what it read stays. The law PageReads of layer 15: each call gives true, and what it read stays. The law HeadMarks of layer 14: each call gives true, and what it read stays. The law PageBack of layer 15: each call gives true, and what it read stays. Plain laws of layer 19 (chunk): a record's pages, and what they hold. -/
import Derived.Test.YtlpeoaphdmfjdaaZKeyboxCrashesb

set_option linter.unusedVariables false
set_option linter.unusedSimpArgs false
/-! The contracts of layer 13 (nand): the power, and a byte changed. -/
namespace Go.Proofs.Ytlpeoaphdmfjdaa.Vc
open Go Go.Eng Go.RowKit
theorem fl_same {α β : Type} {f : α → List β} {l : List α} {i : Nat} {x y : α} (hi : l[i]? = some x) (h : f y = f x) : (l.set i y).flatMap f = l.flatMap f := by
  rw [fl_set hi, fl_split hi, h]
theorem map_set_same {α β : Type} {f : α → β} {l : List α} {i : Nat} {x y : α} (hi : l[i]? = some x) (h : f y = f x) : (l.set i y).map f = l.map f := by
  rw [List.map_set, h]
  refine List.ext_getElem? fun j => ?_
  rw [List.getElem?_set]
  split
  · rename_i e
    subst e
    split
    · rw [List.getElem?_map, hi]; rfl
    · rename_i hh
      rw [List.length_map] at hh
      exact absurd (List.getElem?_eq_some_iff.1 hi).1 hh
  · rfl
theorem BOk.up {g : Geo} {m m' : Nat} {x : BD} (h : BOk g m x) (hm : m ≤ m') : BOk g m' x := ⟨h.pl, h.pb, h.ul, h.ub, h.la, h.er.1, by have := h.er.2; omega⟩
theorem COk.upd {C : CD} (h : COk C) {i : Nat} {y : BD} {off : Bool} {ops : Nat} (ho : C.ops ≤ ops) (ho2 : ops ≤ 1000000) (hy : BOk C.g ops y) : COk { C with bs := C.bs.set i y, off := off, ops := ops } :=
  ⟨h.g, h.lg, by show (C.bs.set i y).length = _; rw [List.length_set]; exact h.bl, fun x hx => by
    rcases List.mem_or_eq_of_mem_set hx with h1 | h1
    · exact (h.bo x h1).up ho
    · rw [h1]; exact hy, h.pm, ho2⟩
theorem pg_set_ok {C : CD} (h : COk C) {bl pa : Int} (hi : inC C bl pa) {q : List Int} (hq : q.length = szP C.g ∧ Byt q) : ((blkC C bl).pg.set pa.toNat q).length = C.g.p.toNat ∧ ∀ z ∈ (blkC C bl).pg.set pa.toNat q, z.length = szP C.g ∧ Byt z := by
  obtain ⟨-, hb⟩ := h.blk hi.1
  refine ⟨by rw [List.length_set]; exact hb.pl, fun z hz => ?_⟩
  rcases List.mem_or_eq_of_mem_set hz with h1 | h1
  · exact hb.pb z h1
  · rw [h1]; exact hq
theorem chip_mk {E : Nat → Prop} {w0 w : World} {p : Nat} {y : Lay} {C : CD} {L : List TOp} {Rs : List Asr} {i1 i2 i3 i4 i5 : List Int}
    (S : Sep E w0 w (BoxA p 95 (chipV y C) :: OwnA 5 1 y.P.a y.P.n y.P.c (bv8 i1) :: OwnA 3 1 y.U.a y.U.n y.U.c (iv i2) :: OwnA 3 1 y.A.a y.A.n y.A.c (iv i3) ::
      OwnA 3 1 y.S.a y.S.n y.S.c (iv i4) :: OwnA 3 1 y.E.a y.E.n y.E.c (iv i5) :: RdT LF y.F :: OwnA 139 5 y.T.a C.ops y.T.c (L.flatMap TOp.vs) :: RdL (L.map (·.d)) :: Rs))
    (h1 : imgC C = i1) (h2 : usL C = i2) (h3 : laL C = i3) (h4 : scL C = i4) (h5 : erL C = i5) : Sep E w0 w (ChipQ p y C L Rs) := by
  subst h1; subst h2; subst h3; subst h4; subst h5; exact S
section
variable {F : Nat → Prop} {w : World} {p : Nat} {y : Lay} {C : CD} {L : List TOp}
theorem Power_c {on : Bool} (S : Sep F w w (ChipP p y C L)) :
    CallV Try.prog 34 #[.pointer (some ⟨p, 0, none⟩), .bool on] w [] fun _ w' => Sep F w w' (ChipP p y { C with off := !on } L) := by
  apply nand_Chip_Power.vc
  unfold nand_Chip_Power.P
  simp only [Addr.add_lit, Nat.zero_add]
  refine S.su0 (j := 13) (by rfl) fun w1 S f => ?_
  exact S
end
end Go.Proofs.Ytlpeoaphdmfjdaa.Vc
/-! The contracts of layer 13 (nand): an operation that is done. -/
namespace Go.Proofs.Ytlpeoaphdmfjdaa.Vc
open Go Go.Eng Go.RowKit
def newX (C : CD) (whole : List Int) (torn : FD → List Int) : List Int := match atF C.pl (C.ops : Int) with | none => whole | some f => torn f
abbrev upT (y : Lay) (ta : Option Addr) (tc : Nat) : Lay := { y with T := ⟨ta, 0, tc⟩ }
def DoneR (F : Nat → Prop) (w w' : World) (p : Nat) (y : Lay) (C : CD) (L : List TOp) (ds dS : List (SlP Int)) (blk : Nat) (eb : TypeId) (pre post : List Value) (xs' : List Int) (op : Int × Int × Int × List Int × Int) : Prop :=
  ∃ (ta : Option Addr) (tc : Nat) (o : TOp), o.dat = op ∧ Sep F w w' [BoxA p 95 (chipV (upT y ta tc) { C with off := (codeC C).2.2, ops := C.ops + 1 }), BoxA blk eb (pre ++ (bv8 xs' ++ post)), RdT LF y.F, OwnA 139 5 ta (C.ops + 1) tc ((L ++ [o]).flatMap TOp.vs), RdL (ds ++ [o.d]), RdL dS]
theorem ap56 {n : Nat} (h : n ≤ 1000000) : (2 * (n + 1) + 256) * 56 ≤ 281474976710656 := by omega
theorem ap63' {n : Nat} (h : n ≤ 1000000) : n + 1 ≤ 9223372036854775807 := by omega
theorem done_c {F : Nat → Prop} {w : World} {p : Nat} {y : Lay} {C : CD} {L : List TOp} {ds : List (SlP Int)} {dd : SlP Int} {dS : List (SlP Int)} {blk o : Nat} {eb : TypeId} {pre post : List Value} {xs whole : List Int} {torn : FD → List Int} {k bl pa : Int} {n5 c5 : Nat} {f1 f2 : FuncId} {c1 c2 : Array Value}
    (hF : fds y.F = C.pl) (hm : mFit C.pl) (hops : C.ops ≤ 1000000) (hof : C.off = false) (ho : o = pre.length) (hdn : dd.n ≤ 1000000) (hn5 : n5 = xs.length) (hw : whole.length = xs.length) (ht : ∀ f, (torn f).length = xs.length)
    (hf1 : okf f1 = true) (hf2 : okf f2 = true)
    (h1 : ∀ w', Ext w w' → CallV Try.prog f1 ((#[] : Array Value).toList ++ ([] ++ c1.toList)).toArray w' [.one .sl] fun r w2 => Ints w2 .u8 r.1.a r.1.n r.1.c whole ∧ Ext w' w2)
    (h2 : ∀ w' (f : FD) (s : SlV), Ext w w' → atF C.pl (C.ops : Int) = some f → Ints w' .u8 s.a s.n s.c f.2.2.1 → CallV Try.prog f2 ((#[] : Array Value).toList ++ ((([.agg #[.int .i64 f.1, .bool f.2.1, .slice s.a s.n s.c]] : List Value)) ++ c2.toList)).toArray w' [.one .sl] fun r w2 => Ints w2 .u8 r.1.a r.1.n r.1.c (torn f) ∧ Ext w' w2)
    (S : Sep F w w [BoxA p 95 (chipV y C), BoxA blk eb (pre ++ (bv8 xs ++ post)), RdT LF y.F, OwnA 139 5 y.T.a C.ops y.T.c (L.flatMap TOp.vs), RdL ds, RdL dS]) (hdS : dd ∈ dS := by simp) :
    CallV Try.prog 85 #[.pointer (some ⟨p, 0, none⟩), .int .i64 k, .agg #[.int .i64 bl, .int .i64 pa], .slice dd.a dd.n dd.c, .agg #[.func (.func f1) #[] c1, .func (.func f2) #[] c2], .slice (some ⟨blk, o, none⟩) n5 c5] w [.one (.int .i64)] fun r w' =>
      r.1 = (codeC C).1 ∧ DoneR F w w' p y C L ds dS blk eb pre post (newX C whole torn) (k, bl, pa, dd.l, (codeC C).1) := by
  apply nand_Chip_done.vc (p4_0 := (f1, #[], c1)) (p4_1 := (f2, #[], c2))
  unfold nand_Chip_done.P
  simp only [Addr.add_lit, Nat.zero_add]
  refine S.newB fun b1 w1 S f1' _ => ?_
  refine S.newB fun b3 w3 S f3' _ => ?_
  have X3 : Ext w w3 := Fr.ext (f1'.trans f3')
  refine ⟨fun (v : Option Addr × Bool × Unit) w' => ∃ (b : Nat) (s : SlV) (f0 : Int) (fb : Bool), v.1 = some ⟨b, 0, none⟩ ∧ Ext w w' ∧ (match atF C.pl (C.ops : Int) with | none => v.2.1 = false | some f => v.2.1 = true ∧ f0 = f.1 ∧ fb = f.2.1 ∧ Ints w' .u8 s.a s.n s.c f.2.2.1) ∧
    Sep F w w' [BoxA b 86 [.int .i64 f0, .bool fb, .slice s.a s.n s.c], BoxA b3 148 [.func (.func f1) #[] c1, .func (.func f2) #[] c2], BoxA b1 47 [.int .i64 bl, .int .i64 pa], BoxA p 95 (chipV y C), BoxA blk eb (pre ++ (bv8 xs ++ post)), RdT LF y.F, OwnA 139 5 y.T.a C.ops y.T.c (L.flatMap TOp.vs), RdL ds, RdL dS], ?_, ?_⟩
  case refine_2 =>
    refine S.reg fun D hD hkeep S1 T => ?_
    have X1 : Ext w w3.drew := X3.trans (Ext.drew _)
    have hLF := rdT_get S1 4 rfl
    have hmF : mFit (fds y.F) := by rw [hF]; exact hm
    refine ⟨hD _ S.bl2, S1.ld2 (j := 12) rfl rfl ⟨hD _ S.bl2, S1.ld2 (j := 14) rfl rfl ⟨?_, ?_⟩⟩⟩
    · refine (At_c (n := (C.ops : Int)) hLF hmF).mono ?_
      rintro ⟨⟨(f0 : Int), (fb : Bool), ⟨sa, sn, sc⟩, ⟨⟩⟩, (ok : Bool), ⟨⟩⟩ w5 ⟨x5, h5⟩
      have T := T.stepE x5
      refine ⟨hkeep _ T.fr, T.newB fun b w6 T f6 _ => ⟨hkeep _ T.fr, T.st0 (by rfl) fun w7 T f7 => ⟨hkeep _ T.fr, b, ⟨sa, sn, sc⟩, f0, fb, rfl, X1.trans T.ext, ?_, S1.frame0 T⟩⟩⟩
      rw [hF] at h5
      have e7 : Ext w5 w7 := Fr.ext (f6.trans' f7 fun k hk => .inr (by omega))
      cases hat : atF C.pl (C.ops : Int) with
      | none => rw [hat] at h5; exact h5.1
      | some f => rw [hat] at h5; exact ⟨h5.1, h5.2.1, h5.2.2.1, h5.2.2.2.ints.ext e7⟩
    · refine T.newB fun b w6 T f6 _ => ⟨hkeep _ T.fr, ?_⟩
      refine (At_c (n := (C.ops : Int)) (Ty.rd_ext T.ext _ hLF) hmF).mono ?_
      rintro ⟨⟨(f0 : Int), (fb : Bool), ⟨sa, sn, sc⟩, ⟨⟩⟩, (ok : Bool), ⟨⟩⟩ w5 ⟨x5, h5⟩
      have hbb := T.bl0
      have T := T.stepE x5
      refine ⟨hkeep _ T.fr, T.st0 (by rfl) fun w7 T f7 => ⟨hkeep _ T.fr, b, ⟨sa, sn, sc⟩, f0, fb, rfl, X1.trans T.ext, ?_, S1.frame0 T⟩⟩
      rw [hF] at h5
      cases hat : atF C.pl (C.ops : Int) with
      | none => rw [hat] at h5; exact h5.1
      | some f =>
        rw [hat] at h5
        refine ⟨h5.1, h5.2.1, h5.2.2.1, ?_⟩
        have own := h5.2.2.2.own
        exact (own.other fun q hq => f7.block _ (own.lt q hq) (by have := own.ge q hq; omega)).ints
  rintro ⟨v1, (v2 : Bool), ⟨⟩⟩ w7 ⟨b, s, f0, fb, hv, X7, hat, S⟩
  dsimp only at hv hat ⊢
  subst hv
  have hlx : xs.length ≤ 9223372036854775807 ∨ True := .inr trivial
  have oneB : ∀ l : List Int, oneAll (bv8 l) := fun l => oneAll.ints _ _
  refine ⟨fun (v : Int × Unit) w' => v.1 = (codeC C).1 ∧ Sep F w w' [BoxA b1 47 [.int .i64 bl, .int .i64 pa], BoxA p 95 (chipV y { C with off := (codeC C).2.2 }), BoxA blk eb (pre ++ (bv8 (newX C whole torn) ++ post)), RdT LF y.F, OwnA 139 5 y.T.a C.ops y.T.c (L.flatMap TOp.vs), RdL ds, RdL dS], ?_, ?_⟩
  case refine_2 =>
    cases hatc : atF C.pl (C.ops : Int) with
    | none =>
      rw [hatc] at hat
      dsimp only at hat
      have hcode : codeC C = (0, [], false) := by unfold codeC; rw [hatc]
      have hnew : newX C whole torn = whole := by unfold newX; rw [hatc]
      refine cond_t (by rw [hat]; rfl) (S.ld1 (j := 0) rfl rfl (cond_t hf1 ?_))
      refine (h1 w7 X7).mono ?_
      rintro ⟨⟨ra, rn, rc⟩, ⟨⟩⟩ w8 ⟨i8, x8⟩
      dsimp only at i8 ⊢
      have S := S.stepE x8
      have ln := i8.len
      refine S.cpM 4 (news := bv8 whole) rfl ho (by rw [List.length_map]; show min rn n5 = _; omega) (by rw [List.length_map, List.length_map, hw]) i8.rd (oneB _) fun w9 S f9 => ⟨?_, ?_⟩
      · rw [hcode]
      · rw [hnew, hcode, ← hof]
        exact S.sel [2, 2, 2, 2, 2, 2, 2] rfl
    | some f =>
      rw [hatc] at hat
      obtain ⟨k1, k2, k3, k4⟩ := hat
      have hnew : newX C whole torn = torn f := by unfold newX; rw [hatc]
      have hcode : codeC C = (if f.2.1 then 4 else 5, f.2.2.1, f.2.1) := by unfold codeC; rw [hatc]
      subst k2; subst k3
      refine cond_f (by rw [k1]; rfl) (PtrK.of rfl (S.ld0 (j := 1) rfl rfl ?_))
      refine cond_of (fun hfb => ?_) (fun hfb => ?_)
      · refine S.ld1 (j := 1) rfl rfl (PtrK.of rfl (S.la0 rfl (cond_t hf2 ?_)))
        refine (h2 w7 f s X7 hatc k4).mono ?_
        rintro ⟨⟨ra, rn, rc⟩, ⟨⟩⟩ w8 ⟨i8, x8⟩
        dsimp only at i8 ⊢
        have S := S.stepE x8
        have ln := i8.len
        have htf := ht f
        refine S.cpM 4 (news := bv8 (torn f)) rfl ho (by rw [List.length_map]; show min rn n5 = _; omega) (by rw [List.length_map, List.length_map, htf]) i8.rd (oneB _) fun w9 S f9 => ?_
        refine S.su3 (j := 13) (by rfl) fun w10 S f10 => ⟨?_, ?_⟩
        · rw [hcode, hfb]; rfl
        · rw [hnew, hcode, hfb]
          exact S.sel [2, 2, 2, 2, 2, 2, 2] rfl
      · refine S.ld1 (j := 1) rfl rfl (PtrK.of rfl (S.la0 rfl (cond_t hf2 ?_)))
        refine (h2 w7 f s X7 hatc k4).mono ?_
        rintro ⟨⟨ra, rn, rc⟩, ⟨⟩⟩ w8 ⟨i8, x8⟩
        dsimp only at i8 ⊢
        have S := S.stepE x8
        have ln := i8.len
        have htf := ht f
        refine S.cpM 4 (news := bv8 (torn f)) rfl ho (by rw [List.length_map]; show min rn n5 = _; omega) (by rw [List.length_map, List.length_map, htf]) i8.rd (oneB _) fun w9 S f9 => ⟨?_, ?_⟩
        · rw [hcode, hfb]; rfl
        · rw [hnew, hcode, hfb, ← hof]
          exact S.sel [2, 2, 2, 2, 2, 2, 2] rfl
  rintro ⟨e, ⟨⟩⟩ w10 ⟨he, S⟩
  dsimp only at he ⊢
  subst he
  refine ⟨fun (_ : Unit) w' => DoneR F w w' p y C L ds dS blk eb pre post (newX C whole torn) (k, bl, pa, dd.l, (codeC C).1), fun _ w13 h => ⟨rfl, h⟩, ?_⟩
  have hne := S.ne 0 1 (by decide) rfl rfl
  have hnt := S.neO 0 4 (by decide) rfl rfl
  refine S.regX (fun k => k = p ∨ ∃ q : Addr, y.T.a = some q ∧ k = q.block) fun D hD hkeep S T => ?_
  have d1 : dd.n ≤ 1000000 := hdn
  have hid : Ints w10.drew .u8 dd.a dd.n dd.c dd.l ∧ Byt dd.l := by
    obtain ⟨F1, h, _⟩ := S.get (i := 6) rfl
    have := h dd hdS
    exact ⟨Ty.ints this, Ty.byt this⟩
  have k0 := hkeep _ (Fr.refl _ _)
  refine ⟨hD _ S.bl0 (fun h => h.elim (fun h => hne h) fun ⟨q, hq, h⟩ => hnt q hq h), S.la0 rfl ?_⟩
  dsimp only
  have fin : ∀ {w5 : World} {b24 : Nat} {a : Option Addr} {c : Nat}, Sep NoB w10.drew w5 [BoxA b24 139 [.int .i64 k, .int .i64 bl, .int .i64 pa, .slice a (0 + dd.n) c, .int .i64 (codeC C).1], OwnA 5 1 a (0 + dd.n) c (([] ++ dd.l).map (Value.int .u8))] →
      AppS w5 (some ⟨b24, 0, none⟩) 1 5 fun ns => AppV w5 139 5 56 y.T.a C.ops y.T.c ns 1 fun a26 n27 c28 w29 => KeepOn D w10.drew w29 ∧ StoreV w29 ⟨p, 14, none⟩ [.slice a26 n27 c28] fun w31 => KeepOn D w10.drew w31 ∧ DoneR F w w31 p y C L ds dS blk eb pre post (newX C whole torn) (k, bl, pa, dd.l, (codeC C).1) := by
    intro w5 b24 a c T
    have S := S.frame0 T
    dsimp only [List.cons_append, List.nil_append] at S
    refine AppS.of (news := TOp.vs ⟨k, bl, pa, ⟨a, 0 + dd.n, c, dd.l⟩, (codeC C).1⟩) rfl (.inr ⟨_, rfl, S.cells 0 rfl⟩) ?_
    refine S.ap6 (by rfl) (TOp.one _) (ap56 hops) (ap63' hops) fun a26 c28 w29 S f29 => ?_
    have g29 : Fr (fun k => k = p ∨ ∃ q : Addr, y.T.a = some q ∧ k = q.block) w10.drew w29 := T.fr.any.trans (f29.mono fun k hk => .inr hk)
    refine ⟨hkeep _ g29, S.su3 (j := 14) (by rfl) fun w31 S f31 => ⟨hkeep _ (g29.trans (f31.mono fun k hk => .inl hk)), a26, c28, ⟨k, bl, pa, ⟨a, 0 + dd.n, c, dd.l⟩, (codeC C).1⟩, rfl, ?_⟩⟩
    have S := ((S.sel [1, 6, 2, 2, 2, 2, 2] rfl).addL hid.2).sel [1, 1, 1, 1, 0, 0] rfl
    rw [List.flatMap_append]
    exact S
  have lT : Sep NoB w10.drew w10.drew [] := T
  refine ⟨?_, ?_⟩
  · refine S.ld1 (j := 14) rfl rfl ⟨k0, T.newB fun b17 w18 T f18 _ => ⟨hkeep _ T.fr.any, ?_⟩⟩
    have T := T.asOwn (sz := 1) (n := 0) rfl (by omega) oneAll.nil
    refine T.ab0 (xs := []) (hid.1.ext T.ext) (by omega) fun a c w22 T f22 => ⟨hkeep _ T.fr.any, T.newB fun b24 w25 T f25 _ => ⟨hkeep _ T.fr.any, fin T⟩⟩
  · refine T.newB fun b17 w18 T f18 _ => ⟨hkeep _ T.fr.any, ?_⟩
    have hk18 := hkeep _ T.fr.any
    have T := T.asOwn (sz := 1) (n := 0) rfl (by omega) oneAll.nil
    refine ⟨?_, ?_⟩
    · refine (S.stepE T.ext).ld1 (j := 14) rfl rfl ⟨hk18, ?_⟩
      refine T.ab0 (xs := []) (hid.1.ext T.ext) (by omega) fun a c w22 T f22 => ⟨hkeep _ T.fr.any, T.newB fun b24 w25 T f25 _ => ⟨hkeep _ T.fr.any, fin T⟩⟩
    · refine T.ab0 (xs := []) (hid.1.ext T.ext) (by omega) fun a c w22 T f22 => ⟨hkeep _ T.fr.any, ?_⟩
      have hk22 := hkeep _ T.fr.any
      refine ⟨?_, ?_⟩
      · refine (S.stepE T.ext).ld1 (j := 14) rfl rfl ⟨hk22, ?_⟩
        exact T.newB fun b24 w25 T f25 _ => ⟨hkeep _ T.fr.any, fin T⟩
      · refine T.newB fun b24 w25 T f25 _ => ⟨hkeep _ T.fr.any, ?_⟩
        have hk25 := hkeep _ T.fr.any
        refine (S.stepE T.ext).ld1 (j := 14) rfl rfl ⟨hk25, ?_⟩
        dsimp only
        exact fin T
end Go.Proofs.Ytlpeoaphdmfjdaa.Vc
/-! The laws FaultBits, FaultSets, FaultClears and FaultWhole of layer 12: each call gives true, and what it read stays. -/
namespace Go.Proofs.Ytlpeoaphdmfjdaa.Vc
open Go Go.Eng Go.RowKit
theorem nilU {w : World} : Ints w .u8 none 0 0 [] := ⟨rfl, Nat.le_refl _, by omega, .inl ⟨rfl, rfl⟩⟩
theorem erase_whole {xs : List Int} (bx : Byt xs) {n : Nat} (hl : xs.length = n) : turn xs (erF xs []) (8 * n) = List.replicate n 255 := by
  refine bits_ext (turn_byt bx _ _) (Byt.replicate (by omega) (by omega) _) (by rw [turn_length, List.length_replicate]; exact hl) fun i hi => ?_
  rw [turn_length] at hi
  rw [hasL_turn bx _ hi (8 * n) (by omega)]
  have hr : hasL (List.replicate n 255) i = true := by
    unfold hasL
    rw [getD_get (by rw [List.length_replicate]; omega), List.getElem_replicate]
    exact bit_255 ⟨i % 8, mod8 i⟩
  rw [hr]
  have hm : mBit [] i = true := rfl
  by_cases h : hasL xs i = true
  · rw [if_neg (fun hh => by have := hh.2; unfold erF at this; rw [h] at this; simp at this), h]
  · have h' : hasL xs i = false := by simpa using h
    rw [if_pos ⟨by omega, by unfold erF; rw [h', hm]; rfl⟩, h']; rfl
theorem hasL_whole {xs ys : List Int} (bx : Byt xs) (by' : Byt ys) {n i : Nat} (hl : xs.length = n) (hi : i < 8 * n) : hasL (andL xs ys) i = if prC xs ys i then false else hasL xs i := by
  rw [hasL_and bx by' (by omega)]
  unfold prC
  cases hasL xs i <;> cases hasL ys i <;> rfl
theorem clear_whole {xs ys : List Int} (bx : Byt xs) (by' : Byt ys) {n : Nat} (hl : xs.length = n) : turn xs (prF xs ys [] false n) (8 * n) = andL xs ys := by
  refine bits_ext (turn_byt bx _ _) (andL_byt _ _) (by rw [turn_length, andL_length]) fun i hi => ?_
  rw [turn_length] at hi
  rw [hasL_turn bx _ hi (8 * n) (by omega), hasL_whole bx by' hl (by omega)]
  have hF : prF xs ys [] false n i = prC xs ys i := by
    unfold prF
    have : mBit [] i = true := rfl
    rw [this]
    cases prC xs ys i <;> rfl
  rw [hF]
  by_cases h : prC xs ys i = true
  · rw [if_pos ⟨by omega, h⟩, if_pos h]
    have : hasL xs i = true := by
      unfold prC at h
      cases hh : hasL xs i
      · rw [hh] at h; simp at h
      · rfl
    rw [this]; rfl
  · rw [if_neg (fun hh => h hh.2), if_neg h]
theorem fail_whole {xs ys ms : List Int} (bx : Byt xs) (by' : Byt ys) {n : Nat} (hl : xs.length = n) : turn xs (prF xs ys ms true n) (8 * n) = andL xs ys ↔ xs = andL xs ys := by
  have hbit : ∀ i, i < 8 * n → hasL (turn xs (prF xs ys ms true n) (8 * n)) i = if i < 8 * n ∧ prF xs ys ms true n i = true then !hasL xs i else hasL xs i := fun i hi => hasL_turn bx _ (by omega) (8 * n) (by omega)
  constructor
  · intro h
    refine bits_ext bx (andL_byt _ _) (andL_length _ _).symm fun i hi => ?_
    rw [hasL_whole bx by' hl (by omega)]
    by_cases hc : prC xs ys i = true
    · exfalso
      obtain ⟨m, hm, hml, hmc⟩ := lastOf_some (c := prC xs ys) (k := 8 * n) (i := i) (by omega) hc
      have h1 := hbit m hm
      have h2 := hasL_whole bx by' hl hm
      rw [h] at h1
      rw [h2, if_pos hmc, if_neg (fun hh => by
        have := hh.2
        unfold prF at this
        rw [hml, decide_eq_true rfl] at this
        simp at this)] at h1
      unfold prC at hmc
      rw [← h1] at hmc
      simp at hmc
    · rw [if_neg hc]
  · intro h
    have hc : ∀ i, i < 8 * n → prC xs ys i = false := fun i hi => by
      have h2 := hasL_whole bx by' hl hi
      rw [← h] at h2
      cases hp : prC xs ys i
      · rfl
      · rw [hp, if_pos rfl] at h2
        unfold prC at hp
        rw [h2] at hp
        simp at hp
    rw [← h]
    refine bits_ext (turn_byt bx _ _) bx (turn_length _ _ _) fun i hi => ?_
    rw [turn_length] at hi
    rw [hbit i (by omega), if_neg (fun hh => by
      have := hh.2
      unfold prF at this
      rw [hc i (by omega)] at this
      simp at this)]
end Go.Proofs.Ytlpeoaphdmfjdaa.Vc
/-! The contracts of layer 13 (nand): a page, programmed. -/
namespace Go.Proofs.Ytlpeoaphdmfjdaa.Vc
open Go Go.Eng Go.RowKit
theorem img_focus {E : Nat → Prop} {w0 w : World} {Rs : List Asr} {a : Option Addr} {n c : Nat} {pre mid post : List Int} (S : Sep E w0 w (OwnA 5 1 a n c (bv8 (pre ++ (mid ++ post))) :: Rs)) (hm : mid ≠ []) :
    ∃ blk tl, a = some ⟨blk, 0, none⟩ ∧ Sep E w0 w (BoxA blk 5 (bv8 pre ++ (bv8 mid ++ (bv8 post ++ tl))) :: Rs) ∧
      ∀ (E' : Nat → Prop) (w0' w' : World) (Rs' : List Asr) (mid' : List Int), mid'.length = mid.length → Sep E' w0' w' (BoxA blk 5 (bv8 pre ++ (bv8 mid' ++ (bv8 post ++ tl))) :: Rs') → Sep E' w0' w' (OwnA 5 1 a n c (bv8 (pre ++ (mid' ++ post))) :: Rs') := by
  obtain ⟨blk, tl, ha, q1, q2, q3, q4, q5, S1⟩ := S.focus (by
    intro h
    have := congrArg List.length h
    rw [List.length_map, List.length_append, List.length_append, List.length_nil] at this
    have : mid.length = 0 := by omega
    exact hm (List.eq_nil_of_length_eq_zero this))
  have e : ∀ m : List Int, bv8 pre ++ (bv8 m ++ (bv8 post ++ tl)) = bv8 (pre ++ (m ++ post)) ++ tl := fun m => by simp [bv8, List.append_assoc]
  refine ⟨blk, tl, ha, by rw [e]; exact S1, fun E' w0' w' Rs' mid' hl S' => ?_⟩
  rw [e] at S'
  subst ha
  have hlen : (bv8 (pre ++ (mid' ++ post))).length = (bv8 (pre ++ (mid ++ post))).length := by simp [bv8, hl]
  exact S'.unfocus (n := n) (c := c) (sz := 1) (by rw [hlen]; exact q1) (by rw [List.length_append, hlen, ← List.length_append]; exact q2) q3 q4 (oneAll.ints _ _)
section
variable {E : Nat → Prop} {w0 w : World} {Rs : List Asr} {q0 q1 : Nat} {e0 e1 : TypeId} {s t : SlV} {was b : List Int}
theorem Prog1_c (S : Sep E w0 w (BoxA q0 e0 [.slice s.a s.n s.c] :: BoxA q1 e1 [.slice t.a t.n t.c] :: Rs)) (hs : Ints w .u8 s.a s.n s.c was) (ht : Ints w .u8 t.a t.n t.c b) (bs : Byt was) (bt : Byt b) (hn : t.n = s.n) (hn2 : s.n ≤ 100000) :
    CallV Try.prog 97 #[.pointer (some ⟨q0, 0, none⟩), .pointer (some ⟨q1, 0, none⟩)] w [.one .sl] fun r w' => Ints w' .u8 r.1.a r.1.n r.1.c (andL was b) ∧ Ext w w' := by
  apply nand_Chip_Program_1.vc
  unfold nand_Chip_Program_1.P
  obtain ⟨ta, tn, tc⟩ := t
  dsimp only at hn ht
  subst hn
  refine S.ld0 rfl rfl (S.ld1 rfl rfl ?_)
  refine (Clear_c hs bs ht bt nilU Byt.nil hn2).mono ?_
  rintro ⟨r1, (r2 : Int), ⟨⟩⟩ w' ⟨h1, -⟩
  dsimp only at h1 ⊢
  rw [clear_whole bs bt hs.len] at h1
  exact ⟨h1.ints, h1.ext⟩
theorem Prog2_c {f : FD} {m : SlV} (S : Sep E w0 w (BoxA q0 e0 [.slice s.a s.n s.c] :: BoxA q1 e1 [.slice t.a t.n t.c] :: Rs)) (hs : Ints w .u8 s.a s.n s.c was) (ht : Ints w .u8 t.a t.n t.c b) (hm : Ints w .u8 m.a m.n m.c f.2.2.1) (bs : Byt was) (bt : Byt b) (bm : Byt f.2.2.1) (hn : t.n = s.n) (hn2 : s.n ≤ 100000) :
    CallV Try.prog 98 #[.agg #[.int .i64 f.1, .bool f.2.1, .slice m.a m.n m.c], .pointer (some ⟨q0, 0, none⟩), .pointer (some ⟨q1, 0, none⟩)] w [.one .sl] fun r w' => Ints w' .u8 r.1.a r.1.n r.1.c (progL was b f.2.2.1 (!f.2.1)) ∧ Ext w w' := by
  apply nand_Chip_Program_2.vc
  unfold nand_Chip_Program_2.P
  obtain ⟨ta, tn, tc⟩ := t
  dsimp only at hn ht
  subst hn
  have T := Sep.start NoB w
  refine T.newB fun b1 w1 T f1 _ => ?_
  have X := T.ext
  have S := S.stepE X
  refine S.ld0 rfl rfl (S.ld1 rfl rfl (T.ld0 rfl rfl ?_))
  refine (Clear_c (hs.ext X) bs (ht.ext X) bt (hm.ext X) bm hn2).mono ?_
  rintro ⟨r1, (r2 : Int), ⟨⟩⟩ w2 ⟨h1, -⟩
  dsimp only at h1 ⊢
  have T := T.stepE h1.ext
  have X2 := T.ext
  have S := S.stepE h1.ext
  refine T.ld0 rfl rfl (cond_of (fun hc => ?_) fun hc => ?_)
  · refine S.ld0 rfl rfl (S.ld1 rfl rfl (T.ld0 rfl rfl ?_))
    refine (Fail_c (hs.ext X2) bs (ht.ext X2) bt (hm.ext X2) bm hn2).mono ?_
    rintro ⟨r3, (r4 : Int), ⟨⟩⟩ w3 ⟨h3, -⟩
    dsimp only at h3 ⊢
    refine ⟨?_, X2.trans h3.ext⟩
    have := h3.ints
    unfold progL
    rw [hc, hs.len]
    exact this
  · refine ⟨?_, X2⟩
    have := h1.ints
    unfold progL
    rw [hc, hs.len]
    exact this
end
theorem turn_len (xs : List Int) (f : Nat → Bool) : ∀ n, (turn xs f n).length = xs.length
  | 0 => rfl
  | n + 1 => by
    unfold turn
    split
    · unfold flip1; rw [List.length_set]; exact turn_len xs f n
    · exact turn_len xs f n
end Go.Proofs.Ytlpeoaphdmfjdaa.Vc
/-! The contracts of layer 13 (nand): a page, programmed. -/
namespace Go.Proofs.Ytlpeoaphdmfjdaa.Vc
open Go Go.Eng Go.RowKit
theorem atF_byt {C : CD} (h : COk C) {f : FD} {n : Int} (hf : atF C.pl n = some f) : Byt f.2.2.1 := (h.pm f (List.mem_of_find?_eq_some hf)).1
theorem COk.mfit {C : CD} (h : COk C) : mFit C.pl := fun f hf => (h.pm f hf).2
def OpR (F : Nat → Prop) (w w' : World) (p : Nat) (y : Lay) (C' : CD) (L : List TOp) (tr : List (Int × Int × Int × List Int × Int)) (Rs : List Asr) : Prop :=
  ∃ (ta : Option Addr) (tc : Nat) (L' : List TOp), L'.map TOp.dat = L.map TOp.dat ++ tr ∧ Sep F w w' (ChipQ p (upT y ta tc) C' L' Rs)
theorem OpR.none {F : Nat → Prop} {w w' : World} {p : Nat} {y : Lay} {C : CD} {L : List TOp} {Rs : List Asr} (S : Sep F w w' (ChipQ p y C L Rs)) : OpR F w w' p y C L [] Rs := ⟨y.T.a, y.T.c, L, by simp, S⟩
theorem refC_eq {C : CD} {bl pa : Int} {n : Nat} (ho : ¬ C.off = true) (hi : inC C bl pa) : refC C bl pa n = if n ≠ szP C.g then 2 else if (blkC C bl).sc = true ∨ 2 ≤ usC C bl pa then 7 else if usC C bl pa = 0 ∧ pa ≤ (blkC C bl).la then 6 else (0 : Int) := by
  unfold refC
  rw [if_neg ho]
  by_cases hn : n = szP C.g
  · rw [if_neg (show ¬ ¬ (inC C bl pa ∧ n = szP C.g) from fun h => h ⟨hi, hn⟩), if_neg (show ¬ n ≠ szP C.g from fun h => h hn)]
  · rw [if_pos (show ¬ (inC C bl pa ∧ n = szP C.g) from fun h => hn h.2), if_pos hn]
def ProgS (F : Nat → Prop) (w w' : World) (p : Nat) (y : Lay) (C : CD) (L : List TOp) (dd : SlP Int) (dS : List (SlP Int)) (bl pa : Int) (blk b18 b3 b1 : Nat) : Prop :=
  Sep F w w' [BoxA b18 56 [.slice (some ⟨blk, ixC C bl pa * szP C.g, none⟩) (szP C.g) (szP C.g)], BoxA b3 56 [.slice dd.a dd.n dd.c], BoxA b1 47 [.int .i64 bl, .int .i64 pa], BoxA p 95 (chipV y C), OwnA 5 1 y.P.a y.P.n y.P.c (bv8 (imgC C)),
    OwnA 3 1 y.U.a y.U.n y.U.c (iv ((usL C).set (ixC C bl pa) (usC C bl pa + 1))), OwnA 3 1 y.A.a y.A.n y.A.c (iv ((laL C).set bl.toNat (max (blkC C bl).la pa))), OwnA 3 1 y.S.a y.S.n y.S.c (iv (scL C)), OwnA 3 1 y.E.a y.E.n y.E.c (iv (erL C)), RdT LF y.F, OwnA 139 5 y.T.a C.ops y.T.c (L.flatMap TOp.vs), RdL (L.map (·.d)), RdL dS]
theorem iv_set (l : List Int) (i : Nat) (v : Int) : (iv l).set i (.int .i64 v) = iv (l.set i v) := (List.map_set).symm
theorem Program13_c {F : Nat → Prop} {w : World} {p : Nat} {y : Lay} {C : CD} {L : List TOp} {dd : SlP Int} {dS : List (SlP Int)} {bl pa : Int} (hC : COk C) (hF : fds y.F = C.pl) (hdn : dd.n ≤ 100000) (S : Sep F w w (ChipQ p y C L [RdL dS])) (hdS : dd ∈ dS := by simp) :
    CallV Try.prog 56 #[.pointer (some ⟨p, 0, none⟩), .agg #[.int .i64 bl, .int .i64 pa], .slice dd.a dd.n dd.c] w [.one (.int .i64)] fun r w' =>
      r.1 = (progC C bl pa dd.l).2 ∧ OpR F w w' p y (progC C bl pa dd.l).1 L (if refC C bl pa dd.l.length = 0 then [(1, bl, pa, dd.l, (codeC C).1)] else []) [RdL dS] := by
  have hdl : dd.l.length = dd.n := by
    obtain ⟨F1, h, _⟩ := S.get (i := 9) rfl
    exact (Ty.ints (h dd hdS)).len
  have bdd : Byt dd.l := by
    obtain ⟨F1, h, _⟩ := S.get (i := 9) rfl
    exact Ty.byt (h dd hdS)
  have no : ∀ {w' : World} {e : Int}, refC C bl pa dd.l.length = e → e ≠ 0 → Sep F w w' (ChipQ p y C L [RdL dS]) → e = (progC C bl pa dd.l).2 ∧ OpR F w w' p y (progC C bl pa dd.l).1 L (if refC C bl pa dd.l.length = 0 then [(1, bl, pa, dd.l, (codeC C).1)] else []) [RdL dS] := fun he h0 S => by
    unfold progC
    rw [he, if_neg h0, if_neg h0]
    exact ⟨rfl, .none S⟩
  apply nand_Chip_Program.vc
  unfold nand_Chip_Program.P
  refine S.newB fun b1 w1 S f1 _ => ?_
  refine S.newB fun b3 w3 S f3 _ => ?_
  refine (On_c hC (S.sel [2] rfl)).mono ?_
  rintro ⟨(r : Bool), ⟨⟩⟩ w4 ⟨h4, rfl⟩
  dsimp only at h4 ⊢
  subst h4
  by_cases ho : C.off = true
  · rw [ho]
    refine cond_t rfl (no (by unfold refC; rw [if_pos ho]) (by decide) (S.sel [2, 2, 2, 2, 2, 2, 2, 2, 2, 2] rfl))
  refine cond_f (by simpa using ho) ?_
  refine S.reg fun D hD hkeep S1 T => ?_
  refine ⟨hD _ S.bl2, S1.lb2 (o := 0) rfl ⟨hD _ S.bl1, S1.la1 rfl ?_⟩⟩
  refine (Index_c (g := C.g) (b := bl) (p := pa)).mono ?_
  rintro ⟨(ix : Int), (e : Int), ⟨⟩⟩ w5 ⟨h5, h5', x5⟩
  dsimp only at h5 h5' ⊢
  have T3 := T.stepE x5
  refine ⟨hkeep _ T3.fr, ?_⟩
  have S := S1.stepE x5
  clear S1 T T3 hkeep hD
  by_cases hi : inC C bl pa
  case neg =>
    rw [if_neg (fun h => hi h.2)] at h5'
    subst h5'
    refine cond_t rfl (no (by unfold refC; rw [if_neg ho, if_pos (fun h => hi h.1)]) (by decide) (S.sel [2, 2, 2, 2, 2, 2, 2, 2, 2, 2] rfl))
  have hok : plOk C.g bl pa := ⟨hC.g, hi⟩
  rw [if_pos hok] at h5 h5'
  obtain ⟨i1, i2, i3⟩ := hC.ix hi
  rw [← i1] at h5
  subst h5; subst h5'
  refine cond_f rfl (S.la1 rfl (S.ld0 rfl rfl ?_))
  refine (refused_c (n := dd.n) hC hi (S.sel [2, 2, 2, 2, 2, 2, 2, 2, 2, 2] rfl)).mono ?_
  rintro ⟨(e : Int), ⟨⟩⟩ w6 ⟨h6, x6⟩
  dsimp only at h6 ⊢
  rw [← refC_eq ho hi, ← hdl] at h6
  subst h6
  have S := S.stepE x6
  refine cond_ne (fun h => no rfl h (S.sel [2, 2, 2, 2, 2, 2, 2, 2, 2, 2] rfl)) fun href => ?_
  have hSC := S.sel [2, 2, 2, 2, 2, 2, 2, 2, 2, 2] rfl
  obtain ⟨blk, hP⟩ := chip_adr hC hSC
  obtain ⟨l1, l1', l2, l2', l3, l4, l5, l6⟩ := chip_len hC hSC
  obtain ⟨⟨n1, n2⟩, ⟨n3, n4⟩, ⟨n5, n6⟩, n7, n8⟩ := hC.num
  have hdz : dd.n = szP C.g := by
    rw [refC_eq ho hi, hdl] at href
    by_cases h : dd.n = szP C.g
    · exact h
    · rw [if_pos h] at href; cases href
  have hu2 : 0 ≤ usC C bl pa ∧ usC C bl pa < 2 := by
    rw [refC_eq ho hi, hdl, if_neg (fun h => h hdz)] at href
    have := (hC.us hi).2
    by_cases h : (blkC C bl).sc = true ∨ 2 ≤ usC C bl pa
    · rw [if_pos h] at href; cases href
    · refine ⟨this.1, ?_⟩
      have : ¬ 2 ≤ usC C bl pa := fun k => h (.inr k)
      omega
  refine (page_c (k := ixC C bl pa) hC i2 hP (by omega) hSC).mono ?_
  rintro ⟨⟨ra, rn, rc⟩, ⟨⟩⟩ w7 ⟨h7, x7⟩
  cases h7
  dsimp only
  have S := S.stepE x7
  refine S.newB fun b18 w8 S f8 _ => ?_
  refine S.st0 (by rfl) fun w9 S f9 => ?_
  simp only [Addr.add_lit, Nat.zero_add]
  have hu : (0 : Int) ≤ ((ixC C bl pa : Nat) : Int) ∧ ((ixC C bl pa : Nat) : Int) < (y.U.n : Int) := by rw [l2]; omega
  have ha : (0 : Int) ≤ bl ∧ bl < (y.A.n : Int) := by rw [l3]; have := hi.1; omega
  refine S.ld3 (j := 8) rfl rfl ((S.ints 5 rfl).idx hu.1 hu.2 ?_)
  have eU : (usL C).getD (((ixC C bl pa : Nat) : Int)).toNat 0 = usC C bl pa := by rw [Int.toNat_natCast]; exact usL_get hC hi
  rw [eU]
  refine ⟨Rng.i64 (by omega) (by omega), ?_⟩
  refine S.put (i := 5) rfl hu.1 hu.2 (v := .int .i64 (usC C bl pa + 1)) rfl fun w10 S f10 => ?_
  rw [Int.toNat_natCast] at S
  dsimp only [List.set_cons_succ, List.set_cons_zero] at S
  rw [iv_set] at S
  refine ⟨fun (_ : Unit) w' => ProgS F w w' p y C L dd dS bl pa blk b18 b3 b1, ?_, ?_⟩
  case refine_2 =>
    have hnA := S.neO 2 6 (by decide) rfl rfl
    have hnp := S.neO 3 6 (by decide) rfl rfl
    refine S.regX (fun k => ∃ q : Addr, y.A.a = some q ∧ k = q.block) fun D hD hkeep S T => ?_
    have hb1 : D b1 := hD _ S.bl2 (fun ⟨q, hq, h⟩ => hnA q hq h)
    have k0 := hkeep _ (Fr.refl _ _)
    have hI := S.ints 6 rfl
    obtain ⟨q, hq, hqb, hcell⟩ := hI.at ha.1 ha.2
    rw [laL_get hC hi.1] at hcell
    have fin : (0 ≤ bl ∧ bl < (y.A.n : Int)) ∧ ∃ q : Addr, y.A.a = some q ∧ StoreV w10.drew (q.add (bl.toNat * 1)) [.int .i64 (max (blkC C bl).la pa)] fun w44 => KeepOn D w10.drew w44 ∧ ProgS F w w44 p y C L dd dS bl pa blk b18 b3 b1 := S.put (i := 6) rfl ha.1 ha.2 (v := .int .i64 (max (blkC C bl).la pa)) rfl fun w44 S f44 => ⟨hkeep _ f44, (by
      dsimp only [List.set_cons_succ, List.set_cons_zero] at S
      rw [iv_set] at S
      exact S)⟩
    refine ⟨hb1, S.ld2 (j := 0) rfl rfl ⟨hb1, S.ld2 (j := 0) rfl rfl ⟨hb1, S.ld2 (j := 1) rfl rfl ⟨?_, ?_⟩⟩⟩⟩
    · refine S.ld3 (j := 9) rfl rfl ⟨k0, S.ld3 (j := 9) rfl rfl ⟨k0, ha, q, hq, (blkC C bl).la, hcell, k0, ?_⟩⟩
      intro z hz
      subst hz
      exact fin
    · refine S.ld3 (j := 9) rfl rfl ⟨k0, ha, q, hq, ?_, ?_⟩
      · refine S.ld3 (j := 9) rfl rfl ⟨k0, (blkC C bl).la, hcell, k0, ?_⟩
        intro z hz
        subst hz
        exact fin
      · refine ⟨(blkC C bl).la, hcell, k0, ?_⟩
        intro z hz
        subst hz
        exact S.ld3 (j := 9) rfl rfl ⟨k0, fin⟩
  rintro ⟨⟩ w11 S
  unfold ProgS at S
  refine S.la2 rfl (S.ld1 rfl rfl (S.ld0 rfl rfl ?_))
  dsimp only
  obtain ⟨pre, post, g1, g2, g3⟩ := imgC_split hC hi
  have hlp := (hC.page hi).2.1
  have hbp := (hC.page hi).2.2
  have hbl := hC.blk hi.1
  rw [g1] at S
  have hne : pgC13 C bl pa ≠ [] := fun h => by rw [h] at hlp; simp at hlp; omega
  obtain ⟨blk2, tl, ha2, S2, back⟩ := img_focus (S.sel [4, 3, 7, 7, 7, 7, 0, 0, 0, 0, 0, 0, 0] rfl) hne
  rw [hP] at ha2
  cases ha2
  have hol : ixC C bl pa * szP C.g = (bv8 pre).length := by rw [List.length_map, g2]
  have hI : Ints w11 .u8 (some ⟨blk, ixC C bl pa * szP C.g, none⟩) (szP C.g) (szP C.g) (pgC13 C bl pa) := S2.intsM 0 rfl hol hlp.symm (Nat.le_refl _) (by omega)
  have hdI : Ints w11 .u8 dd.a dd.n dd.c dd.l := by
    obtain ⟨F1, h, _⟩ := S2.get (i := 5) rfl
    exact Ty.ints (h dd hdS)
  have hcap := S2.sel [6, 6] rfl
  have hlA : (andL (pgC13 C bl pa) dd.l).length = (pgC13 C bl pa).length := by simp [andL]
  refine Sep.call [BoxA p 95 (chipV y C), BoxA blk 5 (bv8 pre ++ (bv8 (pgC13 C bl pa) ++ (bv8 post ++ tl))), RdT LF y.F, OwnA 139 5 y.T.a C.ops y.T.c (L.flatMap TOp.vs), RdL (L.map (·.d)), RdL dS] (Ts := _) (S2.sel [1, 0, 0, 0, 0, 0, 0, 0, 0, 0, 0, 0, 0] rfl)
    (fun F S => done_c (whole := andL (pgC13 C bl pa) dd.l) (torn := fun f => progL (pgC13 C bl pa) dd.l f.2.2.1 (!f.2.1)) hF hC.mfit hC.ops (by simpa using ho) hol (by omega) hlp.symm hlA (fun f => by unfold progL; rw [turn_len]) (by kernel_rfl) (by kernel_rfl)
      (fun w' x' => Prog1_c (s := ⟨some ⟨blk, ixC C bl pa * szP C.g, none⟩, szP C.g, szP C.g⟩) (t := ⟨dd.a, dd.n, dd.c⟩) (hcap.stepE x') (hI.ext x') (hdI.ext x') hbp bdd hdz (by dsimp only; omega))
      (fun w' f s x' hat hm => Prog2_c (f := f) (m := s) (s := ⟨some ⟨blk, ixC C bl pa * szP C.g, none⟩, szP C.g, szP C.g⟩) (t := ⟨dd.a, dd.n, dd.c⟩) (hcap.stepE x') (hI.ext x') (hdI.ext x') hm hbp bdd (atF_byt hC hat) hdz (by dsimp only; omega)) S hdS) ?_
  rintro F2 bk ⟨(e : Int), ⟨⟩⟩ w12 ⟨h12, ta, tc, oo, hoo, S3⟩
  dsimp only at h12 ⊢
  subst h12
  have S4 := bk _ _ S3
  have hnew : newX C (andL (pgC13 C bl pa) dd.l) (fun f => progL (pgC13 C bl pa) dd.l f.2.2.1 (!f.2.1)) = if (codeC C).1 = 0 then andL (pgC13 C bl pa) dd.l else progL (pgC13 C bl pa) dd.l (codeC C).2.1 (!(codeC C).2.2) := by
    unfold newX codeC
    cases atF C.pl (C.ops : Int) with
    | none => rfl
    | some f =>
      dsimp only
      rw [if_neg]
      split <;> omega
  rw [hnew] at S4
  have hlq : (if (codeC C).1 = 0 then andL (pgC13 C bl pa) dd.l else progL (pgC13 C bl pa) dd.l (codeC C).2.1 (!(codeC C).2.2)).length = (pgC13 C bl pa).length := by
    split
    · exact hlA
    · unfold progL; rw [turn_len]
  have S5 := (back _ _ _ _ _ hlq (S4.sel [1, 0, 0, 0, 0, 0, 3, 3, 3, 3] rfl)).sel [1, 0, 4, 4, 4, 4, 0, 0, 0, 0] rfl
  unfold progC
  rw [if_pos href, if_pos href]
  refine ⟨rfl, ta, tc, L ++ [oo], by rw [List.map_append, List.map_singleton, hoo], ?_⟩
  have hlt : bl.toNat < C.bs.length := by rw [hC.bl]; have := hi.1; omega
  have e1 := g3 (if (codeC C).1 = 0 then andL (pgC13 C bl pa) dd.l else progL (pgC13 C bl pa) dd.l (codeC C).2.1 (!(codeC C).2.2)) (progX C bl pa dd.l) (by
    unfold progX
    dsimp only
    rw [List.getD_eq_getElem?_getD, List.getElem?_set_self hlt]
    rfl)
  have e2 : usL (progX C bl pa dd.l) = (usL C).set (ixC C bl pa) (usC C bl pa + 1) := fl_put (m := C.g.p.toNat) (fun x hx => (hC.bo x hx).ul) hbl.1 (by have := hi.2; omega) rfl
  have e3 : laL (progX C bl pa dd.l) = (laL C).set bl.toNat (max (blkC C bl).la pa) := List.map_set
  have e4 : scL (progX C bl pa dd.l) = scL C := map_set_same hbl.1 rfl
  have e5 : erL (progX C bl pa dd.l) = erL C := map_set_same hbl.1 rfl
  have e6 : (L ++ [oo]).map (·.d) = L.map (·.d) ++ [oo.d] := List.map_append
  refine chip_mk (y := upT y ta tc) (C := progX C bl pa dd.l) (L := L ++ [oo]) (Rs := [RdL dS]) ?_ e1 e2 e3 e4 e5
  rw [e6]
  exact S5
theorem progX_ok {C : CD} (hC : COk C) {bl pa : Int} {b : List Int} (hr : refC C bl pa b.length = 0) (bb : Byt b) (ho : C.ops < 1000000) : COk (progX C bl pa b) := by
  have hoff : ¬ C.off = true := fun h => by unfold refC at hr; rw [if_pos h] at hr; cases hr
  have hi : inC C bl pa := by
    unfold refC at hr
    rw [if_neg hoff] at hr
    by_cases h : inC C bl pa ∧ b.length = szP C.g
    · exact h.1
    · rw [if_pos h] at hr; cases hr
  have hb := (hC.blk hi.1).2
  obtain ⟨hp1, hp2, hp3⟩ := hC.page hi
  have hus := (hC.us hi).2
  have hu2 : usC C bl pa < 2 := by
    rw [refC_eq hoff hi] at hr
    by_cases hn : b.length ≠ szP C.g
    · rw [if_pos hn] at hr; cases hr
    rw [if_neg hn] at hr
    by_cases h : (blkC C bl).sc = true ∨ 2 ≤ usC C bl pa
    · rw [if_pos h] at hr; cases hr
    · have : ¬ 2 ≤ usC C bl pa := fun k => h (.inr k)
      omega
  have hnew : ∀ q : List Int, (q = andL (pgC13 C bl pa) b ∨ ∃ ms fl, q = progL (pgC13 C bl pa) b ms fl) → q.length = szP C.g ∧ Byt q := fun q hq => by
    rcases hq with rfl | ⟨ms, fl, rfl⟩
    · exact ⟨by rw [← hp2]; simp [andL], andL_byt _ _⟩
    · exact ⟨by unfold progL; rw [turn_len]; exact hp2, turn_byt hp3 _ _⟩
  have hq := pg_set_ok hC hi (hnew (if (codeC C).1 = 0 then andL (pgC13 C bl pa) b else progL (pgC13 C bl pa) b (codeC C).2.1 (!(codeC C).2.2)) (by
    split
    · exact .inl rfl
    · exact .inr ⟨_, _, rfl⟩))
  have hpa := hi.2
  refine hC.upd (by omega) (by omega) ⟨hq.1, hq.2, by dsimp only; rw [List.length_set]; exact hb.ul, fun u hu => ?_, ?_, hb.er.1, by dsimp only; have := hb.er.2; omega⟩
  · rcases List.mem_or_eq_of_mem_set hu with h | h
    · exact hb.ub u h
    · rw [h]; omega
  · have := hb.la
    dsimp only
    omega
end Go.Proofs.Ytlpeoaphdmfjdaa.Vc
/-! The contracts of layer 13 (nand): a block's bytes; closures of erase and scrub. -/
namespace Go.Proofs.Ytlpeoaphdmfjdaa.Vc
open Go Go.Eng Go.RowKit
theorem int_focus {E : Nat → Prop} {w0 w : World} {Rs : List Asr} {e : TypeId} {k : IntKind} {a : Option Addr} {n c : Nat} {pre mid post : List Int} (S : Sep E w0 w (OwnA e 1 a n c ((pre ++ (mid ++ post)).map (Value.int k)) :: Rs)) (hm : mid ≠ []) :
    ∃ blk tl, a = some ⟨blk, 0, none⟩ ∧ Sep E w0 w (BoxA blk e (pre.map (Value.int k) ++ (mid.map (Value.int k) ++ (post.map (Value.int k) ++ tl))) :: Rs) ∧
      ∀ (E' : Nat → Prop) (w0' w' : World) (Rs' : List Asr) (mid' : List Int), mid'.length = mid.length → Sep E' w0' w' (BoxA blk e (pre.map (Value.int k) ++ (mid'.map (Value.int k) ++ (post.map (Value.int k) ++ tl))) :: Rs') → Sep E' w0' w' (OwnA e 1 a n c ((pre ++ (mid' ++ post)).map (Value.int k)) :: Rs') := by
  obtain ⟨blk, tl, ha, q1, q2, q3, q4, q5, S1⟩ := S.focus (by
    intro h
    have := congrArg List.length h
    rw [List.length_map, List.length_append, List.length_append, List.length_nil] at this
    have : mid.length = 0 := by omega
    exact hm (List.eq_nil_of_length_eq_zero this))
  have ee : ∀ m : List Int, pre.map (Value.int k) ++ (m.map (Value.int k) ++ (post.map (Value.int k) ++ tl)) = (pre ++ (m ++ post)).map (Value.int k) ++ tl := fun m => by simp [List.append_assoc]
  refine ⟨blk, tl, ha, by rw [ee]; exact S1, fun E' w0' w' Rs' mid' hl S' => ?_⟩
  rw [ee] at S'
  subst ha
  have hlen : ((pre ++ (mid' ++ post)).map (Value.int k)).length = ((pre ++ (mid ++ post)).map (Value.int k)).length := by simp [hl]
  exact S'.unfocus (n := n) (c := c) (sz := 1) (by rw [hlen]; exact q1) (by rw [List.length_append, hlen, ← List.length_append]; exact q2) q3 q4 (oneAll.ints _ _)
theorem _root_.Go.Eng.Sep.clM {E : Nat → Prop} {w0 w : World} {Rs : List Asr} (i : Nat) {b o : Nat} {e : TypeId} {pre xs post : List Value} (S : Sep E w0 w Rs) (hi : Rs[i]? = some (BoxA b e (pre ++ (xs ++ post)))) (ho : o = pre.length) {k : Nat} {z : Value} (hk : k = xs.length) (h1 : z.oneCell' = true) {K : World → Prop}
    (hK : ∀ w', Sep E w0 w' (Rs.set i (BoxA b e (pre ++ (List.replicate k z ++ post)))) → Fr (fun k => k = b) w w' → K w') : ClearV w (some ⟨b, o, none⟩) k [z] K := by
  have e1 : (List.replicate k [z]).flatten = List.replicate k z := by
    clear hK hk
    induction k with
    | zero => rfl
    | succ k ih => rw [List.replicate_succ, List.flatten_cons, ih]; rfl
  refine ⟨fun u hu => by rw [List.mem_singleton.1 hu]; exact h1, .inr ⟨_, rfl, ?_⟩⟩
  rw [e1]
  refine S.stM0 i hi ho (news := List.replicate k z) (by rw [List.length_replicate]; omega) fun w' S' f => hK w' ?_ f
  rw [List.length_replicate, hk, List.drop_length, List.append_nil] at S'
  rw [hk]
  exact S'
abbrev bszC (C : CD) : Nat := C.g.p.toNat * szP C.g
abbrev allC (C : CD) (n : Int) : List Int := (blkC C n).pg.flatten
theorem flatten_len {l : List (List Int)} {m : Nat} (h : ∀ x ∈ l, x.length = m) : l.flatten.length = l.length * m := by
  have := fl_len (f := id) h
  rwa [List.flatMap_id] at this
theorem BOk.all {g : Geo} {m : Nat} {x : BD} (h : BOk g m x) : x.pg.flatten.length = g.p.toNat * szP g ∧ Byt x.pg.flatten := by
  refine ⟨by rw [flatten_len fun q hq => (h.pb q hq).1, h.pl], fun v hv => ?_⟩
  obtain ⟨q, hq, hv⟩ := List.mem_flatten.1 hv
  exact (h.pb q hq).2 v hv
theorem imgC_blk {C : CD} (h : COk C) {n : Int} (hn : 0 ≤ n ∧ n < C.g.b) : ∃ pre post, imgC C = pre ++ (allC C n ++ post) ∧ pre.length = n.toNat * bszC C ∧ ∀ (x : BD) (C' : CD), C'.bs = C.bs.set n.toNat x → imgC C' = pre ++ (x.pg.flatten ++ post) := by
  have hb := (h.blk hn).1
  refine ⟨(C.bs.take n.toNat).flatMap (fun x : BD => x.pg.flatten), (C.bs.drop (n.toNat + 1)).flatMap (fun x : BD => x.pg.flatten), fl_split (f := fun x : BD => x.pg.flatten) hb, ?_, fun x C' hC => ?_⟩
  · exact fl_take (fun x hx => (h.bo x hx).all.1) (by rw [h.bl]; omega)
  · unfold imgC
    rw [hC]
    exact fl_set (f := fun x : BD => x.pg.flatten) hb
theorem cutL_flat {all : List Int} {p z : Nat} (hp : 0 < p) (h : all.length = p * z) : (cutL all p).flatten = all ∧ (cutL all p).length = p ∧ ∀ q ∈ cutL all p, q.length = z := by
  have hz : all.length / p = z := by rw [h]; exact Nat.mul_div_cancel_left z hp
  refine ⟨?_, by simp [cutL], fun q hq => ?_⟩
  · unfold cutL
    rw [hz, chunks_join, ← h, List.take_length]
  · obtain ⟨i, hi, rfl⟩ := List.mem_map.1 hq
    have hi := List.mem_range.1 hi
    have : (i + 1) * z ≤ p * z := Nat.mul_le_mul_right _ hi
    rw [Nat.add_mul, Nat.one_mul] at this
    rw [hz, List.length_take, List.length_drop, h]
    omega
theorem cutL_byt {all : List Int} {p : Nat} (h : Byt all) : ∀ q ∈ cutL all p, Byt q := fun q hq => by
  obtain ⟨i, -, rfl⟩ := List.mem_map.1 hq
  exact (h.drop _).take _
section
variable {E : Nat → Prop} {w0 w : World} {Rs : List Asr} {p : Nat} {y : Lay} {C : CD} {L : List TOp}
theorem block_c {n : Int} {blk : Nat} (hC : COk C) (hn : 0 ≤ n ∧ n < C.g.b) (hP : y.P.a = some ⟨blk, 0, none⟩) (hc : C.g.b.toNat * C.g.p.toNat * szP C.g ≤ y.P.c) (S : Sep E w0 w (BoxA p 95 (chipV y C) :: Rs)) :
    CallV Try.prog 81 #[.pointer (some ⟨p, 0, none⟩), .int .i64 n] w [.one .sl] fun r w' => r.1 = (⟨some ⟨blk, n.toNat * bszC C, none⟩, bszC C, bszC C⟩ : SlV) ∧ Ext w w' := by
  apply nand_Chip_block.vc
  unfold nand_Chip_block.P
  simp only [Addr.add_lit, Nat.zero_add]
  obtain ⟨⟨n1, n2⟩, ⟨n3, n4⟩, ⟨n5, n6⟩, n7, n8⟩ := hC.num
  obtain ⟨k, rfl⟩ : ∃ k : Nat, n = (k : Int) := ⟨n.toNat, by omega⟩
  have hk : k < C.g.b.toNat := by omega
  have m0 : C.g.b.toNat * C.g.p.toNat * szP C.g = C.g.b.toNat * bszC C := Nat.mul_assoc _ _ _
  have m1 : (k + 1) * bszC C ≤ C.g.b.toNat * bszC C := Nat.mul_le_mul_right _ hk
  have m2 : bszC C ≤ 20 * 216 := Nat.mul_le_mul (by omega) (by omega)
  have m3 : C.g.b.toNat * bszC C ≤ 16 * (20 * 216) := Nat.mul_le_mul (by omega) m2
  have m4 : (k + 1) * bszC C = k * bszC C + bszC C := by rw [Nat.add_mul, Nat.one_mul]
  have m5 : 0 < bszC C := Nat.mul_pos (by omega) (by omega)
  have e0 : C.g.p * (C.g.s + 88) = ((bszC C : Nat) : Int) := by rw [← n8]; show _ = ((C.g.p.toNat * szP C.g : Nat) : Int); push_cast; rw [Int.toNat_of_nonneg (show 0 ≤ C.g.p by omega)]
  have e1 : (k : Int) * (C.g.p * (C.g.s + 88)) = ((k * bszC C : Nat) : Int) := by rw [e0]; push_cast; rfl
  have e2 : ((k : Int) + 1) * (C.g.p * (C.g.s + 88)) = (((k + 1) * bszC C : Nat) : Int) := by rw [e0]; push_cast; rfl
  rw [Int.toNat_natCast]
  generalize hz : bszC C = z at *
  refine S.reg fun D hD hkeep S T => ?_
  have hb := hD _ S.bl0
  refine ⟨hb, S.ld0 (j := 1) rfl rfl ⟨hb, S.ld0 (j := 6) rfl rfl ⟨by rw [e0]; exact Rng.i64 (by omega) (by omega), S.ld0 (j := 7) rfl rfl ⟨by rw [e1]; exact Rng.i64 (by omega) (by omega), Rng.i64 (by omega) (by omega), by rw [e2]; exact Rng.i64 (by omega) (by omega), Rng.i64 (by omega) (by omega), by rw [e2]; exact Rng.i64 (by omega) (by omega),
    ⟨by rw [e1]; omega, by rw [e1, e2]; omega, by omega, by rw [e2]; dsimp only; omega⟩, ?_⟩⟩⟩⟩
  intro a6 ha6
  rw [e1, e2] at ha6 ⊢
  rw [Int.toNat_natCast, Int.toNat_natCast, if_neg (by omega), hP] at ha6
  refine ⟨?_, Ext.drew _⟩
  rw [ha6, Int.toNat_natCast, Int.toNat_natCast]
  have e3 : (⟨blk, 0, none⟩ : Addr).add (k * z * 1) = ⟨blk, k * z, none⟩ := by simp [Addr.add_lit]
  show (⟨some ((⟨blk, 0, none⟩ : Addr).add (k * z * 1)), _, _⟩ : SlV) = _
  rw [e3, show (k + 1) * z - k * z = z by omega]
variable {q0 q1 : Nat} {e0 e1 : TypeId} {s t : SlV} {was b : List Int}
theorem Erase2_c (S : Sep E w0 w (BoxA q0 e0 [.slice s.a s.n s.c] :: Rs)) (hs : Ints w .u8 s.a s.n s.c was) (bs : Byt was) (hn2 : s.n ≤ 60000) :
    CallV Try.prog 84 #[.pointer (some ⟨q0, 0, none⟩)] w [.one .sl] fun r w' => Ints w' .u8 r.1.a r.1.n r.1.c (List.replicate s.n 255) ∧ Ext w w' := by
  apply nand_Chip_Erase_2.vc
  unfold nand_Chip_Erase_2.P
  refine S.ld0 rfl rfl ?_
  refine (Set_c hs bs nilU Byt.nil hn2).mono ?_
  rintro ⟨r1, ⟨⟩⟩ w' h1
  rw [erase_whole bs hs.len] at h1
  exact ⟨h1.ints, h1.ext⟩
theorem Erase1_c {f : FD} {m : SlV} (S : Sep E w0 w (BoxA q0 e0 [.slice s.a s.n s.c] :: Rs)) (hs : Ints w .u8 s.a s.n s.c was) (hm : Ints w .u8 m.a m.n m.c f.2.2.1) (bs : Byt was) (bm : Byt f.2.2.1) (hn2 : s.n ≤ 60000) :
    CallV Try.prog 82 #[.agg #[.int .i64 f.1, .bool f.2.1, .slice m.a m.n m.c], .pointer (some ⟨q0, 0, none⟩)] w [.one .sl] fun r w' => Ints w' .u8 r.1.a r.1.n r.1.c (eraL was f.2.2.1) ∧ Ext w w' := by
  apply nand_Chip_Erase_1.vc
  unfold nand_Chip_Erase_1.P
  have T := Sep.start NoB w
  refine T.newB fun b1 w1 T f1 _ => ?_
  have X := T.ext
  have S := S.stepE X
  refine S.ld0 rfl rfl (T.ld0 rfl rfl ?_)
  refine (Set_c (hs.ext X) bs (hm.ext X) bm hn2).mono ?_
  rintro ⟨r1, ⟨⟩⟩ w2 h1
  refine ⟨?_, X.trans h1.ext⟩
  have := h1.ints
  unfold eraL
  rw [hs.len]
  exact this
theorem Scrub1_c (S : Sep E w0 w (BoxA q0 e0 [.slice s.a s.n s.c] :: Rs)) (hs : Ints w .u8 s.a s.n s.c was) :
    CallV Try.prog 87 #[.pointer (some ⟨q0, 0, none⟩)] w [.one .sl] fun r w' => Ints w' .u8 r.1.a r.1.n r.1.c was ∧ Ext w w' := by
  apply nand_Chip_Scrub_1.vc
  unfold nand_Chip_Scrub_1.P
  exact S.ld0 rfl rfl ⟨hs, Ext.refl _⟩
theorem Scrub2_c {f : FD} {m : SlV} (S : Sep E w0 w (BoxA q0 e0 [.slice s.a s.n s.c] :: BoxA q1 e1 [.slice t.a t.n t.c] :: Rs)) (hs : Ints w .u8 s.a s.n s.c was) (ht : Ints w .u8 t.a t.n t.c b) (hm : Ints w .u8 m.a m.n m.c f.2.2.1) (bs : Byt was) (bt : Byt b) (bm : Byt f.2.2.1) (hn : t.n = s.n) (hn2 : s.n ≤ 100000) :
    CallV Try.prog 88 #[.agg #[.int .i64 f.1, .bool f.2.1, .slice m.a m.n m.c], .pointer (some ⟨q0, 0, none⟩), .pointer (some ⟨q1, 0, none⟩)] w [.one .sl] fun r w' => Ints w' .u8 r.1.a r.1.n r.1.c (progL was b f.2.2.1 false) ∧ Ext w w' := by
  apply nand_Chip_Scrub_2.vc
  unfold nand_Chip_Scrub_2.P
  obtain ⟨ta, tn, tc⟩ := t
  dsimp only at hn ht
  subst hn
  have T := Sep.start NoB w
  refine T.newB fun b1 w1 T f1 _ => ?_
  have X := T.ext
  have S := S.stepE X
  refine S.ld0 rfl rfl (S.ld1 rfl rfl (T.ld0 rfl rfl ?_))
  refine (Clear_c (hs.ext X) bs (ht.ext X) bt (hm.ext X) bm hn2).mono ?_
  rintro ⟨r1, (r2 : Int), ⟨⟩⟩ w2 ⟨h1, -⟩
  dsimp only at h1 ⊢
  refine ⟨?_, X.trans h1.ext⟩
  have := h1.ints
  unfold progL
  rw [hs.len]
  exact this
end
end Go.Proofs.Ytlpeoaphdmfjdaa.Vc
/-! The contracts of layer 13 (nand): a block, scrubbed or erased. -/
namespace Go.Proofs.Ytlpeoaphdmfjdaa.Vc
open Go Go.Eng Go.RowKit
abbrev noD : SlP Int := ⟨none, 0, 0, []⟩
theorem TB_nil0 {w : World} {F : Nat → Prop} : TB.rd w F noD := ⟨rfl, Nat.le_refl _, Nat.zero_le _, .inl ⟨rfl, rfl⟩, fun y hy => (List.not_mem_nil hy).elim⟩
theorem _root_.Go.Eng.Sep.nilD {E : Nat → Prop} {w0 w : World} {Rs : List Asr} (S : Sep E w0 w Rs) : Sep E w0 w (RdL [noD] :: Rs) :=
  S.push (F := NoB) (Fr.refl _ _) (fun x hx => by rw [List.mem_singleton.1 hx]; exact TB_nil0) fun _ x => x.elim
theorem rep_flat (n : Nat) (v : Value) : (List.replicate n [v]).flatten = List.replicate n v := by
  induction n with
  | zero => rfl
  | succ n ih => rw [List.replicate_succ, List.flatten_cons, ih]; rfl
theorem may_zero {C : CD} {n : Int} (h : mayC C n = 0) : C.off = false ∧ 0 ≤ n ∧ n < C.g.b := by
  unfold mayC at h
  split at h
  · cases h
  · rename_i ho
    split at h
    · cases h
    · rename_i hn
      exact ⟨by simpa using ho, Decidable.not_not.1 hn⟩
theorem Scrub13_c {F : Nat → Prop} {w : World} {p : Nat} {y : Lay} {C : CD} {L : List TOp} {n : Int} (hC : COk C) (hF : fds y.F = C.pl) (S : Sep F w w (ChipP p y C L)) :
    CallV Try.prog 50 #[.pointer (some ⟨p, 0, none⟩), .int .i64 n] w [.one (.int .i64)] fun r w' =>
      r.1 = (scrC C n).2 ∧ OpR F w w' p y (scrC C n).1 L (if mayC C n = 0 then [(3, n, 0, [], (codeC C).1)] else []) [] := by
  apply nand_Chip_Scrub.vc
  unfold nand_Chip_Scrub.P
  refine (may_c (n := n) hC S).mono ?_
  rintro ⟨(e : Int), ⟨⟩⟩ w1 ⟨h1, rfl⟩
  dsimp only at h1 ⊢
  subst h1
  refine cond_ne (fun h => ?_) fun hmay => ?_
  · unfold scrC
    rw [if_neg h, if_neg h]
    exact ⟨rfl, .none S⟩
  obtain ⟨hoff, hn⟩ := may_zero hmay
  obtain ⟨blk, hP⟩ := chip_adr hC S
  obtain ⟨l1, l1', l2, l2', l3, l4, l5, l6⟩ := chip_len hC S
  obtain ⟨⟨n1, n2⟩, ⟨n3, n4⟩, ⟨n5, n6⟩, n7, n8⟩ := hC.num
  have hb := (hC.blk hn).2
  have hbs := (hC.blk hn).1
  have m2 : bszC C ≤ 20 * 216 := Nat.mul_le_mul (by omega) (by omega)
  have m5 : 0 < bszC C := Nat.mul_pos (by omega) (by omega)
  refine (block_c (n := n) hC hn hP (by omega) S).mono ?_
  rintro ⟨⟨ra, rn, rc⟩, ⟨⟩⟩ w2 ⟨h2, x2⟩
  cases h2
  dsimp only
  have S := S.stepE x2
  refine S.newB fun b5 w3 S f3 _ => ?_
  refine S.st0 (by rfl) fun w4 S f4 => ?_
  simp only [Addr.add_lit, Nat.zero_add]
  have hs : (0 : Int) ≤ n ∧ n < (y.S.n : Int) := by rw [l4]; omega
  refine S.ld1 (j := 10) rfl rfl ?_
  refine S.put (i := 5) rfl hs.1 hs.2 (v := .int .i64 1) rfl fun w5 S f5 => ?_
  dsimp only [List.set_cons_succ, List.set_cons_zero] at S
  rw [iv_set] at S
  refine S.ld0 rfl rfl ?_
  dsimp only
  refine ⟨⟨by omega, by omega, by omega, by omega⟩, ?_⟩
  rw [Int.toNat_natCast]
  refine S.newB fun b12 w6 S f6 _ => ?_
  refine S.newB fun b14 w7 S f7 _ => ?_
  refine S.st0 (by rfl) fun w8 S f8 => ?_
  refine S.ld2 rfl rfl ?_
  dsimp only
  obtain ⟨pre, post, g1, g2, g3⟩ := imgC_blk hC hn
  have hall := hb.all
  rw [g1] at S
  have hne : allC C n ≠ [] := fun h => by have := hall.1; rw [show (blkC C n).pg.flatten = allC C n from rfl, h] at this; have : 0 = bszC C := this; omega
  have S := S.nilD
  obtain ⟨blk2, tl, ha2, S2, back⟩ := int_focus (k := .u8) (S.sel [5, 4, 8, 8, 8, 0, 0, 0, 0, 0, 0, 0, 0] rfl) hne
  rw [hP] at ha2
  cases ha2
  have hol : n.toNat * bszC C = (pre.map (Value.int .u8)).length := by rw [List.length_map, g2]
  have hI : Ints w8 .u8 (some ⟨blk, n.toNat * bszC C, none⟩) (bszC C) (bszC C) (allC C n) := S2.intsM 0 rfl hol hall.1.symm (Nat.le_refl _) (by omega)
  have hzl : (List.replicate (bszC C) (0 : Int)).map (Value.int .u8) = (List.replicate (bszC C) [Value.int .u8 0]).flatten := by rw [rep_flat, List.map_replicate]
  have hZ : Ints w8 .u8 (some ⟨b12, 0, none⟩) (bszC C) (bszC C) (List.replicate (bszC C) 0) := ⟨by simp, Nat.le_refl _, by omega, .inr ⟨_, rfl, by rw [hzl]; exact S2.cells 7 rfl⟩⟩
  have bz : Byt (List.replicate (bszC C) (0 : Int)) := Byt.replicate (by decide) (by decide) _
  have hla : (allC C n).length = bszC C := hall.1
  refine Sep.call [BoxA p 95 (chipV y C), BoxA blk 5 (pre.map (Value.int .u8) ++ ((allC C n).map (Value.int .u8) ++ (post.map (Value.int .u8) ++ tl))), RdT LF y.F, OwnA 139 5 y.T.a C.ops y.T.c (L.flatMap TOp.vs), RdL (L.map (·.d)), RdL [noD]] (Ts := _) (S2.sel [1, 0, 0, 0, 0, 0, 0, 0, 0, 0, 0, 0, 0] rfl)
    (fun F S => done_c (dd := noD) (whole := List.replicate (bszC C) 0) (torn := fun f => progL (allC C n) (List.replicate (bszC C) 0) f.2.2.1 false) hF hC.mfit hC.ops hoff hol (by decide) hla.symm (by rw [List.length_replicate, hla]) (fun f => by unfold progL; rw [turn_len]) (by kernel_rfl) (by kernel_rfl)
      (fun w' x' => Scrub1_c (s := ⟨some ⟨b12, 0, none⟩, bszC C, bszC C⟩) ((S2.sel [6] rfl).stepE x') (hZ.ext x'))
      (fun w' f s x' hat hm => Scrub2_c (f := f) (m := s) (s := ⟨some ⟨blk, n.toNat * bszC C, none⟩, bszC C, bszC C⟩) (t := ⟨some ⟨b12, 0, none⟩, bszC C, bszC C⟩) ((S2.sel [8, 6] rfl).stepE x') (hI.ext x') (hZ.ext x') hm hall.2 bz (atF_byt hC hat) rfl (by dsimp only; omega)) S) ?_
  rintro F2 bk ⟨(e : Int), ⟨⟩⟩ w12 ⟨h12, ta, tc, oo, hoo, S3⟩
  dsimp only at h12 ⊢
  subst h12
  have S4 := bk _ _ S3
  have hnew : newX C (List.replicate (bszC C) 0) (fun f => progL (allC C n) (List.replicate (bszC C) 0) f.2.2.1 false) = if (codeC C).1 = 0 then List.replicate (allC C n).length 0 else progL (allC C n) (List.replicate (allC C n).length 0) (codeC C).2.1 false := by
    rw [hla]
    unfold newX codeC
    cases atF C.pl (C.ops : Int) with
    | none => rfl
    | some f =>
      dsimp only
      rw [if_neg]
      split <;> omega
  rw [hnew] at S4
  have hlq : (if (codeC C).1 = 0 then List.replicate (allC C n).length 0 else progL (allC C n) (List.replicate (allC C n).length 0) (codeC C).2.1 false).length = (allC C n).length := by
    split
    · rw [List.length_replicate]
    · unfold progL; rw [turn_len]
  have S5 := (back _ _ _ _ _ hlq (S4.sel [1, 0, 0, 0, 0, 4, 4, 4, 4] rfl)).sel [1, 0, 3, 3, 3, 3, 0, 0, 0] rfl
  unfold scrC
  rw [if_pos hmay, if_pos hmay]
  refine ⟨rfl, ta, tc, L ++ [oo], by rw [List.map_append, List.map_singleton, hoo], ?_⟩
  have e1 : imgC (scrX C n) = pre ++ ((if (codeC C).1 = 0 then List.replicate (allC C n).length 0 else progL (allC C n) (List.replicate (allC C n).length 0) (codeC C).2.1 false) ++ post) := by
    rw [g3 _ (scrX C n) rfl]
    have := (cutL_flat (all := (if (codeC C).1 = 0 then List.replicate (allC C n).length 0 else progL (allC C n) (List.replicate (allC C n).length 0) (codeC C).2.1 false)) (p := C.g.p.toNat) (z := szP C.g) (by omega) (by rw [hlq]; exact hla)).1
    dsimp only
    rw [this]
  have e2 : usL (scrX C n) = usL C := fl_same hbs rfl
  have e3 : laL (scrX C n) = laL C := map_set_same hbs rfl
  have e4 : scL (scrX C n) = (scL C).set n.toNat 1 := List.map_set
  have e5 : erL (scrX C n) = erL C := map_set_same hbs rfl
  have e6 : (L ++ [oo]).map (·.d) = L.map (·.d) ++ [oo.d] := List.map_append
  refine chip_mk (y := upT y ta tc) (C := scrX C n) (L := L ++ [oo]) (Rs := []) ?_ e1 e2 e3 e4 e5
  rw [e6]
  exact S5
theorem scrX_ok {C : CD} (hC : COk C) {n : Int} (hr : mayC C n = 0) (ho : C.ops < 1000000) : COk (scrX C n) := by
  obtain ⟨hoff, hn⟩ := may_zero hr
  obtain ⟨⟨n1, n2⟩, ⟨n3, n4⟩, -⟩ := hC.num
  have hb := (hC.blk hn).2
  have hall := hb.all
  have hq : ∀ Q : List Int, Q.length = C.g.p.toNat * szP C.g → Byt Q → (cutL Q C.g.p.toNat).length = C.g.p.toNat ∧ ∀ q ∈ cutL Q C.g.p.toNat, q.length = szP C.g ∧ Byt q := fun Q h1 h2 =>
    ⟨(cutL_flat (by omega) h1).2.1, fun q hq => ⟨(cutL_flat (by omega) h1).2.2 q hq, cutL_byt h2 q hq⟩⟩
  have h := hq (if (codeC C).1 = 0 then List.replicate (allC C n).length 0 else progL (allC C n) (List.replicate (allC C n).length 0) (codeC C).2.1 false) (by
    split
    · rw [List.length_replicate]; exact hall.1
    · unfold progL; rw [turn_len]; exact hall.1) (by
    split
    · exact Byt.replicate (by decide) (by decide) _
    · exact turn_byt hall.2 _ _)
  exact hC.upd (by omega) (by omega) ⟨h.1, h.2, hb.ul, hb.ub, hb.la, hb.er.1, by dsimp only; have := hb.er.2; omega⟩
end Go.Proofs.Ytlpeoaphdmfjdaa.Vc
/-! The contracts of layer 13 (nand): a block, erased. -/
namespace Go.Proofs.Ytlpeoaphdmfjdaa.Vc
open Go Go.Eng Go.RowKit
theorem Erase13_c {F : Nat → Prop} {w : World} {p : Nat} {y : Lay} {C : CD} {L : List TOp} {n : Int} (hC : COk C) (hF : fds y.F = C.pl) (S : Sep F w w (ChipP p y C L)) :
    CallV Try.prog 48 #[.pointer (some ⟨p, 0, none⟩), .int .i64 n] w [.one (.int .i64)] fun r w' =>
      r.1 = (eraC C n).2 ∧ OpR F w w' p y (eraC C n).1 L (if mayC C n = 0 then [(2, n, 0, [], (codeC C).1)] else []) [] := by
  apply nand_Chip_Erase.vc
  unfold nand_Chip_Erase.P
  refine (may_c (n := n) hC S).mono ?_
  rintro ⟨(e : Int), ⟨⟩⟩ w1 ⟨h1, rfl⟩
  dsimp only at h1 ⊢
  subst h1
  refine cond_ne (fun h => ?_) fun hmay => ?_
  · unfold eraC
    rw [if_neg h, if_neg h]
    exact ⟨rfl, .none S⟩
  obtain ⟨hoff, hn⟩ := may_zero hmay
  obtain ⟨blk, hP⟩ := chip_adr hC S
  obtain ⟨l1, l1', l2, l2', l3, l4, l5, l6⟩ := chip_len hC S
  obtain ⟨⟨n1, n2⟩, ⟨n3, n4⟩, ⟨n5, n6⟩, n7, n8⟩ := hC.num
  have hb := (hC.blk hn).2
  have hbs := (hC.blk hn).1
  have m2 : bszC C ≤ 20 * 216 := Nat.mul_le_mul (by omega) (by omega)
  have m5 : 0 < bszC C := Nat.mul_pos (by omega) (by omega)
  refine (block_c (n := n) hC hn hP (by omega) S).mono ?_
  rintro ⟨⟨ra, rn, rc⟩, ⟨⟩⟩ w2 ⟨h2, x2⟩
  cases h2
  dsimp only
  have S := S.stepE x2
  refine S.newB fun b5 w3 S f3 _ => ?_
  refine S.st0 (by rfl) fun w4 S f4 => ?_
  simp only [Addr.add_lit, Nat.zero_add]
  have he : (0 : Int) ≤ n ∧ n < (y.E.n : Int) := by rw [l5]; omega
  refine S.ld1 (j := 11) rfl rfl ((S.ints 6 rfl).idx he.1 he.2 ?_)
  rw [erL_get hC hn]
  have her := hb.er
  have hops := hC.ops
  refine ⟨Rng.i64 (by omega) (by omega), ?_⟩
  refine S.put (i := 6) rfl he.1 he.2 (v := .int .i64 ((blkC C n).er + 1)) rfl fun w5 S f5 => ?_
  dsimp only [List.set_cons_succ, List.set_cons_zero] at S
  rw [iv_set] at S
  refine S.ld0 rfl rfl ?_
  dsimp only
  obtain ⟨pre, post, g1, g2, g3⟩ := imgC_blk hC hn
  have hall := hb.all
  have hla : (allC C n).length = bszC C := hall.1
  rw [g1] at S
  have hne : allC C n ≠ [] := fun h => by rw [h] at hla; have : 0 = bszC C := hla; omega
  have S := S.nilD
  obtain ⟨blk2, tl, ha2, S2, back⟩ := int_focus (k := .u8) (S.sel [3, 2, 6, 6, 6, 0, 0, 0, 0, 0, 0] rfl) hne
  rw [hP] at ha2
  cases ha2
  have hol : n.toNat * bszC C = (pre.map (Value.int .u8)).length := by rw [List.length_map, g2]
  have hI : Ints w5 .u8 (some ⟨blk, n.toNat * bszC C, none⟩) (bszC C) (bszC C) (allC C n) := S2.intsM 0 rfl hol hla.symm (Nat.le_refl _) (by omega)
  refine Sep.call [BoxA p 95 (chipV y C), BoxA blk 5 (pre.map (Value.int .u8) ++ ((allC C n).map (Value.int .u8) ++ (post.map (Value.int .u8) ++ tl))), RdT LF y.F, OwnA 139 5 y.T.a C.ops y.T.c (L.flatMap TOp.vs), RdL (L.map (·.d)), RdL [noD]] (Ts := _) (S2.sel [1, 0, 0, 0, 0, 0, 0, 0, 0, 0, 0] rfl)
    (fun F S => done_c (dd := noD) (whole := List.replicate (bszC C) 255) (torn := fun f => eraL (allC C n) f.2.2.1) hF hC.mfit hC.ops hoff hol (by decide) hla.symm (by rw [List.length_replicate, hla]) (fun f => by unfold eraL; rw [turn_len]) (by kernel_rfl) (by kernel_rfl)
      (fun w' x' => Erase2_c (s := ⟨some ⟨blk, n.toNat * bszC C, none⟩, bszC C, bszC C⟩) ((S2.sel [6] rfl).stepE x') (hI.ext x') hall.2 (by dsimp only; omega))
      (fun w' f s x' hat hm => Erase1_c (f := f) (m := s) (s := ⟨some ⟨blk, n.toNat * bszC C, none⟩, bszC C, bszC C⟩) ((S2.sel [6] rfl).stepE x') (hI.ext x') hm hall.2 (atF_byt hC hat) (by dsimp only; omega)) S) ?_
  rintro F2 bk ⟨(e : Int), ⟨⟩⟩ w12 ⟨h12, ta, tc, oo, hoo, S3⟩
  dsimp only at h12 ⊢
  subst h12
  have S4 := bk _ _ S3
  have hnew : newX C (List.replicate (bszC C) 255) (fun f => eraL (allC C n) f.2.2.1) = if (codeC C).1 = 0 then List.replicate (bszC C) 255 else eraL (allC C n) (codeC C).2.1 := by
    unfold newX codeC
    cases atF C.pl (C.ops : Int) with
    | none => rfl
    | some f =>
      dsimp only
      rw [if_neg]
      split <;> omega
  rw [hnew] at S4
  have hlq : (if (codeC C).1 = 0 then List.replicate (bszC C) 255 else eraL (allC C n) (codeC C).2.1).length = (allC C n).length := by
    split
    · rw [List.length_replicate, hla]
    · unfold eraL; rw [turn_len]
  have S5 := (back _ _ _ _ _ hlq (S4.sel [1, 0, 0, 0, 0, 2, 2, 2, 2] rfl)).sel [1, 0, 3, 3, 3, 3, 0, 0, 0] rfl
  unfold eraC
  rw [if_pos hmay, if_pos hmay]
  have e6 : (L ++ [oo]).map (·.d) = L.map (·.d) ++ [oo.d] := List.map_append
  have e5 : erL (eraX C n) = (erL C).set n.toNat ((blkC C n).er + 1) := by
    have : ∀ x : BD, x.er = (blkC C n).er + 1 → (C.bs.set n.toNat x).map (·.er) = (erL C).set n.toNat ((blkC C n).er + 1) := fun x hx => by rw [List.map_set, hx]; rfl
    refine this _ ?_
    split <;> rfl
  refine cond_eq (fun hc0 => ?_) (fun hc0 => ?_)
  case refine_2 =>
    have hc0 : ¬ (codeC C).1 = 0 := hc0
    rw [if_neg hc0] at S5 hlq
    have hX : (eraX C n).bs = C.bs.set n.toNat { blkC C n with pg := cutL (eraL (blkC C n).pg.flatten (codeC C).2.1) C.g.p.toNat, er := (blkC C n).er + 1 } := by unfold eraX; rw [if_neg hc0]
    have e1 : imgC (eraX C n) = pre ++ (eraL (allC C n) (codeC C).2.1 ++ post) := by
      rw [g3 _ (eraX C n) hX]
      have := (cutL_flat (all := eraL (allC C n) (codeC C).2.1) (p := C.g.p.toNat) (z := szP C.g) (by omega) (by rw [hlq]; exact hla)).1
      dsimp only
      rw [this]
    have e2 : usL (eraX C n) = usL C := by unfold usL; rw [hX]; exact fl_same hbs rfl
    have e3 : laL (eraX C n) = laL C := by unfold laL; rw [hX]; exact map_set_same hbs rfl
    have e4 : scL (eraX C n) = scL C := by unfold scL; rw [hX]; exact map_set_same hbs rfl
    refine ⟨rfl, ta, tc, L ++ [oo], by rw [List.map_append, List.map_singleton, hoo], ?_⟩
    refine chip_mk (y := upT y ta tc) (C := eraX C n) (L := L ++ [oo]) (Rs := []) ?_ e1 e2 e3 e4 e5
    rw [e6]
    exact S5
  have hc0 : (codeC C).1 = 0 := hc0
  rw [if_pos hc0] at S5
  have hX : (eraX C n).bs = C.bs.set n.toNat { blankB C.g with er := (blkC C n).er + 1 } := by unfold eraX; rw [if_pos hc0]
  have e1 : imgC (eraX C n) = pre ++ (List.replicate (bszC C) 255 ++ post) := by
    rw [g3 _ (eraX C n) hX]
    have : (blankB C.g).pg.flatten = List.replicate (bszC C) 255 := by unfold blankB; exact List.flatten_replicate_replicate
    dsimp only
    rw [this]
  obtain ⟨pre2, post2, u1, u2, u3⟩ : ∃ pre2 post2, usL C = pre2 ++ ((blkC C n).us ++ post2) ∧ pre2.length = n.toNat * C.g.p.toNat ∧ usL (eraX C n) = pre2 ++ (List.replicate C.g.p.toNat 0 ++ post2) := by
    refine ⟨(C.bs.take n.toNat).flatMap (fun x : BD => x.us), (C.bs.drop (n.toNat + 1)).flatMap (fun x : BD => x.us), fl_split (f := fun x : BD => x.us) hbs, fl_take (fun x hx => (hC.bo x hx).ul) (by rw [hC.bl]; omega), ?_⟩
    unfold usL
    rw [hX]
    exact fl_set (f := fun x : BD => x.us) hbs
  have hneP := S5.neO 0 2 (by decide) rfl rfl
  have k0 : C.g.p.toNat * n.toNat + C.g.p.toNat ≤ C.g.p.toNat * C.g.b.toNat := by
    have : C.g.p.toNat * (n.toNat + 1) ≤ C.g.p.toNat * C.g.b.toNat := Nat.mul_le_mul_left _ (by omega)
    rwa [Nat.mul_add, Nat.mul_one] at this
  have c1 : C.g.p.toNat * n.toNat = n.toNat * C.g.p.toNat := Nat.mul_comm _ _
  have c2 : C.g.p.toNat * C.g.b.toNat = C.g.b.toNat * C.g.p.toNat := Nat.mul_comm _ _
  have i3 : C.g.b.toNat * C.g.p.toNat ≤ 16 * 20 := Nat.mul_le_mul (by omega) (by omega)
  have v1 : n * C.g.p = ((n.toNat * C.g.p.toNat : Nat) : Int) := by push_cast; rw [Int.toNat_of_nonneg hn.1, Int.toNat_of_nonneg (show 0 ≤ C.g.p by omega)]
  have v2 : (n + 1) * C.g.p = ((n.toNat * C.g.p.toNat + C.g.p.toNat : Nat) : Int) := by rw [Int.add_mul, Int.one_mul, v1]; push_cast; rw [Int.toNat_of_nonneg (show 0 ≤ C.g.p by omega)]
  refine S5.regX (fun k => ∃ q : Addr, y.U.a = some q ∧ k = q.block) fun D hD hkeep S6 T => ?_
  have hDp : D p := hD _ S6.bl0 (fun ⟨q, hq, h⟩ => hneP q hq h)
  refine ⟨hDp, S6.ld0 (j := 8) rfl rfl ⟨hDp, S6.ld0 (j := 1) rfl rfl ⟨by rw [v1]; exact Rng.i64 (by omega) (by omega), Rng.i64 (by omega) (by omega), hDp, S6.ld0 (j := 1) rfl rfl ⟨by rw [v2]; exact Rng.i64 (by omega) (by omega), ⟨by rw [v1]; omega, by rw [v1, v2]; omega, by rw [v2]; dsimp only; omega⟩, ?_⟩⟩⟩⟩
  intro a20 ha20
  rw [v1] at ha20 ⊢
  rw [v2, Int.toNat_natCast, Int.toNat_natCast]
  dsimp only at ha20 ⊢
  rw [Int.toNat_natCast, if_neg (by omega)] at ha20
  rw [u1] at S6
  have hneU : (blkC C n).us ≠ [] := fun h => by have := hb.ul; rw [h] at this; have : 0 = C.g.p.toNat := this; omega
  obtain ⟨ublk, utl, hU, S7, uback⟩ := int_focus (k := .i64) (S6.sel [2, 0, 0, 0, 0, 0, 0, 0, 0] rfl) hneU
  rw [hU] at ha20
  have ea : a20 = some ⟨ublk, n.toNat * C.g.p.toNat, none⟩ := by
    rw [ha20]
    show some ((⟨ublk, 0, none⟩ : Addr).add (n.toNat * C.g.p.toNat * 1)) = _
    simp [Addr.add_lit]
  rw [ea]
  refine S7.clM 0 rfl (by rw [List.length_map, u2]) (by rw [List.length_map, hb.ul]; omega) rfl fun w21 S8 f21 => ⟨hkeep _ (f21.mono fun k hk => ⟨_, hU, hk⟩), ?_⟩
  have S8 := S8.sel [0, 0, 0, 0, 0, 0, 0, 0, 0] rfl
  have hrep : List.replicate (n.toNat * C.g.p.toNat + C.g.p.toNat - n.toNat * C.g.p.toNat) (Value.int .i64 0) = (List.replicate C.g.p.toNat (0 : Int)).map (Value.int .i64) := by rw [List.map_replicate, Nat.add_sub_cancel_left]
  rw [hrep] at S8
  have S9 := (uback _ _ _ _ _ (by rw [List.length_replicate, hb.ul]) S8).sel [1, 1, 0, 0, 0, 0, 0, 0, 0] rfl
  rw [← u3] at S9
  have ha : (0 : Int) ≤ n ∧ n < (y.A.n : Int) := by rw [l3]; omega
  have hs : (0 : Int) ≤ n ∧ n < (y.S.n : Int) := by rw [l4]; omega
  have fin : ∀ {w' : World}, Sep F w1 w' [BoxA p 95 (chipV (upT y ta tc) { C with off := (codeC C).2.2, ops := C.ops + 1 }), OwnA 5 1 y.P.a y.P.n y.P.c (bv8 (pre ++ (List.replicate (bszC C) 255 ++ post))), OwnA 3 1 y.U.a y.U.n y.U.c (iv (usL (eraX C n))), OwnA 3 1 y.A.a y.A.n y.A.c (iv ((laL C).set n.toNat (-1))),
      OwnA 3 1 y.S.a y.S.n y.S.c (iv ((scL C).set n.toNat 0)), OwnA 3 1 y.E.a y.E.n y.E.c (iv ((erL C).set n.toNat ((blkC C n).er + 1))), RdT LF y.F, OwnA 139 5 ta (C.ops + 1) tc ((L ++ [oo]).flatMap TOp.vs), RdL (L.map (·.d) ++ [oo.d])] →
      (codeC C).1 = (eraX C n, (codeC C).1).2 ∧ OpR F w1 w' p y (eraX C n, (codeC C).1).1 L [(2, n, 0, [], (codeC C).1)] [] := fun S => by
    have e3 : laL (eraX C n) = (laL C).set n.toNat (-1) := by unfold laL; rw [hX, List.map_set]; rfl
    have e4 : scL (eraX C n) = (scL C).set n.toNat 0 := by unfold scL; rw [hX, List.map_set]; rfl
    refine ⟨rfl, ta, tc, L ++ [oo], by rw [List.map_append, List.map_singleton, hoo], ?_⟩
    refine chip_mk (y := upT y ta tc) (C := eraX C n) (L := L ++ [oo]) (Rs := []) ?_ e1 rfl e3 e4 e5
    rw [e6]
    exact S
  refine S9.regX (fun k => (∃ q : Addr, y.A.a = some q ∧ k = q.block) ∨ ∃ q : Addr, y.S.a = some q ∧ k = q.block) fun D2 hD2 hkeep2 S10 T2 => ?_
  have hk0 := hkeep2 _ (Fr.refl _ _)
  refine ⟨?_, ?_⟩
  · refine S10.ld0 (j := 9) rfl rfl ⟨hk0, S10.ld0 (j := 10) rfl rfl ⟨hk0, ?_⟩⟩
    refine S10.put (i := 3) rfl ha.1 ha.2 (v := .int .i64 (-1)) rfl fun w26 S11 f26 => ⟨hkeep2 _ (f26.mono fun k hk => .inl hk), ?_⟩
    dsimp only [List.set_cons_succ, List.set_cons_zero] at S11
    rw [iv_set] at S11
    refine S11.put (i := 4) rfl hs.1 hs.2 (v := .int .i64 0) rfl fun w28 S12 f28 => ⟨hkeep2 _ ((f26.mono fun k hk => .inl hk).trans (f28.mono fun k hk => .inr hk)), ?_⟩
    dsimp only [List.set_cons_succ, List.set_cons_zero] at S12
    rw [iv_set] at S12
    exact fin S12
  · refine S10.ld0 (j := 10) rfl rfl ⟨hk0, S10.ld0 (j := 9) rfl rfl ⟨hk0, ?_⟩⟩
    refine S10.put (i := 3) rfl ha.1 ha.2 (v := .int .i64 (-1)) rfl fun w26 S11 f26 => ⟨hkeep2 _ (f26.mono fun k hk => .inl hk), ?_⟩
    dsimp only [List.set_cons_succ, List.set_cons_zero] at S11
    rw [iv_set] at S11
    refine S11.put (i := 4) rfl hs.1 hs.2 (v := .int .i64 0) rfl fun w28 S12 f28 => ⟨hkeep2 _ ((f26.mono fun k hk => .inl hk).trans (f28.mono fun k hk => .inr hk)), ?_⟩
    dsimp only [List.set_cons_succ, List.set_cons_zero] at S12
    rw [iv_set] at S12
    exact fin S12
theorem eraX_ok {C : CD} (hC : COk C) {n : Int} (hr : mayC C n = 0) (ho : C.ops < 1000000) : COk (eraX C n) := by
  obtain ⟨hoff, hn⟩ := may_zero hr
  obtain ⟨⟨n1, n2⟩, ⟨n3, n4⟩, -⟩ := hC.num
  have hb := (hC.blk hn).2
  have hall := hb.all
  have her := hb.er
  have hbl := blankB_ok C.g hC.g (C.ops + 1)
  unfold eraX
  by_cases hc : (codeC C).1 = 0
  · rw [if_pos hc]
    exact hC.upd (by omega) (by omega) ⟨hbl.pl, hbl.pb, hbl.ul, hbl.ub, hbl.la, by dsimp only; omega, by dsimp only; omega⟩
  · rw [if_neg hc]
    have hlen : (eraL (blkC C n).pg.flatten (codeC C).2.1).length = C.g.p.toNat * szP C.g := by unfold eraL; rw [turn_len]; exact hall.1
    exact hC.upd (by omega) (by omega) ⟨(cutL_flat (by omega) hlen).2.1, fun q hq => ⟨(cutL_flat (by omega) hlen).2.2 q hq, cutL_byt (turn_byt hall.2 _ _) q hq⟩, hb.ul, hb.ub, hb.la, by dsimp only; omega, by dsimp only; omega⟩
end Go.Proofs.Ytlpeoaphdmfjdaa.Vc
/-! The contracts of layer 13 (nand): a new array. -/
namespace Go.Proofs.Ytlpeoaphdmfjdaa.Vc
open Go Go.Eng Go.RowKit
theorem CopyR.part {w w' : World} {y : SlP TF.T} {l : List FD} (h : CopyR w w' y l) : Sep NoB w w' [RdT LF y] :=
  (Sep.start NoB w).push (F := fun k => w.heap.size ≤ k ∧ k < w'.heap.size) (.of h.ext) (LF.rd_mono (fun k h1 h2 => ⟨h1, h2⟩) h.rd) fun k hk => hk
theorem flat_rep {α β : Type} (n : Nat) (x : α) (f : α → List β) : (List.replicate n x).flatMap f = (List.replicate n (f x)).flatten := by
  induction n with
  | zero => rfl
  | succ n ih => rw [List.replicate_succ, List.flatMap_cons, ih, List.replicate_succ, List.flatten_cons]
theorem newC_img (g : Geo) (pl : List FD) : imgC (newC g pl) = List.replicate (g.b.toNat * (g.p.toNat * szP g)) 255 := by
  unfold imgC newC blankB
  dsimp only
  rw [flat_rep, List.flatten_replicate_replicate, List.flatten_replicate_replicate]
theorem newC_us (g : Geo) (pl : List FD) : usL (newC g pl) = List.replicate (g.b.toNat * g.p.toNat) 0 := by
  unfold usL newC blankB
  dsimp only
  rw [flat_rep, List.flatten_replicate_replicate]
theorem newC_la (g : Geo) (pl : List FD) : laL (newC g pl) = List.replicate g.b.toNat (-1) := by unfold laL newC blankB; exact List.map_replicate
theorem newC_sc (g : Geo) (pl : List FD) : scL (newC g pl) = List.replicate g.b.toNat 0 := by unfold scL newC blankB; exact List.map_replicate
theorem newC_er (g : Geo) (pl : List FD) : erL (newC g pl) = List.replicate g.b.toNat 0 := by unfold erL newC blankB; exact List.map_replicate
abbrev newV (g : Geo) (P U A S E : SlV) (f : SlP TF.T) : List Value := [.int .i64 g.b, .int .i64 g.p, .int .i64 g.s, .int .i64 g.sp, .int .i64 g.wr, .int .i64 g.ro, .int .i64 (g.s + 88), .slice P.a P.n P.c, .slice U.a U.n U.c, .slice A.a A.n A.c, .slice S.a S.n S.c, .slice E.a E.n E.c, .slice f.a f.n f.c, .bool false, .slice none 0 0]
abbrev nilS : SlV := ⟨none, 0, 0⟩
abbrev boxS (b n : Nat) : SlV := ⟨some ⟨b, 0, none⟩, n, n⟩
theorem rep_iv (n : Nat) (v : Int) : (List.replicate n [Value.int .i64 v]).flatten = iv (List.replicate n v) := by rw [rep_flat, iv, List.map_replicate]
theorem rep_bv (n : Nat) (v : Int) : (List.replicate n [Value.int .u8 v]).flatten = bv8 (List.replicate n v) := by rw [rep_flat, bv8, List.map_replicate]
theorem New13_c {w : World} {g : Geo} {x : SlP TF.T} {G : Nat → Prop} (hx : LF.rd w G x) (hm : mFit (fds x)) :
    CallV Try.prog 7 #[g.val, .slice x.a x.n x.c] w [.one .ptr, .one (.int .i64)] fun r w' => Ext w w' ∧ (¬ (Right g ∧ FRight (fds x)) → r.1 = none ∧ r.2.1 = (2 : Int)) ∧
      (Right g ∧ FRight (fds x) → r.2.1 = (0 : Int) ∧ ∃ (p : Nat) (y : Lay), r.1 = some (⟨p, 0, none⟩ : Addr) ∧ fds y.F = fds x ∧ Sep NoB w w' (ChipP p y (newC g (fds x)) [])) := by
  apply nand_New.vc
  unfold nand_New.P
  have no : ∀ {w' : World}, ¬ (Right g ∧ FRight (fds x)) → Ext w w' → (Ext w w' ∧ (¬ (Right g ∧ FRight (fds x)) → (none : Option Addr) = none ∧ (2 : Int) = (2 : Int)) ∧
      (Right g ∧ FRight (fds x) → (2 : Int) = (0 : Int) ∧ ∃ (p : Nat) (y : Lay), (none : Option Addr) = some (⟨p, 0, none⟩ : Addr) ∧ fds y.F = fds x ∧ Sep NoB w w' (ChipP p y (newC g (fds x)) []))) := fun h e => ⟨e, fun _ => ⟨rfl, rfl⟩, fun k => absurd k h⟩
  have S := Sep.start NoB w
  refine S.newB fun b1 w1 S f1 _ => ?_
  (repeat ((first | refine S.newB fun _ _ S f _ => ?_ | refine S.la0 rfl ?_ | refine S.la1 rfl ?_ | refine S.la2 rfl ?_ | refine S.la3 rfl ?_ | refine S.la4 rfl ?_ | refine S.la5 rfl ?_ | refine S.ld0 rfl rfl ?_ | refine S.ld1 rfl rfl ?_ | refine S.ld2 rfl rfl ?_ | refine S.ld3 rfl rfl ?_ | refine S.ld4 rfl rfl ?_ | refine S.ld5 rfl rfl ?_ | refine S.st0 (by rfl) fun _ S f => ?_ | refine S.st1 (by rfl) fun _ S f => ?_ | refine S.st2 (by rfl) fun _ S f => ?_ | refine S.st3 (by rfl) fun _ S f => ?_ | refine S.st4 (by rfl) fun _ S f => ?_ | refine S.st5 (by rfl) fun _ S f => ?_ | refine S.su0 (by rfl) fun _ S f => ?_ | refine S.su1 (by rfl) fun _ S f => ?_ | refine S.su2 (by rfl) fun _ S f => ?_ | refine S.su3 (by rfl) fun _ S f => ?_ | refine S.su4 (by rfl) fun _ S f => ?_ | refine S.su5 (by rfl) fun _ S f => ?_ | refine ⟨by decide, ?_⟩); try dsimp only [List.set_cons_zero, List.set_cons_succ, cond_true, cond_false, Bool.not_true, Bool.not_false]))
  refine (Check_c (g := g)).mono ?_
  rintro ⟨(r : Int), ⟨⟩⟩ w2 ⟨h2, e2⟩
  dsimp only at h2 ⊢
  subst h2
  have S := S.stepE e2
  by_cases hR : Right g
  case neg => exact cond_t (by unfold chkE; rw [if_neg hR]; rfl) (no (fun h => hR h.1) S.ext)
  refine cond_f (by unfold chkE; rw [if_pos hR]; rfl) ?_
  refine (FCheck_c (Ty.rd_ext S.ext _ hx)).mono ?_
  rintro ⟨(r : Int), ⟨⟩⟩ w3 ⟨h3, e3⟩
  dsimp only at h3 ⊢
  subst h3
  have S := S.stepE e3
  by_cases hF : FRight (fds x)
  case neg => exact cond_t (by rw [if_neg hF]; rfl) (no (fun h => hF h.2) S.ext)
  refine cond_f (by rw [if_pos hF]; rfl) ?_
  have hxn : x.n ≤ 1000 := by have := hF.2; rw [LF_len hx] at this; omega
  refine S.reg fun D hD hkeep S T => ?_
  refine ⟨hD _ S.bl0, S.la0 rfl ⟨hD _ S.bl0, S.la0 rfl ?_⟩⟩
  refine (PageSize_c (g := g)).mono ?_
  rintro ⟨(sz : Int), ⟨⟩⟩ w4 ⟨h4, e4⟩
  dsimp only at h4 ⊢
  rw [if_pos hR] at h4
  subst h4
  have T := T.stepE e4
  refine ⟨hkeep _ T.fr, ?_⟩
  refine (Copy_c (Ty.rd_ext (S.ext.trans T.ext) _ hx) hm hxn).mono ?_
  rintro ⟨_, ⟨⟩⟩ w5 ⟨yf, hyf, hcp⟩
  dsimp only at hyf
  subst hyf
  have T := T.frame0 hcp.part
  dsimp only [List.cons_append, List.nil_append] at T
  refine ⟨hkeep _ T.fr, T.newB fun b15 w6 T f6 _ => ⟨hkeep _ T.fr, ?_⟩⟩
  have S := S.frame0 T
  dsimp only [List.cons_append, List.nil_append] at S
  clear T hkeep hD
  have hK := hR.1
  unfold Kept at hK
  have hnat : ∃ B P Z : Nat, g.b = (B : Int) ∧ g.p = (P : Int) ∧ g.s + 88 = (Z : Int) ∧ g.b.toNat = B ∧ g.p.toNat = P ∧ szP g = Z ∧ B ≤ 64 ∧ P ≤ 32 ∧ Z ≤ 4184 := ⟨g.b.toNat, g.p.toNat, (g.s + 88).toNat, by omega, by omega, by omega, rfl, rfl, rfl, by omega, by omega, by omega⟩
  obtain ⟨B, P, Z, hB, hP, hZ, hB', hP', hZ', bB, bP, bZ⟩ := hnat
  have m1 : B * P ≤ 64 * 32 := Nat.mul_le_mul bB bP
  have m2 : B * P * Z ≤ 64 * 32 * 4184 := Nat.mul_le_mul m1 bZ
  have v1 : g.b * g.p = ((B * P : Nat) : Int) := by rw [hB, hP]; push_cast; rfl
  have v2 : (g.b * g.p) * (g.s + 88) = ((B * P * Z : Nat) : Int) := by rw [v1, hZ]; push_cast; rfl
  have hne := S.ne 0 2 (by decide) rfl rfl
  refine S.regX (fun k => k = b15) fun D hD hkeep S T => ?_
  refine ⟨hD _ S.bl2 (fun h => hne h.symm), S.ld2 (j := 0) rfl rfl ⟨hD _ S.bl2 (fun h => hne h.symm), S.ld2 (j := 1) rfl rfl ⟨by rw [v1]; exact Rng.i64 (by omega) (by omega), S.ld0 (j := 6) rfl rfl ⟨hkeep _ (Fr.refl _ _), by rw [v2]; exact Rng.i64 (by omega) (by omega), ⟨by rw [v2]; omega, Int.le_refl _, by rw [v2]; omega, by rw [v2]; omega⟩, ?_⟩⟩⟩⟩
  rw [v2, Int.toNat_natCast]
  refine S.newB fun b21 w7 S f7 _ => ⟨hkeep _ f7.any, ?_⟩
  refine S.su1 (j := 7) (by rfl) fun w8 S f8 => ⟨hkeep _ (f7.any.trans f8), ?_⟩
  clear hkeep hD T
  rw [rep_bv] at S
  have S := S.asOwn (sz := 1) (n := B * P * Z) (by rw [List.length_map, List.length_replicate, Nat.mul_one]) (by omega) (oneAll.ints _ _)
  refine S.ld1 (j := 7) rfl rfl ?_
  dsimp only
  refine Loop1 (fun (v : Int × Unit) w' => ∃ (i : Nat) (xs : List Int), v.1 = (i : Int) ∧ i ≤ B * P * Z ∧ xs.length = B * P * Z ∧ (∀ j, j < i → xs[j]? = some 255) ∧ Sep NoB w w' [OwnA 5 1 (some ⟨b21, 0, none⟩) (B * P * Z) (B * P * Z) (bv8 xs), BoxA b15 95 (newV g (boxS b21 (B * P * Z)) nilS nilS nilS nilS yf), RdT LF yf, BoxA b1 33 g.vs])
    (fun (v : Int × Unit) _ => (((B * P * Z : Nat) : Int) - v.1).toNat) ⟨0, _, rfl, by omega, by rw [List.length_replicate], fun j hj => by omega, S⟩ ?_
  rintro ⟨(z : Int), ⟨⟩⟩ w9 ⟨i, xs, hz, hi, hl, hxs, S⟩
  dsimp only at hz ⊢
  subst hz
  refine cond_d (fun hlt => ?_) (fun hge => ?_)
  · refine S.ld1 (j := 7) rfl rfl ?_
    refine S.put (i := 0) rfl (by omega) hlt (v := .int .u8 255) rfl fun w10 S f10 => ?_
    refine ⟨Rng.i64 (by omega) (by omega), ⟨i + 1, xs.set i 255, by push_cast; rfl, by omega, by rw [List.length_set]; exact hl, fun j hj => ?_, ?_⟩, by omega⟩
    · rw [List.getElem?_set]
      split
      · rw [if_pos (by omega)]
      · exact hxs j (by omega)
    · rw [Int.toNat_natCast] at S
      rw [bv8, List.map_set]
      exact S
  have hxe : xs = List.replicate (B * P * Z) 255 := List.ext_getElem? fun j => by
    by_cases hj : j < B * P * Z
    · rw [hxs j (by omega), List.getElem?_replicate, if_pos hj]
    · rw [List.getElem?_eq_none (by omega), List.getElem?_eq_none (by rw [List.length_replicate]; omega)]
  subst hxe
  clear hxs hl hi hge
  refine S.ld3 (j := 0) rfl rfl (S.ld3 (j := 1) rfl rfl ⟨by rw [v1]; exact Rng.i64 (by omega) (by omega), ⟨by rw [v1]; omega, Int.le_refl _, by rw [v1]; omega, by rw [v1]; omega⟩, ?_⟩)
  rw [v1, Int.toNat_natCast]
  refine S.newB fun b33 w11 S f11 _ => ?_
  refine S.su2 (j := 8) (by rfl) fun w12 S f12 => ?_
  rw [rep_iv] at S
  have S := S.asOwn (sz := 1) (n := B * P) (by rw [List.length_map, List.length_replicate, Nat.mul_one]) (by omega) (oneAll.ints _ _)
  refine ⟨fun (_ : Unit) w' => ∃ b39 b41, Sep NoB w w' [BoxA b15 95 (newV g (boxS b21 (B * P * Z)) (boxS b33 (B * P)) nilS (boxS b39 B) (boxS b41 B) yf), OwnA 5 1 (some ⟨b21, 0, none⟩) (B * P * Z) (B * P * Z) (bv8 (List.replicate (B * P * Z) 255)), OwnA 3 1 (some ⟨b33, 0, none⟩) (B * P) (B * P) (iv (List.replicate (B * P) 0)),
    OwnA 3 1 (some ⟨b39, 0, none⟩) B B (iv (List.replicate B 0)), OwnA 3 1 (some ⟨b41, 0, none⟩) B B (iv (List.replicate B 0)), RdT LF yf, BoxA b1 33 g.vs], ?_, ?_⟩
  case refine_2 =>
    have hne := S.ne 2 4 (by decide) rfl rfl
    refine S.regX (fun k => k = b15) fun D hD hkeep S T => ?_
    have hb1 : D b1 := hD _ S.bl4 (fun h => hne h.symm)
    refine ⟨hb1, S.ld4 (j := 0) rfl rfl ⟨hb1, S.ld4 (j := 0) rfl rfl ?_⟩⟩
    rw [hB, Int.toNat_natCast]
    have hbd : (0 : Int) ≤ (B : Int) ∧ (B : Int) ≤ (B : Int) ∧ (B : Int) ≤ 9223372036854775807 ∧ 8 * (B : Int) ≤ 140737488355328 := ⟨by omega, by omega, by omega, by omega⟩
    have fin : ∀ {w' : World} {ba bb : Nat}, Sep NoB w w' [BoxA ba 3 (List.replicate B [Value.int .i64 0]).flatten, BoxA bb 3 (List.replicate B [Value.int .i64 0]).flatten, OwnA 3 1 (some ⟨b33, 0, none⟩) (B * P) (B * P) (iv (List.replicate (B * P) 0)), OwnA 5 1 (some ⟨b21, 0, none⟩) (B * P * Z) (B * P * Z) (bv8 (List.replicate (B * P * Z) 255)),
        BoxA b15 95 (newV g (boxS b21 (B * P * Z)) (boxS b33 (B * P)) nilS (boxS ba B) (boxS bb B) yf), RdT LF yf, BoxA b1 33 g.vs] →
        ∃ b39 b41, Sep NoB w w' [BoxA b15 95 (newV g (boxS b21 (B * P * Z)) (boxS b33 (B * P)) nilS (boxS b39 B) (boxS b41 B) yf), OwnA 5 1 (some ⟨b21, 0, none⟩) (B * P * Z) (B * P * Z) (bv8 (List.replicate (B * P * Z) 255)), OwnA 3 1 (some ⟨b33, 0, none⟩) (B * P) (B * P) (iv (List.replicate (B * P) 0)),
          OwnA 3 1 (some ⟨b39, 0, none⟩) B B (iv (List.replicate B 0)), OwnA 3 1 (some ⟨b41, 0, none⟩) B B (iv (List.replicate B 0)), RdT LF yf, BoxA b1 33 g.vs] := fun {w' ba bb} S => by
      rw [rep_iv] at S
      have S := S.asOwn (sz := 1) (n := B) (by rw [List.length_map, List.length_replicate, Nat.mul_one]) (by omega) (oneAll.ints _ _)
      have S := (S.sel [1, 0, 0, 0, 0, 0, 0] rfl).asOwn (sz := 1) (n := B) (by rw [List.length_map, List.length_replicate, Nat.mul_one]) (by omega) (oneAll.ints _ _)
      exact ⟨ba, bb, S.sel [4, 3, 2, 1, 0, 0, 0] rfl⟩
    refine ⟨⟨hbd, S.newB fun b55 w14 S f14 _ => ⟨hkeep _ f14.any, ⟨hbd, S.newB fun b57 w15 S f15 _ => ?_⟩, ?_⟩⟩, hbd, S.newB fun b65 w14 S f14 _ => ⟨hkeep _ f14.any, hbd, S.newB fun b67 w15 S f15 _ => ?_⟩⟩
    · have h15 := (f14.trans f15).any (E := fun k => k = b15)
      refine ⟨hkeep _ h15, S.su4 (j := 10) (by rfl) fun w16 S f16 => ⟨hkeep _ (h15.trans f16), S.su4 (j := 11) (by rfl) fun w17 S f17 => ⟨hkeep _ ((h15.trans f16).trans f17), fin (ba := b55) (bb := b57) (S.sel [1, 0, 0, 0, 0, 0, 0] rfl)⟩⟩⟩
    · have h14 := f14.any (E := fun k => k = b15)
      refine S.su3 (j := 10) (by rfl) fun w16 S f16 => ⟨hkeep _ (h14.trans f16), hbd, S.newB fun b62 w17 S f17 _ => ?_⟩
      have h17 := (h14.trans f16).trans f17.any
      exact ⟨hkeep _ h17, S.su4 (j := 11) (by rfl) fun w18 S f18 => ⟨hkeep _ (h17.trans f18), fin (ba := b55) (bb := b62) (S.sel [1, 0, 0, 0, 0, 0, 0] rfl)⟩⟩
    · have h15 := (f14.trans f15).any (E := fun k => k = b15)
      refine ⟨hkeep _ h15, S.su4 (j := 10) (by rfl) fun w16 S f16 => ⟨hkeep _ (h15.trans f16), S.su4 (j := 11) (by rfl) fun w17 S f17 => ⟨hkeep _ ((h15.trans f16).trans f17), fin (ba := b67) (bb := b65) (S.sel [0, 0, 0, 0, 0, 0, 0] rfl)⟩⟩⟩
  rintro ⟨⟩ w13 ⟨b39, b41, S⟩
  refine S.ld6 (j := 0) rfl rfl ?_
  rw [hB]
  have S := S.nilOwn 3 1
  refine Loop1 (fun (v : Int × Unit) w' => ∃ (i : Nat) (a : Option Addr) (c : Nat), v.1 = (i : Int) ∧ i ≤ B ∧ Sep NoB w w' [OwnA 3 1 a i c (iv (List.replicate i (-1))), BoxA b15 95 (newV g (boxS b21 (B * P * Z)) (boxS b33 (B * P)) ⟨a, i, c⟩ (boxS b39 B) (boxS b41 B) yf), OwnA 5 1 (some ⟨b21, 0, none⟩) (B * P * Z) (B * P * Z) (bv8 (List.replicate (B * P * Z) 255)),
      OwnA 3 1 (some ⟨b33, 0, none⟩) (B * P) (B * P) (iv (List.replicate (B * P) 0)), OwnA 3 1 (some ⟨b39, 0, none⟩) B B (iv (List.replicate B 0)), OwnA 3 1 (some ⟨b41, 0, none⟩) B B (iv (List.replicate B 0)), RdT LF yf, BoxA b1 33 g.vs])
    (fun (v : Int × Unit) _ => ((B : Int) - v.1).toNat) ⟨0, none, 0, rfl, by omega, S⟩ ?_
  rintro ⟨(z : Int), ⟨⟩⟩ w14 ⟨i, a, c, hz, hi, S⟩
  dsimp only at hz ⊢
  subst hz
  refine cond_d (fun hlt => ?_) (fun hge => ?_)
  · refine S.ld1 (j := 9) rfl rfl ?_
    refine S.newB fun b44 w15 S f15 _ => ?_
    dsimp only
    refine AppS.of (news := [.int .i64 (-1)]) rfl (.inr ⟨_, rfl, S.cells 0 rfl⟩) ?_
    refine S.ap1 (by rfl) (fun u hu => by rw [List.mem_singleton.1 hu]; rfl) (by omega) (by omega) fun a46 c48 w16 S f16 => ?_
    refine S.su2 (j := 9) (by rfl) fun w17 S f17 => ?_
    refine ⟨Rng.i64 (by omega) (by omega), ⟨i + 1, a46, c48, by push_cast; rfl, by omega, ?_⟩, by omega⟩
    have e : iv (List.replicate (i + 1) (-1)) = iv (List.replicate i (-1)) ++ [Value.int .i64 (-1)] := by rw [List.replicate_succ', iv, List.map_append]; rfl
    rw [e]
    exact S.tail
  have hiB : i = B := by omega
  subst hiB
  refine ⟨S.ext, fun h => absurd ⟨hR, hF⟩ h, fun _ => ⟨rfl, b15, ⟨boxS b21 (i * P * Z), boxS b33 (i * P), ⟨a, i, c⟩, boxS b39 i, boxS b41 i, yf, nilS⟩, rfl, hcp.dat, ?_⟩⟩
  have S := (S.nilOwn 139 5).nilL
  have S := S.sel [3, 3, 3, 2, 2, 2, 2, 1, 0] rfl
  refine chip_mk (y := ⟨boxS b21 (i * P * Z), boxS b33 (i * P), ⟨a, i, c⟩, boxS b39 i, boxS b41 i, yf, nilS⟩) (C := newC g (fds x)) (L := []) (Rs := []) S ?_ ?_ ?_ ?_ ?_
  · rw [newC_img, hB', hP', hZ', Nat.mul_assoc]
  · rw [newC_us, hB', hP']
  · rw [newC_la, hB']
  · rw [newC_sc, hB']
  · rw [newC_er, hB']
end Go.Proofs.Ytlpeoaphdmfjdaa.Vc
/-! The laws GeometryChecks, GeometryIndexes and GeometryQuotas of layer 11: each call gives true, and what it read stays. -/
namespace Go.Proofs.Ytlpeoaphdmfjdaa.Vc
open Go Go.Eng Go.RowKit
theorem Right_c {w : World} {g : Geo} : CallV Try.prog 71 #[g.val] w [.one .bool] fun r w' => r.1 = decide (Right g) ∧ Ext w w' := by
  refine ref11_Right.vc _ _ _ _ _ _ _ _ ?_
  unfold ref11_Right.P
  refine newG fun b1 w1 e1 hb => ?_
  have no : ∀ {w' : World}, ¬ Right g → Ext w w' → (false = decide (Right g) ∧ Ext w w') := fun hr he => ⟨(decide_eq_false hr).symm, he⟩
  refine hb.ld (i := 0) (h := .int .i64) (x := g.b) rfl ?_
  refine in11_c.mono ?_
  rintro ⟨(r1 : Bool), ⟨⟩⟩ w' ⟨h1, rfl⟩
  dsimp only at h1 ⊢
  subst h1
  refine cond_of (fun hc => no (fun hr => by unfold Right Kept at hr; simp at hc; omega) e1) (fun c1 => ?_)
  simp at c1
  refine hb.ld (i := 1) (h := .int .i64) (x := g.p) rfl ?_
  refine in11_c.mono ?_
  rintro ⟨(r1 : Bool), ⟨⟩⟩ w' ⟨h1, rfl⟩
  dsimp only at h1 ⊢
  subst h1
  refine cond_of (fun hc => no (fun hr => by unfold Right Kept at hr; simp at hc; omega) e1) (fun c2 => ?_)
  simp at c2
  refine hb.ld (i := 2) (h := .int .i64) (x := g.s) rfl ?_
  refine in11_c.mono ?_
  rintro ⟨(r1 : Bool), ⟨⟩⟩ w' ⟨h1, rfl⟩
  dsimp only at h1 ⊢
  subst h1
  refine cond_of (fun hc => no (fun hr => by unfold Right Kept at hr; simp at hc; omega) e1) (fun c3 => ?_)
  simp at c3
  refine hb.ld (i := 3) (h := .int .i64) (x := g.sp) rfl ?_
  refine in11_c.mono ?_
  rintro ⟨(r1 : Bool), ⟨⟩⟩ w' ⟨h1, rfl⟩
  dsimp only at h1 ⊢
  subst h1
  refine cond_of (fun hc => no (fun hr => by unfold Right Kept at hr; simp at hc; omega) e1) (fun c4 => ?_)
  simp at c4
  refine hb.ld (i := 4) (h := .int .i64) (x := g.wr) rfl ?_
  refine in11_c.mono ?_
  rintro ⟨(r1 : Bool), ⟨⟩⟩ w' ⟨h1, rfl⟩
  dsimp only at h1 ⊢
  subst h1
  refine cond_of (fun hc => no (fun hr => by unfold Right Kept at hr; simp at hc; omega) e1) (fun c5 => ?_)
  simp at c5
  refine hb.ld (i := 5) (h := .int .i64) (x := g.ro) rfl ?_
  refine in11_c.mono ?_
  rintro ⟨(r1 : Bool), ⟨⟩⟩ w' ⟨h1, rfl⟩
  dsimp only at h1 ⊢
  subst h1
  refine cond_of (fun hc => no (fun hr => by unfold Right Kept at hr; simp at hc; omega) e1) (fun c6 => ?_)
  simp at c6
  refine DrawV.old w' fun D hD hkeep => ?_
  have hD1 := hD _ hb.lt
  have hd := hb.ext (Ext.drew _)
  have e1' := e1.trans (Ext.drew w')
  refine ⟨hD1, hd.ld (i := 2) (h := .int .i64) (x := g.s) rfl ?_⟩
  have hm : Int.tmod g.s 16 = g.s % 16 := Int.tmod_eq_emod_of_nonneg (by omega)
  rw [hm]
  refine ⟨by omega, cond_eq (fun h16 => ?_) (fun h16 => no (fun hr => by unfold Right Kept at hr; omega) e1')⟩
  refine ⟨hD1, ldG hd ?_⟩
  refine ⟨hD1, hd.ld (i := 1) (h := .int .i64) (x := g.p) rfl ?_⟩
  refine (rChunks_c (g := g) (by omega)).mono ?_
  rintro ⟨(r2 : Int), ⟨⟩⟩ w2 ⟨h2, e2⟩
  have E2 := (Ext.drew w').trans e2
  refine ⟨hkeep _ E2, ?_⟩
  dsimp only at h2 ⊢
  subst h2
  have F2 := e1.trans E2
  refine cond_d (fun hle => ?_) (fun hle => no (fun hr => by unfold Right at hr; omega) F2)
  refine ⟨hD1, hd.ld (i := 0) (h := .int .i64) (x := g.b) rfl ?_⟩
  refine ⟨Rng.i64 (by omega) (by omega), ?_⟩
  refine ⟨hD1, hd.ld (i := 3) (h := .int .i64) (x := g.sp) rfl ?_⟩
  refine ⟨Rng.i64 (by omega) (by omega), ?_, F2⟩
  apply decide_eq_decide.2
  unfold Right Kept
  omega
abbrev TGeo : Ty := .cons (.int .i64) (.cons (.int .i64) (.cons (.int .i64) (.cons (.int .i64) (.cons (.int .i64) (.cons (.int .i64) .nil)))))
def geoT (x : TGeo.T) : Geo := ⟨x.1, x.2.1, x.2.2.1, x.2.2.2.1, x.2.2.2.2.1, x.2.2.2.2.2.1⟩
theorem geoT_val (x : TGeo.T) : (.agg (TGeo.vs x).toArray : Value) = (geoT x).val := rfl
end Go.Proofs.Ytlpeoaphdmfjdaa.Vc
/-! The contracts of layer 13: the document's array. -/
namespace Go.Proofs.Ytlpeoaphdmfjdaa.Vc
open Go Go.Eng Go.RowKit
abbrev TI : Ty := .sl (.int .i64)
abbrev TBd : Ty := .cons TBB (.cons TI (.cons (.int .i64) (.cons .bool (.cons (.int .i64) .nil))))
end Go.Proofs.Ytlpeoaphdmfjdaa.Vc
/-! The contracts of layer 13: the document's array, its blocks. -/
namespace Go.Proofs.Ytlpeoaphdmfjdaa.Vc
open Go Go.Eng Go.RowKit
theorem own_rdF {w : World} {F G : Nat → Prop} {t : Ty} {e : TypeId} {a : Option Addr} {n c : Nat} {L : List t.T} (ho : (OwnA e t.n a n c (L.flatMap t.vs)).p w F) (hp : 0 < t.n) (hF : ∀ k, F k → G k) (h : ∀ y ∈ L, t.rd w G y) : (Ty.sl t).rd w G ⟨a, n, c, L⟩ := by
  have hm := maxLen_eq
  obtain ⟨ho, hq⟩ := ho
  refine ⟨?_, ho.cap, by have := ho.lim; show n ≤ maxLen; omega, ?_, h⟩
  · have := ho.len
    rw [flatF_len (f := t.vs) (m := t.n) t.vs_length] at this
    exact Nat.eq_of_mul_eq_mul_right hp this
  · rcases ho.rd with h | ⟨p, h1, h2⟩
    · exact .inl h
    · exact .inr ⟨p, h1, h2, fun _ => hF _ (hq p h1)⟩
end Go.Proofs.Ytlpeoaphdmfjdaa.Vc
/-! The contracts of layer 13: the document's array, a byte changed. -/
namespace Go.Proofs.Ytlpeoaphdmfjdaa.Vc
open Go Go.Eng Go.RowKit
section
variable {H : Nat → Prop} {w : World} {B : SlP TBd.T} {f : SlP TF.T} {C : CD}
theorem own_rdB {w : World} {F G : Nat → Prop} {e : TypeId} {a : Option Addr} {n c : Nat} {xs : List Int} (ho : (OwnA e 1 a n c (xs.map (Value.int .u8))).p w F) (hF : ∀ k, F k → G k) (bx : Byt xs) : TB.rd w G ⟨a, n, c, xs⟩ := by
  rw [← flat_ints] at ho
  exact own_rdF (t := .int .u8) ho (by decide) hF fun y hy => rngU8 (bx y hy)
end
end Go.Proofs.Ytlpeoaphdmfjdaa.Vc
/-! The contracts of layer 21 (ledger): the blocks' changes. -/
namespace Go.Proofs.Ytlpeoaphdmfjdaa.Vc
open Go Go.Eng Go.RowKit
structure Blk where
  ow : Int
  us : Int
  li : Int
  er : Int
  he : Bool
  cl : Bool
  ba : Bool
  go : Bool
  le : Bool
def Blk.z : Blk := ⟨0, 0, 0, 0, false, false, false, false, false⟩
instance : Inhabited Blk := ⟨.z⟩
abbrev Blk.vs (x : Blk) : List Value := [.int .i64 x.ow, .int .i64 x.us, .int .i64 x.li, .int .i64 x.er, .bool x.he, .bool x.cl, .bool x.ba, .bool x.go, .bool x.le]
def hB (n : Int) (x : Blk) : Blk := ⟨n, 0, 0, x.er, true, false, x.ba, x.go, x.le⟩
end Go.Proofs.Ytlpeoaphdmfjdaa.Vc
/-! An array, and a ledger, as parts of which only the data is told. -/
namespace Go.Proofs.Ytlpeoaphdmfjdaa.Vc
open Go Go.Eng Go.RowKit
def chipE (p : Nat) (C : CD) : Asr := ⟨fun w F => ∃ (y : Lay) (L : List TOp), fds y.F = C.pl ∧ StarP w (ChipP p y C L) F, fun h k => by obtain ⟨y, L, h1, h2⟩ := h; exact ⟨y, L, h1, h2.st k⟩⟩
theorem eraC_k (C : CD) (n : Int) : (eraC C n).1.g = C.g ∧ (eraC C n).1.pl = C.pl := by unfold eraC eraX; split <;> exact ⟨rfl, rfl⟩
theorem scrC_k (C : CD) (n : Int) : (scrC C n).1.g = C.g ∧ (scrC C n).1.pl = C.pl := by unfold scrC scrX; split <;> exact ⟨rfl, rfl⟩
theorem progC_k (C : CD) (bl pa : Int) (b : List Int) : (progC C bl pa b).1.g = C.g ∧ (progC C bl pa b).1.pl = C.pl := by unfold progC progX; split <;> exact ⟨rfl, rfl⟩
theorem eraC_ok {C : CD} (hC : COk C) (n : Int) (ho : C.ops < 1000000) : COk (eraC C n).1 ∧ (eraC C n).1.ops ≤ C.ops + 1 ∧ C.ops ≤ (eraC C n).1.ops := by
  unfold eraC
  split
  · rename_i h; exact ⟨eraX_ok hC h ho, Nat.le_refl _, Nat.le_succ _⟩
  · exact ⟨hC, Nat.le_succ _, Nat.le_refl _⟩
theorem scrC_ok {C : CD} (hC : COk C) (n : Int) (ho : C.ops < 1000000) : COk (scrC C n).1 ∧ (scrC C n).1.ops ≤ C.ops + 1 ∧ C.ops ≤ (scrC C n).1.ops := by
  unfold scrC
  split
  · rename_i h; exact ⟨scrX_ok hC h ho, Nat.le_refl _, Nat.le_succ _⟩
  · exact ⟨hC, Nat.le_succ _, Nat.le_refl _⟩
theorem progC_ok {C : CD} (hC : COk C) (bl pa : Int) {b : List Int} (bb : Byt b) (ho : C.ops < 1000000) : COk (progC C bl pa b).1 ∧ (progC C bl pa b).1.ops ≤ C.ops + 1 ∧ C.ops ≤ (progC C bl pa b).1.ops := by
  unfold progC
  split
  · rename_i h; exact ⟨progX_ok hC h bb ho, Nat.le_refl _, Nat.le_succ _⟩
  · exact ⟨hC, Nat.le_succ _, Nat.le_refl _⟩
section
variable {E : Nat → Prop} {w0 w : World} {Rs : List Asr} {p q : Nat} {C : CD} {L : List Blk}
theorem chipE_in {y : Lay} {T : List TOp} (hF : fds y.F = C.pl) (S : Sep E w0 w (ChipP p y C T ++ Rs)) : Sep E w0 w (chipE p C :: Rs) :=
  (S.fold (Rs := ChipP p y C T)).conv fun F h _ => ⟨y, T, hF, h⟩
theorem chipE_out (S : Sep E w0 w (chipE p C :: Rs)) : ∃ (y : Lay) (T : List TOp), fds y.F = C.pl ∧ Sep E w0 w (ChipP p y C T ++ Rs) := by
  obtain ⟨F, ⟨F1, F2, ⟨y, T, h1, h2⟩, h3⟩, hb⟩ := S.ex
  have S2 : Sep E w0 w (StarA (ChipP p y C T) :: Rs) := ⟨S.fr, F, ⟨F1, F2, h2, h3⟩, hb⟩
  exact ⟨y, T, h1, S2.unfold (Rs := ChipP p y C T)⟩
theorem res_rdL {w1 : World} {s : SlV} {xs : List Int} (S : Sep E w0 w Rs) (h : Res w w1 s xs) (bx : Byt xs) : Sep E w0 w1 (RdL [⟨s.a, s.n, s.c, xs⟩] :: Rs) :=
  (S.pushO h.ext h.own).conv fun F hF _ x hx => by
    rw [List.mem_singleton.1 hx]
    exact own_rdB hF (fun k hk => hk) bx
theorem On_e (hC : COk C) (S : Sep E w0 w (chipE p C :: Rs)) : CallV Try.prog 61 #[.pointer (some ⟨p, 0, none⟩)] w [.one .bool] fun r w' => r.1 = (!C.off) ∧ w' = w := by
  obtain ⟨y, T, hF, S⟩ := chipE_out S
  exact On_c hC S
theorem Ops_e (S : Sep E w0 w (chipE p C :: Rs)) : CallV Try.prog 27 #[.pointer (some ⟨p, 0, none⟩)] w [.one (.int .i64)] fun r w' => r.1 = (C.ops : Int) ∧ w' = w := by
  obtain ⟨y, T, hF, S⟩ := chipE_out S
  exact Ops_c S
theorem Geometry_e (S : Sep E w0 w (chipE p C :: Rs)) : CallV Try.prog 30 #[.pointer (some ⟨p, 0, none⟩)] w [.agg [.int .i64, .int .i64, .int .i64, .int .i64, .int .i64, .int .i64]] fun r w' => r.1 = C.g.tup ∧ Ext w w' := by
  obtain ⟨y, T, hF, S⟩ := chipE_out S
  exact Geometry_c S
theorem Read_e {bl pa : Int} (hC : COk C) (S : Sep E w0 w (chipE p C :: Rs)) : CallV Try.prog 54 #[.pointer (some ⟨p, 0, none⟩), .agg #[.int .i64 bl, .int .i64 pa]] w [.one .sl, .one (.int .i64)] fun r w' =>
    r.2.1 = readC C bl pa ∧ (readC C bl pa ≠ 0 → r.1 = (⟨none, 0, 0⟩ : SlV) ∧ Ext w w') ∧ (readC C bl pa = 0 → Res w w' r.1 (pgC13 C bl pa)) := by
  obtain ⟨y, T, hF, S⟩ := chipE_out S
  exact Read13_c hC S
end
end Go.Proofs.Ytlpeoaphdmfjdaa.Vc
/-! The plans of functions as plain statements, printed by wip/tools/vcgen.py; the kernel holds each to the code. -/
namespace Go.Proofs.Ytlpeoaphdmfjdaa.Vc
open Go Go.Eng
def head_Bytes.A : Ann := .two .no (.two (.two .no (.one (.loop [2, 3, 5, 14, 15, 16, 17, 18, 19, 20, 21, 22, 23] [(14, .one (.int .i64))] .no))) .no)
def head_Bytes.P (p0_0 p0_1 p0_2 p0_3 p0_4 p0_5 : Int) (w : World) (K : SlV × Int × Unit → World → Prop) : Prop :=
  NewV #[.int .i64 p0_0, .int .i64 p0_1, .int .i64 p0_2, .int .u32 p0_3, .int .u64 p0_4, .int .u64 p0_5] 25 w fun b1 w2 =>
  LoadS w2 ⟨b1, 0, none⟩ (.int .i64) fun (x3 : Int) =>
  LoadS w2 ⟨b1, 1, none⟩ (.int .i64) fun (x4 : Int) =>
  LoadS w2 ⟨b1, 2, none⟩ (.int .i64) fun (x5 : Int) =>
  LoopV [.one (.int .i64)] ((0 : Int), ()) w2 fun (z6 : Int × Unit) w7 (K8 : Int × Unit → World → Prop) =>
  cond (decide (z6.1 < 3))
  ((0 ≤ z6.1 ∧ z6.1 < (3 : Int)) ∧ ∃ y9 : Int, ([.int .i64 x3, .int .i64 x4, .int .i64 x5] : List Value)[z6.1.toNat * 1]? = some (.int .i64 y9) ∧
  cond (decide (y9 < 0))
  (K ((⟨none, 0, 0⟩ : SlV), (2 : Int), ()) w7)
  (cond (decide (y9 > 255))
  (K ((⟨none, 0, 0⟩ : SlV), (2 : Int), ()) w7)
  (Rng .i64 (z6.1 + 1) ∧
  K8 (z6.1 + 1, ()) w7)))
  (LoadS w7 ⟨b1, 0, none⟩ (.int .i64) fun (x10 : Int) =>
  cond (decide (x10 < 1))
  (K ((⟨none, 0, 0⟩ : SlV), (2 : Int), ()) w7)
  (LoadS w7 ⟨b1, 0, none⟩ (.int .i64) fun (x11 : Int) =>
  cond (decide (x11 > 4))
  (K ((⟨none, 0, 0⟩ : SlV), (2 : Int), ()) w7)
  (LoadS w7 ⟨b1, 0, none⟩ (.int .i64) fun (x12 : Int) =>
  LoadS w7 ⟨b1, 1, none⟩ (.int .i64) fun (x13 : Int) =>
  LoadS w7 ⟨b1, 2, none⟩ (.int .i64) fun (x14 : Int) =>
  NewV #[.int .u8 (IntKind.u8.wrap x12), .int .u8 (IntKind.u8.wrap x13), .int .u8 (IntKind.u8.wrap x14), .int .u8 0] 5 w7 fun b15 w16 =>
  LoadS w16 ⟨b1, 3, none⟩ (.int .u32) fun (x17 : Int) =>
  CallV Try.prog 126 #[.int .u64 (IntKind.u64.wrap x17), .int .i64 4] w16 [.one .sl] fun (r18 : SlV × Unit) w19 =>
  AppS w19 r18.1.a r18.1.n 1 fun ns24 =>
  AppV w19 5 1 1 (some ⟨b15, 0, none⟩) 4 4 ns24 r18.1.n fun a20 n21 c22 w23 =>
  LoadS w23 ⟨b1, 4, none⟩ (.int .u64) fun (x25 : Int) =>
  CallV Try.prog 126 #[.int .u64 x25, .int .i64 8] w23 [.one .sl] fun (r26 : SlV × Unit) w27 =>
  AppS w27 r26.1.a r26.1.n 1 fun ns32 =>
  AppV w27 5 1 1 a20 n21 c22 ns32 r26.1.n fun a28 n29 c30 w31 =>
  LoadS w31 ⟨b1, 5, none⟩ (.int .u64) fun (x33 : Int) =>
  CallV Try.prog 126 #[.int .u64 x33, .int .i64 8] w31 [.one .sl] fun (r34 : SlV × Unit) w35 =>
  AppS w35 r34.1.a r34.1.n 1 fun ns40 =>
  AppV w35 5 1 1 a28 n29 c30 ns40 r34.1.n fun a36 n37 c38 w39 =>
  K ((⟨a36, n37, c38⟩ : SlV), (0 : Int), ()) w39)))
theorem head_Bytes.vc (p0_0 p0_1 p0_2 p0_3 p0_4 p0_5 : Int) (w : World) (K : SlV × Int × Unit → World → Prop) (h : head_Bytes.P p0_0 p0_1 p0_2 p0_3 p0_4 p0_5 w K) : CallV Try.prog 118 #[.agg #[.int .i64 p0_0, .int .i64 p0_1, .int .i64 p0_2, .int .u32 p0_3, .int .u64 p0_4, .int .u64 p0_5]] w [.one .sl, .one (.int .i64)] K := by
  refine vcFun.of (A := head_Bytes.A) (wr := false) okf_ok follows h Try.func118 ?_
  kernel_rfl
def head_Mark.A : Ann := .no
def head_Mark.P (p0 : Int) (w : World) (K : SlV × Unit → World → Prop) : Prop :=
  cond (decide (p0 < 88))
  (K ((⟨none, 0, 0⟩ : SlV), ()) w)
  (cond (decide (p0 > 4184))
  (K ((⟨none, 0, 0⟩ : SlV), ()) w)
  (Rng .i64 (p0 - 8) ∧
  CallV Try.prog 91 #[.int .u8 255, .int .i64 (p0 - 8)] w [.one .sl] fun (r1 : SlV × Unit) w2 =>
  CallV Try.prog 91 #[.int .u8 0, .int .i64 8] w2 [.one .sl] fun (r3 : SlV × Unit) w4 =>
  AppS w4 r3.1.a r3.1.n 1 fun ns9 =>
  AppV w4 5 1 1 r1.1.a r1.1.n r1.1.c ns9 r3.1.n fun a5 n6 c7 w8 =>
  K ((⟨a5, n6, c7⟩ : SlV), ()) w8))
theorem head_Mark.vc (p0 : Int) (w : World) (K : SlV × Unit → World → Prop) (h : head_Mark.P p0 w K) : CallV Try.prog 95 #[.int .i64 p0] w [.one .sl] K := by
  refine vcFun.of (A := head_Mark.A) (wr := false) okf_ok follows h Try.func95 ?_
  kernel_rfl
def head_Read.A : Ann := .two .no (.two .no (.two (.draw (.take 0 (.take 1 (.take 2 (.take 3 (.take 4 (.take 5 (.done)))))))) (.two (.draw (.take 0 (.take 1 (.take 2 (.take 3 (.take 4 (.take 5 (.take 6 (.take 7 (.take 8 (.take 9 (.take 10 (.take 11 (.take 12 (.take 13 (.take 16 (.take 17 (.take 19 (.take 20 (.both 14 (.take 15 (.both 18 (.both 21 (.take 22 (.eff 23 (.eff 24 (.done)))) 23 (.eff 21 (.take 22 (.eff 24 (.done))))) 23 (.eff 18 (.eff 21 (.take 22 (.eff 24 (.done))))))) 23 (.eff 14 (.take 15 (.eff 18 (.eff 21 (.take 22 (.eff 24 (.done))))))))))))))))))))))))))) (.two (.two (.draw (.take 0 (.take 2 (.take 3 (.eff 1 (.eff 4 (.take 5 (.take 6 (.take 7 (.take 8 (.take 9 (.take 10 (.take 11 (.take 12 (.take 13 (.take 14 (.take 15 (.take 16 (.take 17 (.take 18 (.take 19 (.take 20 (.take 21 (.done)))))))))))))))))))))))) .no) (.two (.draw (.take 0 (.take 2 (.eff 1 (.eff 3 (.eff 4 (.take 5 (.take 6 (.done))))))))) .no)))))
def head_Read.P (a0 : Option Addr) (n0 c0 : Nat) (w : World) (K : (Int × Int × Int × Int × Int × Int × Unit) × SlV × Int × Unit → World → Prop) : Prop :=
  NewV #[.int .i64 0, .int .i64 0, .int .i64 0, .int .u32 0, .int .u64 0, .int .u64 0] 25 w fun b1 w2 =>
  cond (((n0 : Nat) : Int) != 88)
  (StoreV w2 ⟨b1, 0, none⟩ [.int .i64 0, .int .i64 0, .int .i64 0, .int .u32 0, .int .u64 0, .int .u64 0] fun w3 =>
  LoadA w3 ⟨b1, 0, none⟩ [.int .i64, .int .i64, .int .i64, .int .u32, .int .u64, .int .u64] fun (x4 : Int × Int × Int × Int × Int × Int × Unit) =>
  K ((x4.1, x4.2.1, x4.2.2.1, x4.2.2.2.1, x4.2.2.2.2.1, x4.2.2.2.2.2.1, ()), (⟨none, 0, 0⟩ : SlV), (2 : Int), ()) w3)
  (DrawV fun D5 =>
  ((0 : Int) ≤ (24 : Int) ∧ (24 : Int) ≤ ((c0 : Nat) : Int)) ∧
  SubK a0 0 c0 1 fun a6 =>
  ((0 : Int) ≤ (48 : Int) ∧ (48 : Int) ≤ (80 : Int) ∧ (80 : Int) ≤ ((c0 : Nat) : Int)) ∧
  SubK a0 48 c0 1 fun a7 =>
  DrawV fun D8 =>
  (0 ≤ (0 : Int) ∧ 0 < ((24 - 0 : Nat) : Int)) ∧ ∃ q9 : Addr, a6 = some q9 ∧
  (D8 (q9.add (0 * 1)).block ∧ LoadS w2.drew.drew (q9.add (0 * 1)) (.int .u8) fun (x10 : Int) =>
  (0 ≤ (1 : Int) ∧ 1 < ((24 - 0 : Nat) : Int)) ∧ ∃ q11 : Addr, a6 = some q11 ∧
  (D8 (q11.add (1 * 1)).block ∧ LoadS w2.drew.drew (q11.add (1 * 1)) (.int .u8) fun (x12 : Int) =>
  (0 ≤ (2 : Int) ∧ 2 < ((24 - 0 : Nat) : Int)) ∧ ∃ q13 : Addr, a6 = some q13 ∧
  (D8 (q13.add (2 * 1)).block ∧ LoadS w2.drew.drew (q13.add (2 * 1)) (.int .u8) fun (x14 : Int) =>
  ((0 : Int) ≤ (4 : Int) ∧ (4 : Int) ≤ (8 : Int) ∧ (8 : Int) ≤ ((c0 - 0 : Nat) : Int)) ∧
  SubK a6 4 (c0 - 0) 1 fun a15 =>
  ((0 : Int) ≤ (8 : Int) ∧ (8 : Int) ≤ (16 : Int) ∧ (16 : Int) ≤ ((c0 - 0 : Nat) : Int)) ∧
  SubK a6 8 (c0 - 0) 1 fun a16 =>
  ((0 : Int) ≤ (16 : Int) ∧ (16 : Int) ≤ (24 : Int) ∧ (24 : Int) ≤ ((c0 - 0 : Nat) : Int)) ∧
  SubK a6 16 (c0 - 0) 1 fun a17 =>
  ((CallV Try.prog 132 #[.slice a15 (8 - 4) ((c0 - 0) - 4)] w2.drew.drew [.one (.int .u64)] fun (r18 : Int × Unit) w19 =>
  KeepOn D8 w2.drew.drew w19 ∧
  ((CallV Try.prog 132 #[.slice a16 (16 - 8) ((c0 - 0) - 8)] w19 [.one (.int .u64)] fun (r20 : Int × Unit) w21 =>
  KeepOn D8 w2.drew.drew w21 ∧
  ((CallV Try.prog 132 #[.slice a17 (24 - 16) ((c0 - 0) - 16)] w21 [.one (.int .u64)] fun (r22 : Int × Unit) w23 =>
  KeepOn D8 w2.drew.drew w23 ∧
  NewV #[.int .i64 0, .int .i64 0, .int .i64 0, .int .u32 0, .int .u64 0, .int .u64 0] 25 w23 fun b24 w25 =>
  KeepOn D8 w2.drew.drew w25 ∧
  StoreV w25 ⟨b24, 0, none⟩ [.int .i64 (IntKind.i64.wrap x10), .int .i64 (IntKind.i64.wrap x12), .int .i64 (IntKind.i64.wrap x14), .int .u32 (IntKind.u32.wrap r18.1), .int .u64 r20.1, .int .u64 r22.1] fun w26 =>
  KeepOn D8 w2.drew.drew w26 ∧
  DrawV fun D27 =>
  ((0 : Int) ≤ (24 : Int) ∧ (24 : Int) ≤ (48 : Int) ∧ (48 : Int) ≤ ((c0 : Nat) : Int)) ∧
  SubK a0 24 c0 1 fun a28 =>
  CallV Try.prog 115 #[.slice a6 (24 - 0) (c0 - 0)] w26.drew [.one .sl] fun (r29 : SlV × Unit) w30 =>
  KeepOn D27 w26.drew w30 ∧
  CallV Try.prog 133 #[.slice r29.1.a r29.1.n r29.1.c, .slice a28 (48 - 24) (c0 - 24)] w30 [.one .bool] fun (r31 : Bool × Unit) w32 =>
  KeepOn D27 w26.drew w32 ∧
  cond (!r31.1)
  (StoreV w32 ⟨b1, 0, none⟩ [.int .i64 0, .int .i64 0, .int .i64 0, .int .u32 0, .int .u64 0, .int .u64 0] fun w33 =>
  LoadA w33 ⟨b1, 0, none⟩ [.int .i64, .int .i64, .int .i64, .int .u32, .int .u64, .int .u64] fun (x34 : Int × Int × Int × Int × Int × Int × Unit) =>
  K ((x34.1, x34.2.1, x34.2.2.1, x34.2.2.2.1, x34.2.2.2.2.1, x34.2.2.2.2.2.1, ()), (⟨none, 0, 0⟩ : SlV), (1 : Int), ()) w33)
  ((0 ≤ (3 : Int) ∧ 3 < ((24 - 0 : Nat) : Int)) ∧ ∃ q35 : Addr, a6 = some q35 ∧
  (D27 (q35.add (3 * 1)).block ∧ LoadS w26.drew (q35.add (3 * 1)) (.int .u8) fun (x36 : Int) =>
  cond (x36 != 0)
  (StoreV w32 ⟨b1, 0, none⟩ [.int .i64 0, .int .i64 0, .int .i64 0, .int .u32 0, .int .u64 0, .int .u64 0] fun w37 =>
  LoadA w37 ⟨b1, 0, none⟩ [.int .i64, .int .i64, .int .i64, .int .u32, .int .u64, .int .u64] fun (x38 : Int × Int × Int × Int × Int × Int × Unit) =>
  K ((x38.1, x38.2.1, x38.2.2.1, x38.2.2.2.1, x38.2.2.2.2.1, x38.2.2.2.2.2.1, ()), (⟨none, 0, 0⟩ : SlV), (1 : Int), ()) w37)
  ((D27 b24 ∧ LoadS w26.drew ⟨b24, 0, none⟩ (.int .i64) fun (x39 : Int) =>
  cond (decide (x39 < 1))
  (StoreV w32 ⟨b1, 0, none⟩ [.int .i64 0, .int .i64 0, .int .i64 0, .int .u32 0, .int .u64 0, .int .u64 0] fun w40 =>
  LoadA w40 ⟨b1, 0, none⟩ [.int .i64, .int .i64, .int .i64, .int .u32, .int .u64, .int .u64] fun (x41 : Int × Int × Int × Int × Int × Int × Unit) =>
  K ((x41.1, x41.2.1, x41.2.2.1, x41.2.2.2.1, x41.2.2.2.2.1, x41.2.2.2.2.2.1, ()), (⟨none, 0, 0⟩ : SlV), (1 : Int), ()) w40)
  ((D27 b24 ∧ LoadS w26.drew ⟨b24, 0, none⟩ (.int .i64) fun (x42 : Int) =>
  cond (decide (x42 > 4))
  (StoreV w32 ⟨b1, 0, none⟩ [.int .i64 0, .int .i64 0, .int .i64 0, .int .u32 0, .int .u64 0, .int .u64 0] fun w43 =>
  LoadA w43 ⟨b1, 0, none⟩ [.int .i64, .int .i64, .int .i64, .int .u32, .int .u64, .int .u64] fun (x44 : Int × Int × Int × Int × Int × Int × Unit) =>
  K ((x44.1, x44.2.1, x44.2.2.1, x44.2.2.2.1, x44.2.2.2.2.1, x44.2.2.2.2.2.1, ()), (⟨none, 0, 0⟩ : SlV), (1 : Int), ()) w43)
  (DrawV fun D45 =>
  (D45 b24 ∧ LoadA w32.drew ⟨b24, 0, none⟩ [.int .i64, .int .i64, .int .i64, .int .u32, .int .u64, .int .u64] fun (x46 : Int × Int × Int × Int × Int × Int × Unit) =>
  NewV #[] 5 w32.drew fun b47 w48 =>
  KeepOn D45 w32.drew w48 ∧
  AppS w48 a7 (80 - 48) 1 fun ns53 =>
  AppV w48 5 1 1 (some ⟨b47, 0, none⟩) 0 0 ns53 (80 - 48) fun a49 n50 c51 w52 =>
  KeepOn D45 w32.drew w52 ∧
  StoreV w52 ⟨b1, 0, none⟩ [.int .i64 x46.1, .int .i64 x46.2.1, .int .i64 x46.2.2.1, .int .u32 x46.2.2.2.1, .int .u64 x46.2.2.2.2.1, .int .u64 x46.2.2.2.2.2.1] fun w54 =>
  KeepOn D45 w32.drew w54 ∧
  LoadA w54 ⟨b1, 0, none⟩ [.int .i64, .int .i64, .int .i64, .int .u32, .int .u64, .int .u64] fun (x55 : Int × Int × Int × Int × Int × Int × Unit) =>
  K ((x55.1, x55.2.1, x55.2.2.1, x55.2.2.2.1, x55.2.2.2.2.1, x55.2.2.2.2.2.1, ()), (⟨a49, n50, c51⟩ : SlV), (0 : Int), ()) w54))))))))) ∧
  (NewV #[.int .i64 0, .int .i64 0, .int .i64 0, .int .u32 0, .int .u64 0, .int .u64 0] 25 w21 fun b56 w57 =>
  KeepOn D8 w2.drew.drew w57 ∧
  CallV Try.prog 132 #[.slice a17 (24 - 16) ((c0 - 0) - 16)] w57 [.one (.int .u64)] fun (r58 : Int × Unit) w59 =>
  KeepOn D8 w2.drew.drew w59 ∧
  StoreV w59 ⟨b56, 0, none⟩ [.int .i64 (IntKind.i64.wrap x10), .int .i64 (IntKind.i64.wrap x12), .int .i64 (IntKind.i64.wrap x14), .int .u32 (IntKind.u32.wrap r18.1), .int .u64 r20.1, .int .u64 r58.1] fun w60 =>
  KeepOn D8 w2.drew.drew w60 ∧
  DrawV fun D61 =>
  ((0 : Int) ≤ (24 : Int) ∧ (24 : Int) ≤ (48 : Int) ∧ (48 : Int) ≤ ((c0 : Nat) : Int)) ∧
  SubK a0 24 c0 1 fun a62 =>
  CallV Try.prog 115 #[.slice a6 (24 - 0) (c0 - 0)] w60.drew [.one .sl] fun (r63 : SlV × Unit) w64 =>
  KeepOn D61 w60.drew w64 ∧
  CallV Try.prog 133 #[.slice r63.1.a r63.1.n r63.1.c, .slice a62 (48 - 24) (c0 - 24)] w64 [.one .bool] fun (r65 : Bool × Unit) w66 =>
  KeepOn D61 w60.drew w66 ∧
  cond (!r65.1)
  (StoreV w66 ⟨b1, 0, none⟩ [.int .i64 0, .int .i64 0, .int .i64 0, .int .u32 0, .int .u64 0, .int .u64 0] fun w67 =>
  LoadA w67 ⟨b1, 0, none⟩ [.int .i64, .int .i64, .int .i64, .int .u32, .int .u64, .int .u64] fun (x68 : Int × Int × Int × Int × Int × Int × Unit) =>
  K ((x68.1, x68.2.1, x68.2.2.1, x68.2.2.2.1, x68.2.2.2.2.1, x68.2.2.2.2.2.1, ()), (⟨none, 0, 0⟩ : SlV), (1 : Int), ()) w67)
  ((0 ≤ (3 : Int) ∧ 3 < ((24 - 0 : Nat) : Int)) ∧ ∃ q69 : Addr, a6 = some q69 ∧
  (D61 (q69.add (3 * 1)).block ∧ LoadS w60.drew (q69.add (3 * 1)) (.int .u8) fun (x70 : Int) =>
  cond (x70 != 0)
  (StoreV w66 ⟨b1, 0, none⟩ [.int .i64 0, .int .i64 0, .int .i64 0, .int .u32 0, .int .u64 0, .int .u64 0] fun w71 =>
  LoadA w71 ⟨b1, 0, none⟩ [.int .i64, .int .i64, .int .i64, .int .u32, .int .u64, .int .u64] fun (x72 : Int × Int × Int × Int × Int × Int × Unit) =>
  K ((x72.1, x72.2.1, x72.2.2.1, x72.2.2.2.1, x72.2.2.2.2.1, x72.2.2.2.2.2.1, ()), (⟨none, 0, 0⟩ : SlV), (1 : Int), ()) w71)
  ((D61 b56 ∧ LoadS w60.drew ⟨b56, 0, none⟩ (.int .i64) fun (x73 : Int) =>
  cond (decide (x73 < 1))
  (StoreV w66 ⟨b1, 0, none⟩ [.int .i64 0, .int .i64 0, .int .i64 0, .int .u32 0, .int .u64 0, .int .u64 0] fun w74 =>
  LoadA w74 ⟨b1, 0, none⟩ [.int .i64, .int .i64, .int .i64, .int .u32, .int .u64, .int .u64] fun (x75 : Int × Int × Int × Int × Int × Int × Unit) =>
  K ((x75.1, x75.2.1, x75.2.2.1, x75.2.2.2.1, x75.2.2.2.2.1, x75.2.2.2.2.2.1, ()), (⟨none, 0, 0⟩ : SlV), (1 : Int), ()) w74)
  ((D61 b56 ∧ LoadS w60.drew ⟨b56, 0, none⟩ (.int .i64) fun (x76 : Int) =>
  cond (decide (x76 > 4))
  (StoreV w66 ⟨b1, 0, none⟩ [.int .i64 0, .int .i64 0, .int .i64 0, .int .u32 0, .int .u64 0, .int .u64 0] fun w77 =>
  LoadA w77 ⟨b1, 0, none⟩ [.int .i64, .int .i64, .int .i64, .int .u32, .int .u64, .int .u64] fun (x78 : Int × Int × Int × Int × Int × Int × Unit) =>
  K ((x78.1, x78.2.1, x78.2.2.1, x78.2.2.2.1, x78.2.2.2.2.1, x78.2.2.2.2.2.1, ()), (⟨none, 0, 0⟩ : SlV), (1 : Int), ()) w77)
  (DrawV fun D79 =>
  (D79 b56 ∧ LoadA w66.drew ⟨b56, 0, none⟩ [.int .i64, .int .i64, .int .i64, .int .u32, .int .u64, .int .u64] fun (x80 : Int × Int × Int × Int × Int × Int × Unit) =>
  NewV #[] 5 w66.drew fun b81 w82 =>
  KeepOn D79 w66.drew w82 ∧
  AppS w82 a7 (80 - 48) 1 fun ns87 =>
  AppV w82 5 1 1 (some ⟨b81, 0, none⟩) 0 0 ns87 (80 - 48) fun a83 n84 c85 w86 =>
  KeepOn D79 w66.drew w86 ∧
  StoreV w86 ⟨b1, 0, none⟩ [.int .i64 x80.1, .int .i64 x80.2.1, .int .i64 x80.2.2.1, .int .u32 x80.2.2.2.1, .int .u64 x80.2.2.2.2.1, .int .u64 x80.2.2.2.2.2.1] fun w88 =>
  KeepOn D79 w66.drew w88 ∧
  LoadA w88 ⟨b1, 0, none⟩ [.int .i64, .int .i64, .int .i64, .int .u32, .int .u64, .int .u64] fun (x89 : Int × Int × Int × Int × Int × Int × Unit) =>
  K ((x89.1, x89.2.1, x89.2.2.1, x89.2.2.2.1, x89.2.2.2.2.1, x89.2.2.2.2.2.1, ()), (⟨a83, n84, c85⟩ : SlV), (0 : Int), ()) w88))))))))))) ∧
  (NewV #[.int .i64 0, .int .i64 0, .int .i64 0, .int .u32 0, .int .u64 0, .int .u64 0] 25 w19 fun b90 w91 =>
  KeepOn D8 w2.drew.drew w91 ∧
  CallV Try.prog 132 #[.slice a16 (16 - 8) ((c0 - 0) - 8)] w91 [.one (.int .u64)] fun (r92 : Int × Unit) w93 =>
  KeepOn D8 w2.drew.drew w93 ∧
  CallV Try.prog 132 #[.slice a17 (24 - 16) ((c0 - 0) - 16)] w93 [.one (.int .u64)] fun (r94 : Int × Unit) w95 =>
  KeepOn D8 w2.drew.drew w95 ∧
  StoreV w95 ⟨b90, 0, none⟩ [.int .i64 (IntKind.i64.wrap x10), .int .i64 (IntKind.i64.wrap x12), .int .i64 (IntKind.i64.wrap x14), .int .u32 (IntKind.u32.wrap r18.1), .int .u64 r92.1, .int .u64 r94.1] fun w96 =>
  KeepOn D8 w2.drew.drew w96 ∧
  DrawV fun D97 =>
  ((0 : Int) ≤ (24 : Int) ∧ (24 : Int) ≤ (48 : Int) ∧ (48 : Int) ≤ ((c0 : Nat) : Int)) ∧
  SubK a0 24 c0 1 fun a98 =>
  CallV Try.prog 115 #[.slice a6 (24 - 0) (c0 - 0)] w96.drew [.one .sl] fun (r99 : SlV × Unit) w100 =>
  KeepOn D97 w96.drew w100 ∧
  CallV Try.prog 133 #[.slice r99.1.a r99.1.n r99.1.c, .slice a98 (48 - 24) (c0 - 24)] w100 [.one .bool] fun (r101 : Bool × Unit) w102 =>
  KeepOn D97 w96.drew w102 ∧
  cond (!r101.1)
  (StoreV w102 ⟨b1, 0, none⟩ [.int .i64 0, .int .i64 0, .int .i64 0, .int .u32 0, .int .u64 0, .int .u64 0] fun w103 =>
  LoadA w103 ⟨b1, 0, none⟩ [.int .i64, .int .i64, .int .i64, .int .u32, .int .u64, .int .u64] fun (x104 : Int × Int × Int × Int × Int × Int × Unit) =>
  K ((x104.1, x104.2.1, x104.2.2.1, x104.2.2.2.1, x104.2.2.2.2.1, x104.2.2.2.2.2.1, ()), (⟨none, 0, 0⟩ : SlV), (1 : Int), ()) w103)
  ((0 ≤ (3 : Int) ∧ 3 < ((24 - 0 : Nat) : Int)) ∧ ∃ q105 : Addr, a6 = some q105 ∧
  (D97 (q105.add (3 * 1)).block ∧ LoadS w96.drew (q105.add (3 * 1)) (.int .u8) fun (x106 : Int) =>
  cond (x106 != 0)
  (StoreV w102 ⟨b1, 0, none⟩ [.int .i64 0, .int .i64 0, .int .i64 0, .int .u32 0, .int .u64 0, .int .u64 0] fun w107 =>
  LoadA w107 ⟨b1, 0, none⟩ [.int .i64, .int .i64, .int .i64, .int .u32, .int .u64, .int .u64] fun (x108 : Int × Int × Int × Int × Int × Int × Unit) =>
  K ((x108.1, x108.2.1, x108.2.2.1, x108.2.2.2.1, x108.2.2.2.2.1, x108.2.2.2.2.2.1, ()), (⟨none, 0, 0⟩ : SlV), (1 : Int), ()) w107)
  ((D97 b90 ∧ LoadS w96.drew ⟨b90, 0, none⟩ (.int .i64) fun (x109 : Int) =>
  cond (decide (x109 < 1))
  (StoreV w102 ⟨b1, 0, none⟩ [.int .i64 0, .int .i64 0, .int .i64 0, .int .u32 0, .int .u64 0, .int .u64 0] fun w110 =>
  LoadA w110 ⟨b1, 0, none⟩ [.int .i64, .int .i64, .int .i64, .int .u32, .int .u64, .int .u64] fun (x111 : Int × Int × Int × Int × Int × Int × Unit) =>
  K ((x111.1, x111.2.1, x111.2.2.1, x111.2.2.2.1, x111.2.2.2.2.1, x111.2.2.2.2.2.1, ()), (⟨none, 0, 0⟩ : SlV), (1 : Int), ()) w110)
  ((D97 b90 ∧ LoadS w96.drew ⟨b90, 0, none⟩ (.int .i64) fun (x112 : Int) =>
  cond (decide (x112 > 4))
  (StoreV w102 ⟨b1, 0, none⟩ [.int .i64 0, .int .i64 0, .int .i64 0, .int .u32 0, .int .u64 0, .int .u64 0] fun w113 =>
  LoadA w113 ⟨b1, 0, none⟩ [.int .i64, .int .i64, .int .i64, .int .u32, .int .u64, .int .u64] fun (x114 : Int × Int × Int × Int × Int × Int × Unit) =>
  K ((x114.1, x114.2.1, x114.2.2.1, x114.2.2.2.1, x114.2.2.2.2.1, x114.2.2.2.2.2.1, ()), (⟨none, 0, 0⟩ : SlV), (1 : Int), ()) w113)
  (DrawV fun D115 =>
  (D115 b90 ∧ LoadA w102.drew ⟨b90, 0, none⟩ [.int .i64, .int .i64, .int .i64, .int .u32, .int .u64, .int .u64] fun (x116 : Int × Int × Int × Int × Int × Int × Unit) =>
  NewV #[] 5 w102.drew fun b117 w118 =>
  KeepOn D115 w102.drew w118 ∧
  AppS w118 a7 (80 - 48) 1 fun ns123 =>
  AppV w118 5 1 1 (some ⟨b117, 0, none⟩) 0 0 ns123 (80 - 48) fun a119 n120 c121 w122 =>
  KeepOn D115 w102.drew w122 ∧
  StoreV w122 ⟨b1, 0, none⟩ [.int .i64 x116.1, .int .i64 x116.2.1, .int .i64 x116.2.2.1, .int .u32 x116.2.2.2.1, .int .u64 x116.2.2.2.2.1, .int .u64 x116.2.2.2.2.2.1] fun w124 =>
  KeepOn D115 w102.drew w124 ∧
  LoadA w124 ⟨b1, 0, none⟩ [.int .i64, .int .i64, .int .i64, .int .u32, .int .u64, .int .u64] fun (x125 : Int × Int × Int × Int × Int × Int × Unit) =>
  K ((x125.1, x125.2.1, x125.2.2.1, x125.2.2.2.1, x125.2.2.2.2.1, x125.2.2.2.2.2.1, ()), (⟨a119, n120, c121⟩ : SlV), (0 : Int), ()) w124))))))))))) ∧
  (NewV #[.int .i64 0, .int .i64 0, .int .i64 0, .int .u32 0, .int .u64 0, .int .u64 0] 25 w2.drew.drew fun b126 w127 =>
  KeepOn D8 w2.drew.drew w127 ∧
  CallV Try.prog 132 #[.slice a15 (8 - 4) ((c0 - 0) - 4)] w127 [.one (.int .u64)] fun (r128 : Int × Unit) w129 =>
  KeepOn D8 w2.drew.drew w129 ∧
  CallV Try.prog 132 #[.slice a16 (16 - 8) ((c0 - 0) - 8)] w129 [.one (.int .u64)] fun (r130 : Int × Unit) w131 =>
  KeepOn D8 w2.drew.drew w131 ∧
  CallV Try.prog 132 #[.slice a17 (24 - 16) ((c0 - 0) - 16)] w131 [.one (.int .u64)] fun (r132 : Int × Unit) w133 =>
  KeepOn D8 w2.drew.drew w133 ∧
  StoreV w133 ⟨b126, 0, none⟩ [.int .i64 (IntKind.i64.wrap x10), .int .i64 (IntKind.i64.wrap x12), .int .i64 (IntKind.i64.wrap x14), .int .u32 (IntKind.u32.wrap r128.1), .int .u64 r130.1, .int .u64 r132.1] fun w134 =>
  KeepOn D8 w2.drew.drew w134 ∧
  DrawV fun D135 =>
  ((0 : Int) ≤ (24 : Int) ∧ (24 : Int) ≤ (48 : Int) ∧ (48 : Int) ≤ ((c0 : Nat) : Int)) ∧
  SubK a0 24 c0 1 fun a136 =>
  CallV Try.prog 115 #[.slice a6 (24 - 0) (c0 - 0)] w134.drew [.one .sl] fun (r137 : SlV × Unit) w138 =>
  KeepOn D135 w134.drew w138 ∧
  CallV Try.prog 133 #[.slice r137.1.a r137.1.n r137.1.c, .slice a136 (48 - 24) (c0 - 24)] w138 [.one .bool] fun (r139 : Bool × Unit) w140 =>
  KeepOn D135 w134.drew w140 ∧
  cond (!r139.1)
  (StoreV w140 ⟨b1, 0, none⟩ [.int .i64 0, .int .i64 0, .int .i64 0, .int .u32 0, .int .u64 0, .int .u64 0] fun w141 =>
  LoadA w141 ⟨b1, 0, none⟩ [.int .i64, .int .i64, .int .i64, .int .u32, .int .u64, .int .u64] fun (x142 : Int × Int × Int × Int × Int × Int × Unit) =>
  K ((x142.1, x142.2.1, x142.2.2.1, x142.2.2.2.1, x142.2.2.2.2.1, x142.2.2.2.2.2.1, ()), (⟨none, 0, 0⟩ : SlV), (1 : Int), ()) w141)
  ((0 ≤ (3 : Int) ∧ 3 < ((24 - 0 : Nat) : Int)) ∧ ∃ q143 : Addr, a6 = some q143 ∧
  (D135 (q143.add (3 * 1)).block ∧ LoadS w134.drew (q143.add (3 * 1)) (.int .u8) fun (x144 : Int) =>
  cond (x144 != 0)
  (StoreV w140 ⟨b1, 0, none⟩ [.int .i64 0, .int .i64 0, .int .i64 0, .int .u32 0, .int .u64 0, .int .u64 0] fun w145 =>
  LoadA w145 ⟨b1, 0, none⟩ [.int .i64, .int .i64, .int .i64, .int .u32, .int .u64, .int .u64] fun (x146 : Int × Int × Int × Int × Int × Int × Unit) =>
  K ((x146.1, x146.2.1, x146.2.2.1, x146.2.2.2.1, x146.2.2.2.2.1, x146.2.2.2.2.2.1, ()), (⟨none, 0, 0⟩ : SlV), (1 : Int), ()) w145)
  ((D135 b126 ∧ LoadS w134.drew ⟨b126, 0, none⟩ (.int .i64) fun (x147 : Int) =>
  cond (decide (x147 < 1))
  (StoreV w140 ⟨b1, 0, none⟩ [.int .i64 0, .int .i64 0, .int .i64 0, .int .u32 0, .int .u64 0, .int .u64 0] fun w148 =>
  LoadA w148 ⟨b1, 0, none⟩ [.int .i64, .int .i64, .int .i64, .int .u32, .int .u64, .int .u64] fun (x149 : Int × Int × Int × Int × Int × Int × Unit) =>
  K ((x149.1, x149.2.1, x149.2.2.1, x149.2.2.2.1, x149.2.2.2.2.1, x149.2.2.2.2.2.1, ()), (⟨none, 0, 0⟩ : SlV), (1 : Int), ()) w148)
  ((D135 b126 ∧ LoadS w134.drew ⟨b126, 0, none⟩ (.int .i64) fun (x150 : Int) =>
  cond (decide (x150 > 4))
  (StoreV w140 ⟨b1, 0, none⟩ [.int .i64 0, .int .i64 0, .int .i64 0, .int .u32 0, .int .u64 0, .int .u64 0] fun w151 =>
  LoadA w151 ⟨b1, 0, none⟩ [.int .i64, .int .i64, .int .i64, .int .u32, .int .u64, .int .u64] fun (x152 : Int × Int × Int × Int × Int × Int × Unit) =>
  K ((x152.1, x152.2.1, x152.2.2.1, x152.2.2.2.1, x152.2.2.2.2.1, x152.2.2.2.2.2.1, ()), (⟨none, 0, 0⟩ : SlV), (1 : Int), ()) w151)
  (DrawV fun D153 =>
  (D153 b126 ∧ LoadA w140.drew ⟨b126, 0, none⟩ [.int .i64, .int .i64, .int .i64, .int .u32, .int .u64, .int .u64] fun (x154 : Int × Int × Int × Int × Int × Int × Unit) =>
  NewV #[] 5 w140.drew fun b155 w156 =>
  KeepOn D153 w140.drew w156 ∧
  AppS w156 a7 (80 - 48) 1 fun ns161 =>
  AppV w156 5 1 1 (some ⟨b155, 0, none⟩) 0 0 ns161 (80 - 48) fun a157 n158 c159 w160 =>
  KeepOn D153 w140.drew w160 ∧
  StoreV w160 ⟨b1, 0, none⟩ [.int .i64 x154.1, .int .i64 x154.2.1, .int .i64 x154.2.2.1, .int .u32 x154.2.2.2.1, .int .u64 x154.2.2.2.2.1, .int .u64 x154.2.2.2.2.2.1] fun w162 =>
  KeepOn D153 w140.drew w162 ∧
  LoadA w162 ⟨b1, 0, none⟩ [.int .i64, .int .i64, .int .i64, .int .u32, .int .u64, .int .u64] fun (x163 : Int × Int × Int × Int × Int × Int × Unit) =>
  K ((x163.1, x163.2.1, x163.2.2.1, x163.2.2.2.1, x163.2.2.2.2.1, x163.2.2.2.2.2.1, ()), (⟨a157, n158, c159⟩ : SlV), (0 : Int), ()) w162))))))))))))))
theorem head_Read.vc (a0 : Option Addr) (n0 c0 : Nat) (w : World) (K : (Int × Int × Int × Int × Int × Int × Unit) × SlV × Int × Unit → World → Prop) (h : head_Read.P a0 n0 c0 w K) : CallV Try.prog 128 #[.slice a0 n0 c0] w [.agg [.int .i64, .int .i64, .int .i64, .int .u32, .int .u64, .int .u64], .one .sl, .one (.int .i64)] K := by
  refine vcFun.of (A := head_Read.A) (wr := false) okf_ok follows h Try.func128 ?_
  kernel_rfl
def head_Committed.A : Ann := .two .no (.two (.draw (.take 0 (.take 1 (.take 2 (.take 3 (.take 4 (.take 5 (.eff 6 (.eff 7 (.take 8 (.take 9 (.done)))))))))))) .no)
def head_Committed.P (a0 : Option Addr) (n0 c0 : Nat) (w : World) (K : Bool × Unit → World → Prop) : Prop :=
  DrawV fun D1 =>
  cond (((n0 : Nat) : Int) == 88)
  (((0 : Int) ≤ (80 : Int) ∧ (80 : Int) ≤ ((n0 : Nat) : Int)) ∧
  SubK a0 80 c0 1 fun a2 =>
  CallV Try.prog 91 #[.int .u8 0, .int .i64 8] w.drew [.one .sl] fun (r3 : SlV × Unit) w4 =>
  KeepOn D1 w.drew w4 ∧
  CallV Try.prog 133 #[.slice a2 (n0 - 80) (c0 - 80), .slice r3.1.a r3.1.n r3.1.c] w4 [.one .bool] fun (r5 : Bool × Unit) w6 =>
  KeepOn D1 w.drew w6 ∧
  K (r5.1, ()) w6)
  (K (false, ()) w.drew)
theorem head_Committed.vc (a0 : Option Addr) (n0 c0 : Nat) (w : World) (K : Bool × Unit → World → Prop) (h : head_Committed.P a0 n0 c0 w K) : CallV Try.prog 129 #[.slice a0 n0 c0] w [.one .bool] K := by
  refine vcFun.of (A := head_Committed.A) (wr := false) okf_ok follows h Try.func129 ?_
  kernel_rfl
def head_End.A : Ann := .no
def head_End.P (p0_0 p0_1 p0_2 p0_3 p0_4 p0_5 : Int) (a1 : Option Addr) (n1 c1 : Nat) (w : World) (K : SlV × Int × Unit → World → Prop) : Prop :=
  NewV #[.int .i64 p0_0, .int .i64 p0_1, .int .i64 p0_2, .int .u32 p0_3, .int .u64 p0_4, .int .u64 p0_5] 25 w fun b1 w2 =>
  LoadA w2 ⟨b1, 0, none⟩ [.int .i64, .int .i64, .int .i64, .int .u32, .int .u64, .int .u64] fun (x3 : Int × Int × Int × Int × Int × Int × Unit) =>
  CallV Try.prog 118 #[.agg #[.int .i64 x3.1, .int .i64 x3.2.1, .int .i64 x3.2.2.1, .int .u32 x3.2.2.2.1, .int .u64 x3.2.2.2.2.1, .int .u64 x3.2.2.2.2.2.1]] w2 [.one .sl, .one (.int .i64)] fun (r4 : SlV × Int × Unit) w5 =>
  cond (r4.2.1 != 0)
  (K ((⟨none, 0, 0⟩ : SlV), r4.2.1, ()) w5)
  (cond (((n1 : Nat) : Int) == 0)
  (CallV Try.prog 91 #[.int .u8 255, .int .i64 32] w5 [.one .sl] fun (r6 : SlV × Unit) w7 =>
  cond (((r6.1.n : Nat) : Int) != 32)
  (K ((⟨none, 0, 0⟩ : SlV), (2 : Int), ()) w7)
  (CallV Try.prog 115 #[.slice r4.1.a r4.1.n r4.1.c] w7 [.one .sl] fun (r8 : SlV × Unit) w9 =>
  AppS w9 r8.1.a r8.1.n 1 fun ns14 =>
  AppV w9 5 1 1 r4.1.a r4.1.n r4.1.c ns14 r8.1.n fun a10 n11 c12 w13 =>
  AppS w13 r6.1.a r6.1.n 1 fun ns19 =>
  AppV w13 5 1 1 a10 n11 c12 ns19 r6.1.n fun a15 n16 c17 w18 =>
  CallV Try.prog 91 #[.int .u8 255, .int .i64 8] w18 [.one .sl] fun (r20 : SlV × Unit) w21 =>
  AppS w21 r20.1.a r20.1.n 1 fun ns26 =>
  AppV w21 5 1 1 a15 n16 c17 ns26 r20.1.n fun a22 n23 c24 w25 =>
  K ((⟨a22, n23, c24⟩ : SlV), (0 : Int), ()) w25))
  (cond (((n1 : Nat) : Int) != 32)
  (K ((⟨none, 0, 0⟩ : SlV), (2 : Int), ()) w5)
  (CallV Try.prog 115 #[.slice r4.1.a r4.1.n r4.1.c] w5 [.one .sl] fun (r27 : SlV × Unit) w28 =>
  AppS w28 r27.1.a r27.1.n 1 fun ns33 =>
  AppV w28 5 1 1 r4.1.a r4.1.n r4.1.c ns33 r27.1.n fun a29 n30 c31 w32 =>
  AppS w32 a1 n1 1 fun ns38 =>
  AppV w32 5 1 1 a29 n30 c31 ns38 n1 fun a34 n35 c36 w37 =>
  CallV Try.prog 91 #[.int .u8 255, .int .i64 8] w37 [.one .sl] fun (r39 : SlV × Unit) w40 =>
  AppS w40 r39.1.a r39.1.n 1 fun ns45 =>
  AppV w40 5 1 1 a34 n35 c36 ns45 r39.1.n fun a41 n42 c43 w44 =>
  K ((⟨a41, n42, c43⟩ : SlV), (0 : Int), ()) w44)))
theorem head_End.vc (p0_0 p0_1 p0_2 p0_3 p0_4 p0_5 : Int) (a1 : Option Addr) (n1 c1 : Nat) (w : World) (K : SlV × Int × Unit → World → Prop) (h : head_End.P p0_0 p0_1 p0_2 p0_3 p0_4 p0_5 a1 n1 c1 w K) : CallV Try.prog 92 #[.agg #[.int .i64 p0_0, .int .i64 p0_1, .int .i64 p0_2, .int .u32 p0_3, .int .u64 p0_4, .int .u64 p0_5], .slice a1 n1 c1] w [.one .sl, .one (.int .i64)] K := by
  refine vcFun.of (A := head_End.A) (wr := false) okf_ok follows h Try.func92 ?_
  kernel_rfl
end Go.Proofs.Ytlpeoaphdmfjdaa.Vc
/-! The contracts of layer 14 (head): a head's bytes. -/
namespace Go.Proofs.Ytlpeoaphdmfjdaa.Vc
open Go Go.Eng Go.RowKit
theorem appL {w : World} {a a2 : Option Addr} {n c m c2 : Nat} {xs ys : List Int} {B : Nat} {K : Option Addr → Nat → Nat → World → Prop} (ho : Own w B 5 1 a n c (xs.map (Value.int .u8))) (hy : Ints w .u8 a2 m c2 ys) (hB : B ≤ w.heap.size) (hn : n + m ≤ 100000000)
    (hk : ∀ a' c' w', Own w' B 5 1 a' (n + m) c' ((xs ++ ys).map (Value.int .u8)) → Below B w w' → K a' (n + m) c' w') :
    AppS w a2 m 1 fun ns => AppV w 5 1 1 a n c ns m K := by
  refine AppS.of (news := ys.map (Value.int .u8)) (by rw [List.length_map, hy.len]; omega) hy.rd ?_
  refine AppV.own ho hB (by rw [List.length_map, hy.len]; omega) (oneAll.ints _ _) (by omega) (by omega) fun a' c' w' h1 h2 _ _ => ?_
  refine hk a' c' w' ?_ h2
  rw [List.map_append]
  exact h1
structure Hd where
  k : Int
  n : Int
  c : Int
  l : Int
  e : Int
  t : Int
abbrev Hd.vs (h : Hd) : List Value := [.int .i64 h.k, .int .i64 h.n, .int .i64 h.c, .int .u32 h.l, .int .u64 h.e, .int .u64 h.t]
abbrev Hd.val (h : Hd) : Value := .agg #[.int .i64 h.k, .int .i64 h.n, .int .i64 h.c, .int .u32 h.l, .int .u64 h.e, .int .u64 h.t]
abbrev Hd.tup (h : Hd) : Int × Int × Int × Int × Int × Int × Unit := (h.k, h.n, h.c, h.l, h.e, h.t, ())
def Hd.rng (h : Hd) : Prop := (0 ≤ h.l ∧ h.l < 4294967296) ∧ (0 ≤ h.e ∧ h.e < 18446744073709551616) ∧ (0 ≤ h.t ∧ h.t < 18446744073709551616)
def HRight (h : Hd) : Prop := (1 ≤ h.k ∧ h.k ≤ 4) ∧ (0 ≤ h.n ∧ h.n ≤ 255) ∧ (0 ≤ h.c ∧ h.c ≤ 255)
instance (h : Hd) : Decidable (HRight h) := by unfold HRight; infer_instance
def big (n : Int) (k : Nat) : List Int := (leL n k).reverse
def hdL (h : Hd) : List Int := [h.k, h.n, h.c, 0] ++ big h.l 4 ++ big h.e 8 ++ big h.t 8
theorem big_length (n : Int) (k : Nat) : (big n k).length = k := by simp [big, leL_length]
theorem hdL_length (h : Hd) : (hdL h).length = 24 := by simp [hdL, big_length]
theorem newH {w : World} {h : Hd} {K : Nat → World → Prop} (hk : ∀ b w1, Ext w w1 → Box w1 w.heap.size b 25 h.vs → K b w1) : NewV #[.int .i64 h.k, .int .i64 h.n, .int .i64 h.c, .int .u32 h.l, .int .u64 h.e, .int .u64 h.t] 25 w K := newBox hk
theorem ldH {w : World} {h : Hd} {B b : Nat} {e : TypeId} (hb : Box w B b e h.vs) {K : Int × Int × Int × Int × Int × Int × Unit → Prop} (hk : K h.tup) : LoadA w ⟨b, 0, none⟩ [.int .i64, .int .i64, .int .i64, .int .u32, .int .u64, .int .u64] K := hb.lda (l := [.int .i64, .int .i64, .int .i64, .int .u32, .int .u64, .int .u64]) h.tup rfl hk
theorem Own.list {w : World} {xs : List Int} {n : Nat} (hn : n = xs.length) (h9 : n ≤ 9223372036854775807) : Own (w.alloc (.cells (xs.map (Value.int .u8)).toArray 5)) w.heap.size 5 1 (some ⟨w.heap.size, 0, none⟩) n n (xs.map (Value.int .u8)) := by
  have := Own.new (w := w) (B := w.heap.size) (e := 5) (sz := 1) (n := n) (c := n) (cs := xs.map (Value.int .u8)) (Nat.le_refl _) (by simp [hn]) (Nat.le_refl _) h9 (oneAll.ints _ _)
  rwa [List.take_of_length_le (by simp [hn])] at this
theorem wrap_u8 {x : Int} (h : 0 ≤ x ∧ x ≤ 255) : IntKind.u8.wrap x = x := by rw [u8_wrap]; omega
theorem c4 : cl8 4 = 4 := by decide
theorem c8 : cl8 8 = 8 := by decide
theorem Bytes_c {w : World} {h : Hd} (hg : h.rng) : CallV Try.prog 118 #[h.val] w [.one .sl, .one (.int .i64)] fun r w' => Ext w w' ∧ (HRight h → Res w w' r.1 (hdL h) ∧ r.2.1 = (0 : Int)) ∧ (¬ HRight h → r.1 = (⟨none, 0, 0⟩ : SlV) ∧ r.2.1 = (2 : Int)) := by
  unfold Hd.rng at hg
  refine head_Bytes.vc _ _ _ _ _ _ _ _ ?_
  unfold head_Bytes.P
  refine newH fun b1 w1 e1 hb => ?_
  have no : ∀ {w' : World}, ¬ HRight h → Ext w w' → (Ext w w' ∧ (HRight h → Res w w' (⟨none, 0, 0⟩ : SlV) (hdL h) ∧ (2 : Int) = (0 : Int)) ∧ (¬ HRight h → (⟨none, 0, 0⟩ : SlV) = (⟨none, 0, 0⟩ : SlV) ∧ (2 : Int) = (2 : Int))) := fun hr he => ⟨he, fun h => absurd h hr, fun _ => ⟨rfl, rfl⟩⟩
  refine hb.ld (i := 0) (h := .int .i64) (x := h.k) rfl ?_
  refine hb.ld (i := 1) (h := .int .i64) (x := h.n) rfl ?_
  refine hb.ld (i := 2) (h := .int .i64) (x := h.c) rfl ?_
  refine Loop1 (fun (y : Int × Unit) w' => ∃ i : Nat, y.1 = (i : Int) ∧ i ≤ 3 ∧ (∀ j, j < i → 0 ≤ [h.k, h.n, h.c].getD j 0 ∧ [h.k, h.n, h.c].getD j 0 ≤ 255) ∧ w' = w1) (fun (y : Int × Unit) _ => (3 - y.1).toNat) ⟨0, rfl, by omega, fun j hj => absurd hj (by omega), rfl⟩ ?_
  rintro ⟨(z : Int), ⟨⟩⟩ w' ⟨i, hz, h3, hr, rfl⟩
  dsimp only at hz ⊢
  subst hz
  refine cond_d (fun hlt => ?_) (fun hge => ?_)
  · refine ⟨⟨by omega, hlt⟩, [h.k, h.n, h.c].getD i 0, ?_, ?_⟩
    · rw [Int.toNat_natCast]
      match i, hlt with
      | 0, _ => rfl
      | 1, _ => rfl
      | 2, _ => rfl
      | n + 3, hh => exact absurd hh (by omega)
    · have bad : ¬ (0 ≤ [h.k, h.n, h.c].getD i 0 ∧ [h.k, h.n, h.c].getD i 0 ≤ 255) → ¬ HRight h := fun hb hrr => hb (by
        unfold HRight at hrr
        match i, hlt with
        | 0, _ => show 0 ≤ h.k ∧ h.k ≤ 255; omega
        | 1, _ => exact hrr.2.1
        | 2, _ => exact hrr.2.2
        | n + 3, hh => exact absurd hh (by omega))
      refine cond_d (fun hc => no (bad (by omega)) e1) (fun hc => cond_d (fun hc' => no (bad (by omega)) e1) (fun hc' => ?_))
      refine ⟨Rng.i64 (by omega) (by omega), ⟨i + 1, by push_cast; rfl, by omega, fun j hj => ?_, rfl⟩, by omega⟩
      by_cases hji : j = i
      · subst hji; omega
      · exact hr j (by omega)
  · have : i = 3 := by omega
    subst this
    have k0 : 0 ≤ h.k ∧ h.k ≤ 255 := hr 0 (by omega)
    have k1 : 0 ≤ h.n ∧ h.n ≤ 255 := hr 1 (by omega)
    have k2 : 0 ≤ h.c ∧ h.c ≤ 255 := hr 2 (by omega)
    refine hb.ld (i := 0) (h := .int .i64) (x := h.k) rfl (cond_d (fun hc => no (fun hr => by unfold HRight at hr; omega) e1) (fun c1 => ?_))
    refine hb.ld (i := 0) (h := .int .i64) (x := h.k) rfl (cond_d (fun hc => no (fun hr => by unfold HRight at hr; omega) e1) (fun c2 => ?_))
    have hR : HRight h := ⟨by omega, k1, k2⟩
    refine hb.ld (i := 0) (h := .int .i64) (x := h.k) rfl ?_
    refine hb.ld (i := 1) (h := .int .i64) (x := h.n) rfl ?_
    refine hb.ld (i := 2) (h := .int .i64) (x := h.c) rfl ?_
    rw [wrap_u8 k0, wrap_u8 k1, wrap_u8 k2]
    rintro b2 w2 rfl rfl
    have ho := Own.list (w := w') (xs := [h.k, h.n, h.c, 0]) (n := 4) rfl (by omega)
    have x2 : Ext w' (w'.alloc (.cells #[.int .u8 h.k, .int .u8 h.n, .int .u8 h.c, .int .u8 0] 5)) := Ext.alloc _ _
    generalize hw2 : w'.alloc (.cells #[.int .u8 h.k, .int .u8 h.n, .int .u8 h.c, .int .u8 0] 5) = w2 at x2 ⊢
    have ho2 : Own w2 w'.heap.size 5 1 (some ⟨w'.heap.size, 0, none⟩) 4 4 ([h.k, h.n, h.c, 0].map (Value.int .u8)) := by rw [← hw2]; exact ho
    refine (hb.ext x2).ld (i := 3) (h := .int .u32) (x := h.l) rfl ?_
    rw [show IntKind.u64.wrap h.l = h.l from u64_id (by omega) (by omega)]
    refine (Big_c (by omega)).mono ?_
    rintro ⟨(s3 : SlV), ⟨⟩⟩ w3 h3
    dsimp only at h3 ⊢
    rw [c4] at h3
    have l3 := h3.ints.len
    rw [List.length_reverse, leL_length] at l3
    have x3 := x2.trans h3.ext
    refine appL (ho2.ext h3.ext) h3.ints x3.size (by omega) fun a4 c4' w4 o4 b4 => ?_
    have x4 : Ext w' w4 := Below.trans x3 b4
    refine (hb.ext x4).ld (i := 4) (h := .int .u64) (x := h.e) rfl ?_
    refine (Big_c (by omega)).mono ?_
    rintro ⟨(s5 : SlV), ⟨⟩⟩ w5 h5
    dsimp only at h5 ⊢
    rw [c8] at h5
    have l5 := h5.ints.len
    rw [List.length_reverse, leL_length] at l5
    have x5 := x4.trans h5.ext
    refine appL (o4.ext h5.ext) h5.ints x5.size (by omega) fun a6 c6' w6 o6 b6 => ?_
    have x6 : Ext w' w6 := Below.trans x5 b6
    refine (hb.ext x6).ld (i := 5) (h := .int .u64) (x := h.t) rfl ?_
    refine (Big_c (by omega)).mono ?_
    rintro ⟨(s7 : SlV), ⟨⟩⟩ w7 h7
    dsimp only at h7 ⊢
    rw [c8] at h7
    have l7 := h7.ints.len
    rw [List.length_reverse, leL_length] at l7
    have x7 := x6.trans h7.ext
    refine appL (o6.ext h7.ext) h7.ints x7.size (by omega) fun a8 c8' w8 o8 b8 => ?_
    have x8 : Ext w' w8 := Below.trans x7 b8
    exact ⟨e1.trans x8, fun _ => ⟨⟨e1.trans x8, o8.mono e1.size⟩, rfl⟩, fun hn => absurd hR hn⟩
end Go.Proofs.Ytlpeoaphdmfjdaa.Vc
/-! The law HeadBytes of layer 14: each call gives true, and what it read stays. -/
namespace Go.Proofs.Ytlpeoaphdmfjdaa.Vc
open Go Go.Eng Go.RowKit
theorem MarkLen_c {w : World} {n : Int} (h : 88 ≤ n ∧ n ≤ 4184) : CallV Try.prog 95 #[.int .i64 n] w [.one .sl] fun r w' => Res w w' r.1 (List.replicate (n - 8).toNat 255 ++ List.replicate 8 0) := by
  refine head_Mark.vc _ _ _ ?_
  unfold head_Mark.P
  refine cond_d (fun h => by omega) (fun _ => cond_d (fun h => by omega) (fun _ => ⟨Rng.i64 (by omega) (by omega), ?_⟩))
  refine Fill_c.mono ?_
  rintro ⟨(s1 : SlV), ⟨⟩⟩ w1 h1
  refine Fill_c.mono ?_
  rintro ⟨(s2 : SlV), ⟨⟩⟩ w2 h2
  dsimp only at h1 h2 ⊢
  generalize hL : (65536 : Int) = L at h1 h2
  rw [show max 0 (min L (n - 8)) = n - 8 by omega] at h1
  rw [show (max 0 (min L 8)).toNat = 8 by omega] at h2
  have l1 := h1.ints.len
  have l2 := h2.ints.len
  rw [List.length_replicate] at l1 l2
  refine appL (h1.own.ext h2.ext) h2.ints (Nat.le_trans h1.ext.size h2.ext.size) (by omega) fun a' c' w' o b => ?_
  exact ⟨Below.trans (h1.ext.trans h2.ext) b, o⟩
end Go.Proofs.Ytlpeoaphdmfjdaa.Vc
/-! The contracts of layer 14 (head): an end's bytes, and is it committed. -/
namespace Go.Proofs.Ytlpeoaphdmfjdaa.Vc
open Go Go.Eng Go.RowKit
theorem appLB {w : World} {a a2 : Option Addr} {n c m c2 : Nat} {xs ys : List Int} {B : Nat} {K : Option Addr → Nat → Nat → World → Prop} (ho : Own w B 5 1 a n c (xs.map (Value.int .u8))) (hy : Ints w .u8 a2 m c2 ys) (hB : B ≤ w.heap.size) (hn : n + m ≤ 100000000)
    (hk : ∀ a' c' w', Own w' B 5 1 a' (n + m) c' ((xs ++ ys).map (Value.int .u8)) → Below B w w' → But a w w' → K a' (n + m) c' w') :
    AppS w a2 m 1 fun ns => AppV w 5 1 1 a n c ns m K := by
  refine AppS.of (news := ys.map (Value.int .u8)) (by rw [List.length_map, hy.len]; omega) hy.rd ?_
  refine AppV.own ho hB (by rw [List.length_map, hy.len]; omega) (oneAll.ints _ _) (by omega) (by omega) fun a' c' w' h1 h2 h3 _ => ?_
  refine hk a' c' w' ?_ h2 h3
  rw [List.map_append]
  exact h1
theorem intsU_but {w w' : World} {a a2 : Option Addr} {n c : Nat} {xs : List Int} (h : Ints w .u8 a n c xs) (x : But a2 w w') (hne : ∀ p q, a = some p → a2 = some q → p.block ≠ q.block) : Ints w' .u8 a n c xs := by
  refine ⟨h.len, h.cap, h.lim, ?_⟩
  rcases h.rd with h1 | ⟨p, h1, h2⟩
  · exact .inl h1
  · refine .inr ⟨p, h1, ?_⟩
    cases hx : xs.map (Value.int .u8) with
    | nil => intro j v hv; simp at hv
    | cons v vs =>
      rw [hx] at h2
      exact cells_same (x _ (cells_lt h2) (fun q hq => hne p q h1 hq)) h2
theorem Res.apart {w0 w1 w2 : World} {s t : SlV} {xs ys : List Int} (h : Res w0 w1 s xs) (k : Res w1 w2 t ys) : ∀ p q, t.a = some p → s.a = some q → p.block ≠ q.block := by
  intro p q hp hq
  rcases h.own.at_ with ⟨h1, _⟩ | ⟨b, cs, h1, _, h3, _⟩
  · rw [h1] at hq; cases hq
  · rcases k.own.at_ with ⟨k1, _⟩ | ⟨b', cs', k1, k2, _⟩
    · rw [k1] at hp; cases hp
    · rw [k1] at hp; rw [h1] at hq
      have e1 := Option.some.inj hp
      have e2 := Option.some.inj hq
      subst e1; subst e2
      have hlt : b < w1.heap.size := (Array.getElem?_eq_some_iff.1 h3).1
      show b' ≠ b
      omega
def tagL (tg : List Int) : List Int := if tg.length = 0 then List.replicate 32 255 else tg
def endL (h : Hd) (tg : List Int) : List Int := ((hdL h ++ invL (hdL h)) ++ tagL tg) ++ List.replicate 8 255
def ERight (h : Hd) (n : Nat) : Prop := HRight h ∧ (n = 0 ∨ n = 32)
instance (h : Hd) (n : Nat) : Decidable (ERight h n) := by unfold ERight; infer_instance
theorem invL_length (xs : List Int) : (invL xs).length = xs.length := by simp [invL]
theorem fill32 : (max 0 (min (65536 : Int) 32)).toNat = 32 := by generalize hL : (65536 : Int) = L; omega
theorem fill8 : (max 0 (min (65536 : Int) 8)).toNat = 8 := by generalize hL : (65536 : Int) = L; omega
theorem End_c {w : World} {h : Hd} {a : Option Addr} {n c : Nat} {tg : List Int} (hg : h.rng) (ht : Ints w .u8 a n c tg) :
    CallV Try.prog 92 #[h.val, .slice a n c] w [.one .sl, .one (.int .i64)] fun r w' => Ext w w' ∧ (ERight h n → Res w w' r.1 (endL h tg) ∧ r.2.1 = (0 : Int)) ∧ (¬ ERight h n → r.1 = (⟨none, 0, 0⟩ : SlV) ∧ r.2.1 = (2 : Int)) := by
  refine head_End.vc _ _ _ _ _ _ _ _ _ _ _ ?_
  unfold head_End.P
  have lt := ht.len
  refine newH fun b1 w1 e1 hb => ?_
  refine ldH hb ?_
  refine (Bytes_c (h := h) hg).mono ?_
  rintro ⟨⟨sa, sn, sc⟩, (e2 : Int), ⟨⟩⟩ w2 ⟨x2, h2, h2'⟩
  dsimp only at h2 h2' ⊢
  have E2 := e1.trans x2
  have no : ∀ {w' : World}, ¬ ERight h n → Ext w w' → (Ext w w' ∧ (ERight h n → Res w w' (⟨none, 0, 0⟩ : SlV) (endL h tg) ∧ (2 : Int) = (0 : Int)) ∧ (¬ ERight h n → (⟨none, 0, 0⟩ : SlV) = (⟨none, 0, 0⟩ : SlV) ∧ (2 : Int) = (2 : Int))) := fun hr he => ⟨he, fun h => absurd h hr, fun _ => ⟨rfl, rfl⟩⟩
  by_cases hR : ¬ HRight h
  · obtain ⟨_, k2⟩ := h2' hR
    refine cond_t (by rw [k2]; rfl) ?_
    have := no (w' := w2) (fun hh => hR hh.1) E2
    rw [k2]
    exact this
  have hR := Decidable.not_not.1 hR
  obtain ⟨k1, k2⟩ := h2 hR
  have l1 := k1.ints.len
  rw [hdL_length] at l1
  dsimp only at l1
  subst l1
  refine cond_f (by rw [k2]; rfl) ?_
  have fin : ∀ {w' : World} {a' : Option Addr} {m c' : Nat}, Ext w w' → Own w' w1.heap.size 5 1 a' m c' ((endL h tg).map (Value.int .u8)) → ERight h n →
      (Ext w w' ∧ (ERight h n → Res w w' (⟨a', m, c'⟩ : SlV) (endL h tg) ∧ (0 : Int) = (0 : Int)) ∧ (¬ ERight h n → (⟨a', m, c'⟩ : SlV) = (⟨none, 0, 0⟩ : SlV) ∧ (0 : Int) = (2 : Int))) := fun e o hr =>
    ⟨e, fun _ => ⟨⟨e, o.mono e1.size⟩, rfl⟩, fun hn => absurd hr hn⟩
  refine cond_eq (fun h0 => ?_) (fun h0 => ?_)
  · refine Fill_c.mono ?_
    rintro ⟨⟨ta, tn, tc⟩, ⟨⟩⟩ w3 h3
    dsimp only at h3 ⊢
    rw [fill32] at h3
    have l3 := h3.ints.len
    rw [List.length_replicate] at l3
    dsimp only at l3
    subst l3
    refine cond_ne (fun hh => absurd rfl hh) (fun _ => ?_)
    refine (Invert_c (k1.ints.ext h3.ext) (by dsimp only; omega)).mono ?_
    rintro ⟨⟨va, vn, vc⟩, ⟨⟩⟩ w4 h4
    dsimp only at h4 ⊢
    have l4 := h4.ints.len
    rw [invL_length, hdL_length] at l4
    dsimp only at l4
    subst l4
    have x4 := h3.ext.trans h4.ext
    have X4 : Ext w1 w4 := x2.trans x4
    refine appLB (k1.own.ext x4) h4.ints X4.size (by omega) fun a5 c5 w5 o5 b5 but5 => ?_
    have X5 : Ext w1 w5 := Below.trans X4 b5
    have i5 := intsU_but (h3.ints.ext h4.ext) but5 (Res.apart k1 h3)
    refine appL o5 i5 X5.size (by omega) fun a6 c6 w6 o6 b6 => ?_
    have X6 : Ext w1 w6 := Below.trans X5 b6
    refine Fill_c.mono ?_
    rintro ⟨⟨ua, un, uc⟩, ⟨⟩⟩ w7 h7
    dsimp only at h7 ⊢
    rw [fill8] at h7
    have l7 := h7.ints.len
    rw [List.length_replicate] at l7
    dsimp only at l7
    subst l7
    have X7 := X6.trans h7.ext
    refine appL (o6.ext h7.ext) h7.ints X7.size (by omega) fun a8 c8 w8 o8 b8 => ?_
    have X8 : Ext w1 w8 := Below.trans X7 b8
    have ht0 : tagL tg = List.replicate 32 255 := by unfold tagL; rw [if_pos (by omega)]
    refine fin (e1.trans X8) ?_ ⟨hR, .inl (by omega)⟩
    unfold endL
    rw [ht0]
    exact o8
  · refine cond_ne (fun hh => no (fun hr => by unfold ERight at hr; omega) E2) (fun h32 => ?_)
    refine (Invert_c k1.ints (by dsimp only; omega)).mono ?_
    rintro ⟨⟨va, vn, vc⟩, ⟨⟩⟩ w4 h4
    dsimp only at h4 ⊢
    have l4 := h4.ints.len
    rw [invL_length, hdL_length] at l4
    dsimp only at l4
    subst l4
    have X4 : Ext w1 w4 := x2.trans h4.ext
    refine appL (k1.own.ext h4.ext) h4.ints X4.size (by omega) fun a5 c5 w5 o5 b5 => ?_
    have X5 : Ext w1 w5 := Below.trans X4 b5
    refine appL o5 (ht.ext (e1.trans X5)) X5.size (by omega) fun a6 c6 w6 o6 b6 => ?_
    have X6 : Ext w1 w6 := Below.trans X5 b6
    refine Fill_c.mono ?_
    rintro ⟨⟨ua, un, uc⟩, ⟨⟩⟩ w7 h7
    dsimp only at h7 ⊢
    rw [fill8] at h7
    have l7 := h7.ints.len
    rw [List.length_replicate] at l7
    dsimp only at l7
    subst l7
    have X7 := X6.trans h7.ext
    refine appL (o6.ext h7.ext) h7.ints X7.size (by omega) fun a8 c8 w8 o8 b8 => ?_
    have X8 : Ext w1 w8 := Below.trans X7 b8
    have ht0 : tagL tg = tg := by unfold tagL; rw [if_neg (by omega)]
    refine fin (e1.trans X8) ?_ ⟨hR, .inr (by omega)⟩
    unfold endL
    rw [ht0]
    exact o8
def comm (xs : List Int) : Bool := decide (xs.length = 88 ∧ xs.drop 80 = List.replicate 8 0)
theorem Committed_c {w : World} {a : Option Addr} {n c : Nat} {xs : List Int} (hx : Ints w .u8 a n c xs) (bx : Byt xs) :
    CallV Try.prog 129 #[.slice a n c] w [.one .bool] fun r w' => r.1 = comm xs ∧ Ext w w' := by
  refine head_Committed.vc _ _ _ _ _ ?_
  unfold head_Committed.P
  have lx := hx.len
  refine DrawV.old w fun D hD hkeep => ?_
  refine cond_eq (fun h88 => ?_) (fun h88 => ⟨(decide_eq_false (fun hh => h88 (by omega))).symm, Ext.drew w⟩)
  refine ⟨by omega, ?_⟩
  intro a2 ha2
  have hs := (hx.ext (Ext.drew w)).sub (l := 80) (hh := n) (m := c) (by omega) (Nat.le_refl _) hx.cap ha2
  rw [List.take_of_length_le (by rw [List.length_drop]; omega)] at hs
  refine Fill_c.mono ?_
  rintro ⟨(s3 : SlV), ⟨⟩⟩ w3 h3
  dsimp only at h3 ⊢
  rw [fill8] at h3
  have x3 := (Ext.drew w).trans h3.ext
  refine ⟨hkeep _ x3, ?_⟩
  refine (Same_c (hs.ext h3.ext) h3.ints (bx.drop 80) (Byt.replicate (by omega) (by omega) _)).mono ?_
  rintro ⟨(r4 : Bool), ⟨⟩⟩ w4 ⟨h4, e4⟩
  refine ⟨hkeep _ (x3.trans e4), ?_, x3.trans e4⟩
  dsimp only at h4 ⊢
  rw [h4]
  unfold comm
  exact decide_eq_decide.2 ⟨fun h => ⟨by omega, h⟩, fun h => h.2⟩
end Go.Proofs.Ytlpeoaphdmfjdaa.Vc
/-! Plain laws for layer 14 (head): numbers of bytes, back as bytes. -/
namespace Go.Proofs.Ytlpeoaphdmfjdaa.Vc
open Go Go.Eng Go.RowKit
theorem numB_bd {xs : List Int} (hb : Byt xs) {k : Nat} (h : xs.length = k) (h8 : k ≤ 8) : 0 ≤ numB xs ∧ numB xs < 256 ^ k := by
  unfold numB
  rw [List.take_of_length_le (by rw [List.length_reverse]; omega)]
  have := leN_bd hb.reverse
  rw [List.length_reverse, h] at this
  exact this
def part (xs : List Int) (i j : Nat) : List Int := (xs.drop i).take (j - i)
theorem part_length {xs : List Int} {i j : Nat} (h : j ≤ xs.length) (hi : i ≤ j) : (part xs i j).length = j - i := by unfold part; simp; omega
theorem part_byt {xs : List Int} (hb : Byt xs) (i j : Nat) : Byt (part xs i j) := (hb.drop i).take _
def hdOf (xs : List Int) : Hd := ⟨xs.getD 0 0, xs.getD 1 0, xs.getD 2 0, numB (part xs 4 8), numB (part xs 8 16), numB (part xs 16 24)⟩
def okR (xs : List Int) : Prop := (1 ≤ xs.getD 0 0 ∧ xs.getD 0 0 ≤ 4) ∧ xs.getD 3 0 = 0 ∧ invL (part xs 0 24) = part xs 24 48
instance (xs : List Int) : Decidable (okR xs) := by unfold okR; infer_instance
theorem hdOf_rng {xs : List Int} (hb : Byt xs) (hl : 24 ≤ xs.length) : (hdOf xs).rng := by
  have a := numB_bd (part_byt hb 4 8) (part_length (by omega) (by omega)) (by omega)
  have b := numB_bd (part_byt hb 8 16) (part_length (by omega) (by omega)) (by omega)
  have c := numB_bd (part_byt hb 16 24) (part_length (by omega) (by omega)) (by omega)
  exact ⟨a, b, c⟩
theorem part_hdL (h : Hd) (hg : h.rng) (rest : List Int) : hdOf (hdL h ++ rest) = h := by
  unfold Hd.rng at hg
  have p1 : part (hdL h ++ rest) 4 8 = big h.l 4 := by
    unfold part hdL
    rw [List.append_assoc, List.append_assoc, List.append_assoc, List.drop_left' (by rfl), List.take_left' (by rw [big_length])]
  have p2 : part (hdL h ++ rest) 8 16 = big h.e 8 := by
    unfold part hdL
    rw [List.append_assoc, List.append_assoc, List.drop_left' (by rw [List.length_append, big_length]; rfl), List.take_left' (by rw [big_length])]
  have p3 : part (hdL h ++ rest) 16 24 = big h.t 8 := by
    unfold part hdL
    rw [List.append_assoc, List.drop_left' (by rw [List.length_append, List.length_append, big_length, big_length]; rfl), List.take_left' (by rw [big_length])]
  have nb : ∀ (n : Int) (k : Nat), 0 ≤ n → n < 256 ^ k → k ≤ 8 → numB (big n k) = n := fun n k h0 h1 h8 => by
    unfold numB big
    rw [List.reverse_reverse, List.take_of_length_le (by rw [leL_length]; exact h8), leN_leL n h0]
    exact Int.emod_eq_of_lt h0 h1
  unfold hdOf
  rw [p1, p2, p3, nb _ _ hg.1.1 hg.1.2 (by omega), nb _ _ hg.2.1.1 hg.2.1.2 (by omega), nb _ _ hg.2.2.1 hg.2.2.2 (by omega)]
  rfl
end Go.Proofs.Ytlpeoaphdmfjdaa.Vc
/-! Parts of plans, cut out by wip/tools/vccut.py. -/
namespace Go.Proofs.Ytlpeoaphdmfjdaa.Vc
open Go Go.Eng
def head_Read.T (c0 : Nat) (a0 : Option Addr) (a6 : Option Addr) (w26 : World) (b1 : Nat) (K : (Int × Int × Int × Int × Int × Int × Unit) × SlV × Int × Unit → World → Prop) (b24 : Nat) (a7 : Option Addr) : Prop :=
DrawV fun D27 =>
  ((0 : Int) ≤ (24 : Int) ∧ (24 : Int) ≤ (48 : Int) ∧ (48 : Int) ≤ ((c0 : Nat) : Int)) ∧
  SubK a0 24 c0 1 fun a28 =>
  CallV Try.prog 115 #[.slice a6 (24 - 0) (c0 - 0)] w26.drew [.one .sl] fun (r29 : SlV × Unit) w30 =>
  KeepOn D27 w26.drew w30 ∧
  CallV Try.prog 133 #[.slice r29.1.a r29.1.n r29.1.c, .slice a28 (48 - 24) (c0 - 24)] w30 [.one .bool] fun (r31 : Bool × Unit) w32 =>
  KeepOn D27 w26.drew w32 ∧
  cond (!r31.1)
  (StoreV w32 ⟨b1, 0, none⟩ [.int .i64 0, .int .i64 0, .int .i64 0, .int .u32 0, .int .u64 0, .int .u64 0] fun w33 =>
  LoadA w33 ⟨b1, 0, none⟩ [.int .i64, .int .i64, .int .i64, .int .u32, .int .u64, .int .u64] fun (x34 : Int × Int × Int × Int × Int × Int × Unit) =>
  K ((x34.1, x34.2.1, x34.2.2.1, x34.2.2.2.1, x34.2.2.2.2.1, x34.2.2.2.2.2.1, ()), (⟨none, 0, 0⟩ : SlV), (1 : Int), ()) w33)
  ((0 ≤ (3 : Int) ∧ 3 < ((24 - 0 : Nat) : Int)) ∧ ∃ q35 : Addr, a6 = some q35 ∧
  (D27 (q35.add (3 * 1)).block ∧ LoadS w26.drew (q35.add (3 * 1)) (.int .u8) fun (x36 : Int) =>
  cond (x36 != 0)
  (StoreV w32 ⟨b1, 0, none⟩ [.int .i64 0, .int .i64 0, .int .i64 0, .int .u32 0, .int .u64 0, .int .u64 0] fun w37 =>
  LoadA w37 ⟨b1, 0, none⟩ [.int .i64, .int .i64, .int .i64, .int .u32, .int .u64, .int .u64] fun (x38 : Int × Int × Int × Int × Int × Int × Unit) =>
  K ((x38.1, x38.2.1, x38.2.2.1, x38.2.2.2.1, x38.2.2.2.2.1, x38.2.2.2.2.2.1, ()), (⟨none, 0, 0⟩ : SlV), (1 : Int), ()) w37)
  ((D27 b24 ∧ LoadS w26.drew ⟨b24, 0, none⟩ (.int .i64) fun (x39 : Int) =>
  cond (decide (x39 < 1))
  (StoreV w32 ⟨b1, 0, none⟩ [.int .i64 0, .int .i64 0, .int .i64 0, .int .u32 0, .int .u64 0, .int .u64 0] fun w40 =>
  LoadA w40 ⟨b1, 0, none⟩ [.int .i64, .int .i64, .int .i64, .int .u32, .int .u64, .int .u64] fun (x41 : Int × Int × Int × Int × Int × Int × Unit) =>
  K ((x41.1, x41.2.1, x41.2.2.1, x41.2.2.2.1, x41.2.2.2.2.1, x41.2.2.2.2.2.1, ()), (⟨none, 0, 0⟩ : SlV), (1 : Int), ()) w40)
  ((D27 b24 ∧ LoadS w26.drew ⟨b24, 0, none⟩ (.int .i64) fun (x42 : Int) =>
  cond (decide (x42 > 4))
  (StoreV w32 ⟨b1, 0, none⟩ [.int .i64 0, .int .i64 0, .int .i64 0, .int .u32 0, .int .u64 0, .int .u64 0] fun w43 =>
  LoadA w43 ⟨b1, 0, none⟩ [.int .i64, .int .i64, .int .i64, .int .u32, .int .u64, .int .u64] fun (x44 : Int × Int × Int × Int × Int × Int × Unit) =>
  K ((x44.1, x44.2.1, x44.2.2.1, x44.2.2.2.1, x44.2.2.2.2.1, x44.2.2.2.2.2.1, ()), (⟨none, 0, 0⟩ : SlV), (1 : Int), ()) w43)
  (DrawV fun D45 =>
  (D45 b24 ∧ LoadA w32.drew ⟨b24, 0, none⟩ [.int .i64, .int .i64, .int .i64, .int .u32, .int .u64, .int .u64] fun (x46 : Int × Int × Int × Int × Int × Int × Unit) =>
  NewV #[] 5 w32.drew fun b47 w48 =>
  KeepOn D45 w32.drew w48 ∧
  AppS w48 a7 (80 - 48) 1 fun ns53 =>
  AppV w48 5 1 1 (some ⟨b47, 0, none⟩) 0 0 ns53 (80 - 48) fun a49 n50 c51 w52 =>
  KeepOn D45 w32.drew w52 ∧
  StoreV w52 ⟨b1, 0, none⟩ [.int .i64 x46.1, .int .i64 x46.2.1, .int .i64 x46.2.2.1, .int .u32 x46.2.2.2.1, .int .u64 x46.2.2.2.2.1, .int .u64 x46.2.2.2.2.2.1] fun w54 =>
  KeepOn D45 w32.drew w54 ∧
  LoadA w54 ⟨b1, 0, none⟩ [.int .i64, .int .i64, .int .i64, .int .u32, .int .u64, .int .u64] fun (x55 : Int × Int × Int × Int × Int × Int × Unit) =>
  K ((x55.1, x55.2.1, x55.2.2.1, x55.2.2.2.1, x55.2.2.2.2.1, x55.2.2.2.2.2.1, ()), (⟨a49, n50, c51⟩ : SlV), (0 : Int), ()) w54))))))))
end Go.Proofs.Ytlpeoaphdmfjdaa.Vc
/-! The contracts of layer 14 (head): what an end tells. -/
namespace Go.Proofs.Ytlpeoaphdmfjdaa.Vc
open Go Go.Eng Go.RowKit
theorem DrawV.but {body : (Nat → Prop) → Prop} (w : World) (b : Nat) (h : ∀ D : Nat → Prop, (∀ k, k < w.heap.size → k ≠ b → D k) → (∀ w', (∀ k, k < w.heap.size → k ≠ b → w'.heap[k]? = w.heap[k]?) → KeepOn D w.drew w') → body D) : DrawV body :=
  ⟨fun k => k < w.heap.size ∧ k ≠ b, h _ (fun _ h h' => ⟨h, h'⟩) fun w' e k hk => e k hk.1 hk.2⟩
theorem newU' {w : World} {K : Nat → World → Prop} (h : ∀ b w1, Ext w w1 → Own w1 w.heap.size 5 1 (some ⟨b, 0, none⟩) 0 0 [] → K b w1) : NewV #[] 5 w K := by
  rintro b w1 rfl rfl
  exact h _ _ (Ext.alloc _ _) (Own.zeros (w := w) (B := w.heap.size) (e := 5) (n := 0) (c := 0) (z := .int .u8 0) (Nat.le_refl _) (Nat.zero_le _) (by omega) rfl)
abbrev zeroH : Hd := ⟨0, 0, 0, 0, 0, 0⟩
def RPost (w : World) (xs : List Int) (r : (Int × Int × Int × Int × Int × Int × Unit) × SlV × Int × Unit) (w' : World) : Prop :=
  Ext w w' ∧ (xs.length ≠ 88 → r.1 = zeroH.tup ∧ r.2.1 = (⟨none, 0, 0⟩ : SlV) ∧ r.2.2.1 = 2) ∧ (xs.length = 88 → okR xs → r.1 = (hdOf xs).tup ∧ Res w w' r.2.1 (part xs 48 80) ∧ r.2.2.1 = 0) ∧
    (xs.length = 88 → ¬ okR xs → r.1 = zeroH.tup ∧ r.2.1 = (⟨none, 0, 0⟩ : SlV) ∧ r.2.2.1 = 1)
theorem readTail {w w26 : World} {xs : List Int} {a0 a6 a7 : Option Addr} {c0 b1 b24 : Nat} {c6 c7 : Nat} (x26 : Ext w w26) (hb1 : Box w26 w.heap.size b1 25 zeroH.vs) (hb24 : Box w26 w.heap.size b24 25 (hdOf xs).vs) (hne : b1 ≠ b24)
    (hx : Ints w .u8 a0 88 c0 xs) (bx : Byt xs) (h6 : Ints w .u8 a6 24 (c0 - 0) (part xs 0 24)) (h7 : Ints w .u8 a7 (80 - 48) c7 (part xs 48 80)) : head_Read.T c0 a0 a6 w26 b1 (RPost w xs) b24 a7 := by
  have hl := hx.len
  have hcap := hx.cap
  unfold head_Read.T
  refine DrawV.old w26 fun D hD hkeep => ?_
  have x26' := x26.trans (Ext.drew w26)
  refine ⟨by omega, ?_⟩
  intro a28 ha28
  have h28 := (hx.ext x26').sub (l := 24) (hh := 48) (m := c0) (by omega) (by omega) (by omega) ha28
  refine (Invert_c (h6.ext x26') (by omega)).mono ?_
  rintro ⟨(s1 : SlV), ⟨⟩⟩ w1 h1
  dsimp only at h1 ⊢
  have x1 := (Ext.drew w26).trans h1.ext
  refine ⟨hkeep _ x1, ?_⟩
  refine (Same_c h1.ints (h28.ext h1.ext) (invL_byt _) ((bx.drop 24).take _)).mono ?_
  rintro ⟨(r2 : Bool), ⟨⟩⟩ w2 ⟨h2, e2⟩
  dsimp only at h2 ⊢
  have x2 := x1.trans e2
  have X2 := x26.trans x2
  refine ⟨hkeep _ x2, ?_⟩
  have b1' := hb1.ext x2
  have fail : ¬ okR xs → StoreV w2 ⟨b1, 0, none⟩ [.int .i64 0, .int .i64 0, .int .i64 0, .int .u32 0, .int .u64 0, .int .u64 0] fun w33 =>
      LoadA w33 ⟨b1, 0, none⟩ [.int .i64, .int .i64, .int .i64, .int .u32, .int .u64, .int .u64] fun (x34 : Int × Int × Int × Int × Int × Int × Unit) =>
      RPost w xs ((x34.1, x34.2.1, x34.2.2.1, x34.2.2.2.1, x34.2.2.2.2.1, x34.2.2.2.2.2.1, ()), (⟨none, 0, 0⟩ : SlV), (1 : Int), ()) w33 := fun hno => by
    refine b1'.store 0 (by simp) fun w3 hb3 bel3 _ _ => ?_
    refine ldH (h := zeroH) hb3 ?_
    exact ⟨Below.trans X2 bel3, fun h => absurd hl h, fun _ h => absurd h hno, fun _ _ => ⟨rfl, rfl, rfl⟩⟩
  refine cond_of (fun hc => fail (fun hok => by
    have := hok.2.2
    unfold part at this
    simp at hc
    rw [h2] at hc
    simp at hc
    exact hc this)) (fun hc => ?_)
  have hsame : invL (part xs 0 24) = part xs 24 48 := by simp at hc; rw [h2] at hc; simpa [part] using hc
  have h3 : (part xs 0 24).getD 3 0 = xs.getD 3 0 := by
    unfold part
    rw [List.drop_zero, List.getD_eq_getElem?_getD, List.getElem?_take, if_pos (by omega), ← List.getD_eq_getElem?_getD]
  refine (h6.ext x26).idxD (Ext.drew w26) (i := 3) (by omega) (by omega) hD ?_
  rw [show (3 : Int).toNat = 3 from rfl, h3]
  refine cond_ne (fun hz => fail (fun hok => hz hok.2.1)) (fun hz => ?_)
  have hD24 := hD _ hb24.lt
  have d24 := hb24.ext (Ext.drew w26)
  refine ⟨hD24, d24.ld (i := 0) (h := .int .i64) (x := xs.getD 0 0) rfl ?_⟩
  refine cond_d (fun h1 => fail (fun hok => by have := hok.1; omega)) (fun k1 => ?_)
  refine ⟨hD24, d24.ld (i := 0) (h := .int .i64) (x := xs.getD 0 0) rfl ?_⟩
  refine cond_d (fun h1 => fail (fun hok => by have := hok.1; omega)) (fun k2 => ?_)
  have hok : okR xs := ⟨by omega, hz, hsame⟩
  refine DrawV.but w2 b1 fun D2 hD2 hkeep2 => ?_
  have e24 := hb24.ext x2
  refine ⟨hD2 _ e24.lt (fun h => hne h.symm), ldH (h := hdOf xs) (e24.ext (Ext.drew w2)) ?_⟩
  refine newU' fun b5 w5 e5 o5 => ?_
  have keepB : ∀ {w' : World}, Ext w2 w' → KeepOn D2 w2.drew w' := fun e => hkeep2 _ fun k hk _ => e.block k hk
  have x5 := (Ext.drew w2).trans e5
  refine ⟨keepB x5, ?_⟩
  refine appL (xs := []) (o5.mono (Ext.drew w2).size) (h7.ext (X2.trans x5)) x5.size (by omega) fun a6' c6' w6 o6 b6 => ?_
  have x6 : Ext w2 w6 := Below.trans x5 b6
  refine ⟨keepB x6, ?_⟩
  have b1'' := b1'.ext x6
  refine b1''.store 0 (by simp) fun w7 hb7 bel7 oth7 _ => ?_
  refine ⟨hkeep2 _ fun k hk hkb => by rw [oth7 k hkb]; exact x6.block k hk, ?_⟩
  refine ldH (h := hdOf xs) hb7 ?_
  refine ⟨Below.trans (X2.trans x6) bel7, fun h => absurd hl h, fun _ _ => ⟨rfl, ⟨Below.trans (X2.trans x6) bel7, ?_⟩, rfl⟩, fun _ h => absurd hok h⟩
  rw [Nat.zero_add, List.nil_append] at *
  refine (o6.other fun p hp => oth7 _ ?_).mono X2.size
  rcases o6.at_ with ⟨h1, _⟩ | ⟨b, cs, h1, h2, _⟩
  · rw [h1] at hp; cases hp
  · rw [h1] at hp
    have := Option.some.inj hp
    subst this
    have := b1'.lt
    show b ≠ b1
    omega
end Go.Proofs.Ytlpeoaphdmfjdaa.Vc
/-! The contract of head.Read. -/
namespace Go.Proofs.Ytlpeoaphdmfjdaa.Vc
open Go Go.Eng Go.RowKit
theorem sub_part {w : World} {a : Option Addr} {n c : Nat} {xs : List Int} (h : Ints w .u8 a n c xs) {i j m : Nat} (h1 : i ≤ j) (h2 : j ≤ n) (h3 : j ≤ m) {a' : Option Addr} (ha : a' = if m = i then a else a.map (·.add (i * 1))) : Ints w .u8 a' (j - i) (m - i) (part xs i j) := h.sub h1 h2 h3 ha
theorem part_part {xs : List Int} {i j k : Nat} (h : j ≤ k) : part (part xs 0 k) i j = part xs i j := by
  unfold part
  rw [List.drop_zero, Nat.sub_zero, List.drop_take, List.take_take, Nat.min_eq_left (by omega)]
theorem Read_c {w : World} {a0 : Option Addr} {n0 c0 : Nat} {xs : List Int} (hx : Ints w .u8 a0 n0 c0 xs) (bx : Byt xs) :
    CallV Try.prog 128 #[.slice a0 n0 c0] w [.agg [.int .i64, .int .i64, .int .i64, .int .u32, .int .u64, .int .u64], .one .sl, .one (.int .i64)] fun r w' => RPost w xs r w' := by
  refine head_Read.vc _ _ _ _ _ ?_
  unfold head_Read.P
  have lx := hx.len
  have hcap := hx.cap
  refine newH (h := zeroH) fun b1 w2 e2 hb1 => ?_
  refine cond_ne (fun hne => ?_) (fun heq => ?_)
  · refine hb1.store 0 (by simp) fun w3 hb3 bel3 _ _ => ?_
    refine ldH (h := zeroH) hb3 ?_
    exact ⟨Below.trans e2 bel3, fun _ => ⟨rfl, rfl, rfl⟩, fun h => absurd (by omega) hne, fun h => absurd (by omega) hne⟩
  have h88 : n0 = 88 := by omega
  subst h88
  refine DrawV.old w2 fun D5 hD5 hkeep5 => ?_
  have x5 := e2.trans (Ext.drew w2)
  refine ⟨by omega, ?_⟩
  intro a6 ha6
  refine ⟨by omega, ?_⟩
  intro a7 ha7
  have h6 := sub_part hx (i := 0) (j := 24) (m := c0) (by omega) (by omega) (by omega) ha6
  have h7 := sub_part hx (i := 48) (j := 80) (m := c0) (by omega) (by omega) (by omega) ha7
  refine DrawV.old w2.drew fun D hD hkeep => ?_
  have x8 := x5.trans (Ext.drew w2.drew)
  have b0 := bx.getD 0
  have b1' := bx.getD 1
  have b2 := bx.getD 2
  have g : ∀ k, k < 24 → (part xs 0 24).getD k 0 = xs.getD k 0 := fun k hk => by
    unfold part
    rw [List.drop_zero, List.getD_eq_getElem?_getD, List.getElem?_take, if_pos (by omega), ← List.getD_eq_getElem?_getD]
  refine (h6.ext x5).idxD (Ext.drew w2.drew) (i := 0) (by omega) (by omega) hD ?_
  refine (h6.ext x5).idxD (Ext.drew w2.drew) (i := 1) (by omega) (by omega) hD ?_
  refine (h6.ext x5).idxD (Ext.drew w2.drew) (i := 2) (by omega) (by omega) hD ?_
  rw [show (0 : Int).toNat = 0 from rfl, show (1 : Int).toNat = 1 from rfl, show (2 : Int).toNat = 2 from rfl, g 0 (by omega), g 1 (by omega), g 2 (by omega)]
  rw [i64_id (by omega : -9223372036854775808 ≤ xs.getD 0 0) (by omega), i64_id (by omega : -9223372036854775808 ≤ xs.getD 1 0) (by omega), i64_id (by omega : -9223372036854775808 ≤ xs.getD 2 0) (by omega)]
  refine ⟨by omega, ?_⟩
  intro a15 ha15
  refine ⟨by omega, ?_⟩
  intro a16 ha16
  refine ⟨by omega, ?_⟩
  intro a17 ha17
  have h15 := sub_part h6 (i := 4) (j := 8) (m := c0 - 0) (by omega) (by omega) (by omega) ha15
  have h16 := sub_part h6 (i := 8) (j := 16) (m := c0 - 0) (by omega) (by omega) (by omega) ha16
  have h17 := sub_part h6 (i := 16) (j := 24) (m := c0 - 0) (by omega) (by omega) (by omega) ha17
  rw [part_part (by omega)] at h15 h16 h17
  generalize hW : w2.drew.drew = W at *
  have keepW : ∀ {w' : World}, Ext W w' → KeepOn D W w' := fun e => by
    have := hkeep _ ((Ext.drew w2.drew).trans (by rw [hW]; exact e))
    exact this
  have nbl := numB_bd (part_byt bx 4 8) (part_length (by omega) (by omega)) (by omega)
  have hu : IntKind.u32.wrap (numB (part xs 4 8)) = numB (part xs 4 8) := by rw [u32_wrap]; exact Int.emod_eq_of_lt nbl.1 (by have := nbl.2; simpa using this)
  have hb1W := hb1.ext ((Ext.drew w2).trans (by rw [← hW]; exact Ext.drew w2.drew) : Ext w2 W)
  have done : ∀ {w25 : World} {b24 : Nat}, Ext W w25 → Box w25 W.heap.size b24 25 zeroH.vs → StoreV w25 ⟨b24, 0, none⟩ (hdOf xs).vs fun w26 => KeepOn D W w26 ∧ head_Read.T c0 a0 a6 w26 b1 (RPost w xs) b24 a7 := fun {w25 b24} e25 hb24 => by
    refine hb24.store 0 (by simp) fun w26 hb26 bel26 _ _ => ?_
    have X26 : Ext W w26 := Below.trans e25 bel26
    refine ⟨keepW X26, ?_⟩
    refine readTail (c6 := 0) (x8.trans X26) (hb1W.ext X26) ⟨Nat.le_trans x8.size hb26.base, hb26.heap⟩ (fun h => ?_) hx bx h6 h7
    have := hb1W.lt
    have := hb24.base
    omega
  have N15 : ∀ {w' : World}, Ext W w' → CallV Try.prog 132 #[.slice a15 (8 - 4) (c0 - 0 - 4)] w' [.one (.int .u64)] fun r w2 => r.1 = numB (part xs 4 8) ∧ w2 = w' := fun e => Num_c (h15.ext (x8.trans e)) (part_byt bx 4 8)
  have N16 : ∀ {w' : World}, Ext W w' → CallV Try.prog 132 #[.slice a16 (16 - 8) (c0 - 0 - 8)] w' [.one (.int .u64)] fun r w2 => r.1 = numB (part xs 8 16) ∧ w2 = w' := fun e => Num_c (h16.ext (x8.trans e)) (part_byt bx 8 16)
  have N17 : ∀ {w' : World}, Ext W w' → CallV Try.prog 132 #[.slice a17 (24 - 16) (c0 - 0 - 16)] w' [.one (.int .u64)] fun r w2 => r.1 = numB (part xs 16 24) ∧ w2 = w' := fun e => Num_c (h17.ext (x8.trans e)) (part_byt bx 16 24)
  have kW := keepW (Ext.refl W)
  refine ⟨?_, ?_⟩
  · refine (N15 (Ext.refl _)).mono ?_
    rintro ⟨(r1 : Int), ⟨⟩⟩ w' ⟨q1, rfl⟩
    dsimp only at q1 ⊢
    subst q1
    rw [hu]
    refine ⟨kW, ?_, ?_⟩
    · refine (N16 (Ext.refl _)).mono ?_
      rintro ⟨(r2 : Int), ⟨⟩⟩ w' ⟨q2, rfl⟩
      dsimp only at q2 ⊢
      subst q2
      refine ⟨kW, ?_, ?_⟩
      · refine (N17 (Ext.refl _)).mono ?_
        rintro ⟨(r3 : Int), ⟨⟩⟩ w' ⟨q3, rfl⟩
        dsimp only at q3 ⊢
        subst q3
        exact ⟨kW, newH (h := zeroH) fun b24 w25 e25 hb24 => ⟨keepW e25, done e25 hb24⟩⟩
      · refine newH (h := zeroH) fun b24 w25 e25 hb24 => ⟨keepW e25, ?_⟩
        refine (N17 e25).mono ?_
        rintro ⟨(r3 : Int), ⟨⟩⟩ w' ⟨q3, rfl⟩
        dsimp only at q3 ⊢
        subst q3
        exact ⟨keepW e25, done e25 hb24⟩
    · refine newH (h := zeroH) fun b24 w25 e25 hb24 => ⟨keepW e25, ?_⟩
      refine (N16 e25).mono ?_
      rintro ⟨(r2 : Int), ⟨⟩⟩ w' ⟨q2, rfl⟩
      dsimp only at q2 ⊢
      subst q2
      refine ⟨keepW e25, ?_⟩
      refine (N17 e25).mono ?_
      rintro ⟨(r3 : Int), ⟨⟩⟩ w' ⟨q3, rfl⟩
      dsimp only at q3 ⊢
      subst q3
      exact ⟨keepW e25, done e25 hb24⟩
  · refine newH (h := zeroH) fun b24 w25 e25 hb24 => ⟨keepW e25, ?_⟩
    refine (N15 e25).mono ?_
    rintro ⟨(r1 : Int), ⟨⟩⟩ w' ⟨q1, rfl⟩
    dsimp only at q1 ⊢
    subst q1
    rw [hu]
    refine ⟨keepW e25, ?_⟩
    refine (N16 e25).mono ?_
    rintro ⟨(r2 : Int), ⟨⟩⟩ w' ⟨q2, rfl⟩
    dsimp only at q2 ⊢
    subst q2
    refine ⟨keepW e25, ?_⟩
    refine (N17 e25).mono ?_
    rintro ⟨(r3 : Int), ⟨⟩⟩ w' ⟨q3, rfl⟩
    dsimp only at q3 ⊢
    subst q3
    exact ⟨keepW e25, done e25 hb24⟩
end Go.Proofs.Ytlpeoaphdmfjdaa.Vc
/-! Heads are the same where all their numbers are. -/
namespace Go.Proofs.Ytlpeoaphdmfjdaa.Vc
open Go Go.Eng Go.RowKit
set_option maxRecDepth 100000 in
theorem eqH (a1 a2 a3 a4 a5 a6 b1 b2 b3 b4 b5 b6 : Int) (w : World) : (Op.equalIn 10000 25 (.agg #[.int .i64 a1, .int .i64 a2, .int .i64 a3, .int .u32 a4, .int .u64 a5, .int .u64 a6]) (.agg #[.int .i64 b1, .int .i64 b2, .int .i64 b3, .int .u32 b4, .int .u64 b5, .int .u64 b6])).run Try.prog w =
    .ok (a1 == b1 && (a2 == b2 && (a3 == b3 && (a4 == b4 && (a5 == b5 && a6 == b6))))) w := by
  have u1 := Try.underlying3
  have u2 := Try.underlying22
  have u3 := Try.underlying23
  have v1 := Try.isAgg3
  have v2 := Try.isAgg22
  have v3 := Try.isAgg23
  have z1 := Try.sizeOf3
  have z2 := Try.sizeOf22
  have z3 := Try.sizeOf23
  have hS : Try.prog.underlying 25 = some (.struct (Try.prog.fieldsOf 25)) := by kernel_rfl
  rw [show (10000 : Nat) = 9999 + 1 from rfl, run_equalIn_agg w 9999 25 _ _ hS (by kernel_rfl)]
  simp only [Program.fieldsOf, Try.underlying25]
  go_simp
  repeat' split
  all_goals simp_all
open Classical in
theorem eqHd {g h : Hd} {K : Bool → Prop} (hk : K (decide (g = h))) : AggEq Try.prog 25 #[.int .i64 g.k, .int .i64 g.n, .int .i64 g.c, .int .u32 g.l, .int .u64 g.e, .int .u64 g.t] #[.int .i64 h.k, .int .i64 h.n, .int .i64 h.c, .int .u32 h.l, .int .u64 h.e, .int .u64 h.t] K := by
  refine ⟨_, fun w => eqH _ _ _ _ _ _ _ _ _ _ _ _ w, by kernel_rfl, ?_⟩
  have : (g.k == h.k && (g.n == h.n && (g.c == h.c && (g.l == h.l && (g.e == h.e && g.t == h.t))))) = decide (g = h) := by
    obtain ⟨a1, a2, a3, a4, a5, a6⟩ := g
    obtain ⟨b1, b2, b3, b4, b5, b6⟩ := h
    apply Bool.eq_iff_iff.2
    simp
  rw [this]
  exact hk
end Go.Proofs.Ytlpeoaphdmfjdaa.Vc
/-! The law HeadEnds of layer 14: each call gives true, and what it read stays. -/
namespace Go.Proofs.Ytlpeoaphdmfjdaa.Vc
open Go Go.Eng Go.RowKit
theorem tagL_length {tg : List Int} (hl : tg.length = 0 ∨ tg.length = 32) : (tagL tg).length = 32 := by
  unfold tagL
  split
  · simp
  · omega
theorem endL_length (h : Hd) {tg : List Int} (hl : tg.length = 0 ∨ tg.length = 32) : (endL h tg).length = 88 := by
  unfold endL
  rw [List.length_append, List.length_append, List.length_append, invL_length, hdL_length, tagL_length hl, List.length_replicate]
theorem big_byt (n : Int) (k : Nat) : Byt (big n k) := (leL_byt n k).reverse
theorem hdL_byt {h : Hd} (hR : HRight h) : Byt (hdL h) := by
  unfold HRight at hR
  unfold hdL
  refine (((Byt.cons (by omega) (Byt.cons (by omega) (Byt.cons (by omega) (Byt.cons (by omega) Byt.nil)))).append (big_byt _ _)).append (big_byt _ _)).append (big_byt _ _)
theorem endL_byt {h : Hd} (hg : h.rng) (hR : HRight h) {tg : List Int} (bt : Byt tg) : Byt (endL h tg) := by
  unfold endL
  refine (((hdL_byt hR).append (invL_byt _)).append ?_).append (Byt.replicate (by omega) (by omega) _)
  unfold tagL
  split
  · exact Byt.replicate (by omega) (by omega) _
  · exact bt
theorem endL_hd (h : Hd) (hg : h.rng) (tg : List Int) : hdOf (endL h tg) = h := by
  unfold endL
  rw [List.append_assoc, List.append_assoc]
  exact part_hdL h hg _
theorem endL_ok (h : Hd) {tg : List Int} (hl : tg.length = 0 ∨ tg.length = 32) (hg : h.rng) (hR : HRight h) : okR (endL h tg) := by
  refine ⟨hR.1, rfl, ?_⟩
  have p1 : part (endL h tg) 0 24 = hdL h := by
    unfold part endL
    rw [List.drop_zero, List.append_assoc, List.append_assoc, List.take_left' (by rw [hdL_length])]
  have p2 : part (endL h tg) 24 48 = invL (hdL h) := by
    unfold part endL
    rw [List.append_assoc, List.append_assoc, List.drop_left' (by rw [hdL_length]), List.take_left' (by rw [invL_length, hdL_length])]
  rw [p1, p2]
end Go.Proofs.Ytlpeoaphdmfjdaa.Vc
/-! The plans of functions as plain statements, printed by wip/tools/vcgen.py; the kernel holds each to the code. -/
namespace Go.Proofs.Ytlpeoaphdmfjdaa.Vc
open Go Go.Eng
def page_Make.A : Ann := .no
def page_Make.P (p0_0 p0_1 p0_2 p0_3 p0_4 p0_5 p1_0 p1_1 p1_2 p1_3 p1_4 p1_5 : Int) (a2 : Option Addr) (n2 c2 : Nat) (a3 : Option Addr) (n3 c3 : Nat) (w : World) (K : SlV × Int × Unit → World → Prop) : Prop :=
  NewV #[.int .i64 p0_0, .int .i64 p0_1, .int .i64 p0_2, .int .i64 p0_3, .int .i64 p0_4, .int .i64 p0_5] 33 w fun b1 w2 =>
  NewV #[.int .i64 p1_0, .int .i64 p1_1, .int .i64 p1_2, .int .u32 p1_3, .int .u64 p1_4, .int .u64 p1_5] 25 w2 fun b3 w4 =>
  LoadA w4 ⟨b1, 0, none⟩ [.int .i64, .int .i64, .int .i64, .int .i64, .int .i64, .int .i64] fun (x5 : Int × Int × Int × Int × Int × Int × Unit) =>
  CallV Try.prog 40 #[.agg #[.int .i64 x5.1, .int .i64 x5.2.1, .int .i64 x5.2.2.1, .int .i64 x5.2.2.2.1, .int .i64 x5.2.2.2.2.1, .int .i64 x5.2.2.2.2.2.1]] w4 [.one (.int .i64)] fun (r6 : Int × Unit) w7 =>
  cond (r6.1 != 0)
  (K ((⟨none, 0, 0⟩ : SlV), (2 : Int), ()) w7)
  (cond (((n2 : Nat) : Int) == 0)
  (LoadS w7 ⟨b1, 2, none⟩ (.int .i64) fun (x8 : Int) =>
  CallV Try.prog 91 #[.int .u8 255, .int .i64 x8] w7 [.one .sl] fun (r9 : SlV × Unit) w10 =>
  LoadS w10 ⟨b1, 2, none⟩ (.int .i64) fun (x11 : Int) =>
  cond (((r9.1.n : Nat) : Int) != x11)
  (K ((⟨none, 0, 0⟩ : SlV), (2 : Int), ()) w10)
  (LoadA w10 ⟨b3, 0, none⟩ [.int .i64, .int .i64, .int .i64, .int .u32, .int .u64, .int .u64] fun (x12 : Int × Int × Int × Int × Int × Int × Unit) =>
  CallV Try.prog 92 #[.agg #[.int .i64 x12.1, .int .i64 x12.2.1, .int .i64 x12.2.2.1, .int .u32 x12.2.2.2.1, .int .u64 x12.2.2.2.2.1, .int .u64 x12.2.2.2.2.2.1], .slice a3 n3 c3] w10 [.one .sl, .one (.int .i64)] fun (r13 : SlV × Int × Unit) w14 =>
  cond (r13.2.1 != 0)
  (K ((⟨none, 0, 0⟩ : SlV), r13.2.1, ()) w14)
  (NewV #[] 5 w14 fun b15 w16 =>
  AppS w16 r9.1.a r9.1.n 1 fun ns21 =>
  AppV w16 5 1 1 (some ⟨b15, 0, none⟩) 0 0 ns21 r9.1.n fun a17 n18 c19 w20 =>
  AppS w20 r13.1.a r13.1.n 1 fun ns26 =>
  AppV w20 5 1 1 a17 n18 c19 ns26 r13.1.n fun a22 n23 c24 w25 =>
  K ((⟨a22, n23, c24⟩ : SlV), (0 : Int), ()) w25)))
  (LoadS w7 ⟨b1, 2, none⟩ (.int .i64) fun (x27 : Int) =>
  cond (((n2 : Nat) : Int) != x27)
  (K ((⟨none, 0, 0⟩ : SlV), (2 : Int), ()) w7)
  (LoadA w7 ⟨b3, 0, none⟩ [.int .i64, .int .i64, .int .i64, .int .u32, .int .u64, .int .u64] fun (x28 : Int × Int × Int × Int × Int × Int × Unit) =>
  CallV Try.prog 92 #[.agg #[.int .i64 x28.1, .int .i64 x28.2.1, .int .i64 x28.2.2.1, .int .u32 x28.2.2.2.1, .int .u64 x28.2.2.2.2.1, .int .u64 x28.2.2.2.2.2.1], .slice a3 n3 c3] w7 [.one .sl, .one (.int .i64)] fun (r29 : SlV × Int × Unit) w30 =>
  cond (r29.2.1 != 0)
  (K ((⟨none, 0, 0⟩ : SlV), r29.2.1, ()) w30)
  (NewV #[] 5 w30 fun b31 w32 =>
  AppS w32 a2 n2 1 fun ns37 =>
  AppV w32 5 1 1 (some ⟨b31, 0, none⟩) 0 0 ns37 n2 fun a33 n34 c35 w36 =>
  AppS w36 r29.1.a r29.1.n 1 fun ns42 =>
  AppV w36 5 1 1 a33 n34 c35 ns42 r29.1.n fun a38 n39 c40 w41 =>
  K ((⟨a38, n39, c40⟩ : SlV), (0 : Int), ()) w41))))
theorem page_Make.vc (p0_0 p0_1 p0_2 p0_3 p0_4 p0_5 p1_0 p1_1 p1_2 p1_3 p1_4 p1_5 : Int) (a2 : Option Addr) (n2 c2 : Nat) (a3 : Option Addr) (n3 c3 : Nat) (w : World) (K : SlV × Int × Unit → World → Prop) (h : page_Make.P p0_0 p0_1 p0_2 p0_3 p0_4 p0_5 p1_0 p1_1 p1_2 p1_3 p1_4 p1_5 a2 n2 c2 a3 n3 c3 w K) : CallV Try.prog 52 #[.agg #[.int .i64 p0_0, .int .i64 p0_1, .int .i64 p0_2, .int .i64 p0_3, .int .i64 p0_4, .int .i64 p0_5], .agg #[.int .i64 p1_0, .int .i64 p1_1, .int .i64 p1_2, .int .u32 p1_3, .int .u64 p1_4, .int .u64 p1_5], .slice a2 n2 c2, .slice a3 n3 c3] w [.one .sl, .one (.int .i64)] K := by
  refine vcFun.of (A := page_Make.A) (wr := false) okf_ok follows h Try.func52 ?_
  kernel_rfl
def page_Commit.A : Ann := .no
def page_Commit.P (p0_0 p0_1 p0_2 p0_3 p0_4 p0_5 : Int) (w : World) (K : SlV × Int × Unit → World → Prop) : Prop :=
  NewV #[.int .i64 p0_0, .int .i64 p0_1, .int .i64 p0_2, .int .i64 p0_3, .int .i64 p0_4, .int .i64 p0_5] 33 w fun b1 w2 =>
  LoadA w2 ⟨b1, 0, none⟩ [.int .i64, .int .i64, .int .i64, .int .i64, .int .i64, .int .i64] fun (x3 : Int × Int × Int × Int × Int × Int × Unit) =>
  CallV Try.prog 40 #[.agg #[.int .i64 x3.1, .int .i64 x3.2.1, .int .i64 x3.2.2.1, .int .i64 x3.2.2.2.1, .int .i64 x3.2.2.2.2.1, .int .i64 x3.2.2.2.2.2.1]] w2 [.one (.int .i64)] fun (r4 : Int × Unit) w5 =>
  cond (r4.1 != 0)
  (K ((⟨none, 0, 0⟩ : SlV), (2 : Int), ()) w5)
  (LoadA w5 ⟨b1, 0, none⟩ [.int .i64, .int .i64, .int .i64, .int .i64, .int .i64, .int .i64] fun (x6 : Int × Int × Int × Int × Int × Int × Unit) =>
  CallV Try.prog 42 #[.agg #[.int .i64 x6.1, .int .i64 x6.2.1, .int .i64 x6.2.2.1, .int .i64 x6.2.2.2.1, .int .i64 x6.2.2.2.2.1, .int .i64 x6.2.2.2.2.2.1]] w5 [.one (.int .i64)] fun (r7 : Int × Unit) w8 =>
  CallV Try.prog 95 #[.int .i64 r7.1] w8 [.one .sl] fun (r9 : SlV × Unit) w10 =>
  K (r9.1, (0 : Int), ()) w10)
theorem page_Commit.vc (p0_0 p0_1 p0_2 p0_3 p0_4 p0_5 : Int) (w : World) (K : SlV × Int × Unit → World → Prop) (h : page_Commit.P p0_0 p0_1 p0_2 p0_3 p0_4 p0_5 w K) : CallV Try.prog 55 #[.agg #[.int .i64 p0_0, .int .i64 p0_1, .int .i64 p0_2, .int .i64 p0_3, .int .i64 p0_4, .int .i64 p0_5]] w [.one .sl, .one (.int .i64)] K := by
  refine vcFun.of (A := page_Commit.A) (wr := false) okf_ok follows h Try.func55 ?_
  kernel_rfl
def page_cut.A : Ann := .two .no (.two (.draw (.take 0 (.take 1 (.take 2 (.take 3 (.take 4 (.take 5 (.take 6 (.take 7 (.take 8 (.eff 9 (.done)))))))))))) .no)
def page_cut.P (p0_0 p0_1 p0_2 p0_3 p0_4 p0_5 : Int) (a1 : Option Addr) (n1 c1 : Nat) (w : World) (K : (SlV × SlV × Unit) × Unit → World → Prop) : Prop :=
  NewV #[.int .i64 p0_0, .int .i64 p0_1, .int .i64 p0_2, .int .i64 p0_3, .int .i64 p0_4, .int .i64 p0_5] 33 w fun b1 w2 =>
  NewV #[.slice none 0 0, .slice none 0 0] 182 w2 fun b3 w4 =>
  DrawV fun D5 =>
  (D5 b1 ∧ LoadS w4.drew ⟨b1, 2, none⟩ (.int .i64) fun (x6 : Int) =>
  ((0 : Int) ≤ x6 ∧ x6 ≤ ((c1 : Nat) : Int)) ∧
  SubK a1 0 c1 1 fun a7 =>
  (D5 b1 ∧ LoadS w4.drew ⟨b1, 2, none⟩ (.int .i64) fun (x8 : Int) =>
  ((0 : Int) ≤ x8 ∧ x8 ≤ ((n1 : Nat) : Int)) ∧
  SubK a1 x8.toNat c1 1 fun a9 =>
  StoreV w4.drew ⟨b3, 0, none⟩ [.slice a7 (x6.toNat - 0) (c1 - 0), .slice a9 (n1 - x8.toNat) (c1 - x8.toNat)] fun w10 =>
  KeepOn D5 w4.drew w10 ∧
  LoadA w10 ⟨b3, 0, none⟩ [.sl, .sl] fun (x11 : SlV × SlV × Unit) =>
  K ((x11.1, x11.2.1, ()), ()) w10))
theorem page_cut.vc (p0_0 p0_1 p0_2 p0_3 p0_4 p0_5 : Int) (a1 : Option Addr) (n1 c1 : Nat) (w : World) (K : (SlV × SlV × Unit) × Unit → World → Prop) (h : page_cut.P p0_0 p0_1 p0_2 p0_3 p0_4 p0_5 a1 n1 c1 w K) : CallV Try.prog 127 #[.agg #[.int .i64 p0_0, .int .i64 p0_1, .int .i64 p0_2, .int .i64 p0_3, .int .i64 p0_4, .int .i64 p0_5], .slice a1 n1 c1] w [.agg [.sl, .sl]] K := by
  refine vcFun.of (A := page_cut.A) (wr := false) okf_ok follows h Try.func127 ?_
  kernel_rfl
def page_Read.A : Ann := .two .no (.two .no (.two .no (.two .no (.two .no (.two (.draw (.take 0 (.take 2 (.take 3 (.take 5 (.take 6 (.take 7 (.eff 1 (.eff 4 (.eff 8 (.take 9 (.eff 10 (.take 11 (.done)))))))))))))) .no)))))
def page_Read.P (p0_0 p0_1 p0_2 p0_3 p0_4 p0_5 : Int) (a1 : Option Addr) (n1 c1 : Nat) (w : World) (K : (Int × Int × Int × Int × Int × Int × SlV × SlV × Bool × Unit) × Int × Unit → World → Prop) : Prop :=
  NewV #[.int .i64 p0_0, .int .i64 p0_1, .int .i64 p0_2, .int .i64 p0_3, .int .i64 p0_4, .int .i64 p0_5] 33 w fun b1 w2 =>
  NewV #[.int .i64 0, .int .i64 0, .int .i64 0, .int .u32 0, .int .u64 0, .int .u64 0, .slice none 0 0, .slice none 0 0, .bool false] 175 w2 fun b3 w4 =>
  LoadA w4 ⟨b1, 0, none⟩ [.int .i64, .int .i64, .int .i64, .int .i64, .int .i64, .int .i64] fun (x5 : Int × Int × Int × Int × Int × Int × Unit) =>
  CallV Try.prog 40 #[.agg #[.int .i64 x5.1, .int .i64 x5.2.1, .int .i64 x5.2.2.1, .int .i64 x5.2.2.2.1, .int .i64 x5.2.2.2.2.1, .int .i64 x5.2.2.2.2.2.1]] w4 [.one (.int .i64)] fun (r6 : Int × Unit) w7 =>
  cond (r6.1 != 0)
  (StoreV w7 ⟨b3, 0, none⟩ [.int .i64 0, .int .i64 0, .int .i64 0, .int .u32 0, .int .u64 0, .int .u64 0, .slice none 0 0, .slice none 0 0, .bool false] fun w8 =>
  LoadA w8 ⟨b3, 0, none⟩ [.int .i64, .int .i64, .int .i64, .int .u32, .int .u64, .int .u64, .sl, .sl, .bool] fun (x9 : Int × Int × Int × Int × Int × Int × SlV × SlV × Bool × Unit) =>
  K ((x9.1, x9.2.1, x9.2.2.1, x9.2.2.2.1, x9.2.2.2.2.1, x9.2.2.2.2.2.1, x9.2.2.2.2.2.2.1, x9.2.2.2.2.2.2.2.1, x9.2.2.2.2.2.2.2.2.1, ()), (2 : Int), ()) w8)
  (LoadA w7 ⟨b1, 0, none⟩ [.int .i64, .int .i64, .int .i64, .int .i64, .int .i64, .int .i64] fun (x10 : Int × Int × Int × Int × Int × Int × Unit) =>
  CallV Try.prog 42 #[.agg #[.int .i64 x10.1, .int .i64 x10.2.1, .int .i64 x10.2.2.1, .int .i64 x10.2.2.2.1, .int .i64 x10.2.2.2.2.1, .int .i64 x10.2.2.2.2.2.1]] w7 [.one (.int .i64)] fun (r11 : Int × Unit) w12 =>
  cond (((n1 : Nat) : Int) != r11.1)
  (StoreV w12 ⟨b3, 0, none⟩ [.int .i64 0, .int .i64 0, .int .i64 0, .int .u32 0, .int .u64 0, .int .u64 0, .slice none 0 0, .slice none 0 0, .bool false] fun w13 =>
  LoadA w13 ⟨b3, 0, none⟩ [.int .i64, .int .i64, .int .i64, .int .u32, .int .u64, .int .u64, .sl, .sl, .bool] fun (x14 : Int × Int × Int × Int × Int × Int × SlV × SlV × Bool × Unit) =>
  K ((x14.1, x14.2.1, x14.2.2.1, x14.2.2.2.1, x14.2.2.2.2.1, x14.2.2.2.2.2.1, x14.2.2.2.2.2.2.1, x14.2.2.2.2.2.2.2.1, x14.2.2.2.2.2.2.2.2.1, ()), (2 : Int), ()) w13)
  (LoadA w12 ⟨b1, 0, none⟩ [.int .i64, .int .i64, .int .i64, .int .i64, .int .i64, .int .i64] fun (x15 : Int × Int × Int × Int × Int × Int × Unit) =>
  CallV Try.prog 127 #[.agg #[.int .i64 x15.1, .int .i64 x15.2.1, .int .i64 x15.2.2.1, .int .i64 x15.2.2.2.1, .int .i64 x15.2.2.2.2.1, .int .i64 x15.2.2.2.2.2.1], .slice a1 n1 c1] w12 [.agg [.sl, .sl]] fun (r16 : (SlV × SlV × Unit) × Unit) w17 =>
  NewV #[.slice none 0 0, .slice none 0 0] 182 w17 fun b18 w19 =>
  StoreV w19 ⟨b18, 0, none⟩ [.slice r16.1.1.a r16.1.1.n r16.1.1.c, .slice r16.1.2.1.a r16.1.2.1.n r16.1.2.1.c] fun w20 =>
  (0 ≤ (1 : Int) ∧ 1 < (2 : Int)) ∧
  LoadS w20 ⟨b18, 1, none⟩ .sl fun (x21 : SlV) =>
  CallV Try.prog 128 #[.slice x21.a x21.n x21.c] w20 [.agg [.int .i64, .int .i64, .int .i64, .int .u32, .int .u64, .int .u64], .one .sl, .one (.int .i64)] fun (r22 : (Int × Int × Int × Int × Int × Int × Unit) × SlV × Int × Unit) w23 =>
  NewV #[.int .i64 0, .int .i64 0, .int .i64 0, .int .u32 0, .int .u64 0, .int .u64 0] 25 w23 fun b24 w25 =>
  StoreV w25 ⟨b24, 0, none⟩ [.int .i64 r22.1.1, .int .i64 r22.1.2.1, .int .i64 r22.1.2.2.1, .int .u32 r22.1.2.2.2.1, .int .u64 r22.1.2.2.2.2.1, .int .u64 r22.1.2.2.2.2.2.1] fun w26 =>
  cond (r22.2.2.1 != 0)
  (StoreV w26 ⟨b3, 0, none⟩ [.int .i64 0, .int .i64 0, .int .i64 0, .int .u32 0, .int .u64 0, .int .u64 0, .slice none 0 0, .slice none 0 0, .bool false] fun w27 =>
  LoadA w27 ⟨b3, 0, none⟩ [.int .i64, .int .i64, .int .i64, .int .u32, .int .u64, .int .u64, .sl, .sl, .bool] fun (x28 : Int × Int × Int × Int × Int × Int × SlV × SlV × Bool × Unit) =>
  K ((x28.1, x28.2.1, x28.2.2.1, x28.2.2.2.1, x28.2.2.2.2.1, x28.2.2.2.2.2.1, x28.2.2.2.2.2.2.1, x28.2.2.2.2.2.2.2.1, x28.2.2.2.2.2.2.2.2.1, ()), r22.2.2.1, ()) w27)
  (DrawV fun D29 =>
  (D29 b24 ∧ LoadA w26.drew ⟨b24, 0, none⟩ [.int .i64, .int .i64, .int .i64, .int .u32, .int .u64, .int .u64] fun (x30 : Int × Int × Int × Int × Int × Int × Unit) =>
  (0 ≤ (0 : Int) ∧ 0 < (2 : Int)) ∧
  (D29 b18 ∧ LoadS w26.drew ⟨b18, 0, none⟩ .sl fun (x31 : SlV) =>
  (0 ≤ (1 : Int) ∧ 1 < (2 : Int)) ∧
  (D29 b18 ∧ LoadS w26.drew ⟨b18, 1, none⟩ .sl fun (x32 : SlV) =>
  NewV #[] 5 w26.drew fun b33 w34 =>
  KeepOn D29 w26.drew w34 ∧
  AppS w34 x31.a x31.n 1 fun ns39 =>
  AppV w34 5 1 1 (some ⟨b33, 0, none⟩) 0 0 ns39 x31.n fun a35 n36 c37 w38 =>
  KeepOn D29 w26.drew w38 ∧
  CallV Try.prog 129 #[.slice x32.a x32.n x32.c] w38 [.one .bool] fun (r40 : Bool × Unit) w41 =>
  KeepOn D29 w26.drew w41 ∧
  StoreV w41 ⟨b3, 0, none⟩ [.int .i64 x30.1, .int .i64 x30.2.1, .int .i64 x30.2.2.1, .int .u32 x30.2.2.2.1, .int .u64 x30.2.2.2.2.1, .int .u64 x30.2.2.2.2.2.1, .slice a35 n36 c37, .slice r22.2.1.a r22.2.1.n r22.2.1.c, .bool r40.1] fun w42 =>
  KeepOn D29 w26.drew w42 ∧
  LoadA w42 ⟨b3, 0, none⟩ [.int .i64, .int .i64, .int .i64, .int .u32, .int .u64, .int .u64, .sl, .sl, .bool] fun (x43 : Int × Int × Int × Int × Int × Int × SlV × SlV × Bool × Unit) =>
  K ((x43.1, x43.2.1, x43.2.2.1, x43.2.2.2.1, x43.2.2.2.2.1, x43.2.2.2.2.2.1, x43.2.2.2.2.2.2.1, x43.2.2.2.2.2.2.2.1, x43.2.2.2.2.2.2.2.2.1, ()), (0 : Int), ()) w42))))))
theorem page_Read.vc (p0_0 p0_1 p0_2 p0_3 p0_4 p0_5 : Int) (a1 : Option Addr) (n1 c1 : Nat) (w : World) (K : (Int × Int × Int × Int × Int × Int × SlV × SlV × Bool × Unit) × Int × Unit → World → Prop) (h : page_Read.P p0_0 p0_1 p0_2 p0_3 p0_4 p0_5 a1 n1 c1 w K) : CallV Try.prog 120 #[.agg #[.int .i64 p0_0, .int .i64 p0_1, .int .i64 p0_2, .int .i64 p0_3, .int .i64 p0_4, .int .i64 p0_5], .slice a1 n1 c1] w [.agg [.int .i64, .int .i64, .int .i64, .int .u32, .int .u64, .int .u64, .sl, .sl, .bool], .one (.int .i64)] K := by
  refine vcFun.of (A := page_Read.A) (wr := false) okf_ok follows h Try.func120 ?_
  kernel_rfl
end Go.Proofs.Ytlpeoaphdmfjdaa.Vc
/-! The contracts of layer 15 (page): pages that are made. -/
namespace Go.Proofs.Ytlpeoaphdmfjdaa.Vc
open Go Go.Eng Go.RowKit
def payL (g : Geo) (pl : List Int) : List Int := if pl.length = 0 then List.replicate g.s.toNat 255 else pl
def mkL (g : Geo) (h : Hd) (pl tg : List Int) : List Int := payL g pl ++ endL h tg
def comL (g : Geo) : List Int := List.replicate (g.s + 80).toNat 255 ++ List.replicate 8 0
def PRight (g : Geo) (h : Hd) (n m : Nat) : Prop := Right g ∧ ERight h m ∧ (n = 0 ∨ (n : Int) = g.s)
instance (g : Geo) (h : Hd) (n m : Nat) : Decidable (PRight g h n m) := by unfold PRight; infer_instance
theorem Make_c {w : World} {g : Geo} {h : Hd} {a a2 : Option Addr} {n c m c2 : Nat} {xs ts : List Int} (hg : h.rng) (hx : Ints w .u8 a n c xs) (ht : Ints w .u8 a2 m c2 ts) :
    CallV Try.prog 52 #[g.val, h.val, .slice a n c, .slice a2 m c2] w [.one .sl, .one (.int .i64)] fun r w' => Ext w w' ∧ (PRight g h n m → Res w w' r.1 (mkL g h xs ts) ∧ r.2.1 = (0 : Int)) ∧ (¬ PRight g h n m → r.1 = (⟨none, 0, 0⟩ : SlV) ∧ r.2.1 = (2 : Int)) := by
  apply page_Make.vc
  unfold page_Make.P
  have S := Sep.start NoB w
  have no : ∀ {w' : World}, ¬ PRight g h n m → Ext w w' → (Ext w w' ∧ (PRight g h n m → Res w w' (⟨none, 0, 0⟩ : SlV) (mkL g h xs ts) ∧ (2 : Int) = (0 : Int)) ∧ (¬ PRight g h n m → (⟨none, 0, 0⟩ : SlV) = (⟨none, 0, 0⟩ : SlV) ∧ (2 : Int) = (2 : Int))) := fun hr he => ⟨he, fun h => absurd h hr, fun _ => ⟨rfl, rfl⟩⟩
  have lx := hx.len
  have lt := ht.len
  (repeat ((first | refine S.newB fun _ _ S f _ => ?_ | refine S.la0 rfl ?_ | refine S.la1 rfl ?_ | refine S.la2 rfl ?_ | refine S.la3 rfl ?_ | refine S.la4 rfl ?_ | refine S.la5 rfl ?_ | refine S.ld0 rfl rfl ?_ | refine S.ld1 rfl rfl ?_ | refine S.ld2 rfl rfl ?_ | refine S.ld3 rfl rfl ?_ | refine S.ld4 rfl rfl ?_ | refine S.ld5 rfl rfl ?_ | refine S.st0 (by rfl) fun _ S f => ?_ | refine S.st1 (by rfl) fun _ S f => ?_ | refine S.st2 (by rfl) fun _ S f => ?_ | refine S.st3 (by rfl) fun _ S f => ?_ | refine S.st4 (by rfl) fun _ S f => ?_ | refine S.st5 (by rfl) fun _ S f => ?_ | refine S.su0 (by rfl) fun _ S f => ?_ | refine S.su1 (by rfl) fun _ S f => ?_ | refine S.su2 (by rfl) fun _ S f => ?_ | refine S.su3 (by rfl) fun _ S f => ?_ | refine S.su4 (by rfl) fun _ S f => ?_ | refine S.su5 (by rfl) fun _ S f => ?_ | refine ⟨by decide, ?_⟩); try dsimp only [List.set_cons_zero, List.set_cons_succ, cond_true, cond_false, Bool.not_true, Bool.not_false]))
  refine (Check_c (g := g)).mono ?_
  rintro ⟨(r : Int), ⟨⟩⟩ w2 ⟨h2, e2⟩
  dsimp only at h2 ⊢
  have S := S.stepE e2
  subst h2
  by_cases hR : Right g
  · refine cond_f (by unfold chkE; rw [if_pos hR]; rfl) ?_
    have hs := hR.sec
    refine cond_eq (fun h0 => ?_) (fun h0 => ?_)
    · (repeat ((first | refine S.newB fun _ _ S f _ => ?_ | refine S.la0 rfl ?_ | refine S.la1 rfl ?_ | refine S.la2 rfl ?_ | refine S.la3 rfl ?_ | refine S.la4 rfl ?_ | refine S.la5 rfl ?_ | refine S.ld0 rfl rfl ?_ | refine S.ld1 rfl rfl ?_ | refine S.ld2 rfl rfl ?_ | refine S.ld3 rfl rfl ?_ | refine S.ld4 rfl rfl ?_ | refine S.ld5 rfl rfl ?_ | refine S.st0 (by rfl) fun _ S f => ?_ | refine S.st1 (by rfl) fun _ S f => ?_ | refine S.st2 (by rfl) fun _ S f => ?_ | refine S.st3 (by rfl) fun _ S f => ?_ | refine S.st4 (by rfl) fun _ S f => ?_ | refine S.st5 (by rfl) fun _ S f => ?_ | refine S.su0 (by rfl) fun _ S f => ?_ | refine S.su1 (by rfl) fun _ S f => ?_ | refine S.su2 (by rfl) fun _ S f => ?_ | refine S.su3 (by rfl) fun _ S f => ?_ | refine S.su4 (by rfl) fun _ S f => ?_ | refine S.su5 (by rfl) fun _ S f => ?_ | refine ⟨by decide, ?_⟩); try dsimp only [List.set_cons_zero, List.set_cons_succ, cond_true, cond_false, Bool.not_true, Bool.not_false]))
      refine Fill_c.mono ?_
      rintro ⟨⟨sa, sn, sc⟩, ⟨⟩⟩ w3 h3
      dsimp only at h3 ⊢
      have l3 := h3.ints.len
      rw [List.length_replicate, fill_sec hs] at l3
      have S := S.res h3
      rw [fill_sec hs] at S
      dsimp only at l3 S
      subst l3
      (repeat ((first | refine S.newB fun _ _ S f _ => ?_ | refine S.la0 rfl ?_ | refine S.la1 rfl ?_ | refine S.la2 rfl ?_ | refine S.la3 rfl ?_ | refine S.la4 rfl ?_ | refine S.la5 rfl ?_ | refine S.ld0 rfl rfl ?_ | refine S.ld1 rfl rfl ?_ | refine S.ld2 rfl rfl ?_ | refine S.ld3 rfl rfl ?_ | refine S.ld4 rfl rfl ?_ | refine S.ld5 rfl rfl ?_ | refine S.st0 (by rfl) fun _ S f => ?_ | refine S.st1 (by rfl) fun _ S f => ?_ | refine S.st2 (by rfl) fun _ S f => ?_ | refine S.st3 (by rfl) fun _ S f => ?_ | refine S.st4 (by rfl) fun _ S f => ?_ | refine S.st5 (by rfl) fun _ S f => ?_ | refine S.su0 (by rfl) fun _ S f => ?_ | refine S.su1 (by rfl) fun _ S f => ?_ | refine S.su2 (by rfl) fun _ S f => ?_ | refine S.su3 (by rfl) fun _ S f => ?_ | refine S.su4 (by rfl) fun _ S f => ?_ | refine S.su5 (by rfl) fun _ S f => ?_ | refine ⟨by decide, ?_⟩); try dsimp only [List.set_cons_zero, List.set_cons_succ, cond_true, cond_false, Bool.not_true, Bool.not_false]))
      refine cond_ne (fun h => absurd (by omega) h) fun _ => ?_
      (repeat ((first | refine S.newB fun _ _ S f _ => ?_ | refine S.la0 rfl ?_ | refine S.la1 rfl ?_ | refine S.la2 rfl ?_ | refine S.la3 rfl ?_ | refine S.la4 rfl ?_ | refine S.la5 rfl ?_ | refine S.ld0 rfl rfl ?_ | refine S.ld1 rfl rfl ?_ | refine S.ld2 rfl rfl ?_ | refine S.ld3 rfl rfl ?_ | refine S.ld4 rfl rfl ?_ | refine S.ld5 rfl rfl ?_ | refine S.st0 (by rfl) fun _ S f => ?_ | refine S.st1 (by rfl) fun _ S f => ?_ | refine S.st2 (by rfl) fun _ S f => ?_ | refine S.st3 (by rfl) fun _ S f => ?_ | refine S.st4 (by rfl) fun _ S f => ?_ | refine S.st5 (by rfl) fun _ S f => ?_ | refine S.su0 (by rfl) fun _ S f => ?_ | refine S.su1 (by rfl) fun _ S f => ?_ | refine S.su2 (by rfl) fun _ S f => ?_ | refine S.su3 (by rfl) fun _ S f => ?_ | refine S.su4 (by rfl) fun _ S f => ?_ | refine S.su5 (by rfl) fun _ S f => ?_ | refine ⟨by decide, ?_⟩); try dsimp only [List.set_cons_zero, List.set_cons_succ, cond_true, cond_false, Bool.not_true, Bool.not_false]))
      refine (End_c hg (ht.ext S.ext)).mono ?_
      rintro ⟨⟨ea, en, ec⟩, (e4 : Int), ⟨⟩⟩ w4 ⟨x4, h4, h4'⟩
      dsimp only at h4 h4' ⊢
      by_cases hE : ERight h m
      · obtain ⟨k1, k2⟩ := h4 hE
        refine cond_f (by rw [k2]; rfl) ?_
        have l4 := k1.ints.len
        have l4' : (endL h ts).length = 88 := endL_length h (by have := hE.2; omega)
        have S := S.res ⟨x4, k1.own⟩
        dsimp only at S l4
        (repeat ((first | refine S.newB fun _ _ S f _ => ?_ | refine S.la0 rfl ?_ | refine S.la1 rfl ?_ | refine S.la2 rfl ?_ | refine S.la3 rfl ?_ | refine S.la4 rfl ?_ | refine S.la5 rfl ?_ | refine S.ld0 rfl rfl ?_ | refine S.ld1 rfl rfl ?_ | refine S.ld2 rfl rfl ?_ | refine S.ld3 rfl rfl ?_ | refine S.ld4 rfl rfl ?_ | refine S.ld5 rfl rfl ?_ | refine S.st0 (by rfl) fun _ S f => ?_ | refine S.st1 (by rfl) fun _ S f => ?_ | refine S.st2 (by rfl) fun _ S f => ?_ | refine S.st3 (by rfl) fun _ S f => ?_ | refine S.st4 (by rfl) fun _ S f => ?_ | refine S.st5 (by rfl) fun _ S f => ?_ | refine S.su0 (by rfl) fun _ S f => ?_ | refine S.su1 (by rfl) fun _ S f => ?_ | refine S.su2 (by rfl) fun _ S f => ?_ | refine S.su3 (by rfl) fun _ S f => ?_ | refine S.su4 (by rfl) fun _ S f => ?_ | refine S.su5 (by rfl) fun _ S f => ?_ | refine ⟨by decide, ?_⟩); try dsimp only [List.set_cons_zero, List.set_cons_succ, cond_true, cond_false, Bool.not_true, Bool.not_false]))
        have S := S.asOwn (sz := 1) (n := 0) rfl (by omega) oneAll.nil
        refine S.ab0 (xs := []) S.in2 (by omega) fun a5 c5 w5 S f5 => ?_
        refine S.ab0 S.in1 (by omega) fun a6 c6 w6 S f6 => ?_
        have R := S.out
        have hp : [] ++ List.replicate g.s.toNat 255 ++ endL h ts = mkL g h xs ts := by unfold mkL payL; rw [if_pos (by omega)]; rfl
        rw [hp] at R
        refine ⟨S.ext, fun _ => ⟨R, rfl⟩, fun hn => absurd ⟨hR, hE, .inl (by omega)⟩ hn⟩
      · obtain ⟨k1, k2⟩ := h4' hE
        rw [k2]
        exact cond_t rfl (no (fun hp => hE hp.2.1) (S.ext.trans x4))
    · (repeat ((first | refine S.newB fun _ _ S f _ => ?_ | refine S.la0 rfl ?_ | refine S.la1 rfl ?_ | refine S.la2 rfl ?_ | refine S.la3 rfl ?_ | refine S.la4 rfl ?_ | refine S.la5 rfl ?_ | refine S.ld0 rfl rfl ?_ | refine S.ld1 rfl rfl ?_ | refine S.ld2 rfl rfl ?_ | refine S.ld3 rfl rfl ?_ | refine S.ld4 rfl rfl ?_ | refine S.ld5 rfl rfl ?_ | refine S.st0 (by rfl) fun _ S f => ?_ | refine S.st1 (by rfl) fun _ S f => ?_ | refine S.st2 (by rfl) fun _ S f => ?_ | refine S.st3 (by rfl) fun _ S f => ?_ | refine S.st4 (by rfl) fun _ S f => ?_ | refine S.st5 (by rfl) fun _ S f => ?_ | refine S.su0 (by rfl) fun _ S f => ?_ | refine S.su1 (by rfl) fun _ S f => ?_ | refine S.su2 (by rfl) fun _ S f => ?_ | refine S.su3 (by rfl) fun _ S f => ?_ | refine S.su4 (by rfl) fun _ S f => ?_ | refine S.su5 (by rfl) fun _ S f => ?_ | refine ⟨by decide, ?_⟩); try dsimp only [List.set_cons_zero, List.set_cons_succ, cond_true, cond_false, Bool.not_true, Bool.not_false]))
      refine cond_ne (fun hne => no (fun hp => by have := hp.2.2; omega) S.ext) fun heq => ?_
      (repeat ((first | refine S.newB fun _ _ S f _ => ?_ | refine S.la0 rfl ?_ | refine S.la1 rfl ?_ | refine S.la2 rfl ?_ | refine S.la3 rfl ?_ | refine S.la4 rfl ?_ | refine S.la5 rfl ?_ | refine S.ld0 rfl rfl ?_ | refine S.ld1 rfl rfl ?_ | refine S.ld2 rfl rfl ?_ | refine S.ld3 rfl rfl ?_ | refine S.ld4 rfl rfl ?_ | refine S.ld5 rfl rfl ?_ | refine S.st0 (by rfl) fun _ S f => ?_ | refine S.st1 (by rfl) fun _ S f => ?_ | refine S.st2 (by rfl) fun _ S f => ?_ | refine S.st3 (by rfl) fun _ S f => ?_ | refine S.st4 (by rfl) fun _ S f => ?_ | refine S.st5 (by rfl) fun _ S f => ?_ | refine S.su0 (by rfl) fun _ S f => ?_ | refine S.su1 (by rfl) fun _ S f => ?_ | refine S.su2 (by rfl) fun _ S f => ?_ | refine S.su3 (by rfl) fun _ S f => ?_ | refine S.su4 (by rfl) fun _ S f => ?_ | refine S.su5 (by rfl) fun _ S f => ?_ | refine ⟨by decide, ?_⟩); try dsimp only [List.set_cons_zero, List.set_cons_succ, cond_true, cond_false, Bool.not_true, Bool.not_false]))
      refine (End_c hg (ht.ext S.ext)).mono ?_
      rintro ⟨⟨ea, en, ec⟩, (e4 : Int), ⟨⟩⟩ w4 ⟨x4, h4, h4'⟩
      dsimp only at h4 h4' ⊢
      by_cases hE : ERight h m
      · obtain ⟨k1, k2⟩ := h4 hE
        refine cond_f (by rw [k2]; rfl) ?_
        have l4 := k1.ints.len
        have l4' : (endL h ts).length = 88 := endL_length h (by have := hE.2; omega)
        have S := S.res ⟨x4, k1.own⟩
        dsimp only at S l4
        (repeat ((first | refine S.newB fun _ _ S f _ => ?_ | refine S.la0 rfl ?_ | refine S.la1 rfl ?_ | refine S.la2 rfl ?_ | refine S.la3 rfl ?_ | refine S.la4 rfl ?_ | refine S.la5 rfl ?_ | refine S.ld0 rfl rfl ?_ | refine S.ld1 rfl rfl ?_ | refine S.ld2 rfl rfl ?_ | refine S.ld3 rfl rfl ?_ | refine S.ld4 rfl rfl ?_ | refine S.ld5 rfl rfl ?_ | refine S.st0 (by rfl) fun _ S f => ?_ | refine S.st1 (by rfl) fun _ S f => ?_ | refine S.st2 (by rfl) fun _ S f => ?_ | refine S.st3 (by rfl) fun _ S f => ?_ | refine S.st4 (by rfl) fun _ S f => ?_ | refine S.st5 (by rfl) fun _ S f => ?_ | refine S.su0 (by rfl) fun _ S f => ?_ | refine S.su1 (by rfl) fun _ S f => ?_ | refine S.su2 (by rfl) fun _ S f => ?_ | refine S.su3 (by rfl) fun _ S f => ?_ | refine S.su4 (by rfl) fun _ S f => ?_ | refine S.su5 (by rfl) fun _ S f => ?_ | refine ⟨by decide, ?_⟩); try dsimp only [List.set_cons_zero, List.set_cons_succ, cond_true, cond_false, Bool.not_true, Bool.not_false]))
        have S := S.asOwn (sz := 1) (n := 0) rfl (by omega) oneAll.nil
        refine S.ab0 (xs := []) (hx.ext S.ext) (by omega) fun a5 c5 w5 S f5 => ?_
        refine S.ab0 S.in1 (by omega) fun a6 c6 w6 S f6 => ?_
        have R := S.out
        have hp : [] ++ xs ++ endL h ts = mkL g h xs ts := by unfold mkL payL; rw [if_neg (by omega)]; rfl
        rw [hp] at R
        refine ⟨S.ext, fun _ => ⟨R, rfl⟩, fun hn => absurd ⟨hR, hE, .inr (by omega)⟩ hn⟩
      · obtain ⟨k1, k2⟩ := h4' hE
        rw [k2]
        exact cond_t rfl (no (fun hp => hE hp.2.1) (S.ext.trans x4))
  · refine cond_t (by unfold chkE; rw [if_neg hR]; rfl) ?_
    exact no (fun hp => hR hp.1) S.ext
end Go.Proofs.Ytlpeoaphdmfjdaa.Vc
/-! The contracts of layer 15 (page): what commits a page, and what a page tells. -/
namespace Go.Proofs.Ytlpeoaphdmfjdaa.Vc
open Go Go.Eng Go.RowKit
theorem PCommit_c {w : World} {g : Geo} : CallV Try.prog 55 #[g.val] w [.one .sl, .one (.int .i64)] fun r w' => Ext w w' ∧ (Right g → Res w w' r.1 (comL g) ∧ r.2.1 = (0 : Int)) ∧ (¬ Right g → r.1 = (⟨none, 0, 0⟩ : SlV) ∧ r.2.1 = (2 : Int)) := by
  apply page_Commit.vc
  unfold page_Commit.P
  have S := Sep.start NoB w
  (repeat ((first | refine S.newB fun _ _ S f _ => ?_ | refine S.la0 rfl ?_ | refine S.la1 rfl ?_ | refine S.la2 rfl ?_ | refine S.la3 rfl ?_ | refine S.la4 rfl ?_ | refine S.la5 rfl ?_ | refine S.ld0 rfl rfl ?_ | refine S.ld1 rfl rfl ?_ | refine S.ld2 rfl rfl ?_ | refine S.ld3 rfl rfl ?_ | refine S.ld4 rfl rfl ?_ | refine S.ld5 rfl rfl ?_ | refine S.st0 (by rfl) fun _ S f => ?_ | refine S.st1 (by rfl) fun _ S f => ?_ | refine S.st2 (by rfl) fun _ S f => ?_ | refine S.st3 (by rfl) fun _ S f => ?_ | refine S.st4 (by rfl) fun _ S f => ?_ | refine S.st5 (by rfl) fun _ S f => ?_ | refine S.su0 (by rfl) fun _ S f => ?_ | refine S.su1 (by rfl) fun _ S f => ?_ | refine S.su2 (by rfl) fun _ S f => ?_ | refine S.su3 (by rfl) fun _ S f => ?_ | refine S.su4 (by rfl) fun _ S f => ?_ | refine S.su5 (by rfl) fun _ S f => ?_ | refine ⟨by decide, ?_⟩); try dsimp only [List.set_cons_zero, List.set_cons_succ, cond_true, cond_false, Bool.not_true, Bool.not_false]))
  refine (Check_c (g := g)).mono ?_
  rintro ⟨(r : Int), ⟨⟩⟩ w2 ⟨h2, e2⟩
  dsimp only at h2 ⊢
  have S := S.stepE e2
  subst h2
  by_cases hR : Right g
  · refine cond_f (by unfold chkE; rw [if_pos hR]; rfl) ?_
    have hs := hR.sec
    (repeat ((first | refine S.newB fun _ _ S f _ => ?_ | refine S.la0 rfl ?_ | refine S.la1 rfl ?_ | refine S.la2 rfl ?_ | refine S.la3 rfl ?_ | refine S.la4 rfl ?_ | refine S.la5 rfl ?_ | refine S.ld0 rfl rfl ?_ | refine S.ld1 rfl rfl ?_ | refine S.ld2 rfl rfl ?_ | refine S.ld3 rfl rfl ?_ | refine S.ld4 rfl rfl ?_ | refine S.ld5 rfl rfl ?_ | refine S.st0 (by rfl) fun _ S f => ?_ | refine S.st1 (by rfl) fun _ S f => ?_ | refine S.st2 (by rfl) fun _ S f => ?_ | refine S.st3 (by rfl) fun _ S f => ?_ | refine S.st4 (by rfl) fun _ S f => ?_ | refine S.st5 (by rfl) fun _ S f => ?_ | refine S.su0 (by rfl) fun _ S f => ?_ | refine S.su1 (by rfl) fun _ S f => ?_ | refine S.su2 (by rfl) fun _ S f => ?_ | refine S.su3 (by rfl) fun _ S f => ?_ | refine S.su4 (by rfl) fun _ S f => ?_ | refine S.su5 (by rfl) fun _ S f => ?_ | refine ⟨by decide, ?_⟩); try dsimp only [List.set_cons_zero, List.set_cons_succ, cond_true, cond_false, Bool.not_true, Bool.not_false]))
    refine (PageSize_c (g := g)).mono ?_
    rintro ⟨(r3 : Int), ⟨⟩⟩ w3 ⟨h3, e3⟩
    dsimp only at h3 ⊢
    have S := S.stepE e3
    rw [if_pos hR] at h3
    subst h3
    refine (MarkLen_c (by omega)).mono ?_
    rintro ⟨(r4 : SlV), ⟨⟩⟩ w4 h4
    have E := S.ext.trans h4.ext
    rw [show g.s + 88 - 8 = g.s + 80 by omega] at h4
    exact ⟨E, fun _ => ⟨h4.after S.ext, rfl⟩, fun hn => absurd hR hn⟩
  · exact cond_t (by unfold chkE; rw [if_neg hR]; rfl) ⟨S.ext, fun h => absurd h hR, fun _ => ⟨rfl, rfl⟩⟩
end Go.Proofs.Ytlpeoaphdmfjdaa.Vc
/-! The contracts of layer 15 (page): what bytes tell. -/
namespace Go.Proofs.Ytlpeoaphdmfjdaa.Vc
open Go Go.Eng Go.RowKit
abbrev PgT : Type := Int × Int × Int × Int × Int × Int × SlV × SlV × Bool × Unit
abbrev zPg : PgT := ((0 : Int), (0 : Int), (0 : Int), (0 : Int), (0 : Int), (0 : Int), (⟨none, 0, 0⟩ : SlV), (⟨none, 0, 0⟩ : SlV), false, ())
abbrev pgT (h : Hd) (s t : SlV) (d : Bool) : PgT := (h.k, h.n, h.c, h.l, h.e, h.t, s, t, d, ())
def endP (g : Geo) (xs : List Int) : List Int := xs.drop g.s.toNat
def lenP (g : Geo) (xs : List Int) : Prop := Right g ∧ (xs.length : Int) = g.s + 88
instance (g : Geo) (xs : List Int) : Decidable (lenP g xs) := by unfold lenP; infer_instance
abbrev pays (g : Geo) (xs : List Int) : List Int := xs.take g.s.toNat
abbrev tags (g : Geo) (xs : List Int) : List Int := part (endP g xs) 48 80
def PgIs (w w' : World) (g : Geo) (xs : List Int) (q : PgT) : Prop := ∃ s t : SlV, q = pgT (hdOf (endP g xs)) s t (comm (endP g xs)) ∧ s.n = g.s.toNat ∧ t.n = 32 ∧ Sep NoB w w' [OwnA 5 1 s.a s.n s.c ((pays g xs).map (Value.int .u8)), OwnA 5 1 t.a t.n t.c ((tags g xs).map (Value.int .u8))]
theorem cut_c {w0 w : World} {g : Geo} {a : Option Addr} {n c : Nat} {xs : List Int} (hx : Ints w0 .u8 a n c xs) (hl : lenP g xs) :
    CallV Try.prog 127 #[g.val, .slice a n c] w [.agg [.sl, .sl]] fun r w' => Ext w w' ∧ Ints w0 .u8 r.1.1.a r.1.1.n r.1.1.c (pays g xs) ∧ Ints w0 .u8 r.1.2.1.a r.1.2.1.n r.1.2.1.c (endP g xs) := by
  apply page_cut.vc
  unfold page_cut.P
  have hs := hl.1.sec
  have hn := hl.2
  have lx := hx.len
  have hc := hx.cap
  have S := Sep.start NoB w
  refine S.newB fun b1 w1 S f _ => ?_
  refine S.newB fun b3 w2 S f _ => ?_
  have hb := S.ne 0 1 (by omega) rfl rfl
  refine S.regX (fun k => k = b3) fun D hD hkeep S _ => ?_
  have D1 := hD b1 S.bl1 (fun e => hb e.symm)
  refine ⟨D1, S.ld1 rfl rfl ⟨⟨by omega, by omega⟩, ?_⟩⟩
  intro a7 ha7
  refine ⟨D1, S.ld1 rfl rfl ⟨⟨by omega, by omega⟩, ?_⟩⟩
  intro a9 ha9
  dsimp only
  refine S.st0 (by rfl) fun w3 S f3 => ⟨hkeep _ f3, S.la0 rfl ?_⟩
  have i7 := hx.sub (l := 0) (hh := g.s.toNat) (m := c) (by omega) (by omega) (by omega) ha7
  have i9 := hx.sub (l := g.s.toNat) (hh := n) (m := c) (by omega) (by omega) (by omega) ha9
  rw [List.drop_zero, Nat.sub_zero] at i7
  rw [List.take_of_length_le (by rw [List.length_drop]; omega)] at i9
  exact ⟨S.ext, i7, i9⟩
theorem PRead_c {w : World} {g : Geo} {a : Option Addr} {n c : Nat} {xs : List Int} (hx : Ints w .u8 a n c xs) (bx : Byt xs) :
    CallV Try.prog 120 #[g.val, .slice a n c] w [.agg [.int .i64, .int .i64, .int .i64, .int .u32, .int .u64, .int .u64, .sl, .sl, .bool], .one (.int .i64)] fun r w' =>
      Ext w w' ∧ (¬ lenP g xs → r.1 = zPg ∧ r.2.1 = (2 : Int)) ∧ (lenP g xs → ¬ okR (endP g xs) → r.1 = zPg ∧ r.2.1 = (1 : Int)) ∧ (lenP g xs → okR (endP g xs) → r.2.1 = (0 : Int) ∧ PgIs w w' g xs r.1) := by
  apply page_Read.vc
  unfold page_Read.P
  have lx := hx.len
  have S := Sep.start NoB w
  refine S.newB fun b1 w1 S f _ => ?_
  refine S.newB fun b3 w2 S f _ => ?_
  (repeat ((first | refine S.newB fun _ _ S f _ => ?_ | refine S.la0 rfl ?_ | refine S.la1 rfl ?_ | refine S.la2 rfl ?_ | refine S.la3 rfl ?_ | refine S.la4 rfl ?_ | refine S.la5 rfl ?_ | refine S.ld0 rfl rfl ?_ | refine S.ld1 rfl rfl ?_ | refine S.ld2 rfl rfl ?_ | refine S.ld3 rfl rfl ?_ | refine S.ld4 rfl rfl ?_ | refine S.ld5 rfl rfl ?_ | refine S.st0 (by rfl) fun _ S f => ?_ | refine S.st1 (by rfl) fun _ S f => ?_ | refine S.st2 (by rfl) fun _ S f => ?_ | refine S.st3 (by rfl) fun _ S f => ?_ | refine S.st4 (by rfl) fun _ S f => ?_ | refine S.st5 (by rfl) fun _ S f => ?_ | refine S.su0 (by rfl) fun _ S f => ?_ | refine S.su1 (by rfl) fun _ S f => ?_ | refine S.su2 (by rfl) fun _ S f => ?_ | refine S.su3 (by rfl) fun _ S f => ?_ | refine S.su4 (by rfl) fun _ S f => ?_ | refine S.su5 (by rfl) fun _ S f => ?_ | refine ⟨by decide, ?_⟩); try dsimp only [List.set_cons_zero, List.set_cons_succ, cond_true, cond_false, Bool.not_true, Bool.not_false]))
  refine (Check_c (g := g)).mono ?_
  rintro ⟨(r : Int), ⟨⟩⟩ w2 ⟨h2, e2⟩
  dsimp only at h2 ⊢
  have S := S.stepE e2
  subst h2
  by_cases hR : Right g
  case neg =>
    refine cond_t (by unfold chkE; rw [if_neg hR]; rfl) ?_
    (repeat ((first | refine S.newB fun _ _ S f _ => ?_ | refine S.la0 rfl ?_ | refine S.la1 rfl ?_ | refine S.la2 rfl ?_ | refine S.la3 rfl ?_ | refine S.la4 rfl ?_ | refine S.la5 rfl ?_ | refine S.ld0 rfl rfl ?_ | refine S.ld1 rfl rfl ?_ | refine S.ld2 rfl rfl ?_ | refine S.ld3 rfl rfl ?_ | refine S.ld4 rfl rfl ?_ | refine S.ld5 rfl rfl ?_ | refine S.st0 (by rfl) fun _ S f => ?_ | refine S.st1 (by rfl) fun _ S f => ?_ | refine S.st2 (by rfl) fun _ S f => ?_ | refine S.st3 (by rfl) fun _ S f => ?_ | refine S.st4 (by rfl) fun _ S f => ?_ | refine S.st5 (by rfl) fun _ S f => ?_ | refine S.su0 (by rfl) fun _ S f => ?_ | refine S.su1 (by rfl) fun _ S f => ?_ | refine S.su2 (by rfl) fun _ S f => ?_ | refine S.su3 (by rfl) fun _ S f => ?_ | refine S.su4 (by rfl) fun _ S f => ?_ | refine S.su5 (by rfl) fun _ S f => ?_ | refine ⟨by decide, ?_⟩); try dsimp only [List.set_cons_zero, List.set_cons_succ, cond_true, cond_false, Bool.not_true, Bool.not_false]))
    exact ⟨S.ext, fun _ => ⟨rfl, rfl⟩, fun h => absurd h.1 hR, fun h => absurd h.1 hR⟩
  refine cond_f (by unfold chkE; rw [if_pos hR]; rfl) ?_
  have hs := hR.sec
  (repeat ((first | refine S.newB fun _ _ S f _ => ?_ | refine S.la0 rfl ?_ | refine S.la1 rfl ?_ | refine S.la2 rfl ?_ | refine S.la3 rfl ?_ | refine S.la4 rfl ?_ | refine S.la5 rfl ?_ | refine S.ld0 rfl rfl ?_ | refine S.ld1 rfl rfl ?_ | refine S.ld2 rfl rfl ?_ | refine S.ld3 rfl rfl ?_ | refine S.ld4 rfl rfl ?_ | refine S.ld5 rfl rfl ?_ | refine S.st0 (by rfl) fun _ S f => ?_ | refine S.st1 (by rfl) fun _ S f => ?_ | refine S.st2 (by rfl) fun _ S f => ?_ | refine S.st3 (by rfl) fun _ S f => ?_ | refine S.st4 (by rfl) fun _ S f => ?_ | refine S.st5 (by rfl) fun _ S f => ?_ | refine S.su0 (by rfl) fun _ S f => ?_ | refine S.su1 (by rfl) fun _ S f => ?_ | refine S.su2 (by rfl) fun _ S f => ?_ | refine S.su3 (by rfl) fun _ S f => ?_ | refine S.su4 (by rfl) fun _ S f => ?_ | refine S.su5 (by rfl) fun _ S f => ?_ | refine ⟨by decide, ?_⟩); try dsimp only [List.set_cons_zero, List.set_cons_succ, cond_true, cond_false, Bool.not_true, Bool.not_false]))
  refine (PageSize_c (g := g)).mono ?_
  rintro ⟨(r3 : Int), ⟨⟩⟩ w3 ⟨h3, e3⟩
  dsimp only at h3 ⊢
  have S := S.stepE e3
  rw [if_pos hR] at h3
  subst h3
  refine cond_ne (fun hne => ?_) (fun heq => ?_)
  · have hn : ¬ lenP g xs := fun h => hne (by have := h.2; omega)
    (repeat ((first | refine S.newB fun _ _ S f _ => ?_ | refine S.la0 rfl ?_ | refine S.la1 rfl ?_ | refine S.la2 rfl ?_ | refine S.la3 rfl ?_ | refine S.la4 rfl ?_ | refine S.la5 rfl ?_ | refine S.ld0 rfl rfl ?_ | refine S.ld1 rfl rfl ?_ | refine S.ld2 rfl rfl ?_ | refine S.ld3 rfl rfl ?_ | refine S.ld4 rfl rfl ?_ | refine S.ld5 rfl rfl ?_ | refine S.st0 (by rfl) fun _ S f => ?_ | refine S.st1 (by rfl) fun _ S f => ?_ | refine S.st2 (by rfl) fun _ S f => ?_ | refine S.st3 (by rfl) fun _ S f => ?_ | refine S.st4 (by rfl) fun _ S f => ?_ | refine S.st5 (by rfl) fun _ S f => ?_ | refine S.su0 (by rfl) fun _ S f => ?_ | refine S.su1 (by rfl) fun _ S f => ?_ | refine S.su2 (by rfl) fun _ S f => ?_ | refine S.su3 (by rfl) fun _ S f => ?_ | refine S.su4 (by rfl) fun _ S f => ?_ | refine S.su5 (by rfl) fun _ S f => ?_ | refine ⟨by decide, ?_⟩); try dsimp only [List.set_cons_zero, List.set_cons_succ, cond_true, cond_false, Bool.not_true, Bool.not_false]))
    exact ⟨S.ext, fun _ => ⟨rfl, rfl⟩, fun h => absurd h hn, fun h => absurd h hn⟩
  have hL : lenP g xs := ⟨hR, by omega⟩
  (repeat ((first | refine S.newB fun _ _ S f _ => ?_ | refine S.la0 rfl ?_ | refine S.la1 rfl ?_ | refine S.la2 rfl ?_ | refine S.la3 rfl ?_ | refine S.la4 rfl ?_ | refine S.la5 rfl ?_ | refine S.ld0 rfl rfl ?_ | refine S.ld1 rfl rfl ?_ | refine S.ld2 rfl rfl ?_ | refine S.ld3 rfl rfl ?_ | refine S.ld4 rfl rfl ?_ | refine S.ld5 rfl rfl ?_ | refine S.st0 (by rfl) fun _ S f => ?_ | refine S.st1 (by rfl) fun _ S f => ?_ | refine S.st2 (by rfl) fun _ S f => ?_ | refine S.st3 (by rfl) fun _ S f => ?_ | refine S.st4 (by rfl) fun _ S f => ?_ | refine S.st5 (by rfl) fun _ S f => ?_ | refine S.su0 (by rfl) fun _ S f => ?_ | refine S.su1 (by rfl) fun _ S f => ?_ | refine S.su2 (by rfl) fun _ S f => ?_ | refine S.su3 (by rfl) fun _ S f => ?_ | refine S.su4 (by rfl) fun _ S f => ?_ | refine S.su5 (by rfl) fun _ S f => ?_ | refine ⟨by decide, ?_⟩); try dsimp only [List.set_cons_zero, List.set_cons_succ, cond_true, cond_false, Bool.not_true, Bool.not_false]))
  refine (cut_c hx hL).mono ?_
  rintro ⟨⟨⟨pa, pn, pc⟩, ⟨ta, tn, tc⟩, ⟨⟩⟩, ⟨⟩⟩ w4 ⟨e4, ip, it⟩
  dsimp only at ip it ⊢
  have S := S.stepE e4
  have e4w := S.ext
  refine S.newB fun b5 w5 S f _ => ?_
  (repeat ((first | refine S.newB fun _ _ S f _ => ?_ | refine S.la0 rfl ?_ | refine S.la1 rfl ?_ | refine S.la2 rfl ?_ | refine S.la3 rfl ?_ | refine S.la4 rfl ?_ | refine S.la5 rfl ?_ | refine S.ld0 rfl rfl ?_ | refine S.ld1 rfl rfl ?_ | refine S.ld2 rfl rfl ?_ | refine S.ld3 rfl rfl ?_ | refine S.ld4 rfl rfl ?_ | refine S.ld5 rfl rfl ?_ | refine S.st0 (by rfl) fun _ S f => ?_ | refine S.st1 (by rfl) fun _ S f => ?_ | refine S.st2 (by rfl) fun _ S f => ?_ | refine S.st3 (by rfl) fun _ S f => ?_ | refine S.st4 (by rfl) fun _ S f => ?_ | refine S.st5 (by rfl) fun _ S f => ?_ | refine S.su0 (by rfl) fun _ S f => ?_ | refine S.su1 (by rfl) fun _ S f => ?_ | refine S.su2 (by rfl) fun _ S f => ?_ | refine S.su3 (by rfl) fun _ S f => ?_ | refine S.su4 (by rfl) fun _ S f => ?_ | refine S.su5 (by rfl) fun _ S f => ?_ | refine ⟨by decide, ?_⟩); try dsimp only [List.set_cons_zero, List.set_cons_succ, cond_true, cond_false, Bool.not_true, Bool.not_false]))
  have bt : Byt (endP g xs) := bx.drop _
  have le : (endP g xs).length = 88 := by unfold endP; rw [List.length_drop]; omega
  refine (Read_c (it.ext S.ext) bt).mono ?_
  rintro ⟨⟨(k1 : Int), (k2 : Int), (k3 : Int), (k4 : Int), (k5 : Int), (k6 : Int), ⟨⟩⟩, ⟨sa, sn, sc⟩, (e6 : Int), ⟨⟩⟩ w6 ⟨x6, -, hok, hno⟩
  dsimp only at hok hno ⊢
  by_cases hO : okR (endP g xs)
  case neg =>
    obtain ⟨h1, -, h3⟩ := hno le hO
    have S := S.stepE x6
    subst h3
    (repeat ((first | refine S.newB fun _ _ S f _ => ?_ | refine S.la0 rfl ?_ | refine S.la1 rfl ?_ | refine S.la2 rfl ?_ | refine S.la3 rfl ?_ | refine S.la4 rfl ?_ | refine S.la5 rfl ?_ | refine S.ld0 rfl rfl ?_ | refine S.ld1 rfl rfl ?_ | refine S.ld2 rfl rfl ?_ | refine S.ld3 rfl rfl ?_ | refine S.ld4 rfl rfl ?_ | refine S.ld5 rfl rfl ?_ | refine S.st0 (by rfl) fun _ S f => ?_ | refine S.st1 (by rfl) fun _ S f => ?_ | refine S.st2 (by rfl) fun _ S f => ?_ | refine S.st3 (by rfl) fun _ S f => ?_ | refine S.st4 (by rfl) fun _ S f => ?_ | refine S.st5 (by rfl) fun _ S f => ?_ | refine S.su0 (by rfl) fun _ S f => ?_ | refine S.su1 (by rfl) fun _ S f => ?_ | refine S.su2 (by rfl) fun _ S f => ?_ | refine S.su3 (by rfl) fun _ S f => ?_ | refine S.su4 (by rfl) fun _ S f => ?_ | refine S.su5 (by rfl) fun _ S f => ?_ | refine ⟨by decide, ?_⟩); try dsimp only [List.set_cons_zero, List.set_cons_succ, cond_true, cond_false, Bool.not_true, Bool.not_false]))
    exact ⟨S.ext, fun h => absurd hL h, fun _ _ => ⟨rfl, rfl⟩, fun _ h => absurd h hO⟩
  obtain ⟨h1, h2, h3⟩ := hok le hO
  subst h3
  have h1 : (k1, k2, k3, k4, k5, k6, ()) = (hdOf (endP g xs)).tup := h1
  simp only [Prod.mk.injEq, and_true] at h1
  obtain ⟨rfl, rfl, rfl, rfl, rfl, rfl⟩ := h1
  have l2 := h2.ints.len
  rw [part_length (by omega) (by omega)] at l2
  have S := S.res h2
  dsimp only at S l2
  subst l2
  (repeat ((first | refine S.newB fun _ _ S f _ => ?_ | refine S.la0 rfl ?_ | refine S.la1 rfl ?_ | refine S.la2 rfl ?_ | refine S.la3 rfl ?_ | refine S.la4 rfl ?_ | refine S.la5 rfl ?_ | refine S.ld0 rfl rfl ?_ | refine S.ld1 rfl rfl ?_ | refine S.ld2 rfl rfl ?_ | refine S.ld3 rfl rfl ?_ | refine S.ld4 rfl rfl ?_ | refine S.ld5 rfl rfl ?_ | refine S.st0 (by rfl) fun _ S f => ?_ | refine S.st1 (by rfl) fun _ S f => ?_ | refine S.st2 (by rfl) fun _ S f => ?_ | refine S.st3 (by rfl) fun _ S f => ?_ | refine S.st4 (by rfl) fun _ S f => ?_ | refine S.st5 (by rfl) fun _ S f => ?_ | refine S.su0 (by rfl) fun _ S f => ?_ | refine S.su1 (by rfl) fun _ S f => ?_ | refine S.su2 (by rfl) fun _ S f => ?_ | refine S.su3 (by rfl) fun _ S f => ?_ | refine S.su4 (by rfl) fun _ S f => ?_ | refine S.su5 (by rfl) fun _ S f => ?_ | refine ⟨by decide, ?_⟩); try dsimp only [List.set_cons_zero, List.set_cons_succ, cond_true, cond_false, Bool.not_true, Bool.not_false]))
  have hne1 := S.ne 0 3 (by omega) rfl rfl
  have hne2 := S.ne 2 3 (by omega) rfl rfl
  refine S.regX (fun k => k = b3) fun D hD hkeep Sd T => ?_
  refine ⟨hD _ Sd.bl0 hne1, Sd.la0 rfl ⟨by decide, hD _ Sd.bl2 hne2, Sd.ld2 rfl rfl ⟨by decide, hD _ Sd.bl2 hne2, Sd.ld2 rfl rfl ?_⟩⟩⟩
  dsimp only
  refine T.newB fun b7 w7 T f _ => ⟨hkeep _ T.fr.any, ?_⟩
  have T := T.asOwn (sz := 1) (n := 0) rfl (by omega) oneAll.nil
  have lp := ip.len
  have lp' : (pays g xs).length = g.s.toNat := by rw [List.length_take]; have := hL.2; omega
  refine T.ab0 (xs := []) (ip.ext (Sd.ext.trans T.ext)) (by omega) fun a8 c8 w8 T f8 => ⟨hkeep _ T.fr.any, ?_⟩
  refine (Committed_c (it.ext (Sd.ext.trans T.ext)) bt).mono ?_
  rintro ⟨(r9 : Bool), ⟨⟩⟩ w9 ⟨h9, x9⟩
  dsimp only at h9 ⊢
  subst h9
  have T := T.stepE x9
  refine ⟨hkeep _ T.fr.any, ?_⟩
  have S := Sd.frame0 T
  dsimp only [List.cons_append, List.nil_append] at S
  refine S.st4 (by rfl) fun w10 S f10 => ⟨hkeep _ (T.fr.any.trans f10), S.la4 rfl ?_⟩
  refine ⟨S.ext, fun h => absurd hL h, fun _ h => absurd hO h, fun _ _ => ⟨rfl, ⟨a8, 0 + pn, c8⟩, ⟨sa, 80 - 48, sc⟩, rfl, by show 0 + pn = _; omega, rfl, ?_⟩⟩
  exact S.sel2 0 1 rfl rfl
end Go.Proofs.Ytlpeoaphdmfjdaa.Vc
/-! The contracts of layer 15 (page): the document's, and small ones. -/
namespace Go.Proofs.Ytlpeoaphdmfjdaa.Vc
open Go Go.Eng Go.RowKit
theorem mkL_byt {g : Geo} {h : Hd} {xs ts : List Int} (hg : h.rng) (hR : HRight h) (bx : Byt xs) (bt : Byt ts) : Byt (mkL g h xs ts) := by
  unfold mkL payL
  refine Byt.append ?_ (endL_byt hg hR bt)
  split
  · exact Byt.replicate (by omega) (by omega) _
  · exact bx
end Go.Proofs.Ytlpeoaphdmfjdaa.Vc
/-! The laws PageMakes and PageBlank of layer 15: each call gives true, and what it read stays. -/
namespace Go.Proofs.Ytlpeoaphdmfjdaa.Vc
open Go Go.Eng Go.RowKit
theorem blank_ok {n : Nat} (h : 0 < n) : ¬ okR (List.replicate n 255) := fun hh => by
  have := hh.1.2
  rw [getD_get (by simpa using h), List.getElem_replicate] at this
  omega
theorem endP_rep {g : Geo} {n : Nat} (x : Int) : endP g (List.replicate n x) = List.replicate (n - g.s.toNat) x := by unfold endP; rw [List.drop_replicate]
end Go.Proofs.Ytlpeoaphdmfjdaa.Vc
/-! The law PageReads of layer 15: each call gives true, and what it read stays. -/
namespace Go.Proofs.Ytlpeoaphdmfjdaa.Vc
open Go Go.Eng Go.RowKit
structure PgS where
  h : Hd
  d : Bool
  x : List Int
  t : List Int
abbrev zS : PgS := ⟨zeroH, false, [], []⟩
abbrev fS (g : Geo) (xs : List Int) : PgS := ⟨hdOf (endP g xs), comm (endP g xs), pays g xs, tags g xs⟩
def pSpec (g : Geo) (xs : List Int) : PgS := if lenP g xs ∧ okR (endP g xs) then fS g xs else zS
def rdE (g : Geo) (xs : List Int) : Int := if lenP g xs then (if okR (endP g xs) then 0 else 1) else 2
end Go.Proofs.Ytlpeoaphdmfjdaa.Vc
/-! The law HeadMarks of layer 14: each call gives true, and what it read stays. -/
namespace Go.Proofs.Ytlpeoaphdmfjdaa.Vc
open Go Go.Eng Go.RowKit
def core (h : Hd) (tg : List Int) : List Int := (hdL h ++ invL (hdL h)) ++ tagL tg
def markL (h : Hd) (tg : List Int) : List Int := core h tg ++ List.replicate 8 0
theorem core_length (h : Hd) {tg : List Int} (hl : tg.length = 0 ∨ tg.length = 32) : (core h tg).length = 80 := by
  unfold core
  rw [List.length_append, List.length_append, invL_length, hdL_length, tagL_length hl]
theorem core_byt {h : Hd} (hR : HRight h) {tg : List Int} (bt : Byt tg) : Byt (core h tg) := by
  unfold core
  refine ((hdL_byt hR).append (invL_byt _)).append ?_
  unfold tagL
  split
  · exact Byt.replicate (by omega) (by omega) _
  · exact bt
theorem markL_length (h : Hd) {tg : List Int} (hl : tg.length = 0 ∨ tg.length = 32) : (markL h tg).length = 88 := by
  unfold markL
  rw [List.length_append, core_length h hl, List.length_replicate]
theorem markL_hd (h : Hd) (hg : h.rng) (tg : List Int) : hdOf (markL h tg) = h := by
  unfold markL core
  rw [List.append_assoc, List.append_assoc]
  exact part_hdL h hg _
theorem markL_ok (h : Hd) {tg : List Int} (hR : HRight h) : okR (markL h tg) := by
  refine ⟨hR.1, rfl, ?_⟩
  have p1 : part (markL h tg) 0 24 = hdL h := by
    unfold part markL core
    rw [List.drop_zero, List.append_assoc, List.append_assoc, List.take_left' (by rw [hdL_length])]
  have p2 : part (markL h tg) 24 48 = invL (hdL h) := by
    unfold part markL core
    rw [List.append_assoc, List.append_assoc, List.drop_left' (by rw [hdL_length]), List.take_left' (by rw [invL_length, hdL_length])]
  rw [p1, p2]
theorem markL_comm (h : Hd) {tg : List Int} (hl : tg.length = 0 ∨ tg.length = 32) : comm (markL h tg) = true := by
  refine decide_eq_true ⟨markL_length h hl, ?_⟩
  unfold markL
  rw [List.drop_left' (by rw [core_length h hl])]
theorem and255 : ∀ x : Fin 256, Go.bits .and .u8 ((x.val : Nat) : Int) 255 = ((x.val : Nat) : Int) := by decide +kernel
theorem getD_left {xs ys : List Int} {i : Nat} (h : i < xs.length) : (xs ++ ys).getD i 0 = xs.getD i 0 := by
  rw [List.getD_eq_getElem?_getD, List.getElem?_append_left h, ← List.getD_eq_getElem?_getD]
theorem getD_right {xs ys : List Int} {i : Nat} (h : xs.length ≤ i) : (xs ++ ys).getD i 0 = ys.getD (i - xs.length) 0 := by
  rw [List.getD_eq_getElem?_getD, List.getElem?_append_right h, ← List.getD_eq_getElem?_getD]
theorem and_mark {h : Hd} (hR : HRight h) {tg : List Int} (bt : Byt tg) (hl : tg.length = 0 ∨ tg.length = 32) : andL (endL h tg) (List.replicate 80 255 ++ List.replicate 8 0) = markL h tg := by
  refine List.ext_getElem (by rw [andL_length, endL_length h hl, markL_length h hl]) fun i h1 h2 => ?_
  have hc := core_length h hl
  rw [← getD_get h2]
  rw [markL_length h hl] at h2
  rw [show (andL (endL h tg) (List.replicate 80 255 ++ List.replicate 8 0))[i] = Go.bits .and .u8 ((endL h tg).getD i 0) ((List.replicate 80 255 ++ List.replicate 8 0 : List Int).getD i 0) by simp [andL]]
  unfold endL markL
  rw [show ((hdL h ++ invL (hdL h)) ++ tagL tg) = core h tg from rfl]
  by_cases hi : i < 80
  · rw [getD_left (xs := core h tg) (by omega), getD_left (xs := List.replicate 80 255) (by simpa using hi), getD_left (xs := core h tg) (by omega), getD_get (xs := List.replicate 80 255) (by simpa using hi), List.getElem_replicate, getD_get (xs := core h tg) (by omega)]
    obtain ⟨x, hx⟩ := byte_nat ((core_byt hR bt) _ (List.getElem_mem (by omega : i < (core h tg).length)))
    rw [hx]
    exact and255 x
  · rw [getD_right (xs := core h tg) (by omega), getD_right (xs := List.replicate 80 255) (by simp; omega), getD_right (xs := core h tg) (by omega), hc, List.length_replicate,
      getD_get (xs := List.replicate 8 (255 : Int)) (by simp; omega), List.getElem_replicate, getD_get (xs := List.replicate 8 (0 : Int)) (by simp; omega), List.getElem_replicate]
    decide +kernel
end Go.Proofs.Ytlpeoaphdmfjdaa.Vc
/-! The law PageBack of layer 15: each call gives true, and what it read stays. -/
namespace Go.Proofs.Ytlpeoaphdmfjdaa.Vc
open Go Go.Eng Go.RowKit
abbrev pgC (h : Hd) (s t : SlV) (d : Bool) : List Value := [.int .i64 h.k, .int .i64 h.n, .int .i64 h.c, .int .u32 h.l, .int .u64 h.e, .int .u64 h.t, .slice s.a s.n s.c, .slice t.a t.n t.c, .bool d]
theorem payL_length {g : Geo} {xs : List Int} (hs : 32 ≤ g.s ∧ g.s ≤ 4096) (h : xs.length = 0 ∨ (xs.length : Int) = g.s) : (payL g xs).length = g.s.toNat := by
  unfold payL
  split
  · rw [List.length_replicate]
  · omega
theorem end_mk {g : Geo} {h : Hd} {xs ts : List Int} (hs : 32 ≤ g.s ∧ g.s ≤ 4096) (hx : xs.length = 0 ∨ (xs.length : Int) = g.s) : endP g (mkL g h xs ts) = endL h ts := by
  unfold endP mkL
  rw [List.drop_append_of_le_length (by rw [payL_length hs hx]; omega), List.drop_eq_nil_of_le (by rw [payL_length hs hx]; omega), List.nil_append]
theorem pays_mk {g : Geo} {h : Hd} {xs ts : List Int} (hs : 32 ≤ g.s ∧ g.s ≤ 4096) (hx : xs.length = 0 ∨ (xs.length : Int) = g.s) : pays g (mkL g h xs ts) = payL g xs := by
  unfold pays mkL
  rw [List.take_append_of_le_length (by rw [payL_length hs hx]; omega), List.take_of_length_le (by rw [payL_length hs hx]; omega)]
theorem and_full {x : Int} (h : 0 ≤ x ∧ x < 256) : Go.bits .and .u8 x 255 = x := by
  obtain ⟨y, rfl⟩ := byte_nat h
  exact and255 y
theorem andL_append {xs ys zs us : List Int} (h : xs.length = zs.length) : andL (xs ++ ys) (zs ++ us) = andL xs zs ++ andL ys us := by
  refine List.ext_getElem (by simp [andL]) fun i h1 h2 => ?_
  simp only [andL, List.getElem_map, List.getElem_range, List.getElem_append, List.length_map, List.length_range]
  split
  · rename_i hi
    rw [getD_left hi, getD_left (by omega)]
  · rename_i hi
    rw [getD_right (by omega), getD_right (by omega), h]
theorem andL_ones {xs : List Int} (bx : Byt xs) {n : Nat} (h : xs.length = n) : andL xs (List.replicate n 255) = xs := by
  refine List.ext_getElem (by simp [andL]) fun i h1 h2 => ?_
  simp only [andL, List.getElem_map, List.getElem_range]
  rw [getD_get (xs := List.replicate n 255) (by simp; omega), List.getElem_replicate, and_full (bx.getD i), getD_get h2]
theorem and_mk {g : Geo} {h : Hd} {xs ts : List Int} (hs : 32 ≤ g.s ∧ g.s ≤ 4096) (hx : xs.length = 0 ∨ (xs.length : Int) = g.s) (hR : HRight h) (bx : Byt xs) (bt : Byt ts) (ht : ts.length = 0 ∨ ts.length = 32) : andL (mkL g h xs ts) (comL g) = payL g xs ++ markL h ts := by
  unfold mkL comL
  rw [show (g.s + 80).toNat = g.s.toNat + 80 by omega, ← List.replicate_append_replicate, List.append_assoc, andL_append (by rw [payL_length hs hx, List.length_replicate]), and_mark hR bt ht, andL_ones _ (payL_length hs hx)]
  unfold payL
  split
  · exact Byt.replicate (by omega) (by omega) _
  · exact bx
theorem end_mark {g : Geo} {h : Hd} {xs ts : List Int} (hs : 32 ≤ g.s ∧ g.s ≤ 4096) (hx : xs.length = 0 ∨ (xs.length : Int) = g.s) : endP g (payL g xs ++ markL h ts) = markL h ts := by
  unfold endP
  rw [List.drop_append_of_le_length (by rw [payL_length hs hx]; omega), List.drop_eq_nil_of_le (by rw [payL_length hs hx]; omega), List.nil_append]
theorem pays_mark {g : Geo} {h : Hd} {xs ts : List Int} (hs : 32 ≤ g.s ∧ g.s ≤ 4096) (hx : xs.length = 0 ∨ (xs.length : Int) = g.s) : pays g (payL g xs ++ markL h ts) = payL g xs := by
  unfold pays
  rw [List.take_append_of_le_length (by rw [payL_length hs hx]; omega), List.take_of_length_le (by rw [payL_length hs hx]; omega)]
end Go.Proofs.Ytlpeoaphdmfjdaa.Vc
/-! Plain laws of layer 19 (chunk): a record's pages, and what they hold. -/
namespace Go.Proofs.Ytlpeoaphdmfjdaa.Vc
open Go Go.Eng Go.RowKit
def nCh (g : Geo) : Int := cei 624 g.s
def ownH (g : Geo) (i gen : Int) : Hd := ⟨4, i, 0, nCh g, gen, 0⟩
theorem nCh_bd {g : Geo} (h : Right g) : (1 ≤ nCh g ∧ nCh g ≤ 32) ∧ 624 ≤ nCh g * g.s ∧ (nCh g - 1) * g.s < 624 ∧ nCh g * g.s ≤ 5000 := by
  have hs := h.sec
  have h2 := h.2.1
  have h3 : g.p ≤ 32 := h.1.2.1.2
  have hb := cei_bd (u := g.s) (m := 624) (by omega) (by omega)
  unfold nCh
  have e : cei 624 g.s = (624 + g.s - 1) / g.s := rfl
  have d := Int.mul_ediv_add_emod (624 + g.s - 1) g.s
  have r1 := Int.emod_nonneg (624 + g.s - 1) (show g.s ≠ 0 by omega)
  have r2 := Int.emod_lt_of_pos (624 + g.s - 1) (show 0 < g.s by omega)
  rw [← e] at d
  have c1 : g.s * cei 624 g.s = cei 624 g.s * g.s := Int.mul_comm _ _
  have c2 : (cei 624 g.s - 1) * g.s = cei 624 g.s * g.s - g.s := by rw [Int.sub_mul, Int.one_mul]
  refine ⟨⟨hb.1, by omega⟩, by omega, by omega, by omega⟩
theorem ownH_rng {g : Geo} {i gen : Int} (h : Right g) (hgen : 0 ≤ gen ∧ gen < 18446744073709551616) : (ownH g i gen).rng := by
  have := nCh_bd h
  unfold Hd.rng ownH
  dsimp only
  omega
theorem ownH_right {g : Geo} {i gen : Int} (hi : 0 ≤ i ∧ i < 32) : HRight (ownH g i gen) := by
  unfold HRight ownH
  dsimp only
  omega
def allR (g : Geo) (rec : List Int) : List Int := rec ++ List.replicate (nCh g * g.s - 624).toNat 255
def chk (g : Geo) (rec : List Int) (i : Nat) : List Int := ((allR g rec).drop (i * g.s.toNat)).take g.s.toNat
def pgOf (g : Geo) (rec : List Int) (gen : Int) (i : Nat) : List Int := mkL g (ownH g i gen) (chk g rec i) []
def pagesL (g : Geo) (rec : List Int) (gen : Int) : List (List Int) := (List.range (nCh g).toNat).map (pgOf g rec gen)
theorem allR_length {g : Geo} (h : Right g) {rec : List Int} (hr : rec.length = 624) : (allR g rec).length = (nCh g).toNat * g.s.toNat := by
  have b := nCh_bd h
  have hs := h.sec
  unfold allR
  rw [List.length_append, hr, List.length_replicate]
  have e : ((nCh g).toNat * g.s.toNat : Nat) = (nCh g * g.s).toNat := by
    rw [Int.toNat_mul (by omega) (by omega)]
  omega
theorem chk_length {g : Geo} (h : Right g) {rec : List Int} (hr : rec.length = 624) {i : Nat} (hi : i < (nCh g).toNat) : (chk g rec i).length = g.s.toNat := by
  unfold chk
  rw [List.length_take, List.length_drop, allR_length h hr]
  have : (i + 1) * g.s.toNat ≤ (nCh g).toNat * g.s.toNat := Nat.mul_le_mul_right _ hi
  rw [Nat.add_mul] at this
  omega
theorem allR_byt {g : Geo} {rec : List Int} (br : Byt rec) : Byt (allR g rec) := br.append (Byt.replicate (by omega) (by omega) _)
theorem chk_byt {g : Geo} {rec : List Int} (br : Byt rec) (i : Nat) : Byt (chk g rec i) := ((allR_byt br).drop _).take _
def gen0 (g : Geo) (ps : List (List Int)) : Int := (hdOf (endP g (ps.getD 0 []))).e
def pageOk (g : Geo) (ps : List (List Int)) (i : Nat) : Prop :=
  lenP g (ps.getD i []) ∧ okR (endP g (ps.getD i [])) ∧ hdOf (endP g (ps.getD i [])) = ownH g i (gen0 g ps) ∧ ((i : Int) = nCh g - 1 → comm (endP g (ps.getD i [])) = true)
def holds (g : Geo) (ps : List (List Int)) : Prop := Right g ∧ (nCh g).toNat ≤ ps.length ∧ ∀ i : Nat, i < (nCh g).toNat → pageOk g ps i
def recOf (g : Geo) (ps : List (List Int)) : List Int := (((List.range (nCh g).toNat).map fun i => pays g (ps.getD i [])).flatten).take 624
open Classical in
noncomputable def holdS (g : Geo) (ps : List (List Int)) : Int × List Int × Bool := if holds g ps then (gen0 g ps, recOf g ps, true) else (0, [], false)
end Go.Proofs.Ytlpeoaphdmfjdaa.Vc
