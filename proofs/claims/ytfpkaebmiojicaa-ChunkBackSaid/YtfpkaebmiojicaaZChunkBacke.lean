/- Texts in one: The contracts of the document's Pages and Hold of layer 19 (chunk). The contracts of Current of layer 19 (chunk), and small ones. The plans of functions as plain statements, printed by wip/tools/vcgen.py; the kernel holds each to the code. The laws ChunkPages and ChunkHolds of layer 19: each call gives true, and what it read stays. Plain laws of layer 19: a block whose last page lacks its mark holds nothing, one that has it holds its record. The plans of functions as plain statements, printed by wip/tools/vcgen.py; the kernel holds each to the code. The law ChunkBack of layer 19: each call gives true, and what it read stays. -/
import Derived.Test.YtfpkaebmiojicaaZChunkBackd

/-! The contracts of the document's Pages and Hold of layer 19 (chunk). -/
namespace Go.Proofs.Ytfpkaebmiojicaa.Vc
open Go Go.Eng Go.RowKit
set_option linter.unusedVariables false
set_option linter.unusedSimpArgs false

theorem own_cut {w : World} {F : Nat → Prop} {a a' : Option Addr} {n c hh m : Nat} {xs : List Int} (ho : (OwnA 5 1 a n c (xs.map (Value.int .u8))).p w F) (bx : Byt xs) (h1 : hh ≤ n) (h2 : hh ≤ m) (hm0 : m ≠ 0) (ha : a' = if m = 0 then a else a.map (·.add (0 * 1))) :
    TB.rd w F ⟨a', hh - 0, m - 0, xs.take hh⟩ := by
  have i5 := (ho.1.ints).sub (l := 0) (hh := hh) (m := m) (by omega) h1 h2 ha
  rw [List.drop_zero, Nat.sub_zero] at i5
  have hm := maxLen_eq
  have lim := ho.1.lim
  refine ⟨i5.len, i5.cap, by show hh - 0 ≤ maxLen; omega, ?_, fun v hv => rngU8 (bx.take hh v hv)⟩
  have hfl : (xs.take hh).flatMap (Ty.int .u8).vs = (xs.take hh).map (Value.int .u8) := flat_ints .u8 _
  rw [hfl]
  rcases i5.rd with ⟨q1, q2⟩ | ⟨p, q1, q2⟩
  · exact .inl ⟨q1, q2⟩
  · refine .inr ⟨p, q1, q2, fun _ => ?_⟩
    rw [if_neg hm0] at ha
    rw [ha] at q1
    obtain ⟨q, hq, hq2⟩ := Option.map_eq_some_iff.1 q1
    rw [← hq2, add_block]
    exact ho.2 q hq

theorem rPages_c {w : World} {g : Geo} {a : Option Addr} {n c : Nat} {gen : Int} {rec : List Int} (hx : Ints w .u8 a n c rec) (br : Byt rec) (hgen : 0 ≤ gen ∧ gen < 18446744073709551616) (hR : Right g) (hn : n = 624) :
    CallV Try.prog 34 #[g.val, .slice a n c, .int .u64 gen] w [.one .sl] fun r w' => ∃ y : SlP (SlP Int), r.1 = (⟨y.a, y.n, y.c⟩ : SlV) ∧ y.l.map (·.l) = pagesL g rec gen ∧ LstS w w' y := by
  apply ref19_Pages.vc
  unfold ref19_Pages.P
  have lx := hx.len
  have hs := hR.sec
  have bN := nCh_bd hR
  have S := Sep.start NoB w
  refine S.newB fun b1 w1 S f1 _ => ?_
  refine S.newB fun b3 w1 S f1 _ => ?_
  (repeat ((first | refine S.newB fun _ _ S f _ => ?_ | refine S.la0 rfl ?_ | refine S.la1 rfl ?_ | refine S.la2 rfl ?_ | refine S.la3 rfl ?_ | refine S.la4 rfl ?_ | refine S.la5 rfl ?_ | refine S.ld0 rfl rfl ?_ | refine S.ld1 rfl rfl ?_ | refine S.ld2 rfl rfl ?_ | refine S.ld3 rfl rfl ?_ | refine S.ld4 rfl rfl ?_ | refine S.ld5 rfl rfl ?_ | refine S.st0 (by rfl) fun _ S f => ?_ | refine S.st1 (by rfl) fun _ S f => ?_ | refine S.st2 (by rfl) fun _ S f => ?_ | refine S.st3 (by rfl) fun _ S f => ?_ | refine S.st4 (by rfl) fun _ S f => ?_ | refine S.st5 (by rfl) fun _ S f => ?_ | refine S.su0 (by rfl) fun _ S f => ?_ | refine S.su1 (by rfl) fun _ S f => ?_ | refine S.su2 (by rfl) fun _ S f => ?_ | refine S.su3 (by rfl) fun _ S f => ?_ | refine S.su4 (by rfl) fun _ S f => ?_ | refine S.su5 (by rfl) fun _ S f => ?_ | refine ⟨by decide, ?_⟩); try dsimp only [List.set_cons_zero, List.set_cons_succ, cond_true, cond_false, Bool.not_true, Bool.not_false]))
  refine (rChunks_c (g := g) hs).mono ?_
  rintro ⟨(r3 : Int), ⟨⟩⟩ w3 ⟨h3, e3⟩
  dsimp only at h3 ⊢
  have h3 : r3 = nCh g := h3
  subst h3
  have S := S.stepE e3
  generalize hN : (nCh g).toNat = N at *
  have hNi : nCh g = (N : Int) := by omega
  refine S.reg fun D hD hkeep Sd T => ?_
  refine ⟨hD _ S.bl1, Sd.ld1 rfl rfl ⟨Rng.i64 (by omega) (by omega), Rng.i64 (by omega) (by omega), ?_⟩⟩
  refine T.newB fun b5 w5 T f5 _ => ⟨hkeep _ T.fr, ?_⟩
  have T := T.asOwn (sz := 1) (n := 0) rfl (by omega) oneAll.nil
  refine T.ab0 (xs := []) (hx.ext (Sd.ext.trans T.ext)) (by omega) fun a6 c6 w6 T f6 => ⟨hkeep _ T.fr, ?_⟩
  refine rFill_c.mono ?_
  rintro ⟨⟨sa, sn, sc⟩, ⟨⟩⟩ w7 h7
  dsimp only at h7 ⊢
  have hf : (max 0 (min (65536 : Int) (nCh g * g.s - 624))).toNat = (nCh g * g.s - 624).toNat := by generalize hL : (65536 : Int) = L; omega
  rw [hf] at h7
  have l7 := h7.ints.len
  rw [List.length_replicate] at l7
  have T := T.res h7
  dsimp only at l7 T
  refine ⟨hkeep _ T.fr, ?_⟩
  refine T.ab1 T.in0 (by omega) fun a8 c8 w8 T f8 => ⟨hkeep _ T.fr, ?_⟩
  have S := (Sd.frame0 T).sel [2, 1, 1] rfl
  have S := (S.asOwn (sz := 1) (n := 0) rfl (by omega) oneAll.nil).sel [1, 1, 0] rfl
  have hall : [] ++ rec ++ List.replicate (nCh g * g.s - 624).toNat 255 = allR g rec := rfl
  rw [hall] at S
  have la := allR_length hR (show rec.length = 624 by omega)
  rw [hN] at la
  have S := (S.nilL).sel [3, 0, 0, 0] rfl
  have lc8 := (S.own 2 rfl).cap
  have ln8 := (S.own 2 rfl).len
  rw [List.length_map, la, Nat.mul_one] at ln8
  generalize hn8 : 0 + n + sn = n8 at S lc8 ln8
  refine Loop1 (fun (y : SlV × Int × Unit) w' => ∃ (i : Nat) (L : List (SlP Int)), y.2.1 = (i : Int) ∧ i ≤ N ∧ y.1.n = i ∧ L.map (·.l) = (pagesL g rec gen).take i ∧ Sep NoB w w' [OwnA 28 1 y.1.a y.1.n y.1.c (L.map slV), RdL L, OwnA 5 1 a8 n8 c8 ((allR g rec).map (Value.int .u8)), BoxA b1 23 g.vs])
    (fun (y : SlV × Int × Unit) _ => ((N : Int) - y.2.1).toNat) ⟨0, [], rfl, by omega, rfl, rfl, S⟩ ?_
  rintro ⟨⟨ya, yn, yc⟩, (z : Int), ⟨⟩⟩ w9 ⟨i, L, hz, hi, hyn, hL, S⟩
  dsimp only at hz hyn S ⊢
  subst hz
  subst hyn
  have hpl : (pagesL g rec gen).length = N := by unfold pagesL; rw [List.length_map, List.length_range, hN]
  have hLl : L.length = yn := by
    have := congrArg List.length hL
    rw [List.length_map, List.length_take, hpl] at this
    omega
  refine cond_d (fun hlt => ?_) (fun hge => ?_)
  · have m1 := mul_le' (show (yn : Int) + 1 ≤ nCh g by omega) (show 0 ≤ g.s by omega)
    have m0 : 0 ≤ (yn : Int) * g.s := Int.mul_nonneg (by omega) (by omega)
    have m2 : ((yn : Int) + 1) * g.s = (yn : Int) * g.s + g.s := by rw [Int.add_mul, Int.one_mul]
    have t0 : ((yn : Int) * g.s).toNat = yn * g.s.toNat := toNat_mul' (by omega)
    have n0 : (((yn : Int) * g.s).toNat : Int) = (yn : Int) * g.s := Int.toNat_of_nonneg m0
    have e5000 : nCh g * g.s ≤ 5000 := bN.2.2.2
    have hcap : nCh g * g.s ≤ ((c8 : Nat) : Int) := by
      have : nCh g * g.s = ((N * g.s.toNat : Nat) : Int) := by rw [hNi, Int.natCast_mul, Int.toNat_of_nonneg (by omega)]
      omega
    refine S.regX (fun k => ∃ q : Addr, ya = some q ∧ k = q.block) fun D hD hkeep Sd T => ?_
    have hb1 : D b1 := hD _ S.bl3 (fun ⟨q, hq, he⟩ => by
      have S2 := Sd.sel [0, 2] rfl
      obtain ⟨F, ⟨F1, F2, h1, ⟨F3, F4, h2, _, _, h7, _⟩, h4, h5, h6⟩, _⟩ := S2.ex
      exact h4 _ (h1.2 q hq) (h7 _ (by rw [← he]; exact h2.1)))
    refine ⟨hb1, Sd.la3 rfl ⟨hb1, Sd.la3 rfl ⟨hb1, Sd.ld3 rfl rfl ⟨Rng.i64 (by omega) (by omega), hb1, Sd.ld3 rfl rfl ⟨Rng.i64 (by omega) (by omega), hb1, Sd.ld3 rfl rfl ⟨Rng.i64 (by omega) (by omega), ⟨by omega, by omega, by omega⟩, ?_⟩⟩⟩⟩⟩⟩
    intro a10 ha10
    dsimp only
    have i10 := (Sd.in2).sub (l := ((yn : Int) * g.s).toNat) (hh := ((yn : Int) * g.s + g.s).toNat) (m := c8) (by omega) (by omega) (by omega) ha10
    have hlen : ((yn : Int) * g.s + g.s).toNat - ((yn : Int) * g.s).toNat = g.s.toNat := by omega
    rw [hlen] at i10 ⊢
    rw [t0] at i10 ⊢
    have i10 : Ints _ .u8 a10 g.s.toNat (c8 - yn * g.s.toNat) (chk g rec yn) := i10
    refine (head19_c (g := g) (i := (yn : Int)) (gen := gen) hR).mono ?_
    rintro ⟨_, ⟨⟩⟩ w10 ⟨h10, e10⟩
    dsimp only at h10
    subst h10
    have T := T.stepE e10
    refine ⟨hkeep _ T.fr.any, ?_⟩
    refine (rMake_c (g := g) (h := ownH g yn gen) (ownH_rng hR hgen) (i10.ext T.ext) intsNil ⟨hR, ⟨ownH_right ⟨by omega, by omega⟩, .inl rfl⟩, .inr (by omega)⟩).mono ?_
    rintro ⟨⟨pa, pn, pc⟩, ⟨⟩⟩ w11 k1
    dsimp only at k1 ⊢
    have T := T.res k1
    dsimp only at T
    refine ⟨hkeep _ T.fr.any, ?_⟩
    refine T.newB fun b12 w12 T f12 _ => ⟨hkeep _ T.fr.any, ?_⟩
    have Z := T.fr
    have S := Sd.frame0 T
    dsimp only [List.cons_append, List.nil_append] at S
    refine AppS.of (news := [slV ⟨pa, pn, pc, pgOf g rec gen yn⟩]) rfl (.inr ⟨_, rfl, S.cells 0 rfl⟩) ?_
    refine S.ap2 (by rfl) (fun u hu => by rw [List.mem_singleton.1 hu]; rfl) (by omega) (by omega) fun a13 c13 w13 S f13 => ?_
    refine ⟨hkeep _ (Z.any.trans f13), ?_⟩
    have S := S.sel [1, 2, 1, 1, 1] rfl
    have S := S.addL (mkL_byt (ownH_rng hR hgen) (ownH_right ⟨by omega, by omega⟩) (chk_byt br _) Byt.nil)
    have S := S.sel [1, 0, 0, 0] rfl
    have hpg : (pagesL g rec gen)[yn]'(by omega) = pgOf g rec gen yn := by simp [pagesL]
    refine ⟨Rng.i64 (by omega) (by omega), ⟨yn + 1, L ++ [⟨pa, pn, pc, pgOf g rec gen yn⟩], by push_cast; rfl, by omega, rfl, ?_, ?_⟩, by omega⟩
    · rw [List.map_append, hL, List.take_succ_eq_append_getElem (by omega), hpg]; rfl
    · rw [List.map_append]; exact S
  · have hyN : yn = N := by omega
    subst hyN
    rw [List.take_of_length_le (by omega)] at hL
    exact ⟨⟨ya, yn, yc, L⟩, rfl, hL, S.sel [0, 0] rfl⟩

abbrev puC (h : Hd) (s t : SlV) (d o : Bool) : List Value := [.int .i64 h.k, .int .i64 h.n, .int .i64 h.c, .int .u32 h.l, .int .u64 h.e, .int .u64 h.t, .slice s.a s.n s.c, .slice t.a t.n t.c, .bool d, .bool o]

theorem rHold_c {w : World} {g : Geo} {x : SlP (SlP Int)} {G : Nat → Prop} (hx : TBB.rd w G x) (hR : Right g) : CallV Try.prog 37 #[g.val, .slice x.a x.n x.c] w [.agg [.int .u64, .sl, .bool]] fun r w' => HoldR w w' g (x.l.map (·.l)) (r.1.1, r.1.2.1, r.1.2.2.1) := by
  apply ref19_Hold.vc
  unfold ref19_Hold.P
  generalize hps : x.l.map (·.l) = ps
  have hlp : ps.length = x.n := by rw [← hps, List.length_map]; exact hx.1
  have bp : ∀ p ∈ ps, Byt p := by
    intro p hp
    rw [← hps] at hp
    obtain ⟨y, hy, rfl⟩ := List.mem_map.1 hp
    exact Ty.byt (hx.2.2.2.2 y hy)
  have hs := hR.sec
  have bN := nCh_bd hR
  have S := Sep.start NoB w
  refine S.newB fun b1 w1 S f1 _ => ?_
  refine S.newB fun b3 w1 S f1 _ => ?_
  (repeat ((first | refine S.newB fun _ _ S f _ => ?_ | refine S.la0 rfl ?_ | refine S.la1 rfl ?_ | refine S.la2 rfl ?_ | refine S.la3 rfl ?_ | refine S.la4 rfl ?_ | refine S.la5 rfl ?_ | refine S.ld0 rfl rfl ?_ | refine S.ld1 rfl rfl ?_ | refine S.ld2 rfl rfl ?_ | refine S.ld3 rfl rfl ?_ | refine S.ld4 rfl rfl ?_ | refine S.ld5 rfl rfl ?_ | refine S.st0 (by rfl) fun _ S f => ?_ | refine S.st1 (by rfl) fun _ S f => ?_ | refine S.st2 (by rfl) fun _ S f => ?_ | refine S.st3 (by rfl) fun _ S f => ?_ | refine S.st4 (by rfl) fun _ S f => ?_ | refine S.st5 (by rfl) fun _ S f => ?_ | refine S.su0 (by rfl) fun _ S f => ?_ | refine S.su1 (by rfl) fun _ S f => ?_ | refine S.su2 (by rfl) fun _ S f => ?_ | refine S.su3 (by rfl) fun _ S f => ?_ | refine S.su4 (by rfl) fun _ S f => ?_ | refine S.su5 (by rfl) fun _ S f => ?_ | refine ⟨by decide, ?_⟩); try dsimp only [List.set_cons_zero, List.set_cons_succ, cond_true, cond_false, Bool.not_true, Bool.not_false]))
  refine (rChunks_c (g := g) hs).mono ?_
  rintro ⟨(r3 : Int), ⟨⟩⟩ w3 ⟨h3, e3⟩
  dsimp only at h3 ⊢
  have h3 : r3 = nCh g := h3
  subst h3
  have S := S.stepE e3
  generalize hN : (nCh g).toNat = N at *
  have hNi : nCh g = (N : Int) := by omega
  refine cond_d (fun h => ?_) (fun hge => ?_)
  · (repeat ((first | refine S.newB fun _ _ S f _ => ?_ | refine S.la0 rfl ?_ | refine S.la1 rfl ?_ | refine S.la2 rfl ?_ | refine S.la3 rfl ?_ | refine S.la4 rfl ?_ | refine S.la5 rfl ?_ | refine S.ld0 rfl rfl ?_ | refine S.ld1 rfl rfl ?_ | refine S.ld2 rfl rfl ?_ | refine S.ld3 rfl rfl ?_ | refine S.ld4 rfl rfl ?_ | refine S.ld5 rfl rfl ?_ | refine S.st0 (by rfl) fun _ S f => ?_ | refine S.st1 (by rfl) fun _ S f => ?_ | refine S.st2 (by rfl) fun _ S f => ?_ | refine S.st3 (by rfl) fun _ S f => ?_ | refine S.st4 (by rfl) fun _ S f => ?_ | refine S.st5 (by rfl) fun _ S f => ?_ | refine S.su0 (by rfl) fun _ S f => ?_ | refine S.su1 (by rfl) fun _ S f => ?_ | refine S.su2 (by rfl) fun _ S f => ?_ | refine S.su3 (by rfl) fun _ S f => ?_ | refine S.su4 (by rfl) fun _ S f => ?_ | refine S.su5 (by rfl) fun _ S f => ?_ | refine ⟨by decide, ?_⟩); try dsimp only [List.set_cons_zero, List.set_cons_succ, cond_true, cond_false, Bool.not_true, Bool.not_false]))
    exact .no (fun hh => by have := hh.2.1; omega) S.ext
  refine S.newB fun b10 w4 S f4 _ => ?_
  refine S.st0 (by rfl) fun w5 S f5 => ?_
  have S := S.nilOwn 5 1
  refine Loop1 (fun (y : Int × Unit) w' => ∃ (i : Nat) (gn : Int) (ya : Option Addr) (yn yc : Nat), y.1 = (i : Int) ∧ i ≤ N ∧ (∀ j, j < i → pageOk g ps j) ∧ (0 < i → gn = gen0 g ps) ∧ (0 ≤ gn ∧ gn < 18446744073709551616) ∧
      Sep NoB w w' [OwnA 5 1 ya yn yc ((accR g ps i).map (Value.int .u8)), BoxA b10 66 [.int .u64 gn, .slice ya yn yc, .bool true], BoxA b3 66 [.int .u64 0, .slice none 0 0, .bool false], BoxA b1 23 g.vs] ∧ yn = i * g.s.toNat)
    (fun (y : Int × Unit) _ => ((N : Int) - y.1).toNat) ⟨0, 0, none, 0, 0, rfl, by omega, fun j hj => by omega, fun h => by omega, by decide, S, by simp⟩ ?_
  rintro ⟨(z : Int), ⟨⟩⟩ w6 ⟨i, gen, ya, yn, yc, hz, hi, hall, hgen, hgr, S, hyn⟩
  dsimp only at hz ⊢
  subst hz
  refine cond_d (fun hlt => ?_) (fun hgeN => ?_)
  case refine_2 =>
    have hiN : i = N := by omega
    subst hiN
    have hh : holds g ps := ⟨hR, by omega, fun j hj => hall j (by omega)⟩
    have hn624 : 624 ≤ yn := by
      have : nCh g * g.s = ((i * g.s.toNat : Nat) : Int) := by rw [hNi, Int.natCast_mul, Int.toNat_of_nonneg (by omega)]
      omega
    have hc := (S.own 0 rfl).cap
    refine S.ld1 rfl rfl ⟨⟨by omega, by dsimp only; omega⟩, ?_⟩
    intro a5 ha5
    dsimp only at ha5 ⊢
    refine S.su1 (by rfl) fun w7 S f7 => ?_
    dsimp only [List.set_cons_succ, List.set_cons_zero] at S
    (repeat ((first | refine S.newB fun _ _ S f _ => ?_ | refine S.la0 rfl ?_ | refine S.la1 rfl ?_ | refine S.la2 rfl ?_ | refine S.la3 rfl ?_ | refine S.la4 rfl ?_ | refine S.la5 rfl ?_ | refine S.ld0 rfl rfl ?_ | refine S.ld1 rfl rfl ?_ | refine S.ld2 rfl rfl ?_ | refine S.ld3 rfl rfl ?_ | refine S.ld4 rfl rfl ?_ | refine S.ld5 rfl rfl ?_ | refine S.st0 (by rfl) fun _ S f => ?_ | refine S.st1 (by rfl) fun _ S f => ?_ | refine S.st2 (by rfl) fun _ S f => ?_ | refine S.st3 (by rfl) fun _ S f => ?_ | refine S.st4 (by rfl) fun _ S f => ?_ | refine S.st5 (by rfl) fun _ S f => ?_ | refine S.su0 (by rfl) fun _ S f => ?_ | refine S.su1 (by rfl) fun _ S f => ?_ | refine S.su2 (by rfl) fun _ S f => ?_ | refine S.su3 (by rfl) fun _ S f => ?_ | refine S.su4 (by rfl) fun _ S f => ?_ | refine S.su5 (by rfl) fun _ S f => ?_ | refine ⟨by decide, ?_⟩); try dsimp only [List.set_cons_zero, List.set_cons_succ, cond_true, cond_false, Bool.not_true, Bool.not_false]))
    unfold HoldR
    rw [holdS_yes hh]
    have hrec : recOf g ps = (accR g ps i).take 624 := by unfold recOf accR; rw [hN]
    refine ⟨hgen (by omega), rfl, S.take1.conv fun F ho _ y hy => ?_⟩
    rw [List.mem_singleton.1 hy]
    show TB.rd _ _ ⟨a5, 624 - 0, yc - 0, recOf g ps⟩
    rw [hrec]
    exact own_cut ho (accR_byt bp _) hn624 (by omega) (by omega) ha5
  obtain ⟨q, y, hq, hy, hc0, hr, hGq, hb0⟩ := TBB_nth hx (Int.natCast_nonneg i) (show (i : Int) < (x.n : Int) by omega)
  have hc := S.ext.cells hc0
  have hbq := Nat.lt_of_lt_of_le hb0 S.ext.size
  have hpi : ps.getD i [] = y.l := by rw [← hps]; rw [Int.toNat_natCast] at hy; exact getD_map hy
  have by_ : Byt y.l := Ty.byt hr
  have ly := (Ty.ints hr).len
  have no : ∀ {w' : World}, ¬ holds g ps → Sep NoB w w' [OwnA 5 1 ya yn yc ((accR g ps i).map (Value.int .u8)), BoxA b10 66 [.int .u64 gen, .slice ya yn yc, .bool true], BoxA b3 66 [.int .u64 0, .slice none 0 0, .bool false], BoxA b1 23 g.vs] →
      StoreV w' ⟨b3, 0, none⟩ [.int .u64 0, .slice none 0 0, .bool false] fun w20 => LoadA w20 ⟨b3, 0, none⟩ [.int .u64, .sl, .bool] fun (x21 : Int × SlV × Bool × Unit) => HoldR w w20 g ps (x21.1, x21.2.1, x21.2.2.1) := fun hn S => by
    refine S.st2 (by rfl) fun w7 S f7 => S.la2 rfl ?_
    exact .no hn S.ext
  refine S.reg fun D hD hkeep Sd T => ?_
  refine ⟨⟨by omega, by omega⟩, q, hq, by rw [add_block]; exact hD _ hbq, ldp0 (cells_same (by rw [add_block]; rfl) hc) (h := .sl) (x := ⟨y.a, y.n, y.c⟩) rfl ?_⟩
  refine ⟨hD _ S.bl3, Sd.ld3 rfl rfl ⟨Rng.i64 (by omega) (by omega), ?_⟩⟩
  refine cond_ne (fun hne => no (fun hh => hne ?_) Sd) (fun heq => ?_)
  · have := (hh.2.2 i (by omega)).1.2
    rw [hpi] at this
    dsimp only
    omega
  dsimp only at heq
  have hL : lenP g y.l := ⟨hR, by omega⟩
  generalize hP : pSpec g y.l = P
  have hPr : 0 ≤ P.h.e ∧ P.h.e < 18446744073709551616 := by
    rw [← hP]; unfold pSpec
    split
    · rename_i h
      exact (hdOf_rng (by_.drop _) (by have := h.1.2; have h2 : (endP g y.l).length = 88 := (by unfold endP; rw [List.length_drop]; omega); show 24 ≤ (endP g y.l).length; omega)).2.1
    · decide
  have S := Sd
  have E6 := S.ext
  refine ⟨fun (v : Option Addr × Unit) w' => ∃ b s t, v.1 = some ⟨b, 0, none⟩ ∧ Ints w .u8 s.a s.n s.c P.x ∧ Sep NoB w w' [BoxA b 51 (puC P.h s t P.d (decide (okR (endP g y.l)))), OwnA 5 1 ya yn yc ((accR g ps i).map (Value.int .u8)), BoxA b10 66 [.int .u64 gen, .slice ya yn yc, .bool true], BoxA b3 66 [.int .u64 0, .slice none 0 0, .bool false], BoxA b1 23 g.vs], ?_, ?_⟩
  case refine_2 =>
    refine S.reg fun D hD hkeep Sd T => ?_
    refine ⟨hD _ S.bl3, Sd.la3 rfl ⟨⟨by omega, by omega⟩, q, hq, by rw [add_block]; exact hD _ hbq, ldp0 (cells_same (by rw [add_block]; rfl) hc) (h := .sl) (x := ⟨y.a, y.n, y.c⟩) rfl ?_⟩⟩
    have iy := Ty.ints hr
    refine ⟨?_, ?_⟩
    · refine (rPReadU_c (g := g) iy Sd.ext by_ hL).mono ?_
      rintro ⟨q5, ⟨⟩⟩ w5 ⟨e5, s, t, k5, is, it⟩
      dsimp only at k5
      rw [hP] at k5 is it
      subst k5
      have T := T.stepE e5
      refine ⟨hkeep _ T.fr, T.newB fun b6 w6 T f6 _ => ⟨hkeep _ T.fr, ?_⟩⟩
      refine T.st0 (by rfl) fun w7 T f7 => ⟨hkeep _ T.fr, b6, s, t, rfl, is, (Sd.frame0 T).sel [0, 0, 0, 0, 0] rfl⟩
    · refine T.newB fun b6 w6 T f6 _ => ⟨hkeep _ T.fr, ?_⟩
      refine (rPReadU_c (g := g) iy (Sd.ext.trans T.ext) by_ hL).mono ?_
      rintro ⟨q5, ⟨⟩⟩ w5 ⟨e5, s, t, k5, is, it⟩
      dsimp only at k5
      rw [hP] at k5 is it
      subst k5
      have T := T.stepE e5
      refine ⟨hkeep _ T.fr, ?_⟩
      refine T.st0 (by rfl) fun w7 T f7 => ⟨hkeep _ T.fr, b6, s, t, rfl, is, (Sd.frame0 T).sel [0, 0, 0, 0, 0] rfl⟩
  rintro ⟨v, ⟨⟩⟩ w7 ⟨b, s, t, hv, is, S⟩
  dsimp only at hv ⊢
  subst hv
  refine ⟨fun _ w' => ∃ gn, (okR (endP g y.l) → gn = gen0 g ps) ∧ (0 ≤ gn ∧ gn < 18446744073709551616) ∧ Sep NoB w w' [BoxA b 51 (puC P.h s t P.d (decide (okR (endP g y.l)))), OwnA 5 1 ya yn yc ((accR g ps i).map (Value.int .u8)), BoxA b10 66 [.int .u64 gn, .slice ya yn yc, .bool true], BoxA b3 66 [.int .u64 0, .slice none 0 0, .bool false], BoxA b1 23 g.vs], ?_, ?_⟩
  case refine_2 =>
    refine cond_eq (fun h0 => ?_) (fun h0 => ⟨gen, fun _ => hgen (by omega), hgr, S⟩)
    refine PtrK.of rfl (S.ld0 (j := 4) rfl rfl ?_)
    refine S.su2 (by rfl) fun w8 S f8 => ?_
    refine ⟨P.h.e, fun hO => ?_, hPr, S⟩
    have : i = 0 := by omega
    subst this
    unfold gen0
    rw [hpi, ← hP]
    unfold pSpec
    rw [if_pos ⟨hL, hO⟩]
  rintro ⟨⟩ w8 ⟨gn, hgn, hgnr, S⟩
  refine ⟨fun (v : Bool × Unit) w' => (v.1 = true → ¬ holds g ps) ∧ (v.1 = false → pageOk g ps i ∧ gn = gen0 g ps) ∧ Sep NoB w w' [BoxA b 51 (puC P.h s t P.d (decide (okR (endP g y.l)))), OwnA 5 1 ya yn yc ((accR g ps i).map (Value.int .u8)), BoxA b10 66 [.int .u64 gn, .slice ya yn yc, .bool true], BoxA b3 66 [.int .u64 0, .slice none 0 0, .bool false], BoxA b1 23 g.vs], ?_, ?_⟩
  case refine_2 =>
    refine S.reg fun D hD hkeep Sd T => ?_
    refine PtrK.of rfl ⟨hD _ Sd.bl0, Sd.ld0 (j := 9) rfl rfl ?_⟩
    refine cond_of (fun hc => ⟨fun _ hh => ?_, fun h => Bool.noConfusion h, Sd⟩) (fun hc => ?_)
    · have := (hh.2.2 i (by omega)).2.1
      rw [hpi] at this
      rw [decide_eq_true this] at hc
      cases hc
    have hO : okR (endP g y.l) := by simpa using hc
    have hPv : P = fS g y.l := by rw [← hP]; unfold pSpec; rw [if_pos ⟨hL, hO⟩]
    have hg0 := hgn hO
    refine PtrK.of rfl ⟨hD _ Sd.bl0, Sd.lb0 (o := 0) rfl ⟨hD _ Sd.bl4, Sd.la4 rfl ⟨hD _ Sd.bl2, Sd.ld2 rfl rfl ?_⟩⟩⟩
    dsimp only
    refine (head19_c (g := g) (i := (i : Int)) (gen := gn) hR).mono ?_
    rintro ⟨_, ⟨⟩⟩ w9 ⟨h9, e9⟩
    dsimp only at h9
    subst h9
    have S := Sd.stepE e9
    refine ⟨hkeep _ (.of e9), ?_⟩
    refine eqHd (g := P.h) (h := ownH g i gn) ?_
    refine cond_of (fun hc => ⟨fun _ hh => ?_, fun h => Bool.noConfusion h, S⟩) (fun hc => ?_)
    · have := (hh.2.2 i (by omega)).2.2.1
      rw [hpi] at this
      have hne : P.h ≠ ownH g i gn := by simpa using hc
      exact hne (by rw [hPv, hg0]; exact this)
    have hhd : P.h = ownH g i gn := by simpa using hc
    have okP : ((i : Int) = nCh g - 1 → P.d = true) → pageOk g ps i := fun hd => by
      unfold pageOk
      rw [hpi]
      rw [hPv] at hhd hd
      rw [hg0] at hhd
      exact ⟨hL, hO, hhd, hd⟩
    refine ⟨Rng.i64 (by omega) (by omega), ?_⟩
    refine cond_eq (fun hl => ?_) (fun hl => ⟨fun h => Bool.noConfusion h, fun _ => ⟨okP fun h => absurd h hl, hg0⟩, S⟩)
    refine PtrK.of rfl ⟨hD _ Sd.bl0, Sd.ld0 (j := 8) rfl rfl ⟨fun hc hh => ?_, fun hc => ⟨okP fun _ => by simpa using hc, hg0⟩, S⟩⟩
    have := (hh.2.2 i (by omega)).2.2.2 hl
    rw [hpi] at this
    rw [hPv] at hc
    have hc : (!comm (endP g y.l)) = true := hc
    rw [this] at hc
    cases hc
  rintro ⟨(v : Bool), ⟨⟩⟩ w9 ⟨hv1, hv2, S⟩
  dsimp only at hv1 hv2 ⊢
  cases v
  case true =>
    refine cond_t rfl ?_
    refine S.st3 (by rfl) fun w10 S f10 => S.la3 rfl ?_
    exact .no (hv1 rfl) S.ext
  obtain ⟨hpage, hg0⟩ := hv2 rfl
  refine cond_f rfl ?_
  have hO : okR (endP g y.l) := by have := hpage.2.1; rw [hpi] at this; exact this
  have hPv : P = fS g y.l := by rw [← hP]; unfold pSpec; rw [if_pos ⟨hL, hO⟩]
  have lp := is.len
  rw [hPv] at lp
  have lp : (pays g y.l).length = s.n := lp
  rw [List.length_take] at lp
  have hl2 := hL.2
  have hmul : i * g.s.toNat + g.s.toNat ≤ N * g.s.toNat := by rw [← Nat.succ_mul]; exact Nat.mul_le_mul_right _ (by omega)
  have h5 : N * g.s.toNat ≤ 5000 := by
    have h1 : nCh g * g.s = ((N * g.s.toNat : Nat) : Int) := by rw [hNi, Int.natCast_mul, Int.toNat_of_nonneg (by omega)]
    have := bN.2.2.2
    omega
  have hne := S.ne 0 2 (by omega) rfl rfl
  have fin : ∀ {w' : World} {a4 : Option Addr} {c4 : Nat}, Sep NoB w w' [OwnA 5 1 a4 (0 + yn + s.n) c4 (([] ++ accR g ps i ++ P.x).map (Value.int .u8)), BoxA b10 66 [.int .u64 gn, .slice a4 (0 + yn + s.n) c4, .bool true], BoxA b3 66 [.int .u64 0, .slice none 0 0, .bool false], BoxA b1 23 g.vs] →
      Rng .i64 ((i : Int) + 1) ∧ (∃ (j : Nat) (gn : Int) (ya : Option Addr) (yn yc : Nat), (i : Int) + 1 = (j : Int) ∧ j ≤ N ∧ (∀ k, k < j → pageOk g ps k) ∧ (0 < j → gn = gen0 g ps) ∧ (0 ≤ gn ∧ gn < 18446744073709551616) ∧
      Sep NoB w w' [OwnA 5 1 ya yn yc ((accR g ps j).map (Value.int .u8)), BoxA b10 66 [.int .u64 gn, .slice ya yn yc, .bool true], BoxA b3 66 [.int .u64 0, .slice none 0 0, .bool false], BoxA b1 23 g.vs] ∧ yn = j * g.s.toNat) ∧ ((N : Int) - ((i : Int) + 1)).toNat < ((N : Int) - (i : Int)).toNat := fun {w' a4 c4} S => by
    refine ⟨Rng.i64 (by omega) (by omega), ⟨i + 1, gn, a4, 0 + yn + s.n, c4, by push_cast; rfl, by omega, fun k hk => ?_, fun _ => hg0, hgnr, ?_, ?_⟩, by omega⟩
    rotate_left
    · rw [accR_succ, hpi]
      rw [hPv] at S
      exact S
    · rw [Nat.add_mul, Nat.one_mul]; omega
    · by_cases hki : k = i
      · subst hki; exact hpage
      · exact hall k (by omega)
  refine S.regX (fun k => k = b10) fun D hD hkeep Sd T => ?_
  refine PtrK.of rfl ⟨hD _ Sd.bl0 hne, Sd.ld0 (j := 6) rfl rfl ?_⟩
  dsimp only
  refine ⟨?_, ?_⟩
  · refine T.newB fun b11 w11 T f11 _ => ⟨hkeep _ T.fr.any, ?_⟩
    refine (Sd.step0 T.fr).ld2 rfl rfl ⟨hkeep _ T.fr.any, ?_⟩
    dsimp only
    have T := T.asOwn (sz := 1) (n := 0) rfl (by omega) oneAll.nil
    refine T.ab0 (xs := []) (Sd.step0 T.fr).in1 (by omega) fun a12 c12 w12 T f12 => ⟨hkeep _ T.fr.any, ?_⟩
    refine T.ab0 (is.ext (Sd.ext.trans T.ext)) (by omega) fun a13 c13 w13 T f13 => ⟨hkeep _ T.fr.any, ?_⟩
    have S := (Sd.frame0 T).sel [0, 2, 2, 2] rfl
    refine S.su1 (by rfl) fun w14 S f14 => ⟨hkeep _ (T.fr.any.trans f14), fin S⟩
  · refine Sd.ld2 rfl rfl ⟨hkeep _ T.fr.any, ?_⟩
    dsimp only
    refine T.newB fun b11 w11 T f11 _ => ⟨hkeep _ T.fr.any, ?_⟩
    have T := T.asOwn (sz := 1) (n := 0) rfl (by omega) oneAll.nil
    refine T.ab0 (xs := []) (Sd.step0 T.fr).in1 (by omega) fun a12 c12 w12 T f12 => ⟨hkeep _ T.fr.any, ?_⟩
    refine T.ab0 (is.ext (Sd.ext.trans T.ext)) (by omega) fun a13 c13 w13 T f13 => ⟨hkeep _ T.fr.any, ?_⟩
    have S := (Sd.frame0 T).sel [0, 2, 2, 2] rfl
    refine S.su1 (by rfl) fun w14 S f14 => ⟨hkeep _ (T.fr.any.trans f14), fin S⟩

end Go.Proofs.Ytfpkaebmiojicaa.Vc

/-! The contracts of Current of layer 19 (chunk), and small ones. -/
namespace Go.Proofs.Ytfpkaebmiojicaa.Vc
open Go Go.Eng Go.RowKit
set_option linter.unusedVariables false
set_option linter.unusedSimpArgs false

abbrev TBBB : Ty := .sl TBB
abbrev slV2 (s : SlP (SlP Int)) : Value := .slice s.a s.n s.c
theorem TBBB_nth {w : World} {G : Nat → Prop} {x : SlP (SlP (SlP Int))} (h : TBBB.rd w G x) {i : Int} (h0 : 0 ≤ i) (h1 : i < (x.n : Int)) :
    ∃ q y, x.a = some q ∧ x.l[i.toNat]? = some y ∧ CellsAt w (q.add (i.toNat * 1)) [slV2 y] ∧ TBB.rd w G y ∧ G q.block ∧ q.block < w.heap.size := Ty.nth (e := TBB) h h0 h1 (by decide)
abbrev pgs (y : SlP (SlP Int)) : List (List Int) := y.l.map (·.l)
theorem getD_map2 {L : List (SlP (SlP Int))} {i : Nat} {y : SlP (SlP Int)} (h : L[i]? = some y) : (L.map pgs).getD i [] = pgs y := by
  rw [List.getD_eq_getElem?_getD, List.getElem?_map, h]; rfl

open Classical in
/-- The current one of the first blocks. -/
noncomputable def curTo (g : Geo) (bs : List (List (List Int))) : Nat → Int × Int × List Int
  | 0 => (-1, 0, [])
  | i + 1 => if (holdS g (bs.getD i [])).2.2 = true ∧ ((curTo g bs i).1 < 0 ∨ (curTo g bs i).2.1 < (holdS g (bs.getD i [])).1) then ((i : Int), (holdS g (bs.getD i [])).1, (holdS g (bs.getD i [])).2.1) else curTo g bs i
theorem curTo_yes {g : Geo} {bs : List (List (List Int))} {i : Nat} (h : (holdS g (bs.getD i [])).2.2 = true ∧ ((curTo g bs i).1 < 0 ∨ (curTo g bs i).2.1 < (holdS g (bs.getD i [])).1)) : curTo g bs (i + 1) = ((i : Int), (holdS g (bs.getD i [])).1, (holdS g (bs.getD i [])).2.1) := by
  rw [curTo, if_pos h]
theorem curTo_no {g : Geo} {bs : List (List (List Int))} {i : Nat} (h : ¬ ((holdS g (bs.getD i [])).2.2 = true ∧ ((curTo g bs i).1 < 0 ∨ (curTo g bs i).2.1 < (holdS g (bs.getD i [])).1))) : curTo g bs (i + 1) = curTo g bs i := by
  rw [curTo, if_neg h]

def CurR (w w' : World) (g : Geo) (bs : List (List (List Int))) (r : Int × Int × SlV) : Prop :=
  r.1 = (curTo g bs bs.length).1 ∧ r.2.1 = (curTo g bs bs.length).2.1 ∧ Sep NoB w w' [RdL [⟨r.2.2.a, r.2.2.n, r.2.2.c, (curTo g bs bs.length).2.2⟩]]

theorem Current_c {w : World} {g : Geo} {x : SlP (SlP (SlP Int))} {G : Nat → Prop} (hx : TBBB.rd w G x) (hn : x.n ≤ 1000) : CallV Try.prog 38 #[g.val, .slice x.a x.n x.c] w [.one (.int .i64), .one (.int .u64), .one .sl] fun r w' => CurR w w' g (x.l.map pgs) (r.1, r.2.1, r.2.2.1) := by
  apply chunk_Current.vc
  unfold chunk_Current.P
  generalize hbs : x.l.map pgs = bs
  have hlb : bs.length = x.n := by rw [← hbs, List.length_map]; exact hx.1
  have S := Sep.start NoB w
  refine S.newB fun b1 w1 S f1 _ => ?_
  have S := S.push (R := RdL [⟨none, 0, 0, []⟩]) (F := NoB) (Fr.refl _ _) (fun x hx => by rw [List.mem_singleton.1 hx]; exact TB_nil) fun _ x => x.elim
  refine Loop1 (fun (y : Int × Int × SlV × Int × Unit) w' => ∃ i : Nat, y.2.2.2.1 = (i : Int) ∧ i ≤ x.n ∧ y.1 = (curTo g bs i).1 ∧ y.2.1 = (curTo g bs i).2.1 ∧ Sep NoB w w' [RdL [⟨y.2.2.1.a, y.2.2.1.n, y.2.2.1.c, (curTo g bs i).2.2⟩], BoxA b1 23 g.vs])
    (fun (y : Int × Int × SlV × Int × Unit) _ => ((x.n : Int) - y.2.2.2.1).toNat) ⟨0, rfl, by omega, rfl, rfl, S⟩ ?_
  rintro ⟨(at_ : Int), (most : Int), ⟨ra, rn, rc⟩, (z : Int), ⟨⟩⟩ w2 ⟨i, hz, hi, hat, hmost, S⟩
  dsimp only at hz hat hmost S ⊢
  subst hz
  refine cond_d (fun hlt => ?_) (fun hge => ?_)
  · obtain ⟨q, y, hq, hy, hc0, hr, hGq, hb0⟩ := TBBB_nth hx (Int.natCast_nonneg i) hlt
    have hpi : bs.getD i [] = pgs y := by rw [← hbs]; rw [Int.toNat_natCast] at hy; exact getD_map2 hy
    refine ⟨⟨by omega, hlt⟩, q, hq, ldp0 (S.ext.cells hc0) (h := .sl) (x := ⟨y.a, y.n, y.c⟩) rfl ?_⟩
    (repeat ((first | refine S.newB fun _ _ S f _ => ?_ | refine S.la0 rfl ?_ | refine S.la1 rfl ?_ | refine S.la2 rfl ?_ | refine S.la3 rfl ?_ | refine S.la4 rfl ?_ | refine S.la5 rfl ?_ | refine S.ld0 rfl rfl ?_ | refine S.ld1 rfl rfl ?_ | refine S.ld2 rfl rfl ?_ | refine S.ld3 rfl rfl ?_ | refine S.ld4 rfl rfl ?_ | refine S.ld5 rfl rfl ?_ | refine S.st0 (by rfl) fun _ S f => ?_ | refine S.st1 (by rfl) fun _ S f => ?_ | refine S.st2 (by rfl) fun _ S f => ?_ | refine S.st3 (by rfl) fun _ S f => ?_ | refine S.st4 (by rfl) fun _ S f => ?_ | refine S.st5 (by rfl) fun _ S f => ?_ | refine S.su0 (by rfl) fun _ S f => ?_ | refine S.su1 (by rfl) fun _ S f => ?_ | refine S.su2 (by rfl) fun _ S f => ?_ | refine S.su3 (by rfl) fun _ S f => ?_ | refine S.su4 (by rfl) fun _ S f => ?_ | refine S.su5 (by rfl) fun _ S f => ?_ | refine ⟨by decide, ?_⟩); try dsimp only [List.set_cons_zero, List.set_cons_succ, cond_true, cond_false, Bool.not_true, Bool.not_false]))
    refine (Hold_c (g := g) (TBB.rd_ext S.ext hr)).mono ?_
    rintro ⟨(gen : Int), ⟨ha, hn', hc'⟩, (ok : Bool), ⟨⟩⟩ w3 ⟨h1, h2, T⟩
    dsimp only at h1 h2 T ⊢
    rw [show y.l.map (fun x => x.l) = bs.getD i [] from hpi.symm] at h1 h2 T
    have S := S.frame0 T
    dsimp only [List.cons_append, List.nil_append] at S
    have up : (holdS g (bs.getD i [])).2.2 = true ∧ ((curTo g bs i).1 < 0 ∨ (curTo g bs i).2.1 < (holdS g (bs.getD i [])).1) → Rng .i64 ((i : Int) + 1) ∧ (∃ j : Nat, (i : Int) + 1 = (j : Int) ∧ j ≤ x.n ∧ (i : Int) = (curTo g bs j).1 ∧ gen = (curTo g bs j).2.1 ∧ Sep NoB w w3 [RdL [⟨ha, hn', hc', (curTo g bs j).2.2⟩], BoxA b1 23 g.vs]) ∧ ((x.n : Int) - ((i : Int) + 1)).toNat < ((x.n : Int) - (i : Int)).toNat := fun h => by
      refine ⟨Rng.i64 (by omega) (by omega), ⟨i + 1, by push_cast; rfl, by omega, ?_⟩, by omega⟩
      rw [curTo_yes h]
      exact ⟨rfl, h1, S.sel [0, 1] rfl⟩
    have st : ¬ ((holdS g (bs.getD i [])).2.2 = true ∧ ((curTo g bs i).1 < 0 ∨ (curTo g bs i).2.1 < (holdS g (bs.getD i [])).1)) → Rng .i64 ((i : Int) + 1) ∧ (∃ j : Nat, (i : Int) + 1 = (j : Int) ∧ j ≤ x.n ∧ at_ = (curTo g bs j).1 ∧ most = (curTo g bs j).2.1 ∧ Sep NoB w w3 [RdL [⟨ra, rn, rc, (curTo g bs j).2.2⟩], BoxA b1 23 g.vs]) ∧ ((x.n : Int) - ((i : Int) + 1)).toNat < ((x.n : Int) - (i : Int)).toNat := fun h => by
      refine ⟨Rng.i64 (by omega) (by omega), ⟨i + 1, by push_cast; rfl, by omega, ?_⟩, by omega⟩
      rw [curTo_no h]
      exact ⟨hat, hmost, S.sel [1, 1] rfl⟩
    refine cond_of (fun hk => ?_) (fun hk => st fun h => by rw [← h2, hk] at h; exact Bool.noConfusion h.1)
    refine cond_d (fun ha0 => up ⟨by rw [← h2]; exact hk, .inl (by omega)⟩) (fun ha0 => ?_)
    refine cond_d (fun hgt => up ⟨by rw [← h2]; exact hk, .inr (by omega)⟩) (fun hgt => st fun h => by omega)
  · have : i = bs.length := by omega
    subst this
    exact ⟨hat, hmost, S.take1⟩

theorem rCurrent_c {w : World} {g : Geo} {x : SlP (SlP (SlP Int))} {G : Nat → Prop} (hx : TBBB.rd w G x) (hn : x.n ≤ 1000) (hR : Right g) : CallV Try.prog 39 #[g.val, .slice x.a x.n x.c] w [.one (.int .i64), .agg [.int .u64, .sl, .bool]] fun r w' => CurR w w' g (x.l.map pgs) (r.1, r.2.1.1, r.2.1.2.1) := by
  apply ref19_Current.vc
  unfold ref19_Current.P
  generalize hbs : x.l.map pgs = bs
  have hlb : bs.length = x.n := by rw [← hbs, List.length_map]; exact hx.1
  have S := Sep.start NoB w
  refine S.newB fun b1 w1 S f1 _ => ?_
  refine S.newB fun b3 w1 S f1 _ => ?_
  refine S.newB fun b5 w1 S f1 _ => ?_
  refine S.st0 (by rfl) fun w1 S f1 => ?_
  have S := S.push (R := RdL [⟨none, 0, 0, []⟩]) (F := NoB) (Fr.refl _ _) (fun x hx => by rw [List.mem_singleton.1 hx]; exact TB_nil) fun _ x => x.elim
  refine Loop1 (fun (y : Int × Int × Unit) w' => ∃ (i : Nat) (ra : Option Addr) (rn rc : Nat) (o : Bool), y.2.1 = (i : Int) ∧ i ≤ x.n ∧ y.1 = (curTo g bs i).1 ∧ Sep NoB w w' [RdL [⟨ra, rn, rc, (curTo g bs i).2.2⟩], BoxA b5 66 [.int .u64 (curTo g bs i).2.1, .slice ra rn rc, .bool o], BoxA b3 66 [.int .u64 0, .slice none 0 0, .bool false], BoxA b1 23 g.vs])
    (fun (y : Int × Int × Unit) _ => ((x.n : Int) - y.2.1).toNat) ⟨0, none, 0, 0, false, rfl, by omega, rfl, S⟩ ?_
  rintro ⟨(at_ : Int), (z : Int), ⟨⟩⟩ w2 ⟨i, ra, rn, rc, o, hz, hi, hat, S⟩
  dsimp only at hz hat ⊢
  subst hz
  refine cond_d (fun hlt => ?_) (fun hge => ?_)
  · obtain ⟨q, y, hq, hy, hc0, hr, hGq, hb0⟩ := TBBB_nth hx (Int.natCast_nonneg i) hlt
    have hpi : bs.getD i [] = pgs y := by rw [← hbs]; rw [Int.toNat_natCast] at hy; exact getD_map2 hy
    have hbq := Nat.lt_of_lt_of_le hb0 S.ext.size
    refine ⟨fun (v : Option Addr × Unit) w' => ∃ b ha hn' hc', v.1 = some ⟨b, 0, none⟩ ∧ Sep NoB w w' [BoxA b 66 [.int .u64 (holdS g (bs.getD i [])).1, .slice ha hn' hc', .bool (holdS g (bs.getD i [])).2.2], RdL [⟨ha, hn', hc', (holdS g (bs.getD i [])).2.1⟩],
      RdL [⟨ra, rn, rc, (curTo g bs i).2.2⟩], BoxA b5 66 [.int .u64 (curTo g bs i).2.1, .slice ra rn rc, .bool o], BoxA b3 66 [.int .u64 0, .slice none 0 0, .bool false], BoxA b1 23 g.vs], ?_, ?_⟩
    case refine_2 =>
      refine S.reg fun D hD hkeep Sd T => ?_
      refine ⟨hD _ S.bl3, Sd.la3 rfl ⟨⟨by omega, hlt⟩, q, hq, by rw [add_block]; exact hD _ hbq, ldp0 (Sd.ext.cells hc0) (h := .sl) (x := ⟨y.a, y.n, y.c⟩) rfl ?_⟩⟩
      dsimp only
      refine ⟨?_, ?_⟩
      · refine (rHold_c (g := g) (TBB.rd_ext Sd.ext hr) hR).mono ?_
        rintro ⟨⟨(gen : Int), ⟨ha, hn', hc'⟩, (ok : Bool), ⟨⟩⟩, ⟨⟩⟩ w3 ⟨h1, h2, T3⟩
        dsimp only at h1 h2 T3 ⊢
        have h1 : gen = (holdS g (pgs y)).1 := h1
        have h2 : ok = (holdS g (pgs y)).2.2 := h2
        subst h1; subst h2
        have T := T.frame0 T3
        refine ⟨hkeep _ T.fr, T.newB fun b6 w6 T f6 _ => ⟨hkeep _ T.fr, T.st0 (by rfl) fun w7 T f7 => ⟨hkeep _ T.fr, b6, ha, hn', hc', rfl, ?_⟩⟩⟩
        rw [hpi]
        exact (Sd.frame0 T).sel [0, 0, 0, 0, 0, 0] rfl
      · refine T.newB fun b6 w6 T f6 _ => ⟨hkeep _ T.fr, ?_⟩
        refine (rHold_c (g := g) (TBB.rd_ext (Sd.ext.trans T.ext) hr) hR).mono ?_
        rintro ⟨⟨(gen : Int), ⟨ha, hn', hc'⟩, (ok : Bool), ⟨⟩⟩, ⟨⟩⟩ w3 ⟨h1, h2, T3⟩
        dsimp only at h1 h2 T3 ⊢
        have h1 : gen = (holdS g (pgs y)).1 := h1
        have h2 : ok = (holdS g (pgs y)).2.2 := h2
        subst h1; subst h2
        have T := T.frame0 T3
        refine ⟨hkeep _ T.fr, T.st1 (by rfl) fun w7 T f7 => ⟨hkeep _ T.fr, b6, ha, hn', hc', rfl, ?_⟩⟩
        rw [hpi]
        exact (Sd.frame0 T).sel [1, 0, 0, 0, 0, 0] rfl
    rintro ⟨v, ⟨⟩⟩ w3 ⟨b, ha, hn', hc', hv, S⟩
    dsimp only at hv ⊢
    subst hv
    refine PtrK.of rfl (S.ld0 (j := 2) rfl rfl ?_)
    have fin : ∀ {w' : World} {a2 : Option Addr} {n2 c2 : Nat} {o2 : Bool} {at2 : Int}, at2 = (curTo g bs (i + 1)).1 → Sep NoB w w' [RdL [⟨a2, n2, c2, (curTo g bs (i + 1)).2.2⟩], BoxA b5 66 [.int .u64 (curTo g bs (i + 1)).2.1, .slice a2 n2 c2, .bool o2], BoxA b3 66 [.int .u64 0, .slice none 0 0, .bool false], BoxA b1 23 g.vs] →
        Rng .i64 ((i : Int) + 1) ∧ (∃ (j : Nat) (ra : Option Addr) (rn rc : Nat) (o : Bool), (i : Int) + 1 = (j : Int) ∧ j ≤ x.n ∧ at2 = (curTo g bs j).1 ∧ Sep NoB w w' [RdL [⟨ra, rn, rc, (curTo g bs j).2.2⟩], BoxA b5 66 [.int .u64 (curTo g bs j).2.1, .slice ra rn rc, .bool o], BoxA b3 66 [.int .u64 0, .slice none 0 0, .bool false], BoxA b1 23 g.vs]) ∧ ((x.n : Int) - ((i : Int) + 1)).toNat < ((x.n : Int) - (i : Int)).toNat := fun {w' a2 n2 c2 o2 at2} h S =>
      ⟨Rng.i64 (by omega) (by omega), ⟨i + 1, a2, n2, c2, o2, by push_cast; rfl, by omega, h, S⟩, by omega⟩
    have st : ¬ ((holdS g (bs.getD i [])).2.2 = true ∧ ((curTo g bs i).1 < 0 ∨ (curTo g bs i).2.1 < (holdS g (bs.getD i [])).1)) → _ := fun h => fin (w' := w3) (a2 := ra) (n2 := rn) (c2 := rc) (o2 := o) (at2 := at_) (by rw [curTo_no h]; exact hat) (by rw [curTo_no h]; exact S.sel [2, 2, 2, 2] rfl)
    refine cond_of (fun hk => ?_) (fun hk => st fun h => by rw [hk] at h; exact Bool.noConfusion h.1)
    have up : ((curTo g bs i).1 < 0 ∨ (curTo g bs i).2.1 < (holdS g (bs.getD i [])).1) → LoadA w3 ⟨b, 0, none⟩ [.int .u64, .sl, .bool] fun (x17 : Int × SlV × Bool × Unit) => StoreV w3 ⟨b5, 0, none⟩ [.int .u64 x17.1, .slice x17.2.1.a x17.2.1.n x17.2.1.c, .bool x17.2.2.1] fun w18 =>
        Rng .i64 ((i : Int) + 1) ∧ (∃ (j : Nat) (ra : Option Addr) (rn rc : Nat) (o : Bool), (i : Int) + 1 = (j : Int) ∧ j ≤ x.n ∧ (i : Int) = (curTo g bs j).1 ∧ Sep NoB w w18 [RdL [⟨ra, rn, rc, (curTo g bs j).2.2⟩], BoxA b5 66 [.int .u64 (curTo g bs j).2.1, .slice ra rn rc, .bool o], BoxA b3 66 [.int .u64 0, .slice none 0 0, .bool false], BoxA b1 23 g.vs]) ∧ ((x.n : Int) - ((i : Int) + 1)).toNat < ((x.n : Int) - (i : Int)).toNat := fun h => by
      refine S.la0 rfl (S.st3 (by rfl) fun w4 S f4 => ?_)
      exact fin (a2 := ha) (n2 := hn') (c2 := hc') (by rw [curTo_yes ⟨hk, h⟩]) (by rw [curTo_yes ⟨hk, h⟩]; exact S.sel [1, 2, 2, 2] rfl)
    refine cond_d (fun ha0 => PtrK.of rfl (up (.inl (by omega)))) (fun ha0 => ?_)
    refine PtrK.of rfl (S.ld0 (j := 0) rfl rfl (S.ld3 (j := 0) rfl rfl ?_))
    exact cond_d (fun hgt => PtrK.of rfl (up (.inr hgt))) (fun hgt => st fun h => by omega)
  · have : i = bs.length := by omega
    subst this
    have hne := S.ne 1 2 (by omega) rfl rfl
    refine S.regX (fun k => k = b3) fun D hD hkeep S T => ?_
    refine ⟨hD _ S.bl1 hne, S.la1 rfl (S.st2 (by rfl) fun w4 S f4 => ⟨hkeep _ f4, S.la2 rfl ⟨hat, rfl, S.take1⟩⟩)⟩

def fewL (ps : List (List Int)) : Prop := ps.length ≤ 40 ∧ ∀ p ∈ ps, p.length ≤ 900
instance (ps : List (List Int)) : Decidable (fewL ps) := by unfold fewL; infer_instance
theorem few_c {w : World} {x : SlP (SlP Int)} {G : Nat → Prop} (hx : TBB.rd w G x) : CallV Try.prog 35 #[.slice x.a x.n x.c] w [.one .bool] fun r w' => r.1 = decide (fewL (pgs x)) ∧ w' = w := by
  apply law19_few.vc
  unfold law19_few.P
  have hl : (pgs x).length = x.n := by rw [List.length_map]; exact hx.1
  refine cond_d (fun h => ⟨(decide_eq_false fun hh => by have := hh.1; omega).symm, rfl⟩) (fun h40 => ?_)
  refine Loop1 (fun (y : Int × Unit) w' => ∃ i : Nat, y.1 = (i : Int) ∧ i ≤ x.n ∧ (∀ j, j < i → ((pgs x).getD j []).length ≤ 900) ∧ w' = w) (fun (y : Int × Unit) _ => ((x.n : Int) - y.1).toNat) ⟨0, rfl, by omega, fun j hj => by omega, rfl⟩ ?_
  rintro ⟨(z : Int), ⟨⟩⟩ w2 ⟨i, hz, hi, hall, rfl⟩
  dsimp only at hz ⊢
  subst hz
  refine cond_d (fun hlt => ?_) (fun hge => ?_)
  · obtain ⟨q, y, hq, hy, hc, hr, -, -⟩ := TBB_nth hx (Int.natCast_nonneg i) hlt
    have hpi : (pgs x).getD i [] = y.l := by rw [Int.toNat_natCast] at hy; exact getD_map hy
    have ly := (Ty.ints hr).len
    refine ⟨⟨by omega, hlt⟩, q, hq, ldp0 hc (h := .sl) (x := ⟨y.a, y.n, y.c⟩) rfl ?_⟩
    dsimp only
    refine cond_d (fun h => ⟨(decide_eq_false fun hh => ?_).symm, rfl⟩) (fun h => ?_)
    · have := hh.2 ((pgs x).getD i []) (by rw [List.getD_eq_getElem?_getD, List.getElem?_eq_getElem (by omega)]; exact List.getElem_mem _)
      rw [hpi] at this
      omega
    · refine ⟨Rng.i64 (by omega) (by omega), ⟨i + 1, by push_cast; rfl, by omega, fun j hj => ?_, rfl⟩, by omega⟩
      by_cases hji : j = i
      · subst hji; rw [hpi]; omega
      · exact hall j (by omega)
  · refine ⟨(decide_eq_true ⟨by omega, fun p hp => ?_⟩).symm, rfl⟩
    obtain ⟨j, hj, rfl⟩ := List.mem_iff_getElem.1 hp
    have := hall j (by omega)
    rwa [List.getD_eq_getElem?_getD, List.getElem?_eq_getElem hj] at this

theorem light19_c {w : World} {g : Geo} : CallV Try.prog 33 #[g.val] w [.one .bool] fun r w' => r.1 = decide (g.s ≤ 700) ∧ Ext w w' := by
  apply law19_light.vc
  unfold law19_light.P
  have S := Sep.start NoB w
  (repeat ((first | refine S.newB fun _ _ S f _ => ?_ | refine S.la0 rfl ?_ | refine S.la1 rfl ?_ | refine S.la2 rfl ?_ | refine S.la3 rfl ?_ | refine S.la4 rfl ?_ | refine S.la5 rfl ?_ | refine S.ld0 rfl rfl ?_ | refine S.ld1 rfl rfl ?_ | refine S.ld2 rfl rfl ?_ | refine S.ld3 rfl rfl ?_ | refine S.ld4 rfl rfl ?_ | refine S.ld5 rfl rfl ?_ | refine S.st0 (by rfl) fun _ S f => ?_ | refine S.st1 (by rfl) fun _ S f => ?_ | refine S.st2 (by rfl) fun _ S f => ?_ | refine S.st3 (by rfl) fun _ S f => ?_ | refine S.st4 (by rfl) fun _ S f => ?_ | refine S.st5 (by rfl) fun _ S f => ?_ | refine S.su0 (by rfl) fun _ S f => ?_ | refine S.su1 (by rfl) fun _ S f => ?_ | refine S.su2 (by rfl) fun _ S f => ?_ | refine S.su3 (by rfl) fun _ S f => ?_ | refine S.su4 (by rfl) fun _ S f => ?_ | refine S.su5 (by rfl) fun _ S f => ?_ | refine ⟨by decide, ?_⟩); try dsimp only [List.set_cons_zero, List.set_cons_succ, cond_true, cond_false, Bool.not_true, Bool.not_false]))
  exact ⟨rfl, S.ext⟩

theorem awake19_c {w : World} : CallV Try.prog 32 #[] w [.one .bool] fun r w' => r.1 = true ∧ Ext w w' := by
  apply law19_awake.vc
  unfold law19_awake.P
  have S := Sep.start NoB w
  refine S.newB fun b1 w1 S f1 _ => ?_
  refine S.st0 (by rfl) fun w2 S f2 => ?_
  refine S.reg fun D hD hkeep Sd T => ?_
  refine ⟨hD _ S.bl0, Sd.la0 rfl ⟨⟨by decide, by decide, by decide, by decide⟩, ?_⟩⟩
  refine T.newB fun b3 w3 T f3 _ => ⟨hkeep _ T.fr, ?_⟩
  have hz : (List.replicate 624 [Value.int .u8 0]).flatten = (List.replicate 624 (0 : Int)).map (Value.int .u8) := by
    rw [List.map_replicate]
    generalize 624 = k
    induction k with
    | zero => rfl
    | succ k ih => rw [List.replicate_succ, List.flatten_cons, ih, List.replicate_succ]; rfl
  rw [hz] at T
  have T := T.asOwn (sz := 1) (n := 624) (by rw [List.length_map, List.length_replicate]) (by omega) (oneAll.ints _ _)
  have hR : Right ⟨7, 10, 64, 0, 1, 1⟩ := by decide
  refine (Pages_c (g := ⟨7, 10, 64, 0, 1, 1⟩) T.in0 (Byt.replicate (by omega) (by omega) _) (by omega)).mono ?_
  rintro ⟨⟨pa, pn, pc⟩, (e4 : Int), ⟨⟩⟩ w4 ⟨x4, -, h4⟩
  obtain ⟨h4, y, hy, hl, L4⟩ := h4 ⟨hR, rfl⟩
  cases hy
  dsimp only at h4 ⊢
  subst h4
  have T := T.stepE x4
  have S := Sd.frame0 T
  refine ⟨hkeep _ T.fr, ?_⟩
  dsimp only [List.cons_append, List.nil_append] at S
  (repeat ((first | refine S.newB fun _ _ S f _ => ?_ | refine S.la0 rfl ?_ | refine S.la1 rfl ?_ | refine S.la2 rfl ?_ | refine S.la3 rfl ?_ | refine S.la4 rfl ?_ | refine S.la5 rfl ?_ | refine S.ld0 rfl rfl ?_ | refine S.ld1 rfl rfl ?_ | refine S.ld2 rfl rfl ?_ | refine S.ld3 rfl rfl ?_ | refine S.ld4 rfl rfl ?_ | refine S.ld5 rfl rfl ?_ | refine S.st0 (by rfl) fun _ S f => ?_ | refine S.st1 (by rfl) fun _ S f => ?_ | refine S.st2 (by rfl) fun _ S f => ?_ | refine S.st3 (by rfl) fun _ S f => ?_ | refine S.st4 (by rfl) fun _ S f => ?_ | refine S.st5 (by rfl) fun _ S f => ?_ | refine S.su0 (by rfl) fun _ S f => ?_ | refine S.su1 (by rfl) fun _ S f => ?_ | refine S.su2 (by rfl) fun _ S f => ?_ | refine S.su3 (by rfl) fun _ S f => ?_ | refine S.su4 (by rfl) fun _ S f => ?_ | refine S.su5 (by rfl) fun _ S f => ?_ | refine ⟨by decide, ?_⟩); try dsimp only [List.set_cons_zero, List.set_cons_succ, cond_true, cond_false, Bool.not_true, Bool.not_false]))
  refine (Current_c (g := ⟨7, 10, 64, 0, 1, 1⟩) (x := ⟨none, 0, 0, []⟩) (G := NoB) ⟨rfl, Nat.le_refl _, Nat.zero_le _, .inl ⟨rfl, rfl⟩, fun y hy => (List.not_mem_nil hy).elim⟩ (by show 0 ≤ 1000; omega)).mono ?_
  rintro ⟨(at_ : Int), (most : Int), r, ⟨⟩⟩ w5 ⟨h5, -, T5⟩
  have h5 : at_ = -1 := h5
  subst h5
  have hn : y.n = 10 := by
    have h1 := (lst_rd L4).1
    have h2 := congrArg List.length hl
    rw [List.length_map] at h2
    have h3 : (pagesL ⟨7, 10, 64, 0, 1, 1⟩ (List.replicate 624 0) 3).length = 10 := by unfold pagesL; rw [List.length_map, List.length_range]; decide
    show y.n = 10
    have h1 : y.l.length = y.n := h1
    omega
  refine cond_t rfl (cond_t (by rw [hn]; rfl) ⟨rfl, S.ext.trans T5.ext⟩)

end Go.Proofs.Ytfpkaebmiojicaa.Vc

/-! The plans of functions as plain statements, printed by wip/tools/vcgen.py; the kernel holds each to the code. -/
namespace Go.Proofs.Ytfpkaebmiojicaa.Vc
open Go Go.Eng
set_option linter.unusedVariables false

/-! ### nepenthe/nepenthelaw19.ChunkPages: function 7 -/
-- loop 0 carries 10: .one (.int .i64)
def law19_ChunkPages.A : Ann := .two .no (.two .no (.two .no (.two .no (.two .no (.two .no (.two (.two .no (.one (.loop [6, 10, 57, 58, 59, 60, 61, 62, 63, 64, 65, 66, 67, 68, 69, 70, 71, 72] [(10, .one (.int .i64))] (.two .no (.two (.one (.two (.draw (.take 0 (.take 1 (.take 2 (.take 3 (.take 4 (.take 5 (.take 6 (.take 7 (.eff 8 (.take 9 (.done)))))))))))) .no)) .no))))) .no))))))
def law19_ChunkPages.P (p0_0 : Int) (p0_1 : Int) (p0_2 : Int) (p0_3 : Int) (p0_4 : Int) (p0_5 : Int) (a1 : Option Addr) (n1 c1 : Nat) (p2 : Int) (w : World) (K : Bool × Unit → World → Prop) : Prop :=
  NewV #[.int .i64 p0_0, .int .i64 p0_1, .int .i64 p0_2, .int .i64 p0_3, .int .i64 p0_4, .int .i64 p0_5] 23 w fun b1 w2 =>
  LoadA w2 ⟨b1, 0, none⟩ [.int .i64, .int .i64, .int .i64, .int .i64, .int .i64, .int .i64] fun (x3 : Int × Int × Int × Int × Int × Int × Unit) =>
  CallV Try.prog 31 #[.agg #[.int .i64 x3.1, .int .i64 x3.2.1, .int .i64 x3.2.2.1, .int .i64 x3.2.2.2.1, .int .i64 x3.2.2.2.2.1, .int .i64 x3.2.2.2.2.2.1], .slice a1 n1 c1, .int .u64 p2] w2 [.one .sl, .one (.int .i64)] fun (r4 : SlV × Int × Unit) w5 =>
  LoadA w5 ⟨b1, 0, none⟩ [.int .i64, .int .i64, .int .i64, .int .i64, .int .i64, .int .i64] fun (x6 : Int × Int × Int × Int × Int × Int × Unit) =>
  CallV Try.prog 17 #[.agg #[.int .i64 x6.1, .int .i64 x6.2.1, .int .i64 x6.2.2.1, .int .i64 x6.2.2.2.1, .int .i64 x6.2.2.2.2.1, .int .i64 x6.2.2.2.2.2.1]] w5 [.one .bool] fun (r7 : Bool × Unit) w8 =>
  cond (!r7.1)
  (cond (r4.2.1 == 2)
  (cond (((r4.1.n : Nat) : Int) == 0)
  (CallV Try.prog 32 #[] w8 [.one .bool] fun (r9 : Bool × Unit) w10 =>
  K (r9.1, ()) w10)
  (K (false, ()) w8))
  (K (false, ()) w8))
  (cond (((n1 : Nat) : Int) != 624)
  (cond (r4.2.1 == 2)
  (cond (((r4.1.n : Nat) : Int) == 0)
  (CallV Try.prog 32 #[] w8 [.one .bool] fun (r11 : Bool × Unit) w12 =>
  K (r11.1, ()) w12)
  (K (false, ()) w8))
  (K (false, ()) w8))
  (LoadA w8 ⟨b1, 0, none⟩ [.int .i64, .int .i64, .int .i64, .int .i64, .int .i64, .int .i64] fun (x13 : Int × Int × Int × Int × Int × Int × Unit) =>
  CallV Try.prog 33 #[.agg #[.int .i64 x13.1, .int .i64 x13.2.1, .int .i64 x13.2.2.1, .int .i64 x13.2.2.2.1, .int .i64 x13.2.2.2.2.1, .int .i64 x13.2.2.2.2.2.1]] w8 [.one .bool] fun (r14 : Bool × Unit) w15 =>
  cond (!r14.1)
  (cond (r4.2.1 == 0)
  (CallV Try.prog 32 #[] w15 [.one .bool] fun (r16 : Bool × Unit) w17 =>
  K (r16.1, ()) w17)
  (K (false, ()) w15))
  (LoadA w15 ⟨b1, 0, none⟩ [.int .i64, .int .i64, .int .i64, .int .i64, .int .i64, .int .i64] fun (x18 : Int × Int × Int × Int × Int × Int × Unit) =>
  CallV Try.prog 34 #[.agg #[.int .i64 x18.1, .int .i64 x18.2.1, .int .i64 x18.2.2.1, .int .i64 x18.2.2.2.1, .int .i64 x18.2.2.2.2.1, .int .i64 x18.2.2.2.2.2.1], .slice a1 n1 c1, .int .u64 p2] w15 [.one .sl] fun (r19 : SlV × Unit) w20 =>
  cond (r4.2.1 != 0)
  (K (false, ()) w20)
  (cond (((r4.1.n : Nat) : Int) != ((r19.1.n : Nat) : Int))
  (K (false, ()) w20)
  (LoopV [.one (.int .i64)] ((0 : Int), ()) w20 fun (z21 : Int × Unit) w22 (K23 : Int × Unit → World → Prop) =>
  cond (decide (z21.1 < ((r19.1.n : Nat) : Int)))
  (DrawV fun D24 =>
  (0 ≤ z21.1 ∧ z21.1 < ((r4.1.n : Nat) : Int)) ∧ ∃ q25 : Addr, r4.1.a = some q25 ∧
  (D24 (q25.add (z21.1.toNat * 1)).block ∧ LoadS w22.drew (q25.add (z21.1.toNat * 1)) .sl fun (x26 : SlV) =>
  (0 ≤ z21.1 ∧ z21.1 < ((r19.1.n : Nat) : Int)) ∧ ∃ q27 : Addr, r19.1.a = some q27 ∧
  (D24 (q27.add (z21.1.toNat * 1)).block ∧ LoadS w22.drew (q27.add (z21.1.toNat * 1)) .sl fun (x28 : SlV) =>
  CallV Try.prog 19 #[.slice x26.a x26.n x26.c, .slice x28.a x28.n x28.c] w22.drew [.one .bool] fun (r29 : Bool × Unit) w30 =>
  KeepOn D24 w22.drew w30 ∧
  cond (!r29.1)
  (K (false, ()) w30)
  (Rng .i64 (z21.1 + 1) ∧
  K23 (z21.1 + 1, ()) w30))))
  (CallV Try.prog 32 #[] w22 [.one .bool] fun (r31 : Bool × Unit) w32 =>
  K (r31.1, ()) w32))))))
theorem law19_ChunkPages.vc (p0_0 : Int) (p0_1 : Int) (p0_2 : Int) (p0_3 : Int) (p0_4 : Int) (p0_5 : Int) (a1 : Option Addr) (n1 c1 : Nat) (p2 : Int) (w : World) (K : Bool × Unit → World → Prop) (h : law19_ChunkPages.P p0_0 p0_1 p0_2 p0_3 p0_4 p0_5 a1 n1 c1 p2 w K) : CallV Try.prog 7 #[.agg #[.int .i64 p0_0, .int .i64 p0_1, .int .i64 p0_2, .int .i64 p0_3, .int .i64 p0_4, .int .i64 p0_5], .slice a1 n1 c1, .int .u64 p2] w [.one .bool] K := by
  have e : vcFun Try.prog okf false Try.f7 law19_ChunkPages.A #[.agg #[.int .i64 p0_0, .int .i64 p0_1, .int .i64 p0_2, .int .i64 p0_3, .int .i64 p0_4, .int .i64 p0_5], .slice a1 n1 c1, .int .u64 p2] w [.one .bool] K = law19_ChunkPages.P p0_0 p0_1 p0_2 p0_3 p0_4 p0_5 a1 n1 c1 p2 w K := by kernel_rfl
  exact vcFun.calls okf_ok follows Try.func7 (e.symm ▸ h)

/-! ### nepenthe/nepenthelaw19.ChunkHolds: function 8 -/
def law19_ChunkHolds.A : Ann := .no
def law19_ChunkHolds.P (p0_0 : Int) (p0_1 : Int) (p0_2 : Int) (p0_3 : Int) (p0_4 : Int) (p0_5 : Int) (a1 : Option Addr) (n1 c1 : Nat) (w : World) (K : Bool × Unit → World → Prop) : Prop :=
  NewV #[.int .i64 p0_0, .int .i64 p0_1, .int .i64 p0_2, .int .i64 p0_3, .int .i64 p0_4, .int .i64 p0_5] 23 w fun b1 w2 =>
  CallV Try.prog 35 #[.slice a1 n1 c1] w2 [.one .bool] fun (r3 : Bool × Unit) w4 =>
  cond (!r3.1)
  (CallV Try.prog 32 #[] w4 [.one .bool] fun (r5 : Bool × Unit) w6 =>
  K (r5.1, ()) w6)
  (LoadA w4 ⟨b1, 0, none⟩ [.int .i64, .int .i64, .int .i64, .int .i64, .int .i64, .int .i64] fun (x7 : Int × Int × Int × Int × Int × Int × Unit) =>
  CallV Try.prog 36 #[.agg #[.int .i64 x7.1, .int .i64 x7.2.1, .int .i64 x7.2.2.1, .int .i64 x7.2.2.2.1, .int .i64 x7.2.2.2.2.1, .int .i64 x7.2.2.2.2.2.1], .slice a1 n1 c1] w4 [.one (.int .u64), .one .sl, .one .bool] fun (r8 : Int × SlV × Bool × Unit) w9 =>
  NewV #[.int .u64 0, .slice none 0 0, .bool false] 66 w9 fun b10 w11 =>
  StoreV w11 ⟨b10, 0, none⟩ [.int .u64 0, .slice none 0 0, .bool false] fun w12 =>
  LoadA w12 ⟨b1, 0, none⟩ [.int .i64, .int .i64, .int .i64, .int .i64, .int .i64, .int .i64] fun (x13 : Int × Int × Int × Int × Int × Int × Unit) =>
  CallV Try.prog 17 #[.agg #[.int .i64 x13.1, .int .i64 x13.2.1, .int .i64 x13.2.2.1, .int .i64 x13.2.2.2.1, .int .i64 x13.2.2.2.2.1, .int .i64 x13.2.2.2.2.2.1]] w12 [.one .bool] fun (r14 : Bool × Unit) w15 =>
  cond r14.1
  (LoadA w15 ⟨b1, 0, none⟩ [.int .i64, .int .i64, .int .i64, .int .i64, .int .i64, .int .i64] fun (x16 : Int × Int × Int × Int × Int × Int × Unit) =>
  CallV Try.prog 37 #[.agg #[.int .i64 x16.1, .int .i64 x16.2.1, .int .i64 x16.2.2.1, .int .i64 x16.2.2.2.1, .int .i64 x16.2.2.2.2.1, .int .i64 x16.2.2.2.2.2.1], .slice a1 n1 c1] w15 [.agg [.int .u64, .sl, .bool]] fun (r17 : (Int × SlV × Bool × Unit) × Unit) w18 =>
  StoreV w18 ⟨b10, 0, none⟩ [.int .u64 r17.1.1, .slice r17.1.2.1.a r17.1.2.1.n r17.1.2.1.c, .bool r17.1.2.2.1] fun w19 =>
  LoadS w19 ⟨b10, 2, none⟩ .bool fun (x20 : Bool) =>
  cond (r8.2.2.1 == x20)
  (LoadS w19 ⟨b10, 0, none⟩ (.int .u64) fun (x21 : Int) =>
  cond (r8.1 == x21)
  (LoadS w19 ⟨b10, 1, none⟩ .sl fun (x22 : SlV) =>
  CallV Try.prog 19 #[.slice r8.2.1.a r8.2.1.n r8.2.1.c, .slice x22.a x22.n x22.c] w19 [.one .bool] fun (r23 : Bool × Unit) w24 =>
  cond r23.1
  (CallV Try.prog 32 #[] w24 [.one .bool] fun (r25 : Bool × Unit) w26 =>
  K (r25.1, ()) w26)
  (K (false, ()) w24))
  (K (false, ()) w19))
  (K (false, ()) w19))
  (LoadS w15 ⟨b10, 2, none⟩ .bool fun (x27 : Bool) =>
  cond (r8.2.2.1 == x27)
  (LoadS w15 ⟨b10, 0, none⟩ (.int .u64) fun (x28 : Int) =>
  cond (r8.1 == x28)
  (LoadS w15 ⟨b10, 1, none⟩ .sl fun (x29 : SlV) =>
  CallV Try.prog 19 #[.slice r8.2.1.a r8.2.1.n r8.2.1.c, .slice x29.a x29.n x29.c] w15 [.one .bool] fun (r30 : Bool × Unit) w31 =>
  cond r30.1
  (CallV Try.prog 32 #[] w31 [.one .bool] fun (r32 : Bool × Unit) w33 =>
  K (r32.1, ()) w33)
  (K (false, ()) w31))
  (K (false, ()) w15))
  (K (false, ()) w15)))
theorem law19_ChunkHolds.vc (p0_0 : Int) (p0_1 : Int) (p0_2 : Int) (p0_3 : Int) (p0_4 : Int) (p0_5 : Int) (a1 : Option Addr) (n1 c1 : Nat) (w : World) (K : Bool × Unit → World → Prop) (h : law19_ChunkHolds.P p0_0 p0_1 p0_2 p0_3 p0_4 p0_5 a1 n1 c1 w K) : CallV Try.prog 8 #[.agg #[.int .i64 p0_0, .int .i64 p0_1, .int .i64 p0_2, .int .i64 p0_3, .int .i64 p0_4, .int .i64 p0_5], .slice a1 n1 c1] w [.one .bool] K := by
  have e : vcFun Try.prog okf false Try.f8 law19_ChunkHolds.A #[.agg #[.int .i64 p0_0, .int .i64 p0_1, .int .i64 p0_2, .int .i64 p0_3, .int .i64 p0_4, .int .i64 p0_5], .slice a1 n1 c1] w [.one .bool] K = law19_ChunkHolds.P p0_0 p0_1 p0_2 p0_3 p0_4 p0_5 a1 n1 c1 w K := by kernel_rfl
  exact vcFun.calls okf_ok follows Try.func8 (e.symm ▸ h)

/-! ### nepenthe/nepenthelaw19.ChunkCurrents: function 9 -/
-- loop 0 carries 11: .one .sl, 12: .one (.int .i64)
-- loop 1 carries 5: .one (.int .i64)
def law19_ChunkCurrents.A : Ann := .two .no (.two .no (.two (.two .no (.one (.loop [4, 5, 26, 27, 28, 29, 30, 31, 32, 33, 34, 35, 36, 37, 38] [(5, .one (.int .i64))] .no))) (.two .no (.two .no (.two .no (.two .no (.two .no (.two (.two .no (.one (.loop [11, 12, 13, 72, 73, 74, 75, 76, 77, 78, 79, 80, 81, 82, 83, 84, 85, 86, 87, 88, 89, 90, 91, 92, 93, 94, 95, 96, 97, 98, 99] [(11, .one .sl), (12, .one (.int .i64))] (.two .no (.two (.one (.join [13, 78, 79, 80, 81, 82, 83] [(13, .one .ptr)] (.draw (.take 0 (.take 1 (.take 2 (.take 3 (.take 4 (.both 5 (.eff 6 (.eff 7 (.done))) 6 (.eff 5 (.eff 7 (.done)))))))))) .no)) .no))))) .no))))))))
def law19_ChunkCurrents.P (p0_0 : Int) (p0_1 : Int) (p0_2 : Int) (p0_3 : Int) (p0_4 : Int) (p0_5 : Int) (a1 : Option Addr) (n1 c1 : Nat) (w : World) (K : Bool × Unit → World → Prop) : Prop :=
  NewV #[.int .i64 p0_0, .int .i64 p0_1, .int .i64 p0_2, .int .i64 p0_3, .int .i64 p0_4, .int .i64 p0_5] 23 w fun b1 w2 =>
  cond (decide (((n1 : Nat) : Int) > 6))
  (CallV Try.prog 32 #[] w2 [.one .bool] fun (r3 : Bool × Unit) w4 =>
  K (r3.1, ()) w4)
  (LoadA w2 ⟨b1, 0, none⟩ [.int .i64, .int .i64, .int .i64, .int .i64, .int .i64, .int .i64] fun (x5 : Int × Int × Int × Int × Int × Int × Unit) =>
  CallV Try.prog 17 #[.agg #[.int .i64 x5.1, .int .i64 x5.2.1, .int .i64 x5.2.2.1, .int .i64 x5.2.2.2.1, .int .i64 x5.2.2.2.2.1, .int .i64 x5.2.2.2.2.2.1]] w2 [.one .bool] fun (r6 : Bool × Unit) w7 =>
  cond (!r6.1)
  (CallV Try.prog 32 #[] w7 [.one .bool] fun (r8 : Bool × Unit) w9 =>
  K (r8.1, ()) w9)
  (LoopV [.one (.int .i64)] ((0 : Int), ()) w7 fun (z10 : Int × Unit) w11 (K12 : Int × Unit → World → Prop) =>
  cond (decide (z10.1 < ((n1 : Nat) : Int)))
  ((0 ≤ z10.1 ∧ z10.1 < ((n1 : Nat) : Int)) ∧ ∃ q13 : Addr, a1 = some q13 ∧
  LoadS w11 (q13.add (z10.1.toNat * 1)) .sl fun (x14 : SlV) =>
  CallV Try.prog 35 #[.slice x14.a x14.n x14.c] w11 [.one .bool] fun (r15 : Bool × Unit) w16 =>
  cond (!r15.1)
  (CallV Try.prog 32 #[] w16 [.one .bool] fun (r17 : Bool × Unit) w18 =>
  K (r17.1, ()) w18)
  (Rng .i64 (z10.1 + 1) ∧
  K12 (z10.1 + 1, ()) w16))
  (LoadA w11 ⟨b1, 0, none⟩ [.int .i64, .int .i64, .int .i64, .int .i64, .int .i64, .int .i64] fun (x19 : Int × Int × Int × Int × Int × Int × Unit) =>
  CallV Try.prog 38 #[.agg #[.int .i64 x19.1, .int .i64 x19.2.1, .int .i64 x19.2.2.1, .int .i64 x19.2.2.2.1, .int .i64 x19.2.2.2.2.1, .int .i64 x19.2.2.2.2.2.1], .slice a1 n1 c1] w11 [.one (.int .i64), .one (.int .u64), .one .sl] fun (r20 : Int × Int × SlV × Unit) w21 =>
  LoadA w21 ⟨b1, 0, none⟩ [.int .i64, .int .i64, .int .i64, .int .i64, .int .i64, .int .i64] fun (x22 : Int × Int × Int × Int × Int × Int × Unit) =>
  CallV Try.prog 39 #[.agg #[.int .i64 x22.1, .int .i64 x22.2.1, .int .i64 x22.2.2.1, .int .i64 x22.2.2.2.1, .int .i64 x22.2.2.2.2.1, .int .i64 x22.2.2.2.2.2.1], .slice a1 n1 c1] w21 [.one (.int .i64), .agg [.int .u64, .sl, .bool]] fun (r23 : Int × (Int × SlV × Bool × Unit) × Unit) w24 =>
  NewV #[.int .u64 0, .slice none 0 0, .bool false] 66 w24 fun b25 w26 =>
  StoreV w26 ⟨b25, 0, none⟩ [.int .u64 r23.2.1.1, .slice r23.2.1.2.1.a r23.2.1.2.1.n r23.2.1.2.1.c, .bool r23.2.1.2.2.1] fun w27 =>
  cond (r20.1 != r23.1)
  (K (false, ()) w27)
  (LoadS w27 ⟨b25, 0, none⟩ (.int .u64) fun (x28 : Int) =>
  cond (r20.2.1 != x28)
  (K (false, ()) w27)
  (LoadS w27 ⟨b25, 1, none⟩ .sl fun (x29 : SlV) =>
  CallV Try.prog 19 #[.slice r20.2.2.1.a r20.2.2.1.n r20.2.2.1.c, .slice x29.a x29.n x29.c] w27 [.one .bool] fun (r30 : Bool × Unit) w31 =>
  cond (!r30.1)
  (K (false, ()) w31)
  (cond (decide (r23.1 < 0))
  (CallV Try.prog 32 #[] w31 [.one .bool] fun (r32 : Bool × Unit) w33 =>
  K (r32.1, ()) w33)
  (NewV #[] 57 w31 fun b34 w35 =>
  LoopV [.one .sl, .one (.int .i64)] ((⟨(some ⟨b34, 0, none⟩), 0, 0⟩ : SlV), (0 : Int), ()) w35 fun (z36 : SlV × Int × Unit) w37 (K38 : SlV × Int × Unit → World → Prop) =>
  cond (decide (z36.2.1 < ((n1 : Nat) : Int)))
  (JoinV [.one .ptr] (fun (v40 : (Option Addr) × Unit) w41 =>
  PtrK v40.1 fun q42 =>
  LoadS w41 (q42.add 2) .bool fun (x43 : Bool) =>
  cond x43
  (PtrK v40.1 fun q44 =>
  LoadS w41 q44 (.int .u64) fun (x45 : Int) =>
  LoadS w41 ⟨b25, 0, none⟩ (.int .u64) fun (x46 : Int) =>
  cond (decide (x45 ≥ x46))
  ((0 ≤ z36.2.1 ∧ z36.2.1 < ((n1 : Nat) : Int)) ∧ ∃ q47 : Addr, a1 = some q47 ∧
  LoadS w41 (q47.add (z36.2.1.toNat * 1)) .sl fun (x48 : SlV) =>
  NewV #[.slice x48.a x48.n x48.c] 57 w41 fun b49 w50 =>
  AppS w50 (some ⟨b49, 0, none⟩) 1 1 fun ns55 =>
  AppV w50 57 1 24 z36.1.a z36.1.n z36.1.c ns55 1 fun a51 n52 c53 w54 =>
  Rng .i64 (z36.2.1 + 1) ∧
  K38 ((⟨a51, n52, c53⟩ : SlV), z36.2.1 + 1, ()) w54)
  (Rng .i64 (z36.2.1 + 1) ∧
  K38 (z36.1, z36.2.1 + 1, ()) w41))
  (Rng .i64 (z36.2.1 + 1) ∧
  K38 (z36.1, z36.2.1 + 1, ()) w41)) fun (J39 : (Option Addr) × Unit → World → Prop) =>
  DrawV fun D56 =>
  (D56 b1 ∧ LoadA w37.drew ⟨b1, 0, none⟩ [.int .i64, .int .i64, .int .i64, .int .i64, .int .i64, .int .i64] fun (x57 : Int × Int × Int × Int × Int × Int × Unit) =>
  (0 ≤ z36.2.1 ∧ z36.2.1 < ((n1 : Nat) : Int)) ∧ ∃ q58 : Addr, a1 = some q58 ∧
  (D56 (q58.add (z36.2.1.toNat * 1)).block ∧ LoadS w37.drew (q58.add (z36.2.1.toNat * 1)) .sl fun (x59 : SlV) =>
  ((CallV Try.prog 37 #[.agg #[.int .i64 x57.1, .int .i64 x57.2.1, .int .i64 x57.2.2.1, .int .i64 x57.2.2.2.1, .int .i64 x57.2.2.2.2.1, .int .i64 x57.2.2.2.2.2.1], .slice x59.a x59.n x59.c] w37.drew [.agg [.int .u64, .sl, .bool]] fun (r60 : (Int × SlV × Bool × Unit) × Unit) w61 =>
  KeepOn D56 w37.drew w61 ∧
  NewV #[.int .u64 0, .slice none 0 0, .bool false] 66 w61 fun b62 w63 =>
  KeepOn D56 w37.drew w63 ∧
  StoreV w63 ⟨b62, 0, none⟩ [.int .u64 r60.1.1, .slice r60.1.2.1.a r60.1.2.1.n r60.1.2.1.c, .bool r60.1.2.2.1] fun w64 =>
  KeepOn D56 w37.drew w64 ∧
  J39 ((some ⟨b62, 0, none⟩), ()) w64) ∧
  (NewV #[.int .u64 0, .slice none 0 0, .bool false] 66 w37.drew fun b65 w66 =>
  KeepOn D56 w37.drew w66 ∧
  CallV Try.prog 37 #[.agg #[.int .i64 x57.1, .int .i64 x57.2.1, .int .i64 x57.2.2.1, .int .i64 x57.2.2.2.1, .int .i64 x57.2.2.2.2.1, .int .i64 x57.2.2.2.2.2.1], .slice x59.a x59.n x59.c] w66 [.agg [.int .u64, .sl, .bool]] fun (r67 : (Int × SlV × Bool × Unit) × Unit) w68 =>
  KeepOn D56 w37.drew w68 ∧
  StoreV w68 ⟨b65, 0, none⟩ [.int .u64 r67.1.1, .slice r67.1.2.1.a r67.1.2.1.n r67.1.2.1.c, .bool r67.1.2.2.1] fun w69 =>
  KeepOn D56 w37.drew w69 ∧
  J39 ((some ⟨b65, 0, none⟩), ()) w69)))))
  (LoadA w37 ⟨b1, 0, none⟩ [.int .i64, .int .i64, .int .i64, .int .i64, .int .i64, .int .i64] fun (x70 : Int × Int × Int × Int × Int × Int × Unit) =>
  CallV Try.prog 38 #[.agg #[.int .i64 x70.1, .int .i64 x70.2.1, .int .i64 x70.2.2.1, .int .i64 x70.2.2.2.1, .int .i64 x70.2.2.2.2.1, .int .i64 x70.2.2.2.2.2.1], .slice z36.1.a z36.1.n z36.1.c] w37 [.one (.int .i64), .one (.int .u64), .one .sl] fun (r71 : Int × Int × SlV × Unit) w72 =>
  cond (r71.2.1 == r20.2.1)
  (CallV Try.prog 19 #[.slice r71.2.2.1.a r71.2.2.1.n r71.2.2.1.c, .slice r20.2.2.1.a r20.2.2.1.n r20.2.2.1.c] w72 [.one .bool] fun (r73 : Bool × Unit) w74 =>
  cond r73.1
  (CallV Try.prog 32 #[] w74 [.one .bool] fun (r75 : Bool × Unit) w76 =>
  K (r75.1, ()) w76)
  (K (false, ()) w74))
  (K (false, ()) w72)))))))))
theorem law19_ChunkCurrents.vc (p0_0 : Int) (p0_1 : Int) (p0_2 : Int) (p0_3 : Int) (p0_4 : Int) (p0_5 : Int) (a1 : Option Addr) (n1 c1 : Nat) (w : World) (K : Bool × Unit → World → Prop) (h : law19_ChunkCurrents.P p0_0 p0_1 p0_2 p0_3 p0_4 p0_5 a1 n1 c1 w K) : CallV Try.prog 9 #[.agg #[.int .i64 p0_0, .int .i64 p0_1, .int .i64 p0_2, .int .i64 p0_3, .int .i64 p0_4, .int .i64 p0_5], .slice a1 n1 c1] w [.one .bool] K := by
  have e : vcFun Try.prog okf false Try.f9 law19_ChunkCurrents.A #[.agg #[.int .i64 p0_0, .int .i64 p0_1, .int .i64 p0_2, .int .i64 p0_3, .int .i64 p0_4, .int .i64 p0_5], .slice a1 n1 c1] w [.one .bool] K = law19_ChunkCurrents.P p0_0 p0_1 p0_2 p0_3 p0_4 p0_5 a1 n1 c1 w K := by kernel_rfl
  exact vcFun.calls okf_ok follows Try.func9 (e.symm ▸ h)

end Go.Proofs.Ytfpkaebmiojicaa.Vc

/-! The laws ChunkPages and ChunkHolds of layer 19: each call gives true, and what it read stays. -/
namespace Go.Proofs.Ytfpkaebmiojicaa.Vc
open Go Go.Eng Go.RowKit
set_option linter.unusedVariables false
set_option linter.unusedSimpArgs false

theorem aw19 {w w' : World} (he : Ext w w') : CallV Try.prog 32 #[] w' [.one .bool] fun r w3 => r.1 = true ∧ Ext w w3 := awake19_c.mono fun r w3 ⟨h, e⟩ => ⟨h, he.trans e⟩

theorem ChunkPages_law {w : World} {g : Geo} {a : Option Addr} {n c : Nat} {gen : Int} {rec : List Int} (hx : Ints w .u8 a n c rec) (br : Byt rec) (hgen : 0 ≤ gen ∧ gen < 18446744073709551616) :
    CallV Try.prog 7 #[g.val, .slice a n c, .int .u64 gen] w [.one .bool] fun r w' => r.1 = true ∧ Ext w w' := by
  apply law19_ChunkPages.vc
  unfold law19_ChunkPages.P
  have lx := hx.len
  have S := Sep.start NoB w
  (repeat ((first | refine S.newB fun _ _ S f _ => ?_ | refine S.la0 rfl ?_ | refine S.la1 rfl ?_ | refine S.la2 rfl ?_ | refine S.la3 rfl ?_ | refine S.la4 rfl ?_ | refine S.la5 rfl ?_ | refine S.ld0 rfl rfl ?_ | refine S.ld1 rfl rfl ?_ | refine S.ld2 rfl rfl ?_ | refine S.ld3 rfl rfl ?_ | refine S.ld4 rfl rfl ?_ | refine S.ld5 rfl rfl ?_ | refine S.st0 (by rfl) fun _ S f => ?_ | refine S.st1 (by rfl) fun _ S f => ?_ | refine S.st2 (by rfl) fun _ S f => ?_ | refine S.st3 (by rfl) fun _ S f => ?_ | refine S.st4 (by rfl) fun _ S f => ?_ | refine S.st5 (by rfl) fun _ S f => ?_ | refine S.su0 (by rfl) fun _ S f => ?_ | refine S.su1 (by rfl) fun _ S f => ?_ | refine S.su2 (by rfl) fun _ S f => ?_ | refine S.su3 (by rfl) fun _ S f => ?_ | refine S.su4 (by rfl) fun _ S f => ?_ | refine S.su5 (by rfl) fun _ S f => ?_ | refine ⟨by decide, ?_⟩); try dsimp only [List.set_cons_zero, List.set_cons_succ, cond_true, cond_false, Bool.not_true, Bool.not_false]))
  refine (Pages_c (g := g) (hx.ext S.ext) br hgen).mono ?_
  rintro ⟨⟨pa, pn, pc⟩, (e2 : Int), ⟨⟩⟩ w2 ⟨x2, h2, h2'⟩
  dsimp only at h2 h2' ⊢
  have S := S.stepE x2
  (repeat ((first | refine S.newB fun _ _ S f _ => ?_ | refine S.la0 rfl ?_ | refine S.la1 rfl ?_ | refine S.la2 rfl ?_ | refine S.la3 rfl ?_ | refine S.la4 rfl ?_ | refine S.la5 rfl ?_ | refine S.ld0 rfl rfl ?_ | refine S.ld1 rfl rfl ?_ | refine S.ld2 rfl rfl ?_ | refine S.ld3 rfl rfl ?_ | refine S.ld4 rfl rfl ?_ | refine S.ld5 rfl rfl ?_ | refine S.st0 (by rfl) fun _ S f => ?_ | refine S.st1 (by rfl) fun _ S f => ?_ | refine S.st2 (by rfl) fun _ S f => ?_ | refine S.st3 (by rfl) fun _ S f => ?_ | refine S.st4 (by rfl) fun _ S f => ?_ | refine S.st5 (by rfl) fun _ S f => ?_ | refine S.su0 (by rfl) fun _ S f => ?_ | refine S.su1 (by rfl) fun _ S f => ?_ | refine S.su2 (by rfl) fun _ S f => ?_ | refine S.su3 (by rfl) fun _ S f => ?_ | refine S.su4 (by rfl) fun _ S f => ?_ | refine S.su5 (by rfl) fun _ S f => ?_ | refine ⟨by decide, ?_⟩); try dsimp only [List.set_cons_zero, List.set_cons_succ, cond_true, cond_false, Bool.not_true, Bool.not_false]))
  refine (Right_c (g := g)).mono ?_
  rintro ⟨(r4 : Bool), ⟨⟩⟩ w4 ⟨h4, x4⟩
  dsimp only at h4 ⊢
  subst h4
  have S := S.stepE x4
  by_cases hR : Right g
  case neg =>
    obtain ⟨k1, k2⟩ := h2 (fun h => hR h.1)
    cases k1
    subst k2
    exact cond_t (by rw [decide_eq_false hR]; rfl) (cond_t rfl (cond_t rfl (aw19 S.ext)))
  refine cond_f (by rw [decide_eq_true hR]; rfl) ?_
  refine cond_ne (fun hn => ?_) (fun hn => ?_)
  · obtain ⟨k1, k2⟩ := h2 (fun h => hn (by omega))
    cases k1
    subst k2
    exact cond_t rfl (cond_t rfl (aw19 S.ext))
  obtain ⟨k2, y, hy, hl, L⟩ := h2' ⟨hR, by omega⟩
  cases hy
  subst k2
  have LR := lst_rd L
  (repeat ((first | refine S.newB fun _ _ S f _ => ?_ | refine S.la0 rfl ?_ | refine S.la1 rfl ?_ | refine S.la2 rfl ?_ | refine S.la3 rfl ?_ | refine S.la4 rfl ?_ | refine S.la5 rfl ?_ | refine S.ld0 rfl rfl ?_ | refine S.ld1 rfl rfl ?_ | refine S.ld2 rfl rfl ?_ | refine S.ld3 rfl rfl ?_ | refine S.ld4 rfl rfl ?_ | refine S.ld5 rfl rfl ?_ | refine S.st0 (by rfl) fun _ S f => ?_ | refine S.st1 (by rfl) fun _ S f => ?_ | refine S.st2 (by rfl) fun _ S f => ?_ | refine S.st3 (by rfl) fun _ S f => ?_ | refine S.st4 (by rfl) fun _ S f => ?_ | refine S.st5 (by rfl) fun _ S f => ?_ | refine S.su0 (by rfl) fun _ S f => ?_ | refine S.su1 (by rfl) fun _ S f => ?_ | refine S.su2 (by rfl) fun _ S f => ?_ | refine S.su3 (by rfl) fun _ S f => ?_ | refine S.su4 (by rfl) fun _ S f => ?_ | refine S.su5 (by rfl) fun _ S f => ?_ | refine ⟨by decide, ?_⟩); try dsimp only [List.set_cons_zero, List.set_cons_succ, cond_true, cond_false, Bool.not_true, Bool.not_false]))
  refine (light19_c (g := g)).mono ?_
  rintro ⟨(r5 : Bool), ⟨⟩⟩ w5 ⟨h5, x5⟩
  dsimp only at h5 ⊢
  subst h5
  have S := S.stepE x5
  refine cond_of (fun hs => cond_t rfl (aw19 S.ext)) (fun hs => ?_)
  (repeat ((first | refine S.newB fun _ _ S f _ => ?_ | refine S.la0 rfl ?_ | refine S.la1 rfl ?_ | refine S.la2 rfl ?_ | refine S.la3 rfl ?_ | refine S.la4 rfl ?_ | refine S.la5 rfl ?_ | refine S.ld0 rfl rfl ?_ | refine S.ld1 rfl rfl ?_ | refine S.ld2 rfl rfl ?_ | refine S.ld3 rfl rfl ?_ | refine S.ld4 rfl rfl ?_ | refine S.ld5 rfl rfl ?_ | refine S.st0 (by rfl) fun _ S f => ?_ | refine S.st1 (by rfl) fun _ S f => ?_ | refine S.st2 (by rfl) fun _ S f => ?_ | refine S.st3 (by rfl) fun _ S f => ?_ | refine S.st4 (by rfl) fun _ S f => ?_ | refine S.st5 (by rfl) fun _ S f => ?_ | refine S.su0 (by rfl) fun _ S f => ?_ | refine S.su1 (by rfl) fun _ S f => ?_ | refine S.su2 (by rfl) fun _ S f => ?_ | refine S.su3 (by rfl) fun _ S f => ?_ | refine S.su4 (by rfl) fun _ S f => ?_ | refine S.su5 (by rfl) fun _ S f => ?_ | refine ⟨by decide, ?_⟩); try dsimp only [List.set_cons_zero, List.set_cons_succ, cond_true, cond_false, Bool.not_true, Bool.not_false]))
  refine (rPages_c (g := g) (hx.ext S.ext) br hgen hR (by omega)).mono ?_
  rintro ⟨_, ⟨⟩⟩ w6 ⟨z, hz, hl6, L6⟩
  dsimp only at hz ⊢
  subst hz
  have LR6 := lst_rd L6
  have S := S.stepE L6.ext
  have E : Ext w2 w6 := x4.trans (x5.trans L6.ext)
  have ln : y.l.length = y.n := LR.1
  have ln6 : z.l.length = z.n := LR6.1
  have lp : y.n = z.n := by
    have h1 := congrArg List.length hl
    have h2 := congrArg List.length hl6
    rw [List.length_map] at h1 h2
    omega
  have lim : z.n ≤ 9223372036854775807 := by have h1 : z.n ≤ maxLen := LR6.2.2.1; have h2 := maxLen_eq; omega
  dsimp only
  refine cond_f rfl (cond_ne (fun h => absurd (by omega) h) fun _ => ?_)
  refine Loop1 (fun (v : Int × Unit) w' => ∃ i : Nat, v.1 = (i : Int) ∧ i ≤ z.n ∧ Ext w6 w') (fun (v : Int × Unit) _ => ((z.n : Int) - v.1).toNat) ⟨0, rfl, by omega, Ext.refl _⟩ ?_
  rintro ⟨(v : Int), ⟨⟩⟩ w7 ⟨i, hv, hi, x7⟩
  dsimp only at hv ⊢
  subst hv
  refine cond_d (fun hlt => ?_) (fun hge => aw19 (S.ext.trans x7))
  have S7 := S.stepE x7
  obtain ⟨q1, y1, hq1, hy1, hc1, hr1, -, hb1⟩ := TBB_nth (TBB.rd_ext (E.trans x7) LR) (Int.natCast_nonneg i) (show (i : Int) < (y.n : Int) by omega)
  obtain ⟨q2, y2, hq2, hy2, hc2, hr2, -, hb2⟩ := TBB_nth (TBB.rd_ext x7 LR6) (Int.natCast_nonneg i) hlt
  have heq : y1.l = y2.l := by
    rw [Int.toNat_natCast] at hy1 hy2
    have e1 := getD_map hy1
    have e2 := getD_map hy2
    rw [hl] at e1
    rw [hl6] at e2
    exact e1.symm.trans e2
  refine S7.reg fun D hD hkeep Sd T => ?_
  refine ⟨⟨by omega, by omega⟩, q1, hq1, by rw [add_block]; exact hD _ hb1, ldp0 ((Ext.drew w7).cells hc1) (h := .sl) (x := ⟨y1.a, y1.n, y1.c⟩) rfl ?_⟩
  refine ⟨⟨by omega, hlt⟩, q2, hq2, by rw [add_block]; exact hD _ hb2, ldp0 ((Ext.drew w7).cells hc2) (h := .sl) (x := ⟨y2.a, y2.n, y2.c⟩) rfl ?_⟩
  refine (SameBytes_c ((Ty.ints hr1).ext (Ext.drew w7)) ((Ty.ints hr2).ext (Ext.drew w7))).mono ?_
  rintro ⟨(r8 : Bool), ⟨⟩⟩ w8 ⟨h8, x8⟩
  dsimp only at h8 ⊢
  exact ⟨hkeep _ (.of x8), cond_f (by rw [h8, decide_eq_true heq]; rfl) ⟨Rng.i64 (by omega) (by omega), ⟨i + 1, by push_cast; rfl, by omega, x7.trans ((Ext.drew w7).trans x8)⟩, by omega⟩⟩

theorem ChunkPages_of {w : World} {x : TGeo.T} {a : Option Addr} {n c b : Nat} {rec : List Int} {gen : Int} (g0 : TGeo.ok w x) (g1 : SlI w .u8 a n c rec b) (g2 : Rng .u64 gen) :
    CallV Try.prog 7 #[.agg (TGeo.vs x).toArray, .slice a n c, .int .u64 gen] w [.one .bool] fun r w' => r.1 = true ∧ Ext w w' := by
  rw [geoT_val]
  exact ChunkPages_law g1.ints g1.byt (rng_u64 g2)

theorem rdL_ints {E : Nat → Prop} {w0 w : World} {Rs : List Asr} (S : Sep E w0 w Rs) (i : Nat) {x : SlP Int} (hi : Rs[i]? = some (RdL [x])) : Ints w .u8 x.a x.n x.c x.l := by
  obtain ⟨F, h, _⟩ := S.get hi
  exact Ty.ints (h x (List.mem_singleton.2 rfl))

theorem ChunkHolds_law {w : World} {g : Geo} {x : SlP (SlP Int)} {G : Nat → Prop} (hx : TBB.rd w G x) : CallV Try.prog 8 #[g.val, .slice x.a x.n x.c] w [.one .bool] fun r w' => r.1 = true ∧ Ext w w' := by
  apply law19_ChunkHolds.vc
  unfold law19_ChunkHolds.P
  have S := Sep.start NoB w
  refine S.newB fun b1 w1 S f1 _ => ?_
  refine (few_c (TBB.rd_ext S.ext hx)).mono ?_
  rintro ⟨(r2 : Bool), ⟨⟩⟩ w2 ⟨h2, rfl⟩
  dsimp only at h2 ⊢
  refine cond_of (fun _ => aw19 S.ext) (fun _ => ?_)
  (repeat ((first | refine S.newB fun _ _ S f _ => ?_ | refine S.la0 rfl ?_ | refine S.la1 rfl ?_ | refine S.la2 rfl ?_ | refine S.la3 rfl ?_ | refine S.la4 rfl ?_ | refine S.la5 rfl ?_ | refine S.ld0 rfl rfl ?_ | refine S.ld1 rfl rfl ?_ | refine S.ld2 rfl rfl ?_ | refine S.ld3 rfl rfl ?_ | refine S.ld4 rfl rfl ?_ | refine S.ld5 rfl rfl ?_ | refine S.st0 (by rfl) fun _ S f => ?_ | refine S.st1 (by rfl) fun _ S f => ?_ | refine S.st2 (by rfl) fun _ S f => ?_ | refine S.st3 (by rfl) fun _ S f => ?_ | refine S.st4 (by rfl) fun _ S f => ?_ | refine S.st5 (by rfl) fun _ S f => ?_ | refine S.su0 (by rfl) fun _ S f => ?_ | refine S.su1 (by rfl) fun _ S f => ?_ | refine S.su2 (by rfl) fun _ S f => ?_ | refine S.su3 (by rfl) fun _ S f => ?_ | refine S.su4 (by rfl) fun _ S f => ?_ | refine S.su5 (by rfl) fun _ S f => ?_ | refine ⟨by decide, ?_⟩); try dsimp only [List.set_cons_zero, List.set_cons_succ, cond_true, cond_false, Bool.not_true, Bool.not_false]))
  refine (Hold_c (g := g) (TBB.rd_ext S.ext hx)).mono ?_
  rintro ⟨(gen : Int), ⟨ha, hn, hc⟩, (ok : Bool), ⟨⟩⟩ w3 ⟨h3, h3', T⟩
  dsimp only at h3 h3' T ⊢
  have S := S.frame0 T
  dsimp only [List.cons_append, List.nil_append] at S
  refine S.newB fun b10 w4 S f4 _ => ?_
  (repeat ((first | refine S.newB fun _ _ S f _ => ?_ | refine S.la0 rfl ?_ | refine S.la1 rfl ?_ | refine S.la2 rfl ?_ | refine S.la3 rfl ?_ | refine S.la4 rfl ?_ | refine S.la5 rfl ?_ | refine S.ld0 rfl rfl ?_ | refine S.ld1 rfl rfl ?_ | refine S.ld2 rfl rfl ?_ | refine S.ld3 rfl rfl ?_ | refine S.ld4 rfl rfl ?_ | refine S.ld5 rfl rfl ?_ | refine S.st0 (by rfl) fun _ S f => ?_ | refine S.st1 (by rfl) fun _ S f => ?_ | refine S.st2 (by rfl) fun _ S f => ?_ | refine S.st3 (by rfl) fun _ S f => ?_ | refine S.st4 (by rfl) fun _ S f => ?_ | refine S.st5 (by rfl) fun _ S f => ?_ | refine S.su0 (by rfl) fun _ S f => ?_ | refine S.su1 (by rfl) fun _ S f => ?_ | refine S.su2 (by rfl) fun _ S f => ?_ | refine S.su3 (by rfl) fun _ S f => ?_ | refine S.su4 (by rfl) fun _ S f => ?_ | refine S.su5 (by rfl) fun _ S f => ?_ | refine ⟨by decide, ?_⟩); try dsimp only [List.set_cons_zero, List.set_cons_succ, cond_true, cond_false, Bool.not_true, Bool.not_false]))
  refine (Right_c (g := g)).mono ?_
  rintro ⟨(r4 : Bool), ⟨⟩⟩ w4 ⟨h4, x4⟩
  dsimp only at h4 ⊢
  subst h4
  have S := S.stepE x4
  refine cond_d (fun hR => ?_) (fun hR => ?_)
  · (repeat ((first | refine S.newB fun _ _ S f _ => ?_ | refine S.la0 rfl ?_ | refine S.la1 rfl ?_ | refine S.la2 rfl ?_ | refine S.la3 rfl ?_ | refine S.la4 rfl ?_ | refine S.la5 rfl ?_ | refine S.ld0 rfl rfl ?_ | refine S.ld1 rfl rfl ?_ | refine S.ld2 rfl rfl ?_ | refine S.ld3 rfl rfl ?_ | refine S.ld4 rfl rfl ?_ | refine S.ld5 rfl rfl ?_ | refine S.st0 (by rfl) fun _ S f => ?_ | refine S.st1 (by rfl) fun _ S f => ?_ | refine S.st2 (by rfl) fun _ S f => ?_ | refine S.st3 (by rfl) fun _ S f => ?_ | refine S.st4 (by rfl) fun _ S f => ?_ | refine S.st5 (by rfl) fun _ S f => ?_ | refine S.su0 (by rfl) fun _ S f => ?_ | refine S.su1 (by rfl) fun _ S f => ?_ | refine S.su2 (by rfl) fun _ S f => ?_ | refine S.su3 (by rfl) fun _ S f => ?_ | refine S.su4 (by rfl) fun _ S f => ?_ | refine S.su5 (by rfl) fun _ S f => ?_ | refine ⟨by decide, ?_⟩); try dsimp only [List.set_cons_zero, List.set_cons_succ, cond_true, cond_false, Bool.not_true, Bool.not_false]))
    refine (rHold_c (g := g) (TBB.rd_ext S.ext hx) hR).mono ?_
    rintro ⟨⟨(gen5 : Int), ⟨ha5, hn5, hc5⟩, (ok5 : Bool), ⟨⟩⟩, ⟨⟩⟩ w5 ⟨h5, h5', T5⟩
    dsimp only at h5 h5' T5 ⊢
    have S := S.frame0 T5
    dsimp only [List.cons_append, List.nil_append] at S
    have h5 : gen5 = (holdS g (pgs x)).1 := h5
    have h5' : ok5 = (holdS g (pgs x)).2.2 := h5'
    subst h5; subst h5'
    (repeat ((first | refine S.newB fun _ _ S f _ => ?_ | refine S.la0 rfl ?_ | refine S.la1 rfl ?_ | refine S.la2 rfl ?_ | refine S.la3 rfl ?_ | refine S.la4 rfl ?_ | refine S.la5 rfl ?_ | refine S.ld0 rfl rfl ?_ | refine S.ld1 rfl rfl ?_ | refine S.ld2 rfl rfl ?_ | refine S.ld3 rfl rfl ?_ | refine S.ld4 rfl rfl ?_ | refine S.ld5 rfl rfl ?_ | refine S.st0 (by rfl) fun _ S f => ?_ | refine S.st1 (by rfl) fun _ S f => ?_ | refine S.st2 (by rfl) fun _ S f => ?_ | refine S.st3 (by rfl) fun _ S f => ?_ | refine S.st4 (by rfl) fun _ S f => ?_ | refine S.st5 (by rfl) fun _ S f => ?_ | refine S.su0 (by rfl) fun _ S f => ?_ | refine S.su1 (by rfl) fun _ S f => ?_ | refine S.su2 (by rfl) fun _ S f => ?_ | refine S.su3 (by rfl) fun _ S f => ?_ | refine S.su4 (by rfl) fun _ S f => ?_ | refine S.su5 (by rfl) fun _ S f => ?_ | refine ⟨by decide, ?_⟩); try dsimp only [List.set_cons_zero, List.set_cons_succ, cond_true, cond_false, Bool.not_true, Bool.not_false]))
    have i1 := rdL_ints S 2 rfl
    have i2 := rdL_ints S 0 rfl
    refine cond_t (by rw [h3']; simp) ?_
    (repeat ((first | refine S.newB fun _ _ S f _ => ?_ | refine S.la0 rfl ?_ | refine S.la1 rfl ?_ | refine S.la2 rfl ?_ | refine S.la3 rfl ?_ | refine S.la4 rfl ?_ | refine S.la5 rfl ?_ | refine S.ld0 rfl rfl ?_ | refine S.ld1 rfl rfl ?_ | refine S.ld2 rfl rfl ?_ | refine S.ld3 rfl rfl ?_ | refine S.ld4 rfl rfl ?_ | refine S.ld5 rfl rfl ?_ | refine S.st0 (by rfl) fun _ S f => ?_ | refine S.st1 (by rfl) fun _ S f => ?_ | refine S.st2 (by rfl) fun _ S f => ?_ | refine S.st3 (by rfl) fun _ S f => ?_ | refine S.st4 (by rfl) fun _ S f => ?_ | refine S.st5 (by rfl) fun _ S f => ?_ | refine S.su0 (by rfl) fun _ S f => ?_ | refine S.su1 (by rfl) fun _ S f => ?_ | refine S.su2 (by rfl) fun _ S f => ?_ | refine S.su3 (by rfl) fun _ S f => ?_ | refine S.su4 (by rfl) fun _ S f => ?_ | refine S.su5 (by rfl) fun _ S f => ?_ | refine ⟨by decide, ?_⟩); try dsimp only [List.set_cons_zero, List.set_cons_succ, cond_true, cond_false, Bool.not_true, Bool.not_false]))
    refine cond_t (by rw [h3]; simp) ?_
    (repeat ((first | refine S.newB fun _ _ S f _ => ?_ | refine S.la0 rfl ?_ | refine S.la1 rfl ?_ | refine S.la2 rfl ?_ | refine S.la3 rfl ?_ | refine S.la4 rfl ?_ | refine S.la5 rfl ?_ | refine S.ld0 rfl rfl ?_ | refine S.ld1 rfl rfl ?_ | refine S.ld2 rfl rfl ?_ | refine S.ld3 rfl rfl ?_ | refine S.ld4 rfl rfl ?_ | refine S.ld5 rfl rfl ?_ | refine S.st0 (by rfl) fun _ S f => ?_ | refine S.st1 (by rfl) fun _ S f => ?_ | refine S.st2 (by rfl) fun _ S f => ?_ | refine S.st3 (by rfl) fun _ S f => ?_ | refine S.st4 (by rfl) fun _ S f => ?_ | refine S.st5 (by rfl) fun _ S f => ?_ | refine S.su0 (by rfl) fun _ S f => ?_ | refine S.su1 (by rfl) fun _ S f => ?_ | refine S.su2 (by rfl) fun _ S f => ?_ | refine S.su3 (by rfl) fun _ S f => ?_ | refine S.su4 (by rfl) fun _ S f => ?_ | refine S.su5 (by rfl) fun _ S f => ?_ | refine ⟨by decide, ?_⟩); try dsimp only [List.set_cons_zero, List.set_cons_succ, cond_true, cond_false, Bool.not_true, Bool.not_false]))
    refine (SameBytes_c i1 i2).mono ?_
    rintro ⟨(r6 : Bool), ⟨⟩⟩ w6 ⟨h6, x6⟩
    dsimp only at h6 ⊢
    exact cond_t (by rw [h6]; simp) (aw19 (S.ext.trans x6))
  · have hh : holdS g (pgs x) = (0, [], false) := holdS_no fun h => hR h.1
    have h3 : gen = (holdS g (pgs x)).1 := h3
    have h3' : ok = (holdS g (pgs x)).2.2 := h3'
    rw [hh] at h3 h3'
    rw [show x.l.map (fun x => x.l) = pgs x from rfl, hh] at S
    subst h3; subst h3'
    have i1 := rdL_ints S 1 rfl
    (repeat ((first | refine S.newB fun _ _ S f _ => ?_ | refine S.la0 rfl ?_ | refine S.la1 rfl ?_ | refine S.la2 rfl ?_ | refine S.la3 rfl ?_ | refine S.la4 rfl ?_ | refine S.la5 rfl ?_ | refine S.ld0 rfl rfl ?_ | refine S.ld1 rfl rfl ?_ | refine S.ld2 rfl rfl ?_ | refine S.ld3 rfl rfl ?_ | refine S.ld4 rfl rfl ?_ | refine S.ld5 rfl rfl ?_ | refine S.st0 (by rfl) fun _ S f => ?_ | refine S.st1 (by rfl) fun _ S f => ?_ | refine S.st2 (by rfl) fun _ S f => ?_ | refine S.st3 (by rfl) fun _ S f => ?_ | refine S.st4 (by rfl) fun _ S f => ?_ | refine S.st5 (by rfl) fun _ S f => ?_ | refine S.su0 (by rfl) fun _ S f => ?_ | refine S.su1 (by rfl) fun _ S f => ?_ | refine S.su2 (by rfl) fun _ S f => ?_ | refine S.su3 (by rfl) fun _ S f => ?_ | refine S.su4 (by rfl) fun _ S f => ?_ | refine S.su5 (by rfl) fun _ S f => ?_ | refine ⟨by decide, ?_⟩); try dsimp only [List.set_cons_zero, List.set_cons_succ, cond_true, cond_false, Bool.not_true, Bool.not_false]))
    refine (SameBytes_c i1 intsNil).mono ?_
    rintro ⟨(r6 : Bool), ⟨⟩⟩ w6 ⟨h6, x6⟩
    dsimp only at h6 ⊢
    exact cond_t (by rw [h6]; simp) (aw19 (S.ext.trans x6))

theorem ChunkHolds_of {w : World} {x : TGeo.T} {a : Option Addr} {n c : Nat} {l : List (SlP Int)} (g0 : TGeo.ok w x) (g1 : TBB.ok w ⟨a, n, c, l⟩) :
    CallV Try.prog 8 #[.agg (TGeo.vs x).toArray, .slice a n c] w [.one .bool] fun r w' => r.1 = true ∧ Ext w w' := by
  rw [geoT_val]
  exact ChunkHolds_law (x := ⟨a, n, c, l⟩) (TBB.rd_of g1)

end Go.Proofs.Ytfpkaebmiojicaa.Vc

/-! Plain laws of layer 19: a block whose last page lacks its mark holds nothing, one that has it holds its record. -/
namespace Go.Proofs.Ytfpkaebmiojicaa.Vc
open Go Go.Eng Go.RowKit
set_option linter.unusedVariables false
set_option linter.unusedSimpArgs false

/-- The last page with its mark. -/
def lastM (g : Geo) (rec : List Int) (gen : Int) : List Int := payL g (chk g rec ((nCh g).toNat - 1)) ++ markL (ownH g (((nCh g).toNat - 1 : Nat) : Int) gen) []
def mkdL (g : Geo) (rec : List Int) (gen : Int) : List (List Int) := (pagesL g rec gen).set ((nCh g).toNat - 1) (lastM g rec gen)
theorem pagesL_length (g : Geo) (rec : List Int) (gen : Int) : (pagesL g rec gen).length = (nCh g).toNat := by unfold pagesL; simp
theorem pagesL_get {g : Geo} {rec : List Int} {gen : Int} {i : Nat} (hi : i < (nCh g).toNat) : (pagesL g rec gen)[i]? = some (pgOf g rec gen i) := by
  unfold pagesL
  rw [List.getElem?_map, List.getElem?_range hi]
  rfl
theorem chk_len2 {g : Geo} (h : Right g) {rec : List Int} (hr : rec.length = 624) {i : Nat} (hi : i < (nCh g).toNat) : (chk g rec i).length = 0 ∨ ((chk g rec i).length : Int) = g.s := by
  have := chk_length h hr hi
  have hs := h.sec
  omega
theorem raw_no {g : Geo} (h : Right g) {rec : List Int} (hr : rec.length = 624) {gen : Int} : ¬ holds g (pagesL g rec gen) := by
  intro hh
  have b := nCh_bd h
  have hs := h.sec
  have hN : (nCh g).toNat - 1 < (nCh g).toNat := by omega
  have := (hh.2.2 ((nCh g).toNat - 1) hN).2.2.2 (by omega)
  rw [List.getD_eq_getElem?_getD, pagesL_get hN] at this
  have this : comm (endP g (mkL g (ownH g (((nCh g).toNat - 1 : Nat) : Int) gen) (chk g rec ((nCh g).toNat - 1)) [])) = true := this
  rw [end_mk hs (chk_len2 h hr hN), endL_comm (.inl rfl)] at this
  cases this
theorem few_no {g : Geo} {ps : List (List Int)} (h : ps.length < (nCh g).toNat) : ¬ holds g ps := fun hh => by have := hh.2.1; omega
theorem mkd_get {g : Geo} {rec : List Int} {gen : Int} {i : Nat} (hi : i < (nCh g).toNat) : (mkdL g rec gen).getD i [] = if i = (nCh g).toNat - 1 then lastM g rec gen else pgOf g rec gen i := by
  unfold mkdL
  rw [List.getD_eq_getElem?_getD, List.getElem?_set]
  split
  · rename_i e
    rw [if_pos (by rw [pagesL_length]; omega), if_pos e.symm]
    rfl
  · rename_i e
    rw [if_neg (fun k => e k.symm), pagesL_get hi]
    rfl
theorem mkd_facts {g : Geo} (h : Right g) {rec : List Int} (hr : rec.length = 624) {gen : Int} (hgen : 0 ≤ gen ∧ gen < 18446744073709551616) {i : Nat} (hi : i < (nCh g).toNat) :
    lenP g ((mkdL g rec gen).getD i []) ∧ okR (endP g ((mkdL g rec gen).getD i [])) ∧ hdOf (endP g ((mkdL g rec gen).getD i [])) = ownH g i gen ∧ ((i : Int) = nCh g - 1 → comm (endP g ((mkdL g rec gen).getD i [])) = true) ∧ pays g ((mkdL g rec gen).getD i []) = chk g rec i := by
  have b := nCh_bd h
  have hs := h.sec
  have hc := chk_len2 h hr hi
  have hl := chk_length h hr hi
  have hp : payL g (chk g rec i) = chk g rec i := by unfold payL; rw [if_neg (by omega)]
  have hO := ownH_rng (g := g) (i := (i : Int)) (gen := gen)
  have hg : (ownH g (i : Int) gen).rng := ownH_rng h hgen
  have hR : HRight (ownH g (i : Int) gen) := ownH_right (by omega)
  rw [mkd_get hi]
  split
  · rename_i e
    subst e
    unfold lastM
    rw [end_mark hs hc, pays_mark hs hc]
    refine ⟨⟨h, ?_⟩, markL_ok _ hR, markL_hd _ hg _, fun _ => markL_comm _ (.inl rfl), hp⟩
    rw [List.length_append, payL_length hs hc, markL_length _ (.inl rfl)]
    omega
  · rename_i e
    unfold pgOf
    rw [end_mk hs hc, pays_mk hs hc]
    refine ⟨⟨h, ?_⟩, endL_ok _ (.inl rfl) hg hR, endL_hd _ hg _, fun k => absurd (by omega) e, hp⟩
    unfold mkL
    rw [List.length_append, payL_length hs hc, endL_length _ (.inl rfl)]
    omega
theorem mkd_holds {g : Geo} (h : Right g) {rec : List Int} (hr : rec.length = 624) {gen : Int} (hgen : 0 ≤ gen ∧ gen < 18446744073709551616) : holdS g (mkdL g rec gen) = (gen, rec, true) := by
  have b := nCh_bd h
  have hs := h.sec
  have g0 : gen0 g (mkdL g rec gen) = gen := by
    unfold gen0
    rw [(mkd_facts h hr hgen (i := 0) (by omega)).2.2.1]
    rfl
  have hh : holds g (mkdL g rec gen) := by
    refine ⟨h, by unfold mkdL; rw [List.length_set, pagesL_length]; omega, fun i hi => ?_⟩
    obtain ⟨f1, f2, f3, f4, -⟩ := mkd_facts h hr hgen hi
    exact ⟨f1, f2, by rw [g0]; exact f3, f4⟩
  rw [holdS_yes hh, g0]
  congr 2
  unfold recOf
  rw [List.map_congr_left (g := fun i => ((allR g rec).drop (i * g.s.toNat)).take g.s.toNat) (fun i hi => (mkd_facts h hr hgen (List.mem_range.1 hi)).2.2.2.2), chunks_join, ← allR_length h hr, List.take_length]
  unfold allR
  rw [List.take_append_of_le_length (by omega), List.take_of_length_le (by omega)]

end Go.Proofs.Ytfpkaebmiojicaa.Vc

/-! The plans of functions as plain statements, printed by wip/tools/vcgen.py; the kernel holds each to the code. -/
namespace Go.Proofs.Ytfpkaebmiojicaa.Vc
open Go Go.Eng
set_option linter.unusedVariables false

/-! ### nepenthe/nepenthelaw19.ChunkBack: function 10 -/
-- loop 0 carries 7: .one .sl, 8: .one (.int .i64)
def law19_ChunkBack.A : Ann := .two .no (.two .no (.two .no (.two (.two .no (.one (.loop [7, 8, 32, 33, 34, 35, 36, 37, 38, 39, 40, 41, 42, 43, 44, 45] [(7, .one .sl), (8, .one (.int .i64))] .no))) (.two .no (.two .no (.two .no (.two .no (.two (.two (.draw (.take 0 (.take 1 (.take 2 (.take 3 (.take 4 (.take 5 (.take 6 (.take 7 (.take 8 (.done))))))))))) .no) (.join [79, 80, 81, 82, 83, 84, 85, 86, 87, 88] [] (.draw (.take 0 (.take 1 (.take 2 (.take 3 (.take 4 (.take 6 (.both 5 (.eff 7 (.eff 8 (.take 9 (.eff 10 (.done))))) 7 (.eff 5 (.eff 8 (.take 9 (.eff 10 (.done))))))))))))) (.two .no (.two .no (.two (.draw (.take 0 (.take 2 (.take 3 (.take 4 (.take 6 (.take 7 (.take 8 (.take 9 (.eff 1 (.eff 5 (.eff 10 (.eff 11 (.take 12 (.take 13 (.take 14 (.take 15 (.take 16 (.take 17 (.take 18 (.done))))))))))))))))))))) .no))))))))))))
def law19_ChunkBack.P (p0_0 : Int) (p0_1 : Int) (p0_2 : Int) (p0_3 : Int) (p0_4 : Int) (p0_5 : Int) (p1 : Int) (p2 : Int) (w : World) (K : Bool × Unit → World → Prop) : Prop :=
  NewV #[.int .i64 p0_0, .int .i64 p0_1, .int .i64 p0_2, .int .i64 p0_3, .int .i64 p0_4, .int .i64 p0_5] 23 w fun b1 w2 =>
  LoadA w2 ⟨b1, 0, none⟩ [.int .i64, .int .i64, .int .i64, .int .i64, .int .i64, .int .i64] fun (x3 : Int × Int × Int × Int × Int × Int × Unit) =>
  CallV Try.prog 17 #[.agg #[.int .i64 x3.1, .int .i64 x3.2.1, .int .i64 x3.2.2.1, .int .i64 x3.2.2.2.1, .int .i64 x3.2.2.2.2.1, .int .i64 x3.2.2.2.2.2.1]] w2 [.one .bool] fun (r4 : Bool × Unit) w5 =>
  cond (!r4.1)
  (CallV Try.prog 32 #[] w5 [.one .bool] fun (r6 : Bool × Unit) w7 =>
  K (r6.1, ()) w7)
  (LoadA w5 ⟨b1, 0, none⟩ [.int .i64, .int .i64, .int .i64, .int .i64, .int .i64, .int .i64] fun (x8 : Int × Int × Int × Int × Int × Int × Unit) =>
  CallV Try.prog 33 #[.agg #[.int .i64 x8.1, .int .i64 x8.2.1, .int .i64 x8.2.2.1, .int .i64 x8.2.2.2.1, .int .i64 x8.2.2.2.2.1, .int .i64 x8.2.2.2.2.2.1]] w5 [.one .bool] fun (r9 : Bool × Unit) w10 =>
  cond (!r9.1)
  (CallV Try.prog 32 #[] w10 [.one .bool] fun (r11 : Bool × Unit) w12 =>
  K (r11.1, ()) w12)
  (NewV #[] 5 w10 fun b13 w14 =>
  LoopV [.one .sl, .one (.int .i64)] ((⟨(some ⟨b13, 0, none⟩), 0, 0⟩ : SlV), (0 : Int), ()) w14 fun (z15 : SlV × Int × Unit) w16 (K17 : SlV × Int × Unit → World → Prop) =>
  cond (decide (z15.2.1 < 624))
  (NewV #[.int .u8 (IntKind.u8.wrap ((IntKind.u8.wrap ((IntKind.u8.wrap z15.2.1) * (IntKind.u8.wrap p1))) + p2))] 5 w16 fun b18 w19 =>
  AppS w19 (some ⟨b18, 0, none⟩) 1 1 fun ns24 =>
  AppV w19 5 1 1 z15.1.a z15.1.n z15.1.c ns24 1 fun a20 n21 c22 w23 =>
  Rng .i64 (z15.2.1 + 1) ∧
  K17 ((⟨a20, n21, c22⟩ : SlV), z15.2.1 + 1, ()) w23)
  (LoadA w16 ⟨b1, 0, none⟩ [.int .i64, .int .i64, .int .i64, .int .i64, .int .i64, .int .i64] fun (x25 : Int × Int × Int × Int × Int × Int × Unit) =>
  CallV Try.prog 31 #[.agg #[.int .i64 x25.1, .int .i64 x25.2.1, .int .i64 x25.2.2.1, .int .i64 x25.2.2.2.1, .int .i64 x25.2.2.2.2.1, .int .i64 x25.2.2.2.2.2.1], .slice z15.1.a z15.1.n z15.1.c, .int .u64 p1] w16 [.one .sl, .one (.int .i64)] fun (r26 : SlV × Int × Unit) w27 =>
  cond (r26.2.1 != 0)
  (K (false, ()) w27)
  (cond (((r26.1.n : Nat) : Int) == 0)
  (K (false, ()) w27)
  (LoadA w27 ⟨b1, 0, none⟩ [.int .i64, .int .i64, .int .i64, .int .i64, .int .i64, .int .i64] fun (x28 : Int × Int × Int × Int × Int × Int × Unit) =>
  CallV Try.prog 36 #[.agg #[.int .i64 x28.1, .int .i64 x28.2.1, .int .i64 x28.2.2.1, .int .i64 x28.2.2.2.1, .int .i64 x28.2.2.2.2.1, .int .i64 x28.2.2.2.2.2.1], .slice r26.1.a r26.1.n r26.1.c] w27 [.one (.int .u64), .one .sl, .one .bool] fun (r29 : Int × SlV × Bool × Unit) w30 =>
  Rng .i64 (((r26.1.n : Nat) : Int) - 1) ∧
  DrawV fun D31 =>
  (0 ≤ (((r26.1.n : Nat) : Int) - 1) ∧ (((r26.1.n : Nat) : Int) - 1) < ((r26.1.n : Nat) : Int)) ∧ ∃ q32 : Addr, r26.1.a = some q32 ∧
  (D31 (q32.add ((((r26.1.n : Nat) : Int) - 1).toNat * 1)).block ∧ LoadS w30.drew (q32.add ((((r26.1.n : Nat) : Int) - 1).toNat * 1)) .sl fun (x33 : SlV) =>
  (D31 b1 ∧ LoadS w30.drew ⟨b1, 2, none⟩ (.int .i64) fun (x34 : Int) =>
  Rng .i64 (x34 + 88) ∧
  cond (((x33.n : Nat) : Int) != (x34 + 88))
  (K (false, ()) w30.drew)
  (JoinV [] (fun (v36 : Unit) w37 =>
  LoadA w37 ⟨b1, 0, none⟩ [.int .i64, .int .i64, .int .i64, .int .i64, .int .i64, .int .i64] fun (x38 : Int × Int × Int × Int × Int × Int × Unit) =>
  CallV Try.prog 36 #[.agg #[.int .i64 x38.1, .int .i64 x38.2.1, .int .i64 x38.2.2.1, .int .i64 x38.2.2.2.1, .int .i64 x38.2.2.2.2.1, .int .i64 x38.2.2.2.2.2.1], .slice r26.1.a r26.1.n r26.1.c] w37 [.one (.int .u64), .one .sl, .one .bool] fun (r39 : Int × SlV × Bool × Unit) w40 =>
  ((r26.1.n : Nat) : Int) ≠ (0 : Int) ∧
  DrawV fun D41 =>
  (D41 b1 ∧ LoadA w40.drew ⟨b1, 0, none⟩ [.int .i64, .int .i64, .int .i64, .int .i64, .int .i64, .int .i64] fun (x42 : Int × Int × Int × Int × Int × Int × Unit) =>
  ((0 : Int) ≤ (Int.tmod (IntKind.i64.wrap p2) ((r26.1.n : Nat) : Int)) ∧ (Int.tmod (IntKind.i64.wrap p2) ((r26.1.n : Nat) : Int)) ≤ ((r26.1.c : Nat) : Int)) ∧
  SubK r26.1.a 0 r26.1.c 1 fun a43 =>
  Rng .i64 ((Int.tmod (IntKind.i64.wrap p2) ((r26.1.n : Nat) : Int)) + 1) ∧
  ((0 : Int) ≤ ((Int.tmod (IntKind.i64.wrap p2) ((r26.1.n : Nat) : Int)) + 1) ∧ ((Int.tmod (IntKind.i64.wrap p2) ((r26.1.n : Nat) : Int)) + 1) ≤ ((r26.1.n : Nat) : Int)) ∧
  SubK r26.1.a (((Int.tmod (IntKind.i64.wrap p2) ((r26.1.n : Nat) : Int)) + 1).toNat) r26.1.c 1 fun a44 =>
  NewV #[] 28 w40.drew fun b45 w46 =>
  KeepOn D41 w40.drew w46 ∧
  AppS w46 a43 (((Int.tmod (IntKind.i64.wrap p2) ((r26.1.n : Nat) : Int)).toNat) - 0) 1 fun ns51 =>
  AppV w46 28 1 24 (some ⟨b45, 0, none⟩) 0 0 ns51 (((Int.tmod (IntKind.i64.wrap p2) ((r26.1.n : Nat) : Int)).toNat) - 0) fun a47 n48 c49 w50 =>
  KeepOn D41 w40.drew w50 ∧
  AppS w50 a44 (r26.1.n - (((Int.tmod (IntKind.i64.wrap p2) ((r26.1.n : Nat) : Int)) + 1).toNat)) 1 fun ns56 =>
  AppV w50 28 1 24 a47 n48 c49 ns56 (r26.1.n - (((Int.tmod (IntKind.i64.wrap p2) ((r26.1.n : Nat) : Int)) + 1).toNat)) fun a52 n53 c54 w55 =>
  KeepOn D41 w40.drew w55 ∧
  CallV Try.prog 36 #[.agg #[.int .i64 x42.1, .int .i64 x42.2.1, .int .i64 x42.2.2.1, .int .i64 x42.2.2.2.1, .int .i64 x42.2.2.2.2.1, .int .i64 x42.2.2.2.2.2.1], .slice a52 n53 c54] w55 [.one (.int .u64), .one .sl, .one .bool] fun (r57 : Int × SlV × Bool × Unit) w58 =>
  KeepOn D41 w40.drew w58 ∧
  cond (!r29.2.2.1)
  (cond r39.2.2.1
  (cond (r39.1 == p1)
  (CallV Try.prog 19 #[.slice r39.2.1.a r39.2.1.n r39.2.1.c, .slice z15.1.a z15.1.n z15.1.c] w58 [.one .bool] fun (r59 : Bool × Unit) w60 =>
  cond r59.1
  (cond (!r57.2.2.1)
  (CallV Try.prog 32 #[] w60 [.one .bool] fun (r61 : Bool × Unit) w62 =>
  K (r61.1, ()) w62)
  (K (false, ()) w60))
  (K (false, ()) w60))
  (K (false, ()) w58))
  (K (false, ()) w58))
  (K (false, ()) w58))) fun (J35 : Unit → World → Prop) =>
  DrawV fun D63 =>
  (0 ≤ (((r26.1.n : Nat) : Int) - 1) ∧ (((r26.1.n : Nat) : Int) - 1) < ((r26.1.n : Nat) : Int)) ∧ ∃ q64 : Addr, r26.1.a = some q64 ∧
  (D63 b1 ∧ LoadA w30.drew.drew ⟨b1, 0, none⟩ [.int .i64, .int .i64, .int .i64, .int .i64, .int .i64, .int .i64] fun (x65 : Int × Int × Int × Int × Int × Int × Unit) =>
  ((LoadS w30.drew.drew (q64.add ((((r26.1.n : Nat) : Int) - 1).toNat * 1)) .sl fun (x66 : SlV) =>
  KeepOn D63 w30.drew.drew w30.drew.drew ∧
  CallV Try.prog 20 #[.agg #[.int .i64 x65.1, .int .i64 x65.2.1, .int .i64 x65.2.2.1, .int .i64 x65.2.2.2.1, .int .i64 x65.2.2.2.2.1, .int .i64 x65.2.2.2.2.2.1]] w30.drew.drew [.one .sl] fun (r67 : SlV × Unit) w68 =>
  KeepOn D63 w30.drew.drew w68 ∧
  CallV Try.prog 30 #[.slice x66.a x66.n x66.c, .slice r67.1.a r67.1.n r67.1.c] w68 [.one .sl] fun (r69 : SlV × Unit) w70 =>
  KeepOn D63 w30.drew.drew w70 ∧
  (0 ≤ (((r26.1.n : Nat) : Int) - 1) ∧ (((r26.1.n : Nat) : Int) - 1) < ((r26.1.n : Nat) : Int)) ∧ ∃ q71 : Addr, r26.1.a = some q71 ∧
  StoreV w70 (q71.add ((((r26.1.n : Nat) : Int) - 1).toNat * 1)) [.slice r69.1.a r69.1.n r69.1.c] fun w72 =>
  KeepOn D63 w30.drew.drew w72 ∧
  J35 (()) w72) ∧
  (CallV Try.prog 20 #[.agg #[.int .i64 x65.1, .int .i64 x65.2.1, .int .i64 x65.2.2.1, .int .i64 x65.2.2.2.1, .int .i64 x65.2.2.2.2.1, .int .i64 x65.2.2.2.2.2.1]] w30.drew.drew [.one .sl] fun (r73 : SlV × Unit) w74 =>
  KeepOn D63 w30.drew.drew w74 ∧
  LoadS w74 (q64.add ((((r26.1.n : Nat) : Int) - 1).toNat * 1)) .sl fun (x75 : SlV) =>
  KeepOn D63 w30.drew.drew w74 ∧
  CallV Try.prog 30 #[.slice x75.a x75.n x75.c, .slice r73.1.a r73.1.n r73.1.c] w74 [.one .sl] fun (r76 : SlV × Unit) w77 =>
  KeepOn D63 w30.drew.drew w77 ∧
  (0 ≤ (((r26.1.n : Nat) : Int) - 1) ∧ (((r26.1.n : Nat) : Int) - 1) < ((r26.1.n : Nat) : Int)) ∧ ∃ q78 : Addr, r26.1.a = some q78 ∧
  StoreV w77 (q78.add ((((r26.1.n : Nat) : Int) - 1).toNat * 1)) [.slice r76.1.a r76.1.n r76.1.c] fun w79 =>
  KeepOn D63 w30.drew.drew w79 ∧
  J35 (()) w79)))))))))))
theorem law19_ChunkBack.vc (p0_0 : Int) (p0_1 : Int) (p0_2 : Int) (p0_3 : Int) (p0_4 : Int) (p0_5 : Int) (p1 : Int) (p2 : Int) (w : World) (K : Bool × Unit → World → Prop) (h : law19_ChunkBack.P p0_0 p0_1 p0_2 p0_3 p0_4 p0_5 p1 p2 w K) : CallV Try.prog 10 #[.agg #[.int .i64 p0_0, .int .i64 p0_1, .int .i64 p0_2, .int .i64 p0_3, .int .i64 p0_4, .int .i64 p0_5], .int .u64 p1, .int .u8 p2] w [.one .bool] K := by
  have e : vcFun Try.prog okf false Try.f10 law19_ChunkBack.A #[.agg #[.int .i64 p0_0, .int .i64 p0_1, .int .i64 p0_2, .int .i64 p0_3, .int .i64 p0_4, .int .i64 p0_5], .int .u64 p1, .int .u8 p2] w [.one .bool] K = law19_ChunkBack.P p0_0 p0_1 p0_2 p0_3 p0_4 p0_5 p1 p2 w K := by kernel_rfl
  exact vcFun.calls okf_ok follows Try.func10 (e.symm ▸ h)

end Go.Proofs.Ytfpkaebmiojicaa.Vc

/-! The law ChunkBack of layer 19: each call gives true, and what it read stays. -/
namespace Go.Proofs.Ytfpkaebmiojicaa.Vc
open Go Go.Eng Go.RowKit
set_option linter.unusedVariables false
set_option linter.unusedSimpArgs false

theorem rd_sub {w : World} {a a' : Option Addr} {n c k m l : Nat} {vs news : List Value} {e : TypeId} (ho : Own w 0 e 1 a n c vs) (hn : news = (vs.drop l).take k) (ha : a' = if m = l then a else a.map (·.add (l * 1))) (h : m = l → news = [] ∨ l = 0) : RdC w a' news := by
  rcases ho.rd with ⟨h1, h2⟩ | ⟨p, h1, h2⟩
  · refine .inl ⟨?_, by rw [hn, h2]; simp⟩
    rw [ha, h1]
    split <;> rfl
  · subst h1
    refine .inr ?_
    by_cases hm : m = l
    · rw [if_pos hm] at ha
      refine ⟨p, ha, ?_⟩
      rcases h hm with h0 | h0
      · rw [h0]; intro i v hv; cases hv
      · subst h0
        rw [hn, List.drop_zero]
        exact h2.take k
    · rw [if_neg hm] at ha
      refine ⟨p.add (l * 1), ha, ?_⟩
      rw [hn, Nat.mul_one]
      exact (h2.drop l).take k

theorem ap24 {n m : Nat} (h : n + m ≤ 100) : (2 * (n + m) + 256) * 24 ≤ 281474976710656 := by omega
theorem ap63 {n m : Nat} (h : n + m ≤ 100) : n + m ≤ 9223372036854775807 := by omega

theorem ChunkBack_law {w : World} {g : Geo} {gen cut : Int} (hgen : 0 ≤ gen ∧ gen < 18446744073709551616) (hcut : 0 ≤ cut ∧ cut < 256) :
    CallV Try.prog 10 #[g.val, .int .u64 gen, .int .u8 cut] w [.one .bool] fun r w' => r.1 = true ∧ Ext w w' := by
  apply law19_ChunkBack.vc
  unfold law19_ChunkBack.P
  have S := Sep.start NoB w
  refine S.newB fun b1 _ S _ _ => ?_
  (repeat ((first | refine S.newB fun _ _ S f _ => ?_ | refine S.la0 rfl ?_ | refine S.la1 rfl ?_ | refine S.la2 rfl ?_ | refine S.la3 rfl ?_ | refine S.la4 rfl ?_ | refine S.la5 rfl ?_ | refine S.ld0 rfl rfl ?_ | refine S.ld1 rfl rfl ?_ | refine S.ld2 rfl rfl ?_ | refine S.ld3 rfl rfl ?_ | refine S.ld4 rfl rfl ?_ | refine S.ld5 rfl rfl ?_ | refine S.st0 (by rfl) fun _ S f => ?_ | refine S.st1 (by rfl) fun _ S f => ?_ | refine S.st2 (by rfl) fun _ S f => ?_ | refine S.st3 (by rfl) fun _ S f => ?_ | refine S.st4 (by rfl) fun _ S f => ?_ | refine S.st5 (by rfl) fun _ S f => ?_ | refine S.su0 (by rfl) fun _ S f => ?_ | refine S.su1 (by rfl) fun _ S f => ?_ | refine S.su2 (by rfl) fun _ S f => ?_ | refine S.su3 (by rfl) fun _ S f => ?_ | refine S.su4 (by rfl) fun _ S f => ?_ | refine S.su5 (by rfl) fun _ S f => ?_ | refine ⟨by decide, ?_⟩); try dsimp only [List.set_cons_zero, List.set_cons_succ, cond_true, cond_false, Bool.not_true, Bool.not_false]))
  refine (Right_c (g := g)).mono ?_
  rintro ⟨(r2 : Bool), ⟨⟩⟩ w2 ⟨h2, x2⟩
  dsimp only at h2 ⊢
  subst h2
  have S := S.stepE x2
  refine cond_of (fun _ => aw19 S.ext) (fun hR => ?_)
  have hR : Right g := by simpa using hR
  (repeat ((first | refine S.newB fun _ _ S f _ => ?_ | refine S.la0 rfl ?_ | refine S.la1 rfl ?_ | refine S.la2 rfl ?_ | refine S.la3 rfl ?_ | refine S.la4 rfl ?_ | refine S.la5 rfl ?_ | refine S.ld0 rfl rfl ?_ | refine S.ld1 rfl rfl ?_ | refine S.ld2 rfl rfl ?_ | refine S.ld3 rfl rfl ?_ | refine S.ld4 rfl rfl ?_ | refine S.ld5 rfl rfl ?_ | refine S.st0 (by rfl) fun _ S f => ?_ | refine S.st1 (by rfl) fun _ S f => ?_ | refine S.st2 (by rfl) fun _ S f => ?_ | refine S.st3 (by rfl) fun _ S f => ?_ | refine S.st4 (by rfl) fun _ S f => ?_ | refine S.st5 (by rfl) fun _ S f => ?_ | refine S.su0 (by rfl) fun _ S f => ?_ | refine S.su1 (by rfl) fun _ S f => ?_ | refine S.su2 (by rfl) fun _ S f => ?_ | refine S.su3 (by rfl) fun _ S f => ?_ | refine S.su4 (by rfl) fun _ S f => ?_ | refine S.su5 (by rfl) fun _ S f => ?_ | refine ⟨by decide, ?_⟩); try dsimp only [List.set_cons_zero, List.set_cons_succ, cond_true, cond_false, Bool.not_true, Bool.not_false]))
  refine (light19_c (g := g)).mono ?_
  rintro ⟨(r5 : Bool), ⟨⟩⟩ w5 ⟨h5, x5⟩
  dsimp only at h5 ⊢
  subst h5
  have S := S.stepE x5
  refine cond_of (fun hs => aw19 S.ext) (fun hs => ?_)
  refine S.newB fun b13 w6 S f6 _ => ?_
  have S := S.asOwn (sz := 1) (n := 0) rfl (by omega) oneAll.nil
  generalize hM : (624 : Int) = M
  refine Loop1 (fun (v : SlV × Int × Unit) w' => ∃ (i : Nat) (xs : List Int), v.2.1 = (i : Int) ∧ i ≤ 624 ∧ xs.length = i ∧ Byt xs ∧ v.1.n = i ∧ Sep NoB w w' [OwnA 5 1 v.1.a v.1.n v.1.c (xs.map (Value.int .u8)), BoxA b1 23 g.vs])
    (fun (v : SlV × Int × Unit) _ => (M - v.2.1).toNat) ⟨0, [], rfl, by omega, rfl, Byt.nil, rfl, S⟩ ?_
  rintro ⟨⟨ra, rn, rc⟩, (z : Int), ⟨⟩⟩ w7 ⟨i, rec, hz, hi, hl, br, hn, S⟩
  dsimp only at hz hn S ⊢
  subst hz
  refine cond_d (fun hlt => ?_) (fun hge => ?_)
  · refine S.newB fun b18 w8 S f8 _ => ?_
    refine AppS.of (news := [.int .u8 (IntKind.u8.wrap (IntKind.u8.wrap (IntKind.u8.wrap (i : Int) * IntKind.u8.wrap gen) + cut))]) rfl (.inr ⟨_, rfl, S.cells 0 rfl⟩) ?_
    refine S.ap1 (by rfl) (fun u hu => by rw [List.mem_singleton.1 hu]; rfl) (by omega) (by omega) fun a20 c22 w23 S f20 => ?_
    refine ⟨Rng.i64 (by omega) (by omega), ⟨i + 1, rec ++ [IntKind.u8.wrap (IntKind.u8.wrap (IntKind.u8.wrap (i : Int) * IntKind.u8.wrap gen) + cut)], by push_cast; rfl, by omega, by rw [List.length_append, hl]; rfl, ?_, by show rn + 1 = _; omega, by rw [List.map_append]; exact S.tail⟩, by omega⟩
    refine br.append fun y hy => ?_
    rw [List.mem_singleton.1 hy, u8_wrap]
    omega
  have hi : i = 624 := by omega
  clear hM
  subst hi
  (repeat ((first | refine S.newB fun _ _ S f _ => ?_ | refine S.la0 rfl ?_ | refine S.la1 rfl ?_ | refine S.la2 rfl ?_ | refine S.la3 rfl ?_ | refine S.la4 rfl ?_ | refine S.la5 rfl ?_ | refine S.ld0 rfl rfl ?_ | refine S.ld1 rfl rfl ?_ | refine S.ld2 rfl rfl ?_ | refine S.ld3 rfl rfl ?_ | refine S.ld4 rfl rfl ?_ | refine S.ld5 rfl rfl ?_ | refine S.st0 (by rfl) fun _ S f => ?_ | refine S.st1 (by rfl) fun _ S f => ?_ | refine S.st2 (by rfl) fun _ S f => ?_ | refine S.st3 (by rfl) fun _ S f => ?_ | refine S.st4 (by rfl) fun _ S f => ?_ | refine S.st5 (by rfl) fun _ S f => ?_ | refine S.su0 (by rfl) fun _ S f => ?_ | refine S.su1 (by rfl) fun _ S f => ?_ | refine S.su2 (by rfl) fun _ S f => ?_ | refine S.su3 (by rfl) fun _ S f => ?_ | refine S.su4 (by rfl) fun _ S f => ?_ | refine S.su5 (by rfl) fun _ S f => ?_ | refine ⟨by decide, ?_⟩); try dsimp only [List.set_cons_zero, List.set_cons_succ, cond_true, cond_false, Bool.not_true, Bool.not_false]))
  refine (Pages_c (g := g) S.in0 br hgen).mono ?_
  rintro ⟨⟨pa, pn, pc⟩, (e2 : Int), ⟨⟩⟩ w8 ⟨x8, h8, h8'⟩
  clear h8
  obtain ⟨k2, y, hy, hyl, L⟩ := h8' ⟨hR, by omega⟩
  dsimp only at k2 hy ⊢
  cases hy
  subst k2
  obtain ⟨ya, yn, yc, yl⟩ := y
  dsimp only at hyl L ⊢
  have S := S.frame0 L
  dsimp only [List.cons_append, List.nil_append] at S
  have LR := lst_rd L
  have ln : yl.length = yn := LR.1
  have bN := nCh_bd hR
  have hs := hR.sec
  have lN : yn = (nCh g).toNat := by
    have h1 := congrArg List.length hyl
    rw [List.length_map, pagesL_length] at h1
    omega
  refine cond_f rfl (cond_eq (fun h => absurd h (by omega)) fun _ => ?_)
  (repeat ((first | refine S.newB fun _ _ S f _ => ?_ | refine S.la0 rfl ?_ | refine S.la1 rfl ?_ | refine S.la2 rfl ?_ | refine S.la3 rfl ?_ | refine S.la4 rfl ?_ | refine S.la5 rfl ?_ | refine S.ld0 rfl rfl ?_ | refine S.ld1 rfl rfl ?_ | refine S.ld2 rfl rfl ?_ | refine S.ld3 rfl rfl ?_ | refine S.ld4 rfl rfl ?_ | refine S.ld5 rfl rfl ?_ | refine S.st0 (by rfl) fun _ S f => ?_ | refine S.st1 (by rfl) fun _ S f => ?_ | refine S.st2 (by rfl) fun _ S f => ?_ | refine S.st3 (by rfl) fun _ S f => ?_ | refine S.st4 (by rfl) fun _ S f => ?_ | refine S.st5 (by rfl) fun _ S f => ?_ | refine S.su0 (by rfl) fun _ S f => ?_ | refine S.su1 (by rfl) fun _ S f => ?_ | refine S.su2 (by rfl) fun _ S f => ?_ | refine S.su3 (by rfl) fun _ S f => ?_ | refine S.su4 (by rfl) fun _ S f => ?_ | refine S.su5 (by rfl) fun _ S f => ?_ | refine ⟨by decide, ?_⟩); try dsimp only [List.set_cons_zero, List.set_cons_succ, cond_true, cond_false, Bool.not_true, Bool.not_false]))
  refine (Hold_c (g := g) LR).mono ?_
  rintro ⟨(gen9 : Int), ⟨ha9, hn9, hc9⟩, (early : Bool), ⟨⟩⟩ w9 ⟨-, h9, T9⟩
  have h9 : early = (holdS g (yl.map (·.l))).2.2 := h9
  rw [hyl, holdS_no (raw_no hR hl)] at h9
  dsimp only at h9 T9 ⊢
  subst h9
  have S := (S.frame0 T9).sel [1, 1, 1, 1] rfl
  have hN1 : (nCh g).toNat - 1 < (nCh g).toNat := by omega
  have eN : ((yn : Int) - 1).toNat = (nCh g).toNat - 1 := by omega
  refine ⟨Rng.i64 (by omega) (by omega), ?_⟩
  refine S.reg fun D hD hkeep Sd T => ?_
  have Rd9 : TBB.rd w9.drew All ⟨ya, yn, yc, yl⟩ := lst_rd Sd
  obtain ⟨q, p, hq, hp, hc, hr, -, hb⟩ := TBB_nth Rd9 (i := (yn : Int) - 1) (by omega) (by show (yn : Int) - 1 < (yn : Int); omega)
  have hpl : p.l = pgOf g rec gen ((nCh g).toNat - 1) := by
    have h1 : (yl.map (·.l))[(nCh g).toNat - 1]? = some p.l := by rw [List.getElem?_map, ← eN, hp]; rfl
    rw [hyl, pagesL_get hN1] at h1
    exact (Option.some.inj h1).symm
  have hq : ya = some q := hq
  have ip := Ty.ints hr
  have lp := ip.len
  rw [hpl] at ip lp
  have hc2 := chk_len2 hR hl hN1
  have lpg : (pgOf g rec gen ((nCh g).toNat - 1)).length = g.s.toNat + 88 := by
    unfold pgOf mkL
    rw [List.length_append, payL_length hs hc2, endL_length _ (.inl rfl)]
  rw [lpg] at lp
  refine ⟨⟨by omega, by omega⟩, q, hq, by rw [add_block]; exact hD _ hb, ldp0 hc (h := .sl) (x := ⟨p.a, p.n, p.c⟩) rfl ?_⟩
  refine ⟨hD _ S.bl3, Sd.ld3 rfl rfl ⟨Rng.i64 (by omega) (by omega), ?_⟩⟩
  refine cond_ne (fun hne => absurd (by dsimp only; omega) hne) (fun heq => ?_)
  clear heq
  refine ⟨fun (_ : Unit) w' => ∃ L' : List (SlP Int), L'.map (·.l) = mkdL g rec gen ∧ Sep NoB w w' [OwnA 28 1 ya yn yc (L'.map slV), RdL L', OwnA 5 1 ra rn rc (rec.map (Value.int .u8)), BoxA b1 23 g.vs], ?_, ?_⟩
  case refine_2 =>
    have S := Sd
    refine S.regX (fun k => ∃ q : Addr, ya = some q ∧ k = q.block) fun D hD hkeep Sd T => ?_
    have hb1 : D b1 := hD _ S.bl3 (fun ⟨q, hq, he⟩ => by
      have S2 := Sd.sel [0, 2] rfl
      obtain ⟨F, ⟨F1, F2, h1, ⟨F3, F4, h2, _, _, h7, _⟩, h4, h5, h6⟩, _⟩ := S2.ex
      exact h4 _ (h1.2 q hq) (h7 _ (by rw [← he]; exact h2.1)))
    refine ⟨⟨by omega, by omega⟩, q, hq, hb1, Sd.la3 rfl ?_⟩
    dsimp only
    have hO : HRight (ownH g (((nCh g).toNat - 1 : Nat) : Int) gen) := ownH_right (by omega)
    have hA : andL (pgOf g rec gen ((nCh g).toNat - 1)) (comL g) = lastM g rec gen := and_mk hs hc2 hO (chk_byt br _) Byt.nil (.inl rfl)
    have bA : Byt (lastM g rec gen) := by rw [← hA]; exact andL_byt _ _
    have lc : (comL g).length = g.s.toNat + 88 := by unfold comL; rw [List.length_append, List.length_replicate, List.length_replicate]; omega
    have ip : Ints w9.drew.drew .u8 p.a p.n p.c _ := ip.ext (Ext.drew _)
    have fin : ∀ {w' : World} {s : SlV} {Rs : List Asr}, Sep NoB w9.drew.drew w' (OwnA 5 1 s.a s.n s.c ((lastM g rec gen).map (Value.int .u8)) :: Rs) →
        ((0 : Int) ≤ (yn : Int) - 1 ∧ (yn : Int) - 1 < (yn : Int)) ∧ ∃ q71 : Addr, ya = some q71 ∧ StoreV w' (q71.add (((yn : Int) - 1).toNat * 1)) [.slice s.a s.n s.c] fun w72 => KeepOn D w9.drew.drew w72 ∧
          ∃ L' : List (SlP Int), L'.map (·.l) = mkdL g rec gen ∧ Sep NoB w w72 [OwnA 28 1 ya yn yc (L'.map slV), RdL L', OwnA 5 1 ra rn rc (rec.map (Value.int .u8)), BoxA b1 23 g.vs] := by
      intro w' s Rs T
      have T := T.take1
      have S := Sd.frame0 T
      dsimp only [List.cons_append, List.nil_append] at S
      refine S.pu1 (by omega) (by omega) rfl fun w10 S f10 => ⟨hkeep _ (T.fr.any.trans f10), ?_⟩
      refine ⟨yl.set ((nCh g).toNat - 1) ⟨s.a, s.n, s.c, lastM g rec gen⟩, ?_, ?_⟩
      · rw [List.map_set, hyl]; rfl
      · have S := (S.sel [0, 1, 0, 0, 0] rfl).addL bA
        rw [eN, show (yl.map slV).set ((nCh g).toNat - 1) (.slice s.a s.n s.c) = (yl.set ((nCh g).toNat - 1) ⟨s.a, s.n, s.c, lastM g rec gen⟩).map slV by rw [List.map_set]] at S
        refine Sep.sel (S.conv (R' := RdL (yl.set ((nCh g).toNat - 1) ⟨s.a, s.n, s.c, lastM g rec gen⟩)) fun F h _ x hx => ?_) [1, 0, 0, 0] rfl
        rcases List.mem_or_eq_of_mem_set hx with h1 | h1
        · exact h x (List.mem_append_left _ h1)
        · exact h x (List.mem_append_right _ (by rw [h1]; exact List.mem_singleton.2 rfl))
    refine ⟨?_, ?_⟩
    · refine ldp0 (cells_same (by rw [add_block]; rfl) hc) (h := .sl) (x := ⟨p.a, p.n, p.c⟩) rfl ⟨hkeep _ T.fr.any, ?_⟩
      refine (rCommit15_c (g := g) hR).mono ?_
      rintro ⟨⟨ca, cn, cc⟩, ⟨⟩⟩ w10 h10
      dsimp only at h10 ⊢
      have T := T.res h10
      dsimp only at T
      refine ⟨hkeep _ T.fr.any, ?_⟩
      have ic := T.in0
      have lic := ic.len
      refine (And_c (ip.ext T.ext) ic (by omega) (by omega)).mono ?_
      rintro ⟨⟨xa, xn, xc⟩, ⟨⟩⟩ w11 h11
      rw [hA] at h11
      dsimp only at h11 ⊢
      have T := T.res h11
      dsimp only at T
      exact ⟨hkeep _ T.fr.any, fin (s := ⟨xa, xn, xc⟩) T⟩
    · refine (rCommit15_c (g := g) hR).mono ?_
      rintro ⟨⟨ca, cn, cc⟩, ⟨⟩⟩ w10 h10
      dsimp only at h10 ⊢
      have T := T.res h10
      dsimp only at T
      refine ⟨hkeep _ T.fr.any, ?_⟩
      refine ldp0 (((Ext.drew w9.drew).trans T.ext).cells hc) (h := .sl) (x := ⟨p.a, p.n, p.c⟩) rfl ⟨hkeep _ T.fr.any, ?_⟩
      have ic := T.in0
      have lic := ic.len
      refine (And_c (ip.ext T.ext) ic (by omega) (by omega)).mono ?_
      rintro ⟨⟨xa, xn, xc⟩, ⟨⟩⟩ w11 h11
      rw [hA] at h11
      dsimp only at h11 ⊢
      have T := T.res h11
      dsimp only at T
      exact ⟨hkeep _ T.fr.any, fin (s := ⟨xa, xn, xc⟩) T⟩
  rintro ⟨⟩ w10 ⟨L', hL', S⟩
  clear hkeep hD T Sd D Rd9 hc hr hb
  (repeat ((first | refine S.newB fun _ _ S f _ => ?_ | refine S.la0 rfl ?_ | refine S.la1 rfl ?_ | refine S.la2 rfl ?_ | refine S.la3 rfl ?_ | refine S.la4 rfl ?_ | refine S.la5 rfl ?_ | refine S.ld0 rfl rfl ?_ | refine S.ld1 rfl rfl ?_ | refine S.ld2 rfl rfl ?_ | refine S.ld3 rfl rfl ?_ | refine S.ld4 rfl rfl ?_ | refine S.ld5 rfl rfl ?_ | refine S.st0 (by rfl) fun _ S f => ?_ | refine S.st1 (by rfl) fun _ S f => ?_ | refine S.st2 (by rfl) fun _ S f => ?_ | refine S.st3 (by rfl) fun _ S f => ?_ | refine S.st4 (by rfl) fun _ S f => ?_ | refine S.st5 (by rfl) fun _ S f => ?_ | refine S.su0 (by rfl) fun _ S f => ?_ | refine S.su1 (by rfl) fun _ S f => ?_ | refine S.su2 (by rfl) fun _ S f => ?_ | refine S.su3 (by rfl) fun _ S f => ?_ | refine S.su4 (by rfl) fun _ S f => ?_ | refine S.su5 (by rfl) fun _ S f => ?_ | refine ⟨by decide, ?_⟩); try dsimp only [List.set_cons_zero, List.set_cons_succ, cond_true, cond_false, Bool.not_true, Bool.not_false]))
  refine (Hold_c (g := g) (lst_rd S)).mono ?_
  rintro ⟨(gen11 : Int), ⟨ha, hn', hc'⟩, (ok : Bool), ⟨⟩⟩ w11 ⟨h11, h11', T11⟩
  have h11 : gen11 = (holdS g (L'.map (·.l))).1 := h11
  have h11' : ok = (holdS g (L'.map (·.l))).2.2 := h11'
  have T11 : Sep NoB w10 w11 [RdL [⟨ha, hn', hc', (holdS g (L'.map (·.l))).2.1⟩]] := T11
  rw [hL', mkd_holds hR hl hgen] at h11 h11' T11
  dsimp only at h11 h11' T11 ⊢
  subst h11; subst h11'
  have S := S.frame0 T11
  dsimp only [List.cons_append, List.nil_append] at S
  have lL' : L'.length = yn := by have := (S.own 1 rfl).len; simpa using this
  obtain ⟨k, hk, hkN⟩ : ∃ k : Nat, Int.tmod (IntKind.i64.wrap cut) (yn : Int) = (k : Int) ∧ k < yn := by
    have h1 := Int.emod_nonneg cut (show (yn : Int) ≠ 0 by omega)
    have h2 := Int.emod_lt_of_pos cut (show (0 : Int) < (yn : Int) by omega)
    refine ⟨(cut % (yn : Int)).toNat, ?_, by omega⟩
    rw [i64_id (by omega) (by omega), Int.tmod_eq_emod_of_nonneg hcut.1]
    omega
  have e1 : ((k : Int) + 1).toNat = k + 1 := by omega
  simp only [hk, e1, Int.toNat_natCast, Nat.sub_zero]
  refine ⟨by omega, ?_⟩
  have hk1 : 0 + k ≤ 100 := by omega
  have hk2 : 0 + k + (yn - (k + 1)) ≤ 100 := by omega
  have ycap := (S.own 1 rfl).cap
  refine S.reg fun D hD hkeep Sd T => ?_
  refine ⟨hD _ S.bl4, Sd.la4 rfl ⟨⟨by omega, by omega⟩, ?_⟩⟩
  intro a43 ha43
  refine ⟨Rng.i64 (by omega) (by omega), ⟨by omega, by omega⟩, ?_⟩
  intro a44 ha44
  dsimp only
  have ho := Sd.own 1 rfl
  refine T.newB fun b45 w12 T f12 _ => ⟨hkeep _ T.fr, ?_⟩
  have T := T.asOwn (sz := 1) (n := 0) rfl (by omega) oneAll.nil
  have one1 : ∀ {l : List (SlP Int)}, oneAll (l.map slV) := fun u hu => by obtain ⟨v, -, rfl⟩ := List.mem_map.1 hu; rfl
  refine AppS.of (news := (L'.take k).map slV) (by rw [List.length_map, List.length_take]; omega) (rd_sub (ho.ext T.ext) (l := 0) (k := k) (by rw [List.drop_zero, List.map_take]) ha43 fun _ => .inr rfl) ?_
  refine T.ap0 (by rw [List.length_map, List.length_take]; omega) one1 (ap24 hk1) (ap63 hk1) fun a47 c49 w13 T f13 => ⟨hkeep _ T.fr, ?_⟩
  refine AppS.of (news := (L'.drop (k + 1)).map slV) (by rw [List.length_map, List.length_drop]; omega) (rd_sub (ho.ext T.ext) (l := k + 1) (k := yn) (by rw [List.map_drop, List.take_of_length_le (by rw [List.length_drop, List.length_map]; omega)]) ha44 fun hm => .inl (by rw [List.drop_eq_nil_of_le (by omega)]; rfl)) ?_
  refine T.ap0 (by rw [List.length_map, List.length_drop]; omega) one1 (ap24 hk2) (ap63 hk2) fun a52 c54 w14 T f14 => ⟨hkeep _ T.fr, ?_⟩
  have Z := T.fr
  have S := Sd.frame0 T
  dsimp only [List.cons_append, List.nil_append] at S
  rw [← List.map_append] at S
  have S := (S.sel [3, 0, 0, 1, 1] rfl).conv (R' := RdL (L'.take k ++ L'.drop (k + 1))) fun F h _ x hx => by
    rcases List.mem_append.1 hx with h1 | h1
    · exact h x (List.mem_of_mem_take h1)
    · exact h x (List.mem_of_mem_drop h1)
  have S := S.sel [1, 0, 0, 0, 0] rfl
  refine (Hold_c (g := g) (lst_rd S)).mono ?_
  rintro ⟨(gen15 : Int), ⟨ha5, hn5, hc5⟩, (less : Bool), ⟨⟩⟩ w15 ⟨-, h15, T15⟩
  have h15 : less = (holdS g ((L'.take k ++ L'.drop (k + 1)).map (·.l))).2.2 := h15
  rw [holdS_no (few_no (by rw [List.length_map, List.length_append, List.length_take, List.length_drop]; omega))] at h15
  dsimp only at h15 T15 ⊢
  subst h15
  have S := (S.frame0 T15).sel [1, 1, 1, 1, 1] rfl
  refine ⟨hkeep _ (Z.trans T15.fr), ?_⟩
  refine cond_t rfl (cond_t rfl (cond_t (by simp) ?_))
  refine (SameBytes_c (rdL_ints S 2 rfl) (S.ints 3 rfl)).mono ?_
  rintro ⟨(r16 : Bool), ⟨⟩⟩ w16 ⟨h16, x16⟩
  dsimp only at h16 ⊢
  exact cond_t (by rw [h16]; simp [hL', mkd_holds hR hl hgen]) (cond_t rfl (aw19 (S.ext.trans x16)))

theorem ChunkBack_of {w : World} {x : TGeo.T} {gen cut : Int} (g0 : TGeo.ok w x) (g1 : Rng .u64 gen) (g2 : Rng .u8 cut) :
    CallV Try.prog 10 #[.agg (TGeo.vs x).toArray, .int .u64 gen, .int .u8 cut] w [.one .bool] fun r w' => r.1 = true ∧ Ext w w' := by
  rw [geoT_val]
  exact ChunkBack_law (rng_u64 g1) (rng_u8 g2)

end Go.Proofs.Ytfpkaebmiojicaa.Vc
