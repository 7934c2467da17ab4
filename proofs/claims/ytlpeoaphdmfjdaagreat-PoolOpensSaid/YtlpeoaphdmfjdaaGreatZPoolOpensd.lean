/- Texts in one: The contracts of layer 13: the document's array, its blocks. The contracts of layer 13: the document's array, bytes cut into pages, blank blocks. The contracts of layer 13: the document's array, new, and all its bytes. The contracts of layer 13: the document's array, a block erased, or scrubbed. The contracts of layer 13: the document's array, a block scrubbed. The contracts of layer 13: the document's array, a page programmed. The contracts of layer 13: the document's array, a byte changed. The plans of functions as plain statements, printed by wip/tools/vcgen.py; the kernel holds each to the code. The contracts of layer 21 (ledger): the blocks' changes. The plans of functions as plain statements, printed by wip/tools/vcgen.py; the kernel holds each to the code. The contracts of layer 21 (ledger): its changes. The contracts of layer 21 (ledger): a step, and new ones. Plain laws of layer 21 (ledger): the least one, found upwards and downwards. The contracts of layer 21 (ledger): new ones, and what a ledger tells. Calls and open orders that own the first parts. An array, and a ledger, as parts of which only the data is told. The plans of functions as plain statements, printed by wip/tools/vcgen.py; the kernel holds each to the code. The contracts of layer 14 (head): a head's bytes. The law HeadBytes of layer 14: each call gives true, and what it read stays. The contracts of layer 14 (head): an end's bytes, and is it committed. Plain laws for layer 14 (head): numbers of bytes, back as bytes. The contracts of layer 14 (head): what an end tells. The contract of head.Read. Heads are the same where all their numbers are. The law HeadEnds of layer 14: each call gives true, and what it read stays. -/
import Derived.Test.YtlpeoaphdmfjdaaGreatZPoolOpensc

set_option linter.unusedVariables false
set_option linter.unusedSimpArgs false
/-! The contracts of layer 13: the document's array, its blocks. -/
namespace Go.Proofs.YtlpeoaphdmfjdaaGreat.Vc
open Go Go.Eng Go.RowKit
theorem vs_one_ty : ∀ (t : Ty) (x : t.T), oneAll (t.vs x)
  | .int k, x => fun u hu => by rw [List.mem_singleton.1 hu]; rfl
  | .bool, x => fun u hu => by rw [List.mem_singleton.1 hu]; rfl
  | .str, x => fun u hu => by rw [List.mem_singleton.1 hu]; rfl
  | .sl e, x => fun u hu => by rw [List.mem_singleton.1 hu]; rfl
  | .nil, x => fun u hu => (List.not_mem_nil hu).elim
  | .cons a r, x => fun u hu => (List.mem_append.1 hu).elim (vs_one_ty a x.1 u) (vs_one_ty r x.2 u)
theorem own_rdF {w : World} {F G : Nat → Prop} {t : Ty} {e : TypeId} {a : Option Addr} {n c : Nat} {L : List t.T} (ho : (OwnA e t.n a n c (L.flatMap t.vs)).p w F) (hp : 0 < t.n) (hF : ∀ k, F k → G k) (h : ∀ y ∈ L, t.rd w G y) : (Ty.sl t).rd w G ⟨a, n, c, L⟩ := by
  have hm := maxLen_eq
  obtain ⟨ho, hq⟩ := ho
  refine ⟨?_, ho.cap, by have := ho.lim; show n ≤ maxLen; omega, ?_, h⟩
  · have := ho.len
    rw [flatF_len (f := t.vs) (m := t.n) t.vs_length] at this
    exact Nat.eq_of_mul_eq_mul_right hp this
  · rcases ho.rd with h | ⟨p, h1, h2⟩
    · exact .inl h
    · exact .inr ⟨p, h1, h2, fun _ => hF _ (hq p h1)⟩
theorem with_c {w : World} {B : SlP TBd.T} {f : SlP TF.T} {C : CD} {G : Nat → Prop} {n : Int} {x : TBd.T} (hB : (Ty.sl TBd).rd w G B) (hl : B.n ≤ 1000) (ho : C.ops ≤ 1000000) (hx : TBd.rd w G x) (hn : 0 ≤ n ∧ n < (B.n : Int)) :
    CallV Tryz.prog 133 #[chVal B f C, .int .i64 n, bdVal x] w [.agg [.int .i64, .int .i64, .int .i64, .int .i64, .int .i64, .int .i64, .sl, .sl, .bool, .int .i64]] fun r w' =>
      ∃ B' : SlP TBd.T, r.1 = chT B' f { C with ops := C.ops + 1 } ∧ (Ty.sl TBd).rd w' (fun k => G k ∨ w.heap.size ≤ k) B' ∧ B'.l = B.l.set n.toNat x ∧ Ext w w' := by
  apply ref13_with.vc
  unfold ref13_with.P
  have S := Sep.start NoB w
  refine S.newB fun b1 w1 S f1 _ => ?_
  refine S.newB fun b3 w3 S f3 _ => ?_
  refine S.newB fun b5 w5 S f5 _ => ?_
  refine S.newB fun b7 w7 S f7 _ => ?_
  have S := S.asOwn (sz := 5) (n := 0) rfl (by omega) oneAll.nil
  refine S.ld3 (j := 6) rfl rfl ?_
  dsimp only
  have hrb := Ty.rd_ext S.ext _ hB
  have hfl : (B.l.flatMap TBd.vs).length = B.n * 5 := by rw [flatF_len (f := TBd.vs) (m := 5) TBd.vs_length]; rw [show B.l.length = B.n from hB.1]
  refine AppS.of (news := B.l.flatMap TBd.vs) hfl hrb.2.2.2.1.rdc ?_
  refine S.ap0 hfl (flatF_one (vs_one_ty TBd) _) (by omega) (by omega) fun a c w8 S f8 => ?_
  rw [List.nil_append, Nat.zero_add] at S
  rw [Nat.zero_add]
  refine S.la2 rfl ?_
  refine ⟨hn, ?_⟩
  refine (S.putF (f := TBd.vs) (m := 5) TBd.vs_length (vs_one_ty TBd) (by decide) hn x fun w9 S f9 => ?_)
  refine S.su3 (j := 6) (by rfl) fun w10 S f10 => ?_
  refine S.ld3 (j := 9) rfl rfl ⟨Rng.i64 (by omega) (by omega), ?_⟩
  refine S.su3 (j := 9) (by rfl) fun w11 S f11 => ?_
  refine S.la3 rfl (S.st1 (by rfl) fun w12 S f12 => S.la1 rfl ?_)
  have hX := S.ext
  refine ⟨⟨a, B.n, c, B.l.set n.toNat x⟩, ?_, ?_, rfl, hX⟩
  · show (C.g.b, C.g.p, C.g.s, C.g.sp, C.g.wr, C.g.ro, (⟨a, B.n, c⟩ : SlV), (⟨f.a, f.n, f.c⟩ : SlV), C.off, (C.ops : Int) + 1, ()) = _
    have : (((C.ops + 1 : Nat)) : Int) = (C.ops : Int) + 1 := by push_cast; rfl
    unfold chT
    rw [this]
  · obtain ⟨F, h1, h2⟩ := S.get (i := 0) rfl
    refine own_rdF (t := TBd) h1 (by decide) (fun k hk => .inr ((h2 k hk).1.resolve_left fun x => x)) fun y hy => ?_
    rcases List.mem_or_eq_of_mem_set hy with h3 | h3
    · exact TBd.rd_mono (fun k hk _ => .inl hk) (Ty.rd_ext hX _ (hB.2.2.2.2 y h3))
    · rw [h3]; exact TBd.rd_mono (fun k hk _ => .inl hk) (Ty.rd_ext hX _ hx)
theorem joined_c {w : World} {x : TBd.T} {g : Geo} {m z : Nat} (hx : TBd.rd w All x) (hp : x.1.l.length ≤ 100) (hz : z ≤ 10000) (hl : ∀ q ∈ x.1.l, q.l.length = z) :
    CallV Tryz.prog 74 #[bdVal x] w [.one .sl] fun r w' => Res w w' r.1 ((x.1.l.map (·.l)).flatten) := by
  apply ref13_joined.vc
  unfold ref13_joined.P
  have hpn : x.1.l.length = x.1.n := hx.1.1
  have S := Sep.start NoB w
  refine S.newB fun b1 w1 S f1 _ => ?_
  refine S.newB fun b3 w3 S f3 _ => ?_
  have S := S.asOwn (sz := 1) (n := 0) rfl (by omega) oneAll.nil
  refine Loop1 (fun (v : SlV × Int × Unit) w' => ∃ i : Nat, v.2.1 = (i : Int) ∧ i ≤ x.1.n ∧ v.1.n = i * z ∧ Sep NoB w w' [OwnA 5 1 v.1.a v.1.n v.1.c ((((x.1.l.map (·.l)).take i).flatten).map (Value.int .u8)), BoxA b1 133 (bdV x)]) (fun (v : SlV × Int × Unit) _ => ((x.1.n : Int) - v.2.1).toNat) ⟨0, rfl, by omega, by simp, S⟩ ?_
  rintro ⟨⟨a, n, c⟩, (v : Int), ⟨⟩⟩ w4 ⟨i, hv, hi, hn, S⟩
  dsimp only at hv hn S ⊢
  subst hv
  subst hn
  refine S.ld1 (j := 0) rfl rfl ?_
  dsimp only
  refine cond_d (fun hlt => ?_) (fun hge => ?_)
  · refine S.ld1 (j := 0) rfl rfl ?_
    obtain ⟨q, y, hq, hy, hc, hr, -, -⟩ := TBB_nth (Ty.rd_ext S.ext _ hx.1) (Int.natCast_nonneg i) hlt
    refine ⟨⟨by omega, hlt⟩, q, hq, ldp0 hc (h := .sl) (x := ⟨y.a, y.n, y.c⟩) rfl ?_⟩
    have hI := Ty.ints hr
    have hyl := hI.len
    rw [Int.toNat_natCast] at hy
    have hyz := hl y (List.mem_of_getElem? hy)
    dsimp only
    have m1 : i * z ≤ 100 * 10000 := Nat.mul_le_mul (by omega) hz
    refine S.ab0 hI (by omega) fun a' c' w5 S f5 => ⟨Rng.i64 (by omega) (by omega), ⟨i + 1, by push_cast; rfl, by omega, by show i * z + y.n = _; rw [Nat.add_mul]; omega, ?_⟩, by omega⟩
    have e : ((x.1.l.map (·.l)).take (i + 1)).flatten = ((x.1.l.map (·.l)).take i).flatten ++ y.l := by
      have h1 : (x.1.l.map (·.l))[i]? = some y.l := by rw [List.getElem?_map, hy]; rfl
      rw [List.take_add_one, h1, List.flatten_append]
      simp
    rw [e]
    exact S
  · have : i = x.1.n := by omega
    subst this
    rw [List.take_of_length_le (by rw [List.length_map]; omega)] at S
    exact S.out
end Go.Proofs.YtlpeoaphdmfjdaaGreat.Vc
/-! The contracts of layer 13: the document's array, bytes cut into pages, blank blocks. -/
namespace Go.Proofs.YtlpeoaphdmfjdaaGreat.Vc
open Go Go.Eng Go.RowKit
theorem ints_rd {w : World} {a : Option Addr} {n c : Nat} {xs : List Int} (h : Ints w .u8 a n c xs) (bx : Byt xs) : TB.rd w All ⟨a, n, c, xs⟩ := by
  have hm := maxLen_eq
  refine ⟨h.len, h.cap, by have := h.lim; show n ≤ maxLen; omega, ?_, fun y hy => rngU8 (bx y hy)⟩
  rw [show xs.flatMap (Ty.int .u8).vs = xs.map (Value.int .u8) from flat_ints .u8 _]
  exact .of h.rd
theorem TB_sub {w : World} {G : Nat → Prop} {a a' : Option Addr} {n c l hh m : Nat} {xs : List Int} (h : TB.rd w G ⟨a, n, c, xs⟩) (h1 : l ≤ hh) (h2 : hh ≤ n) (h3 : hh ≤ m) (ha : a' = if m = l then a else a.map (·.add (l * 1))) : TB.rd w G ⟨a', hh - l, m - l, (xs.drop l).take (hh - l)⟩ := by
  have hs := (Ty.ints h).sub h1 h2 h3 ha
  have hm := maxLen_eq
  refine ⟨hs.len, hs.cap, by have := hs.lim; show hh - l ≤ maxLen; omega, ?_, fun y hy => h.2.2.2.2 y (List.mem_of_mem_drop (List.mem_of_mem_take hy))⟩
  rw [show ((xs.drop l).take (hh - l)).flatMap (Ty.int .u8).vs = ((xs.drop l).take (hh - l)).map (Value.int .u8) from flat_ints .u8 _]
  rcases hs.rd with hn | ⟨p, hp, hc⟩
  · exact .inl hn
  · refine .inr ⟨p, hp, hc, fun hne => ?_⟩
    rcases h.2.2.2.1 with ⟨ha0, _⟩ | ⟨q, hq, _, hG⟩
    · have ha0 : a = none := ha0
      rw [ha0] at ha
      rw [hp] at ha
      split at ha <;> cases ha
    · have hq : a = some q := hq
      have : q.block = p.block := by
        rw [hq, hp] at ha
        split at ha
        · cases ha; rfl
        · cases ha; rw [add_block]
      rw [← this]
      refine hG fun he => hne ?_
      have he : xs.flatMap (Ty.int .u8).vs = [] := he
      have hxe : xs = [] := by
        cases xs with
        | nil => rfl
        | cons y ys => cases he
      rw [hxe]; simp
theorem res_rd {w w' : World} {s : SlV} {xs : List Int} (h : Res w w' s xs) (bx : Byt xs) : TB.rd w' (fun k => w.heap.size ≤ k) ⟨s.a, s.n, s.c, xs⟩ := by
  have hm := maxLen_eq
  have hi := h.ints
  refine ⟨hi.len, hi.cap, by have := hi.lim; show s.n ≤ maxLen; omega, ?_, fun y hy => rngU8 (bx y hy)⟩
  rw [show xs.flatMap (Ty.int .u8).vs = xs.map (Value.int .u8) from flat_ints .u8 _]
  exact Own_in h.own
theorem cut13_c {w : World} {G : Nat → Prop} {a : Option Addr} {n c P : Nat} {xs : List Int} (hx' : TB.rd w G ⟨a, n, c, xs⟩) (hP : 0 < P ∧ P ≤ 1000) (hn : n ≤ 1000000) :
    CallV Tryz.prog 134 #[.slice a n c, .int .i64 (P : Int)] w [.one .sl] fun r w' => ∃ L : List (SlP Int), TBB.rd w' (fun k => G k ∨ w.heap.size ≤ k) ⟨r.1.a, r.1.n, r.1.c, L⟩ ∧ L.map (·.l) = cutL xs P ∧ Ext w w' := by
  apply ref13_cut.vc
  unfold ref13_cut.P
  have hx : Ints w .u8 a n c xs := Ty.ints hx'
  have hl := hx.len
  have hcap := hx.cap
  have hdiv : Int.tdiv (n : Int) (P : Int) = ((n / P : Nat) : Int) := by rw [Int.tdiv_eq_ediv_of_nonneg (by omega)]; exact (Int.natCast_ediv n P).symm
  simp only [hdiv]
  have hzn : n / P ≤ n := Nat.div_le_self n P
  have hmul : P * (n / P) ≤ n := Nat.mul_div_le n P
  generalize hz : n / P = z at *
  have S := Sep.start NoB w
  refine S.newB fun b1 w1 S f1 _ => ?_
  have S := S.asOwn (sz := 1) (n := 0) rfl (by omega) oneAll.nil
  refine ⟨by omega, Rng.i64 (by omega) (by omega), ?_⟩
  refine Loop1 (fun (v : SlV × Int × Unit) w' => ∃ (i : Nat) (L : List (SlP Int)), v.2.1 = (i : Int) ∧ i ≤ P ∧ v.1.n = i ∧ L.map (·.l) = (cutL xs P).take i ∧ (∀ y ∈ L, TB.rd w G y) ∧ Sep NoB w w' [OwnA 51 1 v.1.a v.1.n v.1.c (L.map slV)]) (fun (v : SlV × Int × Unit) _ => ((P : Int) - v.2.1).toNat) ⟨0, [], rfl, by omega, rfl, rfl, fun y hy => (List.not_mem_nil hy).elim, S⟩ ?_
  rintro ⟨⟨va, vn, vc⟩, (v : Int), ⟨⟩⟩ w4 ⟨i, L, hv, hi, hvn, hL, hrd, S⟩
  dsimp only at hv hvn S ⊢
  subst hv
  subst hvn
  refine cond_d (fun hlt => ?_) (fun hge => ?_)
  · have m1 : (vn + 1) * z ≤ P * z := Nat.mul_le_mul_right _ (by omega)
    have m2 : (vn + 1) * z = vn * z + z := by rw [Nat.add_mul, Nat.one_mul]
    have v1 : (vn : Int) * (z : Int) = ((vn * z : Nat) : Int) := by push_cast; rfl
    have v2 : (vn : Int) * (z : Int) + (z : Int) = ((vn * z + z : Nat) : Int) := by push_cast; rfl
    refine ⟨by rw [v1]; exact Rng.i64 (by omega) (by omega), by rw [v1]; exact Rng.i64 (by omega) (by omega), by rw [v2]; exact Rng.i64 (by omega) (by omega), ⟨by rw [v1]; omega, by rw [v2, v1]; omega, by rw [v2]; omega⟩, ?_⟩
    intro a6 ha6
    rw [v1, Int.toNat_natCast] at ha6
    rw [v2, v1, Int.toNat_natCast, Int.toNat_natCast]
    have hsub := TB_sub hx' (l := vn * z) (hh := vn * z + z) (m := c) (by omega) (by omega) (by omega) ha6
    have hel : (xs.drop (vn * z)).take (vn * z + z - vn * z) = (xs.drop (vn * z)).take z := by rw [Nat.add_sub_cancel_left]
    rw [hel] at hsub
    refine S.newB fun b7 w5 S f5 _ => ?_
    refine AppS.of (news := [slV ⟨a6, vn * z + z - vn * z, c - vn * z, (xs.drop (vn * z)).take z⟩]) rfl (.inr ⟨_, rfl, S.cells 0 rfl⟩) ?_
    refine S.ap1 (by rfl) (fun u hu => by rw [List.mem_singleton.1 hu]; rfl) (by omega) (by omega) fun a9 c11 w6 S f6 => ?_
    refine ⟨Rng.i64 (by omega) (by omega), ⟨vn + 1, L ++ [⟨a6, vn * z + z - vn * z, c - vn * z, (xs.drop (vn * z)).take z⟩], by push_cast; rfl, by omega, rfl, ?_, fun y hy => ?_, by rw [List.map_append]; exact S.tail⟩, by omega⟩
    · rw [List.map_append, hL, List.take_add_one]
      have : (cutL xs P)[vn]? = some ((xs.drop (vn * z)).take z) := by unfold cutL; rw [List.getElem?_map, List.getElem?_range (by omega), hl, hz]; rfl
      rw [this]
      rfl
    · rcases List.mem_append.1 hy with h | h
      · exact hrd y h
      · rw [List.mem_singleton.1 h]
        exact hsub
  · have : vn = P := by omega
    subst this
    obtain ⟨F1, h1, h2⟩ := S.get (i := 0) rfl
    rw [← flat_sl] at h1
    refine ⟨L, own_rdF (t := TB) h1 (by decide) (fun k hk => .inr ((h2 k hk).1.resolve_left fun x => x)) fun y hy => TB.rd_mono (fun k hk _ => .inl hk) (Ty.rd_ext S.ext _ (hrd y hy)), ?_, S.ext⟩
    rw [hL, List.take_of_length_le (by simp [cutL])]
theorem blank_c {w : World} {g : Geo} (hR : Right g) : CallV Tryz.prog 65 #[g.val] w [.agg [.sl, .sl, .int .i64, .bool, .int .i64]] fun r w' => ∃ x : TBd.T, r.1 = bdT x ∧ Sep NoB w w' [RdT TBd x] ∧ bdOf x = blankB g := by
  apply ref13_blank.vc
  unfold ref13_blank.P
  have hs := hR.sec
  have hK := hR.1
  unfold Kept at hK
  have S := Sep.start NoB w
  refine S.newB fun b1 w1 S f1 _ => ?_
  refine S.newB fun b3 w3 S f3 _ => ?_
  refine S.newB fun b5 w5 S f5 _ => ?_
  refine S.st0 (by rfl) fun w6 S f6 => ?_
  have S := ((S.nilL.nilOwn 51 1).nilOwn 3 1).sel [3, 1, 1, 0, 0, 0] rfl
  obtain ⟨P, hP, hP'⟩ : ∃ P : Nat, g.p = (P : Int) ∧ g.p.toNat = P := ⟨g.p.toNat, by omega, rfl⟩
  refine Loop1 (fun (v : Int × Unit) w' => ∃ (i : Nat) (a1 a2 : Option Addr) (c1 c2 : Nat) (L : List (SlP Int)), v.1 = (i : Int) ∧ i ≤ P ∧ L.map (·.l) = List.replicate i (List.replicate (szP g) 255) ∧ Sep NoB w w' [BoxA b5 133 [.slice a1 i c1, .slice a2 i c2, .int .i64 (-1), .bool false, .int .i64 0], OwnA 51 1 a1 i c1 (L.map slV), RdL L, OwnA 3 1 a2 i c2 (iv (List.replicate i 0)),
      BoxA b3 133 [.slice none 0 0, .slice none 0 0, .int .i64 0, .bool false, .int .i64 0], BoxA b1 23 g.vs]) (fun (v : Int × Unit) _ => ((P : Int) - v.1).toNat) ⟨0, none, none, 0, 0, [], rfl, by omega, rfl, S⟩ ?_
  rintro ⟨(z : Int), ⟨⟩⟩ w7 ⟨i, a1, a2, c1, c2, L, hz, hi, hL, S⟩
  dsimp only at hz ⊢
  subst hz
  refine S.ld5 (j := 1) rfl rfl ?_
  rw [hP]
  refine cond_d (fun hlt => ?_) (fun hge => ?_)
  case refine_2 =>
    have : i = P := by omega
    subst this
    refine S.la0 rfl (S.st4 (by rfl) fun w8 S f8 => S.la4 rfl ?_)
    have hX := S.ext
    have r1 : Rng .i64 (-1) := Rng.i64 (by decide) (by decide)
    have r0 : Rng .i64 0 := Rng.i64 (by decide) (by decide)
    refine ⟨(⟨a1, i, c1, L⟩, ⟨a2, i, c2, List.replicate i 0⟩, -1, false, 0, ()), rfl, ?_, ?_⟩
    · have SA := (S.sel [1, 1, 1] rfl).conv2 (R' := RdT TBB ⟨a1, i, c1, L⟩) fun F1 F2 h1 h2 _ => by
        rw [← flat_sl] at h1
        exact own_rdF (t := TB) h1 (by decide) (fun k hk => .inl hk) fun y hy => TB.rd_mono (fun k hk _ => .inr hk) (h2 y hy)
      refine SA.conv2 (R' := RdT TBd (⟨a1, i, c1, L⟩, ⟨a2, i, c2, List.replicate i 0⟩, -1, false, 0, ())) fun F1 F2 h1 h2 _ => ⟨TBB.rd_mono (fun k hk _ => .inl hk) h1, ?_, r1, trivial, r0, trivial⟩
      rw [iv, ← flat_ints] at h2
      exact own_rdF (t := .int .i64) h2 (by decide) (fun k hk => .inr hk) fun y hy => by rw [(List.mem_replicate.1 hy).2]; exact r0
    · unfold bdOf blankB
      dsimp only
      rw [hL, hP']
  refine ⟨fun (_ : Unit) w' => ∃ (a1 : Option Addr) (c1 : Nat) (L : List (SlP Int)), L.map (·.l) = List.replicate (i + 1) (List.replicate (szP g) 255) ∧ Sep NoB w w' [BoxA b5 133 [.slice a1 (i + 1) c1, .slice a2 i c2, .int .i64 (-1), .bool false, .int .i64 0], OwnA 51 1 a1 (i + 1) c1 (L.map slV), RdL L, OwnA 3 1 a2 i c2 (iv (List.replicate i 0)),
      BoxA b3 133 [.slice none 0 0, .slice none 0 0, .int .i64 0, .bool false, .int .i64 0], BoxA b1 23 g.vs], ?_, ?_⟩
  · rintro ⟨⟩ w14 ⟨a1', c1', L', hL', S⟩
    refine S.ld0 (j := 1) rfl rfl ?_
    refine S.newB fun b16 w17 S f17 _ => ?_
    dsimp only
    refine AppS.of (news := [.int .i64 0]) rfl (.inr ⟨_, rfl, S.cells 0 rfl⟩) ?_
    refine S.ap4 (by rfl) (fun u hu => by rw [List.mem_singleton.1 hu]; rfl) (by omega) (by omega) fun a18 c20 w21 S f21 => ?_
    refine S.su1 (j := 1) (by rfl) fun w23 S f23 => ?_
    refine ⟨Rng.i64 (by omega) (by omega), ⟨i + 1, a1', a18, c1', c20, L', by push_cast; rfl, by omega, hL', ?_⟩, by omega⟩
    have e : iv (List.replicate (i + 1) 0) = iv (List.replicate i 0) ++ [Value.int .i64 0] := by rw [List.replicate_succ', iv, List.map_append]; rfl
    rw [e]
    exact S.tail
  · have hne := S.ne 0 5 (by decide) rfl rfl
    have hno := S.neO 5 1 (by decide) rfl rfl
    refine S.regX (fun k => k = b5 ∨ ∃ q : Addr, a1 = some q ∧ k = q.block) fun D hD hkeep S T => ?_
    have k0 := hkeep _ (Fr.refl _ _)
    refine ⟨hD _ S.bl5 (fun h => h.elim (fun h => hne h.symm) fun ⟨q, hq, h⟩ => hno q hq h), S.ld5 (j := 2) rfl rfl ⟨Rng.i64 (by omega) (by omega), ?_⟩⟩
    have hsz : (max 0 (min 65536 (g.s + 88))).toNat = szP g := by
      have : max 0 (min 65536 (g.s + 88)) = g.s + 88 := by omega
      rw [this]
    have fin : ∀ {w' : World} {bb : Nat} {a : Option Addr} {n c : Nat}, Sep NoB w7.drew w' [BoxA bb 51 [.slice a n c], OwnA 5 1 a n c ((List.replicate (szP g) 255).map (Value.int .u8))] →
        AppS w' (some ⟨bb, 0, none⟩) 1 1 fun ns => AppV w' 51 1 24 a1 i c1 ns 1 fun a31 n32 c33 w34 => KeepOn D w7.drew w34 ∧ StoreV w34 ⟨b5, 0, none⟩ [.slice a31 n32 c33] fun w36 => KeepOn D w7.drew w36 ∧
          ∃ (a1 : Option Addr) (c1 : Nat) (L : List (SlP Int)), L.map (·.l) = List.replicate (i + 1) (List.replicate (szP g) 255) ∧ Sep NoB w w36 [BoxA b5 133 [.slice a1 (i + 1) c1, .slice a2 i c2, .int .i64 (-1), .bool false, .int .i64 0], OwnA 51 1 a1 (i + 1) c1 (L.map slV), RdL L, OwnA 3 1 a2 i c2 (iv (List.replicate i 0)),
            BoxA b3 133 [.slice none 0 0, .slice none 0 0, .int .i64 0, .bool false, .int .i64 0], BoxA b1 23 g.vs] := by
      intro w' bb a n c T
      have S := S.frame0 T
      dsimp only [List.cons_append, List.nil_append] at S
      refine AppS.of (news := [slV ⟨a, n, c, List.replicate (szP g) 255⟩]) rfl (.inr ⟨_, rfl, S.cells 0 rfl⟩) ?_
      refine S.ap3 (by rfl) (fun u hu => by rw [List.mem_singleton.1 hu]; rfl) (by omega) (by omega) fun a13 c13 w13 S f13 => ?_
      have g13 : Fr (fun k => k = b5 ∨ ∃ q : Addr, a1 = some q ∧ k = q.block) w7.drew w13 := T.fr.any.trans (f13.mono fun k hk => .inr hk)
      refine ⟨hkeep _ g13, S.su2 (j := 0) (by rfl) fun w14 S f14 => ⟨hkeep _ (g13.trans (f14.mono fun k hk => .inl hk)), a13, c13, L ++ [⟨a, n, c, List.replicate (szP g) 255⟩], ?_, ?_⟩⟩
      · rw [List.map_append, hL, List.replicate_succ']; rfl
      · have S := ((S.sel [1, 3, 1, 1, 1, 1, 1] rfl).addL (Byt.replicate (by decide) (by decide) _)).sel [1, 1, 0, 0, 0, 0] rfl
        rw [List.map_append]
        exact S
    refine ⟨?_, ?_⟩
    · refine S.ld0 (j := 0) rfl rfl ⟨k0, ?_⟩
      refine (rFill_c (x := 255) (n := g.s + 88)).mono ?_
      rintro ⟨⟨ra, rn, rc⟩, ⟨⟩⟩ w8 h8
      rw [hsz] at h8
      have T := T.res h8
      dsimp only at T ⊢
      exact ⟨hkeep _ T.fr.any, T.newB fun b29 w9 T f9 _ => ⟨hkeep _ T.fr.any, fin T⟩⟩
    · refine (rFill_c (x := 255) (n := g.s + 88)).mono ?_
      rintro ⟨⟨ra, rn, rc⟩, ⟨⟩⟩ w8 h8
      rw [hsz] at h8
      have T := T.res h8
      dsimp only at T ⊢
      have k8 := hkeep _ T.fr.any
      refine ⟨k8, ?_, ?_⟩
      · refine (S.stepE T.ext).ld0 (j := 0) rfl rfl ⟨k8, ?_⟩
        exact T.newB fun b29 w9 T f9 _ => ⟨hkeep _ T.fr.any, fin T⟩
      · refine T.newB fun b29 w9 T f9 _ => ⟨hkeep _ T.fr.any, ?_⟩
        have k9 := hkeep _ T.fr.any
        refine (S.stepE T.ext).ld0 (j := 0) rfl rfl ⟨k9, ?_⟩
        dsimp only
        exact fin T
end Go.Proofs.YtlpeoaphdmfjdaaGreat.Vc
/-! The contracts of layer 13: the document's array, new, and all its bytes. -/
namespace Go.Proofs.YtlpeoaphdmfjdaaGreat.Vc
open Go Go.Eng Go.RowKit
theorem bd_page_len {g : Geo} {m : Nat} {x : TBd.T} (h : BOk g m (bdOf x)) : ∀ q ∈ x.1.l, q.l.length = szP g := fun q hq => (h.pb q.l (List.mem_map.2 ⟨q, hq, rfl⟩)).1
theorem bd_len {g : Geo} {m : Nat} {x : TBd.T} (h : BOk g m (bdOf x)) : x.1.l.length = g.p.toNat := by
  have h2 : (x.1.l.map (·.l)).length = g.p.toNat := h.pl
  rwa [List.length_map] at h2
def RdLT (t : Ty) (L : List t.T) : Asr := ⟨fun w F => ∀ x ∈ L, t.rd w F x, fun h k x hx => t.rd_kp (fun i hi _ => k i hi) (h x hx)⟩
theorem addT {t : Ty} {x : t.T} {L : List t.T} {E : Nat → Prop} {w0 w : World} {Rs : List Asr} (S : Sep E w0 w (RdT t x :: RdLT t L :: Rs)) : Sep E w0 w (RdLT t (L ++ [x]) :: Rs) :=
  S.conv2 fun F1 F2 h1 h2 _ y hy => by
    rcases List.mem_append.1 hy with h | h
    · exact t.rd_mono (fun k hk _ => .inr hk) (h2 y h)
    · rw [List.mem_singleton.1 h]; exact t.rd_mono (fun k hk _ => .inl hk) h1
theorem rNew13_c {w : World} {g : Geo} {f : SlP TF.T} (hR : Right g) (hf : LF.rd w All f) : CallV Tryz.prog 22 #[g.val, .slice f.a f.n f.c] w [.agg [.int .i64, .int .i64, .int .i64, .int .i64, .int .i64, .int .i64, .sl, .sl, .bool, .int .i64]] fun r w' =>
    ∃ B : SlP TBd.T, r.1 = chT B f (newC g (fds f)) ∧ RefR (fun k => w.heap.size ≤ k) w' B f (newC g (fds f)) ∧ Ext w w' := by
  apply ref13_New.vc
  unfold ref13_New.P
  have hK := hR.1
  unfold Kept at hK
  obtain ⟨N, hN, hN'⟩ : ∃ N : Nat, g.b = (N : Int) ∧ g.b.toNat = N := ⟨g.b.toNat, by omega, rfl⟩
  have S := Sep.start NoB w
  refine S.newB fun b1 w1 S f1 _ => ?_
  refine S.newB fun b3 w3 S f3 _ => ?_
  refine S.la1 rfl ?_
  refine S.newB fun b6 w6 S f6 _ => ?_
  refine S.st0 (by rfl) fun w7 S f7 => ?_
  have S : Sep NoB w w7 (RdLT TBd [] :: _) := S.push (F := NoB) (Fr.refl _ _) (fun x hx => (List.not_mem_nil hx).elim) fun _ x => x.elim
  have S := (S.nilOwn 133 5).sel [2, 0, 0, 0, 0] rfl
  refine Loop1 (fun (v : Int × Unit) w' => ∃ (i : Nat) (a : Option Addr) (c : Nat) (L : List TBd.T), v.1 = (i : Int) ∧ i ≤ N ∧ L.map bdOf = List.replicate i (blankB g) ∧ Sep NoB w w' [BoxA b6 34 [.int .i64 g.b, .int .i64 g.p, .int .i64 g.s, .int .i64 g.sp, .int .i64 g.wr, .int .i64 g.ro, .slice a i c, .slice f.a f.n f.c, .bool false, .int .i64 0],
      OwnA 133 5 a i c (L.flatMap TBd.vs), RdLT TBd L, BoxA b3 34 [.int .i64 0, .int .i64 0, .int .i64 0, .int .i64 0, .int .i64 0, .int .i64 0, .slice none 0 0, .slice none 0 0, .bool false, .int .i64 0], BoxA b1 23 g.vs]) (fun (v : Int × Unit) _ => ((N : Int) - v.1).toNat) ⟨0, none, 0, [], rfl, by omega, rfl, S⟩ ?_
  rintro ⟨(z : Int), ⟨⟩⟩ w8 ⟨i, a, c, L, hz, hi, hL, S⟩
  dsimp only at hz ⊢
  subst hz
  refine S.ld4 (j := 0) rfl rfl ?_
  refine cond_d (fun hlt => ?_) (fun hge => ?_)
  case refine_2 =>
    have hiN : i = N := by omega
    subst hiN
    refine S.la0 rfl (S.st3 (by rfl) fun w9 S f9 => S.la3 rfl ?_)
    have X := S.ext
    refine ⟨⟨a, i, c, L⟩, rfl, ⟨?_, ?_, Ty.rd_ext X _ hf, rfl⟩, X⟩
    · obtain ⟨F0, h0, h0'⟩ := S.get (i := 1) rfl
      refine own_rdF (t := TBd) h0 (by decide) (fun k hk => (h0' k hk).1.resolve_left fun x => x) fun y hy => ?_
      obtain ⟨F1, h1, h1'⟩ := S.get (i := 2) rfl
      exact TBd.rd_mono (fun k hk _ => (h1' k hk).1.resolve_left fun x => x) (h1 y hy)
    · show L.map bdOf = _
      rw [hL]
      unfold newC
      rw [hN']
  have hne := S.ne 0 4 (by decide) rfl rfl
  have hno := S.neO 4 1 (by decide) rfl rfl
  refine S.regX (fun k => k = b6 ∨ ∃ q : Addr, a = some q ∧ k = q.block) fun D hD hkeep S T => ?_
  have k0 := hkeep _ (Fr.refl _ _)
  have fin : ∀ {w' : World} {bb : Nat} {x : TBd.T}, bdOf x = blankB g → Sep NoB w8.drew w' [BoxA bb 133 (bdV x), RdT TBd x] →
      AppS w' (some ⟨bb, 0, none⟩) 1 5 fun ns => AppV w' 133 5 72 a i c ns 1 fun a20 n21 c22 w23 => KeepOn D w8.drew w23 ∧ StoreV w23 ⟨b6, 6, none⟩ [.slice a20 n21 c22] fun w25 => KeepOn D w8.drew w25 ∧ Rng .i64 ((i : Int) + 1) ∧
        (∃ (j : Nat) (a : Option Addr) (c : Nat) (L : List TBd.T), (i : Int) + 1 = (j : Int) ∧ j ≤ N ∧ L.map bdOf = List.replicate j (blankB g) ∧ Sep NoB w w25 [BoxA b6 34 [.int .i64 g.b, .int .i64 g.p, .int .i64 g.s, .int .i64 g.sp, .int .i64 g.wr, .int .i64 g.ro, .slice a j c, .slice f.a f.n f.c, .bool false, .int .i64 0],
          OwnA 133 5 a j c (L.flatMap TBd.vs), RdLT TBd L, BoxA b3 34 [.int .i64 0, .int .i64 0, .int .i64 0, .int .i64 0, .int .i64 0, .int .i64 0, .slice none 0 0, .slice none 0 0, .bool false, .int .i64 0], BoxA b1 23 g.vs]) ∧ ((N : Int) - ((i : Int) + 1)).toNat < ((N : Int) - (i : Int)).toNat := by
    intro w' bb x hbx T
    have S := S.frame0 T
    dsimp only [List.cons_append, List.nil_append] at S
    refine AppS.of (news := TBd.vs x) rfl (.inr ⟨_, rfl, S.cells 0 rfl⟩) ?_
    refine S.ap3 (by rfl) (vs_one_ty TBd x) (by omega) (by omega) fun a13 c13 w13 S f13 => ?_
    have g13 : Fr (fun k => k = b6 ∨ ∃ q : Addr, a = some q ∧ k = q.block) w8.drew w13 := T.fr.any.trans (f13.mono fun k hk => .inr hk)
    refine ⟨hkeep _ g13, S.su2 (j := 6) (by rfl) fun w14 S f14 => ⟨hkeep _ (g13.trans (f14.mono fun k hk => .inl hk)), Rng.i64 (by omega) (by omega), ⟨i + 1, a13, c13, L ++ [x], by push_cast; rfl, by omega, by rw [List.map_append, hL, List.replicate_succ', ← hbx]; rfl, ?_⟩, by omega⟩⟩
    have S := (addT (S.sel [1, 3, 1, 1, 1, 1] rfl)).sel [1, 1, 0, 0, 0] rfl
    rw [List.flatMap_append, List.flatMap_singleton]
    exact S
  refine ⟨hD _ S.bl4 (fun h => h.elim (fun h => hne h.symm) fun ⟨q, hq, h⟩ => hno q hq h), S.la4 rfl ⟨?_, ?_⟩⟩
  · refine S.ld0 (j := 6) rfl rfl ⟨k0, ?_⟩
    refine (blank_c (g := g) hR).mono ?_
    rintro ⟨_, ⟨⟩⟩ w9 ⟨x, hx, T9, hbx⟩
    dsimp only at hx
    subst hx
    have T := T.frame0 T9
    dsimp only [List.cons_append, List.nil_append] at T
    exact ⟨hkeep _ T.fr.any, T.newB fun b29 w10 T f10 _ => ⟨hkeep _ T.fr.any, fin hbx T⟩⟩
  · refine (blank_c (g := g) hR).mono ?_
    rintro ⟨_, ⟨⟩⟩ w9 ⟨x, hx, T9, hbx⟩
    dsimp only at hx
    subst hx
    have T := T.frame0 T9
    dsimp only [List.cons_append, List.nil_append] at T
    have k8 := hkeep _ T.fr.any
    refine ⟨k8, ?_, ?_⟩
    · refine (S.stepE T.ext).ld0 (j := 6) rfl rfl ⟨k8, ?_⟩
      exact T.newB fun b29 w10 T f10 _ => ⟨hkeep _ T.fr.any, fin hbx T⟩
    · refine T.newB fun b29 w10 T f10 _ => ⟨hkeep _ T.fr.any, ?_⟩
      have k9 := hkeep _ T.fr.any
      refine (S.stepE T.ext).ld0 (j := 6) rfl rfl ⟨k9, ?_⟩
      dsimp only
      exact fin hbx T
end Go.Proofs.YtlpeoaphdmfjdaaGreat.Vc
/-! The contracts of layer 13: the document's array, a block erased, or scrubbed. -/
namespace Go.Proofs.YtlpeoaphdmfjdaaGreat.Vc
open Go Go.Eng Go.RowKit
theorem _root_.Go.Eng.Sep.off {E : Nat → Prop} {w0 w : World} {Rs : List Asr} (S : Sep E w0 w Rs) (i : Nat) {R : Asr} (hi : Rs[i]? = some R) :
    ∃ F, R.p w F ∧ (∀ k, F k → (E k ∨ w0.heap.size ≤ k) ∧ k < w.heap.size) ∧ ∀ (j b : Nat) (e : TypeId) (vs : List Value), j ≠ i → Rs[j]? = some (BoxA b e vs) → ¬ F b := by
  obtain ⟨F, h, hF⟩ := S.ex
  obtain ⟨F1, F2, h1, h2, h3, h4, h5⟩ := StarP.perm (perm_front hi) h
  refine ⟨F1, h1, fun k hk => hF k (h4 k hk), fun j b e vs hj hjb hb => ?_⟩
  have : (Rs.eraseIdx i)[if j < i then j else j - 1]? = some (BoxA b e vs) := by
    split
    · rw [List.getElem?_eraseIdx_of_lt (by omega)]; exact hjb
    · rw [List.getElem?_eraseIdx_of_ge (by omega), show j - 1 + 1 = j by omega]; exact hjb
  obtain ⟨G, g1, g2⟩ := StarP.get this h2
  exact h3 b hb (g2 b g1.1)
theorem rd_keep {t : Ty} {w w' : World} {G X H : Nat → Prop} {x : t.T} (h : t.rd w G x) (f : Fr X w w') (hG : ∀ k, G k → H k) (hd : ∀ k, G k → k < w.heap.size → ¬ X k) : t.rd w' H x :=
  t.rd_mono (fun k hk _ => hG k hk) (t.rd_kp (fun k hk hl => f.block k hl (hd k hk hl)) h)
section
variable {H : Nat → Prop} {w : World} {B : SlP TBd.T} {f : SlP TF.T} {C : CD}
abbrev SH10 : List SS := [.int .i64, .int .i64, .int .i64, .int .i64, .int .i64, .int .i64, .sl, .sl, .bool, .int .i64]
theorem rErase13_c {n : Int} (hH : ∀ k, w.heap.size ≤ k → H k) (h : RefR H w B f C) (hC : COk C) (ho : C.ops < 1000000) :
    CallV Tryz.prog 79 #[chVal B f C, .int .i64 n] w [.agg SH10, .one (.int .i64)] fun r w' => ∃ B' : SlP TBd.T, r.1 = chT B' f (eraC C n).1 ∧ r.2.1 = (eraC C n).2 ∧ RefR H w' B' f (eraC C n).1 ∧ Ext w w' := by
  apply ref13_Erase.vc
  unfold ref13_Erase.P
  obtain ⟨⟨n1, n2⟩, ⟨n3, n4⟩, ⟨n5, n6⟩, n7, n8⟩ := hC.num
  have hBn := h.len
  rw [hC.bl] at hBn
  have S := Sep.start NoB w
  refine S.newB fun b1 w1 S f1 _ => ?_
  refine S.newB fun b3 w3 S f3 _ => ?_
  have no : ∀ {w' : World} {e : Int}, mayC C n = e → e ≠ 0 → Sep NoB w w' [BoxA b3 34 [.int .i64 0, .int .i64 0, .int .i64 0, .int .i64 0, .int .i64 0, .int .i64 0, .slice none 0 0, .slice none 0 0, .bool false, .int .i64 0], BoxA b1 34 (chV B f C)] →
      LoadA w' ⟨b1, 0, none⟩ SH10 fun x => StoreV w' ⟨b3, 0, none⟩ [.int .i64 x.1, .int .i64 x.2.1, .int .i64 x.2.2.1, .int .i64 x.2.2.2.1, .int .i64 x.2.2.2.2.1, .int .i64 x.2.2.2.2.2.1, .slice x.2.2.2.2.2.2.1.a x.2.2.2.2.2.2.1.n x.2.2.2.2.2.2.1.c, .slice x.2.2.2.2.2.2.2.1.a x.2.2.2.2.2.2.2.1.n x.2.2.2.2.2.2.2.1.c, .bool x.2.2.2.2.2.2.2.2.1, .int .i64 x.2.2.2.2.2.2.2.2.2.1] fun w9 =>
        LoadA w9 ⟨b3, 0, none⟩ SH10 fun x => ∃ B' : SlP TBd.T, (x.1, x.2.1, x.2.2.1, x.2.2.2.1, x.2.2.2.2.1, x.2.2.2.2.2.1, x.2.2.2.2.2.2.1, x.2.2.2.2.2.2.2.1, x.2.2.2.2.2.2.2.2.1, x.2.2.2.2.2.2.2.2.2.1, ()) = chT B' f (eraC C n).1 ∧ e = (eraC C n).2 ∧ RefR H w9 B' f (eraC C n).1 ∧ Ext w w9 := fun he h0 S => by
    refine S.la1 rfl (S.st0 (by rfl) fun w9 S f9 => S.la0 rfl ?_)
    have X := S.ext
    unfold eraC
    rw [if_neg (by rw [he]; exact h0)]
    exact ⟨B, rfl, he.symm, h.ext X, X⟩
  refine S.ld1 (j := 8) rfl rfl (cond_of (fun hoff => no (e := 4) (by unfold mayC; rw [if_pos hoff]) (by decide) S) fun hoff => ?_)
  have hoff' : ¬ C.off = true := by rw [hoff]; decide
  refine cond_d (fun hn => no (e := 2) (by unfold mayC; rw [if_neg hoff', if_pos (by omega)]) (by decide) S) fun hn0 => ?_
  refine S.ld1 (j := 6) rfl rfl (cond_d (fun hn => no (e := 2) (by unfold mayC; rw [if_neg hoff', if_pos (by dsimp only at hn; omega)]) (by decide) S) fun hn1 => ?_)
  dsimp only at hn1
  have hn : 0 ≤ n ∧ n < C.g.b := by omega
  have hmay : mayC C n = 0 := by unfold mayC; rw [if_neg hoff', if_neg (fun k => k hn)]
  refine S.la1 rfl ?_
  refine (code_c (h.ext S.ext) hC).mono ?_
  rintro ⟨(e : Int), ⟨ma, mn, mc⟩, (cr : Bool), ⟨⟩⟩ w4 ⟨h4, h4', i4, x4⟩
  dsimp only at h4 h4' i4 ⊢
  subst h4; subst h4'
  have S := S.stepE x4
  refine S.ld1 (j := 6) rfl rfl ?_
  obtain ⟨q, x, hq, hc, hr, hx, hbd, -⟩ := (h.ext S.ext).nth (i := n) hn.1 (by omega)
  have hb := (hC.blk hn).2
  have her := hb.er
  refine ⟨⟨hn.1, by dsimp only; omega⟩, q, hq, bdT x, hc, ?_⟩
  refine S.newB fun b22 w5 S f5 _ => ?_
  refine S.st0 (by rfl) fun w6 S f6 => ?_
  have eer : (blkC C n).er = x.2.2.2.2.1 := by rw [← hbd]; rfl
  have hG : ∀ b, w.heap.size ≤ b → ∀ k, k < w.heap.size → k ≠ b := fun b hb k hk => by omega
  refine cond_eq (fun hc0 => ?_) (fun hc0 => ?_)
  · have hc0 : (codeC C).1 = 0 := hc0
    have hcr := (code_off C).1 hc0
    refine S.lb2 (o := 0) rfl ?_
    refine (blank_c (g := C.g) hC.g).mono ?_
    rintro ⟨_, ⟨⟩⟩ w7 ⟨y, hy, T7, hby⟩
    dsimp only at hy
    subst hy
    have S := S.frame0 T7
    dsimp only [List.cons_append, List.nil_append] at S
    refine S.newB fun b28 w8 S f8 _ => ?_
    refine S.st0 (by rfl) fun w9 S f9 => ?_
    refine S.ld2 (j := 4) rfl rfl ⟨Rng.i64 (by omega) (by omega), ?_⟩
    refine S.su0 (j := 4) (by rfl) fun w10 S f10 => ?_
    refine S.la4 rfl (S.la0 rfl ?_)
    dsimp only
    have X10 := S.ext
    have hb3' := S.bl3
    have rer : Rng .i64 (x.2.2.2.2.1 + 1) := Rng.i64 (by omega) (by omega)
    have hgen := S.off 1 rfl
    obtain ⟨Fy, hyr, hyF, hyo⟩ := hgen
    have hG1 : ∀ k, ((k < w.heap.size ∧ H k) ∨ Fy k) → k ≠ b3 := fun k hk => by
      rcases hk with hk | hk
      · have := (S.get (i := 3) rfl)
        obtain ⟨F3, h3, h3'⟩ := this
        intro e
        have := (h3' b3 h3.1).1
        rcases this with t | t
        · exact t
        · omega
      · intro e
        subst e
        exact hyo 3 _ _ _ (by decide) rfl hk
    have hx' : TBd.rd w10 (fun k => (k < w.heap.size ∧ H k) ∨ Fy k) (y.1, y.2.1, y.2.2.1, y.2.2.2.1, x.2.2.2.2.1 + 1, ()) := by
      have hy := TBd.rd_mono (G' := fun k => (k < w.heap.size ∧ H k) ∨ Fy k) (fun k hk _ => .inr hk) hyr
      exact ⟨hy.1, hy.2.1, hy.2.2.1, hy.2.2.2.1, rer, trivial⟩
    have hB' : (Ty.sl TBd).rd w10 (fun k => (k < w.heap.size ∧ H k) ∨ Fy k) B := Ty.rd_ext X10 _ ((Ty.sl TBd).rd_mono (fun k hk1 hk => .inl ⟨hk, hk1⟩) h.rb)
    refine (with_c (f := f) (C := C) (n := n) (x := (y.1, y.2.1, y.2.2.1, y.2.2.2.1, x.2.2.2.2.1 + 1, ())) hB' (by omega) (by omega) hx' (by omega)).mono ?_
    rintro ⟨_, ⟨⟩⟩ w11 ⟨B', hr', hrd', hl', x11⟩
    dsimp only at hr'
    subst hr'
    have S := S.stepE x11
    refine S.st3 (by rfl) fun w12 S f12 => S.la3 rfl ?_
    have X := S.ext
    have hC' : (eraC C n).1 = { C with bs := B'.l.map bdOf, ops := C.ops + 1 } := by
      unfold eraC
      rw [if_pos hmay]
      unfold eraX
      rw [if_pos hc0, hl', List.map_set, h.db, hcr.1, ← eer, ← hby]
      have : C.off = false := hoff
      rw [← this]
      rfl
    refine ⟨B', ?_, ?_, ⟨?_, ?_, Ty.rd_ext X _ h.rf, ?_⟩, X⟩
    · rw [hC']
    · unfold eraC; rw [if_pos hmay]
    · exact rd_keep hrd' f12 (fun k hk => by
        rcases hk with (hk | hk) | hk
        · exact hk.2
        · exact hH k ((hyF k hk).1.resolve_left fun x => x)
        · exact hH k (by have := X10.size; omega)) fun k hk hlt => by
        rcases hk with hk | hk
        · exact hG1 k hk
        · omega
    · rw [hC']
    · rw [hC']; exact h.df
  · have hc0 : ¬ (codeC C).1 = 0 := hc0
    have hne := S.ne 0 2 (by decide) rfl rfl
    have hN22 := S.bl0
    have hN3 := S.bl1
    have hN1 := S.bl2
    have hmem : x ∈ B.l := List.mem_of_getElem? hx
    have hrx : TBd.rd w (fun k => k < w.heap.size ∧ H k) x := TBd.rd_mono (fun k hk1 hk => ⟨hk, hk1⟩) (h.rb.2.2.2.2 x hmem)
    have hge : ∀ (i : Nat) (b : Nat) (e : TypeId) (vs : List Value), [BoxA b22 133 (bdV x), BoxA b3 34 [.int .i64 0, .int .i64 0, .int .i64 0, .int .i64 0, .int .i64 0, .int .i64 0, .slice none 0 0, .slice none 0 0, .bool false, .int .i64 0], BoxA b1 34 (chV B f C)][i]? = some (BoxA b e vs) → w.heap.size ≤ b := fun i b e vs hi => by
      obtain ⟨F3, h3, h3'⟩ := S.get hi
      exact (h3' b h3.1).1.resolve_left fun x => x
    have g22 := hge 0 _ _ _ rfl
    have g3 := hge 1 _ _ _ rfl
    have g1 := hge 2 _ _ _ rfl
    have X6 := S.ext
    refine S.regX (fun k => k = b22) fun D hD hkeep S T => ?_
    refine ⟨hD _ S.bl2 (fun e => hne e.symm), S.ld2 (j := 1) rfl rfl (S.la0 rfl ⟨hkeep _ (Fr.refl _ _), ?_⟩)⟩
    have hbx := hb
    rw [← hbd] at hbx
    have hallx : ((x.1.l.map (·.l)).flatten) = allC C n := by show (bdOf x).pg.flatten = _; rw [hbd]
    have hrx6 : TBd.rd w6.drew All x := TBd.rd_mono (fun _ _ _ => trivial) (Ty.rd_ext (X6.trans (Ext.drew _)) _ hrx)
    refine (joined_c (g := C.g) (m := 0) (z := szP C.g) hrx6 (by rw [bd_len hbx]; omega) (by omega) (bd_page_len hbx)).mono ?_
    rintro ⟨⟨ja, jn, jc⟩, ⟨⟩⟩ w7 h7
    rw [hallx] at h7
    have hall := hb.all
    have hjl := h7.ints.len
    rw [show (allC C n).length = bszC C from hall.1] at hjl
    have m2 : bszC C ≤ 20 * 216 := Nat.mul_le_mul (by omega) (by omega)
    dsimp only at hjl h7 ⊢
    refine ⟨hkeep _ (Fr.of h7.ext).any, ?_⟩
    have X47 : Ext w4 w7 := (Fr.ext (f5.trans' f6 fun k hk => .inr (by omega))).trans ((Ext.drew _).trans h7.ext)
    have hbm : Byt (codeC C).2.1 := by
      unfold codeC
      cases hat : atF C.pl (C.ops : Int) with
      | none => exact Byt.nil
      | some F => exact atF_byt hC hat
    refine (Erase_c h7.ints hall.2 (i4.ext X47) hbm (by dsimp only; omega)).mono ?_
    rintro ⟨⟨ea, en, ec⟩, ⟨⟩⟩ w8 h8
    have hel : turn (allC C n) (erF (allC C n) (codeC C).2.1) (8 * jn) = eraL (allC C n) (codeC C).2.1 := by unfold eraL; rw [show (allC C n).length = jn from by rw [← hjl]; exact hall.1]
    dsimp only at h8 ⊢
    rw [hel] at h8
    have hen := h8.ints.len
    have heL : (eraL (allC C n) (codeC C).2.1).length = bszC C := by unfold eraL; rw [turn_len]; exact hall.1
    rw [heL] at hen
    dsimp only at hen
    have x78 : Ext w6.drew w8 := h7.ext.trans h8.ext
    refine ⟨hkeep _ (Fr.of x78).any, ?_⟩
    have hbe : Byt (eraL (allC C n) (codeC C).2.1) := turn_byt hall.2 _ _
    have hcut := cut13_c (P := C.g.p.toNat) (res_rd h8 hbe) ⟨by omega, by omega⟩ (by dsimp only; omega)
    rw [show ((C.g.p.toNat : Nat) : Int) = C.g.p from by omega] at hcut
    refine hcut.mono ?_
    rintro ⟨⟨ca, cn, cc⟩, ⟨⟩⟩ w9 ⟨Lp, hLr, hLp, x9⟩
    dsimp only at hLr ⊢
    have x69 := x78.trans x9
    refine ⟨hkeep _ (Fr.of x69).any, ?_⟩
    have S := S.stepE x69
    refine S.su0 (j := 0) (by rfl) fun w10 S f10 => ⟨hkeep _ ((Fr.of x69).any.trans f10), ?_⟩
    have rer : Rng .i64 (x.2.2.2.2.1 + 1) := Rng.i64 (by omega) (by omega)
    refine S.ld0 (j := 4) rfl rfl ⟨rer, ?_⟩
    refine S.su0 (j := 4) (by rfl) fun w11 S f11 => ?_
    refine S.la2 rfl (S.la0 rfl ?_)
    dsimp only
    have X11 := S.ext
    have s78 : w6.heap.size ≤ w7.heap.size := h7.ext.size
    have s88 : w7.heap.size ≤ w8.heap.size := h8.ext.size
    have hx' : TBd.rd w11 (fun k => (k < w.heap.size ∧ H k) ∨ w6.heap.size ≤ k) (⟨ca, cn, cc, Lp⟩, x.2.1, x.2.2.1, x.2.2.2.1, x.2.2.2.2.1 + 1, ()) := by
      have h1 := Ty.rd_ext X11 _ hrx
      refine ⟨?_, TI.rd_mono (fun k hk _ => .inl hk) h1.2.1, h1.2.2.1, h1.2.2.2.1, rer, trivial⟩
      have g : Fr (fun k => k = b22) w9 w11 := f10.trans f11
      have h2 := TBB.rd_kp (w' := w11) (fun k hk hl => g.block k hl (by rcases hk with hk | hk <;> omega)) hLr
      exact TBB.rd_mono (fun k hk _ => .inr (by rcases hk with hk | hk <;> omega)) h2
    have hB' : (Ty.sl TBd).rd w11 (fun k => (k < w.heap.size ∧ H k) ∨ w6.heap.size ≤ k) B := Ty.rd_ext X11 _ ((Ty.sl TBd).rd_mono (fun k hk1 hk => .inl ⟨hk, hk1⟩) h.rb)
    have hN := S.bl2
    have hN3' := S.bl1
    refine (with_c (f := f) (C := C) (n := n) (x := (⟨ca, cn, cc, Lp⟩, x.2.1, x.2.2.1, x.2.2.2.1, x.2.2.2.2.1 + 1, ())) hB' (by omega) (by omega) hx' (by omega)).mono ?_
    rintro ⟨_, ⟨⟩⟩ w12 ⟨B', hr', hrd', hl', x12⟩
    dsimp only at hr'
    subst hr'
    have S := S.stepE x12
    refine S.st2 (by rfl) fun w13 S f13 => S.su2 (j := 8) (by rfl) fun w14 S f14 => S.la2 rfl (S.st1 (by rfl) fun w15 S f15 => S.la1 rfl ?_)
    have X := S.ext
    have hbd2 : bdOf (⟨ca, cn, cc, Lp⟩, x.2.1, x.2.2.1, x.2.2.2.1, x.2.2.2.2.1 + 1, ()) = { blkC C n with pg := cutL (eraL (blkC C n).pg.flatten (codeC C).2.1) C.g.p.toNat, er := (blkC C n).er + 1 } := by
      unfold bdOf
      dsimp only
      rw [hLp, ← hbd]
      unfold bdOf
      dsimp only
      rw [hallx]
    have hC' : (eraC C n).1 = { C with bs := B'.l.map bdOf, off := (codeC C).2.2, ops := C.ops + 1 } := by
      unfold eraC
      rw [if_pos hmay]
      unfold eraX
      rw [if_neg hc0, hl', List.map_set, h.db, hbd2]
    refine ⟨B', ?_, ?_, ⟨?_, ?_, Ty.rd_ext X _ h.rf, ?_⟩, X⟩
    · rw [hC']
    · unfold eraC; rw [if_pos hmay]
    · have g : Fr (fun k => k = b1 ∨ k = b3) w12 w15 := ((f13.mono fun k hk => .inl hk).trans (f14.mono fun k hk => .inl hk)).trans (f15.mono fun k hk => .inr hk)
      exact rd_keep hrd' g (fun k hk => by
        have := X6.size
        have := X11.size
        rcases hk with (hk | hk) | hk
        · exact hk.2
        · exact hH k (by omega)
        · exact hH k (by omega)) fun k hk hlt => by
        rcases hk with (hk | hk) | hk <;> omega
    · rw [hC']
    · rw [hC']; exact h.df
end
end Go.Proofs.YtlpeoaphdmfjdaaGreat.Vc
/-! The contracts of layer 13: the document's array, a block scrubbed. -/
namespace Go.Proofs.YtlpeoaphdmfjdaaGreat.Vc
open Go Go.Eng Go.RowKit
section
variable {H : Nat → Prop} {w : World} {B : SlP TBd.T} {f : SlP TF.T} {C : CD}
theorem rScrub13_c {n : Int} (hH : ∀ k, w.heap.size ≤ k → H k) (h : RefR H w B f C) (hC : COk C) (ho : C.ops < 1000000) :
    CallV Tryz.prog 81 #[chVal B f C, .int .i64 n] w [.agg SH10, .one (.int .i64)] fun r w' => ∃ B' : SlP TBd.T, r.1 = chT B' f (scrC C n).1 ∧ r.2.1 = (scrC C n).2 ∧ RefR H w' B' f (scrC C n).1 ∧ Ext w w' := by
  apply ref13_Scrub.vc
  unfold ref13_Scrub.P
  obtain ⟨⟨n1, n2⟩, ⟨n3, n4⟩, ⟨n5, n6⟩, n7, n8⟩ := hC.num
  have hBn := h.len
  rw [hC.bl] at hBn
  have S := Sep.start NoB w
  refine S.newB fun b1 w1 S f1 _ => ?_
  refine S.newB fun b3 w3 S f3 _ => ?_
  have no : ∀ {w' : World} {e : Int}, mayC C n = e → e ≠ 0 → Sep NoB w w' [BoxA b3 34 [.int .i64 0, .int .i64 0, .int .i64 0, .int .i64 0, .int .i64 0, .int .i64 0, .slice none 0 0, .slice none 0 0, .bool false, .int .i64 0], BoxA b1 34 (chV B f C)] →
      LoadA w' ⟨b1, 0, none⟩ SH10 fun x => StoreV w' ⟨b3, 0, none⟩ [.int .i64 x.1, .int .i64 x.2.1, .int .i64 x.2.2.1, .int .i64 x.2.2.2.1, .int .i64 x.2.2.2.2.1, .int .i64 x.2.2.2.2.2.1, .slice x.2.2.2.2.2.2.1.a x.2.2.2.2.2.2.1.n x.2.2.2.2.2.2.1.c, .slice x.2.2.2.2.2.2.2.1.a x.2.2.2.2.2.2.2.1.n x.2.2.2.2.2.2.2.1.c, .bool x.2.2.2.2.2.2.2.2.1, .int .i64 x.2.2.2.2.2.2.2.2.2.1] fun w9 =>
        LoadA w9 ⟨b3, 0, none⟩ SH10 fun x => ∃ B' : SlP TBd.T, (x.1, x.2.1, x.2.2.1, x.2.2.2.1, x.2.2.2.2.1, x.2.2.2.2.2.1, x.2.2.2.2.2.2.1, x.2.2.2.2.2.2.2.1, x.2.2.2.2.2.2.2.2.1, x.2.2.2.2.2.2.2.2.2.1, ()) = chT B' f (scrC C n).1 ∧ e = (scrC C n).2 ∧ RefR H w9 B' f (scrC C n).1 ∧ Ext w w9 := fun he h0 S => by
    refine S.la1 rfl (S.st0 (by rfl) fun w9 S f9 => S.la0 rfl ?_)
    have X := S.ext
    unfold scrC
    rw [if_neg (by rw [he]; exact h0)]
    exact ⟨B, rfl, he.symm, h.ext X, X⟩
  refine S.ld1 (j := 8) rfl rfl (cond_of (fun hoff => no (e := 4) (by unfold mayC; rw [if_pos hoff]) (by decide) S) fun hoff => ?_)
  have hoff' : ¬ C.off = true := by rw [hoff]; decide
  refine cond_d (fun hn => no (e := 2) (by unfold mayC; rw [if_neg hoff', if_pos (by omega)]) (by decide) S) fun hn0 => ?_
  refine S.ld1 (j := 6) rfl rfl (cond_d (fun hn => no (e := 2) (by unfold mayC; rw [if_neg hoff', if_pos (by dsimp only at hn; omega)]) (by decide) S) fun hn1 => ?_)
  dsimp only at hn1
  have hn : 0 ≤ n ∧ n < C.g.b := by omega
  have hmay : mayC C n = 0 := by unfold mayC; rw [if_neg hoff', if_neg (fun k => k hn)]
  refine S.la1 rfl ?_
  refine (code_c (h.ext S.ext) hC).mono ?_
  rintro ⟨(e : Int), ⟨ma, mn, mc⟩, (cr : Bool), ⟨⟩⟩ w4 ⟨h4, h4', i4, x4⟩
  dsimp only at h4 h4' i4 ⊢
  subst h4; subst h4'
  have S := S.stepE x4
  refine S.ld1 (j := 6) rfl rfl ?_
  obtain ⟨q, x, hq, hc, hr, hx, hbd, -⟩ := (h.ext S.ext).nth (i := n) hn.1 (by omega)
  have hb := (hC.blk hn).2
  have her := hb.er
  refine ⟨⟨hn.1, by dsimp only; omega⟩, q, hq, bdT x, hc, ?_⟩
  refine S.newB fun b22 w5 S f5 _ => ?_
  refine S.st0 (by rfl) fun w6 S f6 => ?_
  have eer : (blkC C n).er = x.2.2.2.2.1 := by rw [← hbd]; rfl
  have hG : ∀ b, w.heap.size ≤ b → ∀ k, k < w.heap.size → k ≠ b := fun b hb k hk => by omega
  have hN22 := S.bl0
  have hN3 := S.bl1
  have hN1 := S.bl2
  have hmem : x ∈ B.l := List.mem_of_getElem? hx
  have hrx : TBd.rd w (fun k => k < w.heap.size ∧ H k) x := TBd.rd_mono (fun k hk1 hk => ⟨hk, hk1⟩) (h.rb.2.2.2.2 x hmem)
  have hge : ∀ (i : Nat) (b : Nat) (e : TypeId) (vs : List Value), [BoxA b22 133 (bdV x), BoxA b3 34 [.int .i64 0, .int .i64 0, .int .i64 0, .int .i64 0, .int .i64 0, .int .i64 0, .slice none 0 0, .slice none 0 0, .bool false, .int .i64 0], BoxA b1 34 (chV B f C)][i]? = some (BoxA b e vs) → w.heap.size ≤ b := fun i b e vs hi => by
    obtain ⟨F3, h3, h3'⟩ := S.get hi
    exact (h3' b h3.1).1.resolve_left fun x => x
  have g22 := hge 0 _ _ _ rfl
  have g3 := hge 1 _ _ _ rfl
  have g1 := hge 2 _ _ _ rfl
  refine S.su0 (j := 3) (by rfl) fun w6' S f6' => S.la0 rfl ?_
  have X6 := S.ext
  have hs6 : w6.heap.size ≤ w6'.heap.size := f6'.size
  have hbx := hb
  rw [← hbd] at hbx
  have hallx : ((x.1.l.map (·.l)).flatten) = allC C n := by show (bdOf x).pg.flatten = _; rw [hbd]
  have hrx6 : TBd.rd w6' All x := TBd.rd_mono (fun _ _ _ => trivial) (Ty.rd_ext X6 _ hrx)
  have hrx7 : TBd.rd w6' All (x.1, x.2.1, x.2.2.1, true, x.2.2.2.2.1, ()) := ⟨hrx6.1, hrx6.2.1, hrx6.2.2.1, trivial, hrx6.2.2.2.2.1, trivial⟩
  refine (joined_c (g := C.g) (m := 0) (z := szP C.g) hrx7 (by show x.1.l.length ≤ 100; rw [bd_len hbx]; omega) (by omega) (show ∀ q ∈ x.1.l, q.l.length = szP C.g from bd_page_len hbx)).mono ?_
  rintro ⟨⟨ja, jn, jc⟩, ⟨⟩⟩ w7 h7
  have h7 : Res w6' w7 ⟨ja, jn, jc⟩ (allC C n) := by rw [← hallx]; exact h7
  have hall := hb.all
  have hjl := h7.ints.len
  rw [show (allC C n).length = bszC C from hall.1] at hjl
  have m2 : bszC C ≤ 20 * 216 := Nat.mul_le_mul (by omega) (by omega)
  dsimp only at hjl ⊢
  have S7 := S.stepE h7.ext
  refine (rFill_c (x := 0) (n := 0)).mono ?_
  rintro ⟨⟨za, zn, zc⟩, ⟨⟩⟩ w8 h8
  have hmm : (max 0 (min 65536 (0 : Int))).toNat = 0 := by omega
  dsimp only at h8 ⊢
  rw [hmm] at h8
  have x78 := h7.ext.trans h8.ext
  have T0 : Sep NoB w7 w8 _ := (Sep.start NoB w7).res h8
  dsimp only at T0
  have hz0 : zn = 0 := by have := h8.ints.len; simpa using this.symm
  refine Loop1 (fun (v : SlV × Int × Unit) w' => ∃ i : Nat, v.2.1 = (i : Int) ∧ i ≤ jn ∧ v.1.n = i ∧ Sep NoB w7 w' [OwnA 5 1 v.1.a v.1.n v.1.c ((List.replicate i 0).map (Value.int .u8))]) (fun (v : SlV × Int × Unit) _ => ((jn : Int) - v.2.1).toNat) ⟨0, rfl, by omega, hz0, T0⟩ ?_
  rintro ⟨⟨va, vn, vc⟩, (v : Int), ⟨⟩⟩ w9 ⟨i, hv, hi, hvn, T9⟩
  dsimp only at hv hvn T9 ⊢
  subst hv
  subst hvn
  refine cond_d (fun hlt => ?_) (fun hge' => ?_)
  · refine T9.newB fun b34 w10 T9 f10 _ => ?_
    refine AppS.of (news := [.int .u8 0]) rfl (.inr ⟨_, rfl, T9.cells 0 rfl⟩) ?_
    refine T9.ap1 (by rfl) (fun u hu => by rw [List.mem_singleton.1 hu]; rfl) (by omega) (by omega) fun a36 c38 w11 T9 f11 => ?_
    refine ⟨Rng.i64 (by omega) (by omega), ⟨vn + 1, by push_cast; rfl, by omega, rfl, ?_⟩, by omega⟩
    rw [List.replicate_succ', List.map_append]
    exact T9.tail
  have hvj : vn = jn := by omega
  subst hvj
  have x79 : Ext w7 w9 := T9.ext
  have hZ : Ints w9 .u8 va vn vc (List.replicate vn 0) := T9.in0
  have bz : Byt (List.replicate vn (0 : Int)) := Byt.replicate (by decide) (by decide) _
  have hbm : Byt (codeC C).2.1 := by
    unfold codeC
    cases hat : atF C.pl (C.ops : Int) with
    | none => exact Byt.nil
    | some F => exact atF_byt hC hat
  have hlj : (allC C n).length = vn := by rw [← hjl]; exact hall.1
  generalize hQ : (if (codeC C).1 = 0 then List.replicate (allC C n).length (0 : Int) else progL (allC C n) (List.replicate (allC C n).length 0) (codeC C).2.1 false) = Q
  have hQl : Q.length = bszC C := by rw [← hQ]; split; rw [List.length_replicate]; exact hall.1; unfold progL; rw [turn_len]; exact hall.1
  have hQb : Byt Q := by rw [← hQ]; split; exact Byt.replicate (by decide) (by decide) _; exact turn_byt hall.2 _ _
  refine ⟨fun (v : SlV × Unit) w' => Ext w7 w' ∧ TB.rd w' (fun k => w7.heap.size ≤ k) ⟨v.1.a, v.1.n, v.1.c, Q⟩, ?_, ?_⟩
  case refine_2 =>
    refine cond_ne (fun hc0 => ?_) (fun hc0 => ?_)
    · have hc0 : ¬ (codeC C).1 = 0 := hc0
      have X49 : Ext w4 w9 := (Fr.ext ((f5.trans' f6 fun k hk => .inr (by omega)).trans' f6' fun k hk => .inr (by omega))).trans (h7.ext.trans x79)
      refine (Program_c (h7.ints.ext x79) hall.2 hZ bz (i4.ext X49) hbm (by dsimp only; omega)).mono ?_
      rintro ⟨⟨ra, rn, rc⟩, ⟨⟩⟩ w10 h10
      refine ⟨x79.trans h10.ext, ?_⟩
      have hs := x79.size
      rw [if_neg hc0] at hQ
      have hq : turn (allC C n) (prF (allC C n) (List.replicate vn 0) (codeC C).2.1 false vn) (8 * vn) = Q := by
        rw [← hQ]
        unfold progL
        rw [hlj]
      rw [hq] at h10
      exact TB.rd_mono (fun k hk _ => by omega) (res_rd h10 hQb)
    · have hc0 : (codeC C).1 = 0 := hc0
      refine ⟨x79, ?_⟩
      rw [if_pos hc0, hlj] at hQ
      obtain ⟨F1, k1, k2⟩ := T9.get (i := 0) rfl
      have := own_rd k1 bz
      rw [hQ] at this
      exact TB.rd_mono (fun k hk _ => (k2 k hk).1.resolve_left fun x => x) this
  rintro ⟨⟨ra, rn, rc⟩, ⟨⟩⟩ w10 ⟨x710, hQr⟩
  dsimp only at hQr ⊢
  have S := S7.stepE x710
  refine S.ld2 (j := 1) rfl rfl ?_
  have hrn : rn = bszC C := by rw [← hQl]; exact hQr.1.symm
  have hcut := cut13_c (P := C.g.p.toNat) hQr ⟨by omega, by omega⟩ (by omega)
  rw [show ((C.g.p.toNat : Nat) : Int) = C.g.p from by omega] at hcut
  refine hcut.mono ?_
  rintro ⟨⟨ca, cn, cc⟩, ⟨⟩⟩ w11 ⟨Lp, hLr, hLp, x11⟩
  dsimp only at hLr ⊢
  have S := S.stepE x11
  refine S.su0 (j := 0) (by rfl) fun w12 S f12 => ?_
  refine S.la2 rfl (S.la0 rfl ?_)
  have X12 := S.ext
  have s67 := h7.ext.size
  have s710 := x710.size
  have hx' : TBd.rd w12 (fun k => (k < w.heap.size ∧ H k) ∨ w6.heap.size ≤ k) (⟨ca, cn, cc, Lp⟩, x.2.1, x.2.2.1, true, x.2.2.2.2.1, ()) := by
    have h1 := Ty.rd_ext X12 _ hrx
    refine ⟨?_, TI.rd_mono (fun k hk _ => .inl hk) h1.2.1, h1.2.2.1, trivial, h1.2.2.2.2.1, trivial⟩
    have h2 := TBB.rd_kp (w' := w12) (fun k hk hl => f12.block k hl (by rcases hk with hk | hk <;> omega)) hLr
    exact TBB.rd_mono (fun k hk _ => .inr (by rcases hk with hk | hk <;> omega)) h2
  have hB' : (Ty.sl TBd).rd w12 (fun k => (k < w.heap.size ∧ H k) ∨ w6.heap.size ≤ k) B := Ty.rd_ext X12 _ ((Ty.sl TBd).rd_mono (fun k hk1 hk => .inl ⟨hk, hk1⟩) h.rb)
  have hN := S.bl2
  have hN3' := S.bl1
  refine (with_c (f := f) (C := C) (n := n) (x := (⟨ca, cn, cc, Lp⟩, x.2.1, x.2.2.1, true, x.2.2.2.2.1, ())) hB' (by omega) (by omega) hx' (by omega)).mono ?_
  rintro ⟨_, ⟨⟩⟩ w13 ⟨B', hr', hrd', hl', x13⟩
  dsimp only at hr'
  subst hr'
  have S := S.stepE x13
  refine S.st2 (by rfl) fun w14 S f14 => S.su2 (j := 8) (by rfl) fun w15 S f15 => S.la2 rfl (S.st1 (by rfl) fun w16 S f16 => S.la1 rfl ?_)
  have X := S.ext
  have hbd2 : bdOf (⟨ca, cn, cc, Lp⟩, x.2.1, x.2.2.1, true, x.2.2.2.2.1, ()) = { blkC C n with sc := true, pg := cutL Q C.g.p.toNat } := by
    unfold bdOf
    dsimp only
    rw [hLp, ← hbd]
    rfl
  have hC' : (scrC C n).1 = { C with bs := B'.l.map bdOf, off := (codeC C).2.2, ops := C.ops + 1 } := by
    unfold scrC
    rw [if_pos hmay]
    unfold scrX
    dsimp only
    rw [hl', List.map_set, h.db, hbd2, ← hQ]
  refine ⟨B', ?_, ?_, ⟨?_, ?_, Ty.rd_ext X _ h.rf, ?_⟩, X⟩
  · rw [hC']
  · unfold scrC; rw [if_pos hmay]
  · have g : Fr (fun k => k = b1 ∨ k = b3) w13 w16 := ((f14.mono fun k hk => .inl hk).trans (f15.mono fun k hk => .inl hk)).trans (f16.mono fun k hk => .inr hk)
    exact rd_keep hrd' g (fun k hk => by
      have := X6.size
      have := X12.size
      rcases hk with (hk | hk) | hk
      · exact hk.2
      · exact hH k (by omega)
      · exact hH k (by omega)) fun k hk hlt => by
      rcases hk with (hk | hk) | hk <;> omega
  · rw [hC']
  · rw [hC']; exact h.df
end
end Go.Proofs.YtlpeoaphdmfjdaaGreat.Vc
/-! The contracts of layer 13: the document's array, a page programmed. -/
namespace Go.Proofs.YtlpeoaphdmfjdaaGreat.Vc
open Go Go.Eng Go.RowKit
section
variable {H : Nat → Prop} {w : World} {B : SlP TBd.T} {f : SlP TF.T} {C : CD}
abbrev zCH : List Value := [.int .i64 0, .int .i64 0, .int .i64 0, .int .i64 0, .int .i64 0, .int .i64 0, .slice none 0 0, .slice none 0 0, .bool false, .int .i64 0]
theorem asWas {w' : World} {Rs : List Asr} {e : Int} {C' : CD × Int} {b5 b1 : Nat} {e5 e1 : TypeId} (h : RefR H w B f C) (he : C' = (C, e)) (S : Sep NoB w w' (BoxA b5 e5 zCH :: BoxA b1 e1 (chV B f C) :: Rs)) :
    LoadA w' ⟨b1, 0, none⟩ SH10 fun x => StoreV w' ⟨b5, 0, none⟩ [.int .i64 x.1, .int .i64 x.2.1, .int .i64 x.2.2.1, .int .i64 x.2.2.2.1, .int .i64 x.2.2.2.2.1, .int .i64 x.2.2.2.2.2.1, .slice x.2.2.2.2.2.2.1.a x.2.2.2.2.2.2.1.n x.2.2.2.2.2.2.1.c, .slice x.2.2.2.2.2.2.2.1.a x.2.2.2.2.2.2.2.1.n x.2.2.2.2.2.2.2.1.c, .bool x.2.2.2.2.2.2.2.2.1, .int .i64 x.2.2.2.2.2.2.2.2.2.1] fun w9 =>
      LoadA w9 ⟨b5, 0, none⟩ SH10 fun x => ∃ B' : SlP TBd.T, (x.1, x.2.1, x.2.2.1, x.2.2.2.1, x.2.2.2.2.1, x.2.2.2.2.2.1, x.2.2.2.2.2.2.1, x.2.2.2.2.2.2.2.1, x.2.2.2.2.2.2.2.2.1, x.2.2.2.2.2.2.2.2.2.1, ()) = chT B' f C'.1 ∧ e = C'.2 ∧ RefR H w9 B' f C'.1 ∧ Ext w w9 := by
  refine S.la1 rfl (S.st0 (by rfl) fun w9 S f9 => S.la0 rfl ?_)
  have X := S.ext
  rw [he]
  exact ⟨B, rfl, rfl, h.ext X, X⟩
theorem rProgram13_c {bl pa : Int} {a : Option Addr} {n c : Nat} {xs : List Int} (hH : ∀ k, w.heap.size ≤ k → H k) (h : RefR H w B f C) (hC : COk C) (ho : C.ops < 1000000) (hx : Ints w .u8 a n c xs) (bx : Byt xs) :
    CallV Tryz.prog 94 #[chVal B f C, .agg #[.int .i64 bl, .int .i64 pa], .slice a n c] w [.agg SH10, .one (.int .i64)] fun r w' => ∃ B' : SlP TBd.T, r.1 = chT B' f (progC C bl pa xs).1 ∧ r.2.1 = (progC C bl pa xs).2 ∧ RefR H w' B' f (progC C bl pa xs).1 ∧ Ext w w' := by
  apply ref13_Program.vc
  unfold ref13_Program.P
  obtain ⟨⟨n1, n2⟩, ⟨n3, n4⟩, ⟨n5, n6⟩, n7, n8⟩ := hC.num
  have hBn := h.len
  have hxl := hx.len
  rw [hC.bl] at hBn
  have S := Sep.start NoB w
  refine S.newB fun b1 w1 S f1 _ => ?_
  refine S.newB fun b3 w3 S f3 _ => ?_
  refine S.newB fun b5 w5 S f5 _ => ?_
  have hno : ∀ {e : Int}, refC C bl pa xs.length = e → e ≠ 0 → progC C bl pa xs = (C, e) := fun he h0 => by unfold progC; rw [he, if_neg h0]
  refine S.ld2 (j := 8) rfl rfl (cond_of (fun hoff => asWas h (hno (e := 4) (by unfold refC; rw [if_pos hoff]) (by decide)) (S.sel [0, 1] rfl)) fun hoff => ?_)
  have hoff' : ¬ C.off = true := by rw [hoff]; decide
  refine S.lb2 (o := 0) rfl (S.la1 rfl ?_)
  refine (rRight13_c (g := C.g) (b := bl) (p := pa)).mono ?_
  rintro ⟨(r : Bool), ⟨⟩⟩ w6 ⟨h6, x6⟩
  dsimp only at h6 ⊢
  subst h6
  have S := S.stepE x6
  by_cases hi : inC C bl pa
  case neg => exact cond_t (by rw [decide_eq_false (fun k => hi k.2)]; rfl) (asWas h (hno (e := 2) (by unfold refC; rw [if_neg hoff', if_pos (fun k => hi k.1)]) (by decide)) (S.sel [0, 1] rfl))
  refine cond_f (by rw [decide_eq_true (show plOk C.g bl pa from ⟨hC.g, hi⟩)]; rfl) ?_
  refine S.ld2 (j := 2) rfl rfl ⟨Rng.i64 (by omega) (by omega), ?_⟩
  have href := refC_eq (n := xs.length) hoff' hi
  refine cond_ne (fun hn => asWas h (hno (e := 2) (by rw [href, if_pos (by omega)]) (by decide)) (S.sel [0, 1] rfl)) fun hn => ?_
  have hxz : xs.length = szP C.g := by omega
  rw [if_neg (fun k => k hxz)] at href
  refine S.ld2 (j := 6) rfl rfl (S.ld1 (j := 0) rfl rfl ?_)
  obtain ⟨q, x, hq, hc, hr, hxx, hbd, -⟩ := (h.ext S.ext).nth (i := bl) hi.1.1 (by have := hi.1.2; omega)
  refine ⟨⟨hi.1.1, by have := hi.1.2; dsimp only; omega⟩, q, hq, bdT x, hc, ?_⟩
  refine S.newB fun b26 w7 S f7 _ => ?_
  refine S.st0 (by rfl) fun w8 S f8 => ?_
  have hb := (hC.blk hi.1).2
  have hsc : (blkC C bl).sc = x.2.2.2.1 := by rw [← hbd]; rfl
  have hus : (blkC C bl).us = x.2.1.l := by rw [← hbd]; rfl
  have hla : (blkC C bl).la = x.2.2.1 := by rw [← hbd]; rfl
  refine S.ld0 (j := 3) rfl rfl (cond_of (fun hs => asWas h (hno (e := 7) (by rw [href, if_pos (.inl (by rw [hsc]; exact hs))]) (by decide)) (S.sel [1, 2] rfl)) fun hs => ?_)
  have hmem : x ∈ B.l := List.mem_of_getElem? hxx
  have hrx : TBd.rd w (fun k => k < w.heap.size ∧ H k) x := TBd.rd_mono (fun k hk1 hk => ⟨hk, hk1⟩) (h.rb.2.2.2.2 x hmem)
  have hge : ∀ (i : Nat) (b : Nat) (e : TypeId) (vs : List Value), [BoxA b26 133 (bdV x), BoxA b5 34 zCH, BoxA b3 160 [.int .i64 bl, .int .i64 pa], BoxA b1 34 (chV B f C)][i]? = some (BoxA b e vs) → w.heap.size ≤ b := fun i b e vs hi => by
    obtain ⟨F3, h3, h3'⟩ := S.get hi
    exact (h3' b h3.1).1.resolve_left fun x => x
  have g26 := hge 0 _ _ _ rfl
  have g5 := hge 1 _ _ _ rfl
  have g1 := hge 3 _ _ _ rfl
  clear hge
  have l26 := S.bl0
  have l5 := S.bl1
  have l1 := S.bl3
  have X8 := S.ext
  have hr8 := TBd.rd_mono (fun _ _ _ => trivial) (Ty.rd_ext X8 _ hrx) (G' := All)
  have hul : x.2.1.n = C.g.p.toNat := by rw [← hb.ul, hus]; exact hr8.2.1.1.symm
  have hpp := hi.2
  have hu8 : Ints w8 .i64 x.2.1.a x.2.1.n x.2.1.c x.2.1.l := Ty.ints hr8.2.1
  have hue : x.2.1.l.getD pa.toNat 0 = usC C bl pa := by rw [← hus]
  have hu2 := (hC.us hi).2
  refine S.ld0 (j := 1) rfl rfl (S.ld2 (j := 1) rfl rfl (hu8.idx (by omega) (by omega) ?_))
  rw [hue]
  refine cond_d (fun h2 => asWas h (hno (e := 7) (by rw [href, if_pos (.inr h2)]) (by decide)) (S.sel [1, 2] rfl)) fun h2 => ?_
  rw [if_neg (fun k => k.elim (fun k => by rw [hsc, hs] at k; cases k) h2)] at href
  refine ⟨fun (_ : Unit) w' => w' = w8 ∧ refC C bl pa xs.length = 0, ?_, ?_⟩
  case refine_2 =>
    refine S.ld0 (j := 1) rfl rfl (S.ld2 (j := 1) rfl rfl (hu8.idx (by omega) (by omega) ?_))
    rw [hue]
    refine cond_eq (fun h0 => ?_) (fun h0 => ⟨rfl, by rw [href, if_neg (fun k => h0 k.1)]⟩)
    refine S.ld2 (j := 1) rfl rfl (S.ld0 (j := 2) rfl rfl (cond_d (fun hp => ?_) fun hp => ⟨rfl, by rw [href, if_neg (fun k => hp (by rw [← hla]; exact k.2))]⟩))
    exact asWas h (hno (e := 6) (by rw [href, if_pos ⟨h0, by rw [hla]; exact hp⟩]) (by decide)) (S.sel [1, 2] rfl)
  rintro ⟨⟩ w9 ⟨rfl, href0⟩
  clear href hno
  refine S.la3 rfl ?_
  refine (code_c (h.ext X8) hC).mono ?_
  rintro ⟨(e : Int), ⟨ma, mn, mc⟩, (cr : Bool), ⟨⟩⟩ w10 ⟨h10, h10', i10, x10⟩
  dsimp only at h10 h10' i10 ⊢
  subst h10; subst h10'
  have S := S.stepE x10
  refine S.ld0 (j := 0) rfl rfl (S.ld2 (j := 1) rfl rfl ?_)
  have hr10 := Ty.rd_ext x10 _ hr8
  have hpl : x.1.n = C.g.p.toNat := by rw [← bd_len (x := x) (by rw [hbd]; exact hb)]; exact hr8.1.1.symm
  obtain ⟨q2, y, hq2, hy, hc2, hry, -, -⟩ := TBB_nth hr10.1 (i := pa) (by omega) (by omega)
  have hyp : y.l = pgC13 C bl pa := by
    have h1 : (x.1.l.map (·.l))[pa.toNat]? = some y.l := by rw [List.getElem?_map, hy]; rfl
    have h2 : (blkC C bl).pg = x.1.l.map (·.l) := by rw [← hbd]; rfl
    show _ = (blkC C bl).pg.getD pa.toNat []
    rw [h2, getD_some h1]
  have hyI := Ty.ints hry
  rw [hyp] at hyI
  have hyl := hyI.len
  rw [(hC.page hi).2.1] at hyl
  refine ⟨⟨by omega, by dsimp only; omega⟩, q2, hq2, ldp0 hc2 (h := .sl) (x := ⟨y.a, y.n, y.c⟩) rfl ?_⟩
  dsimp only
  have X10 := X8.trans x10
  refine (And_c hyI (hx.ext X10) (by omega) (by omega)).mono ?_
  rintro ⟨⟨na, nn, nc⟩, ⟨⟩⟩ w11 h11
  dsimp only at h11 ⊢
  have hbm : Byt (codeC C).2.1 := by
    unfold codeC
    cases hat : atF C.pl (C.ops : Int) with
    | none => exact Byt.nil
    | some F => exact atF_byt hC hat
  have hbp := (hC.page hi).2.2
  generalize hQ : (if (codeC C).1 = 0 then andL (pgC13 C bl pa) xs else progL (pgC13 C bl pa) xs (codeC C).2.1 (!(codeC C).2.2)) = Q
  have hQl : Q.length = szP C.g := by
    rw [← hQ]
    split
    · rw [← (hC.page hi).2.1]; simp [andL]
    · unfold progL; rw [turn_len]; exact (hC.page hi).2.1
  have hQb : Byt Q := by rw [← hQ]; split; exact andL_byt _ _; exact turn_byt hbp _ _
  refine ⟨fun (v : SlV × Unit) w' => Ext w10 w' ∧ TB.rd w' (fun k => w10.heap.size ≤ k) ⟨v.1.a, v.1.n, v.1.c, Q⟩, ?_, ?_⟩
  case refine_2 =>
    refine cond_ne (fun hc0 => ?_) (fun hc0 => ?_)
    · have hc0 : ¬ (codeC C).1 = 0 := hc0
      have hs11 := h11.ext.size
      obtain ⟨na', hna'⟩ : ∃ t : SlV, t = ⟨a, n, c⟩ := ⟨_, rfl⟩
      have hnn : n = y.n := by omega
      subst hnn
      refine (Program_c (hyI.ext h11.ext) hbp (hx.ext (X10.trans h11.ext)) bx (i10.ext h11.ext) hbm (by omega)).mono ?_
      rintro ⟨⟨ra, rn, rc⟩, ⟨⟩⟩ w12 h12
      refine ⟨h11.ext.trans h12.ext, ?_⟩
      rw [if_neg hc0] at hQ
      have hq : turn (pgC13 C bl pa) (prF (pgC13 C bl pa) xs (codeC C).2.1 (!(codeC C).2.2) y.n) (8 * y.n) = Q := by
        rw [← hQ]
        unfold progL
        rw [(hC.page hi).2.1, hyl]
      rw [hq] at h12
      exact TB.rd_mono (fun k hk _ => by omega) (res_rd h12 hQb)
    · have hc0 : (codeC C).1 = 0 := hc0
      rw [if_pos hc0] at hQ
      rw [hQ] at h11
      exact ⟨h11.ext, res_rd h11 hQb⟩
  rintro ⟨⟨va, vn, vc⟩, ⟨⟩⟩ w12 ⟨x12, hvQ⟩
  dsimp only at hvQ ⊢
  have S := S.push (R := RdT TB ⟨va, vn, vc, Q⟩) (F := fun k => w10.heap.size ≤ k ∧ k < w12.heap.size) (.of x12) (TB.rd_mono (fun k h1 h2 => ⟨h1, h2⟩) hvQ) fun k hk => hk
  have hrP : TBB.rd w12 All x.1 := Ty.rd_ext x12 _ hr10.1
  have hrU : TI.rd w12 All x.2.1 := Ty.rd_ext x12 _ hr10.2.1
  have hPc : RdC w12 x.1.a (x.1.l.map slV) := by
    have := hrP.2.2.2.1.rdc
    rwa [show x.1.l.flatMap TB.vs = x.1.l.map slV from flat_sl _] at this
  have hUi : Ints w12 .i64 x.2.1.a x.2.1.n x.2.1.c x.2.1.l := Ty.ints hrU
  have hPl : x.1.l.length = x.1.n := hrP.1
  have hUl : x.2.1.l.length = x.2.1.n := hrU.1
  have w12s : Sep NoB w12 w12 [] := Sep.start NoB w12
  refine S.newB fun b55 w13 S f13 _ => ?_
  have S := S.asOwn (sz := 1) (n := 0) rfl (by omega) oneAll.nil
  refine S.ld2 (j := 0) rfl rfl ?_
  dsimp only
  have X13 := Fr.ext f13
  refine AppS.of (news := x.1.l.map slV) (by rw [List.length_map]; omega) (X13.rd hPc) ?_
  refine S.ap0 (by rw [List.length_map]; omega) (fun u hu => by obtain ⟨v, -, rfl⟩ := List.mem_map.1 hu; rfl) (by omega) (by omega) fun a58 c60 w14 S f14 => ?_
  rw [List.nil_append, Nat.zero_add] at S
  rw [Nat.zero_add]
  refine S.su2 (j := 0) (by rfl) fun w15 S f15 => ?_
  refine S.newB fun b64 w16 S f16 _ => ?_
  have S := S.asOwn (sz := 1) (n := 0) rfl (by omega) oneAll.nil
  refine S.ld3 (j := 1) rfl rfl ?_
  dsimp only
  have X16 : Ext w w16 := S.ext
  have hU16 : Ints w16 .i64 x.2.1.a x.2.1.n x.2.1.c x.2.1.l := Ty.ints (Ty.rd_ext X16 _ hrx).2.1
  refine AppS.of (news := iv x.2.1.l) (by rw [List.length_map]; omega) hU16.rd ?_
  refine S.ap0 (by rw [List.length_map]; omega) (oneAll.ints _ _) (by omega) (by omega) fun a67 c69 w17 S f17 => ?_
  rw [List.nil_append, Nat.zero_add] at S
  rw [Nat.zero_add]
  refine S.su3 (j := 1) (by rfl) fun w18 S f18 => ?_
  refine S.ld3 (j := 0) rfl rfl (S.ld5 (j := 1) rfl rfl ?_)
  refine S.put (i := 1) rfl (by omega) (by omega) (v := .slice va vn vc) rfl fun w19 S f19 => ?_
  dsimp only [List.set_cons_succ, List.set_cons_zero] at S
  refine S.ld3 (j := 1) rfl rfl (S.ld5 (j := 1) rfl rfl ?_)
  dsimp only
  refine (S.ints 0 rfl).idx (by omega) (by omega) ?_
  rw [hue]
  refine ⟨Rng.i64 (by omega) (by omega), ?_⟩
  refine S.put (i := 0) rfl (by omega) (by omega) (v := .int .i64 (usC C bl pa + 1)) rfl fun w20 S f20 => ?_
  dsimp only [List.set_cons_succ, List.set_cons_zero] at S
  rw [iv_set] at S
  refine S.ld3 (j := 2) rfl rfl (S.ld5 (j := 1) rfl rfl ?_)
  intro z hz
  subst hz
  refine S.su3 (j := 2) (by rfl) fun w21 S f21 => ?_
  refine S.la6 rfl (S.ld5 (j := 0) rfl rfl (S.la3 rfl ?_))
  dsimp only
  have X21 := S.ext
  obtain ⟨FP, hFP, nP, oP⟩ := S.off 1 rfl
  obtain ⟨FU, hFU, nU, oU⟩ := S.off 0 rfl
  obtain ⟨FQ, hFQ, nQ, oQ⟩ := S.off 2 rfl
  have aP : ∀ k, FP k → H k ∧ k ≠ b1 ∧ k ≠ b5 := fun k hk => ⟨hH k ((nP k hk).1.resolve_left fun x => x), fun e => oP 6 _ _ _ (by decide) rfl (e ▸ hk), fun e => oP 4 _ _ _ (by decide) rfl (e ▸ hk)⟩
  have aU : ∀ k, FU k → H k ∧ k ≠ b1 ∧ k ≠ b5 := fun k hk => ⟨hH k ((nU k hk).1.resolve_left fun x => x), fun e => oU 6 _ _ _ (by decide) rfl (e ▸ hk), fun e => oU 4 _ _ _ (by decide) rfl (e ▸ hk)⟩
  have aQ : ∀ k, FQ k → H k ∧ k ≠ b1 ∧ k ≠ b5 := fun k hk => ⟨hH k ((nQ k hk).1.resolve_left fun x => x), fun e => oQ 6 _ _ _ (by decide) rfl (e ▸ hk), fun e => oQ 4 _ _ _ (by decide) rfl (e ▸ hk)⟩
  have hx21 := Ty.rd_ext X21 _ hrx
  have hla2 := hb.la
  rw [hla] at hla2
  have ewP : (x.1.l.map slV).set pa.toNat (.slice va vn vc) = (x.1.l.set pa.toNat ⟨va, vn, vc, Q⟩).flatMap TB.vs := by rw [show (x.1.l.set pa.toNat ⟨va, vn, vc, Q⟩).flatMap TB.vs = (x.1.l.set pa.toNat ⟨va, vn, vc, Q⟩).map slV from flat_sl _, List.map_set]
  rw [ewP] at hFP
  have hQ21 : TB.rd w21 (fun k => H k ∧ k ≠ b1 ∧ k ≠ b5) ⟨va, vn, vc, Q⟩ := TB.rd_mono (fun k hk _ => aQ k hk) hFQ
  have old : ∀ k, k < w.heap.size ∧ H k → H k ∧ k ≠ b1 ∧ k ≠ b5 := fun k hk => ⟨hk.2, by omega, by omega⟩
  have hP' : TBB.rd w21 (fun k => H k ∧ k ≠ b1 ∧ k ≠ b5) ⟨a58, x.1.n, c60, x.1.l.set pa.toNat ⟨va, vn, vc, Q⟩⟩ := by
    refine own_rdF (t := TB) hFP (by decide) aP fun y hy => ?_
    rcases List.mem_or_eq_of_mem_set hy with hm | hm
    · exact TB.rd_mono (fun k hk _ => old k hk) (hx21.1.2.2.2.2 y hm)
    · rw [hm]; exact hQ21
  have hU' : TI.rd w21 (fun k => H k ∧ k ≠ b1 ∧ k ≠ b5) ⟨a67, x.2.1.n, c69, x.2.1.l.set pa.toNat (usC C bl pa + 1)⟩ := by
    rw [iv, ← flat_ints] at hFU
    refine own_rdF (t := .int .i64) hFU (by decide) aU fun y hy => ?_
    rcases List.mem_or_eq_of_mem_set hy with hm | hm
    · exact hx21.2.1.2.2.2.2 y hm
    · rw [hm]; exact Rng.i64 (by omega) (by omega)
  have rla : Rng .i64 (max x.2.2.1 pa) := Rng.i64 (by omega) (by omega)
  have hx' : TBd.rd w21 (fun k => H k ∧ k ≠ b1 ∧ k ≠ b5) (⟨a58, x.1.n, c60, x.1.l.set pa.toNat ⟨va, vn, vc, Q⟩⟩, ⟨a67, x.2.1.n, c69, x.2.1.l.set pa.toNat (usC C bl pa + 1)⟩, max x.2.2.1 pa, x.2.2.2.1, x.2.2.2.2.1, ()) :=
    ⟨hP', hU', rla, trivial, hx21.2.2.2.2.1, trivial⟩
  have hB' : (Ty.sl TBd).rd w21 (fun k => H k ∧ k ≠ b1 ∧ k ≠ b5) B := Ty.rd_ext X21 _ ((Ty.sl TBd).rd_mono (fun k hk1 hk => old k ⟨hk, hk1⟩) h.rb)
  have hN1 := S.bl6
  have hN5 := S.bl4
  refine (with_c (f := f) (C := C) (n := bl) (x := (⟨a58, x.1.n, c60, x.1.l.set pa.toNat ⟨va, vn, vc, Q⟩⟩, ⟨a67, x.2.1.n, c69, x.2.1.l.set pa.toNat (usC C bl pa + 1)⟩, max x.2.2.1 pa, x.2.2.2.1, x.2.2.2.2.1, ())) hB' (by omega) (by omega) hx' ⟨hi.1.1, by have := hi.1.2; omega⟩).mono ?_
  rintro ⟨_, ⟨⟩⟩ w22 ⟨B', hr', hrd', hl', x22⟩
  dsimp only at hr'
  subst hr'
  have S := S.stepE x22
  refine S.st6 (by rfl) fun w23 S f23 => S.su6 (j := 8) (by rfl) fun w24 S f24 => S.la6 rfl (S.st4 (by rfl) fun w25 S f25 => S.la4 rfl ?_)
  have X := S.ext
  have hbd2 : bdOf (⟨a58, x.1.n, c60, x.1.l.set pa.toNat ⟨va, vn, vc, Q⟩⟩, ⟨a67, x.2.1.n, c69, x.2.1.l.set pa.toNat (usC C bl pa + 1)⟩, max x.2.2.1 pa, x.2.2.2.1, x.2.2.2.2.1, ()) = { blkC C bl with pg := (blkC C bl).pg.set pa.toNat Q, us := (blkC C bl).us.set pa.toNat (usC C bl pa + 1), la := max (blkC C bl).la pa } := by
    rw [← hbd]
    unfold bdOf
    dsimp only
    rw [List.map_set]
  have hC' : (progC C bl pa xs).1 = { C with bs := B'.l.map bdOf, off := (codeC C).2.2, ops := C.ops + 1 } := by
    unfold progC
    rw [if_pos href0]
    unfold progX
    rw [hQ, hl', List.map_set, h.db, hbd2]
  refine ⟨B', ?_, ?_, ⟨?_, ?_, Ty.rd_ext X _ h.rf, ?_⟩, X⟩
  · rw [hC']
  · unfold progC; rw [if_pos href0]
  · have g : Fr (fun k => k = b1 ∨ k = b5) w22 w25 := ((f23.mono fun k hk => .inl hk).trans (f24.mono fun k hk => .inl hk)).trans (f25.mono fun k hk => .inr hk)
    exact rd_keep hrd' g (fun k hk => by
      rcases hk with hk | hk
      · exact hk.1
      · exact hH k (by have := X21.size; omega)) fun k hk hlt => by
      rcases hk with hk | hk
      · exact fun e => e.elim hk.2.1 hk.2.2
      · omega
  · rw [hC']
  · rw [hC']; exact h.df
end
end Go.Proofs.YtlpeoaphdmfjdaaGreat.Vc
/-! The contracts of layer 13: the document's array, a byte changed. -/
namespace Go.Proofs.YtlpeoaphdmfjdaaGreat.Vc
open Go Go.Eng Go.RowKit
section
variable {H : Nat → Prop} {w : World} {B : SlP TBd.T} {f : SlP TF.T} {C : CD}
theorem own_rdB {w : World} {F G : Nat → Prop} {e : TypeId} {a : Option Addr} {n c : Nat} {xs : List Int} (ho : (OwnA e 1 a n c (xs.map (Value.int .u8))).p w F) (hF : ∀ k, F k → G k) (bx : Byt xs) : TB.rd w G ⟨a, n, c, xs⟩ := by
  rw [← flat_ints] at ho
  exact own_rdF (t := .int .u8) ho (by decide) hF fun y hy => rngU8 (bx y hy)
end
end Go.Proofs.YtlpeoaphdmfjdaaGreat.Vc
/-! The plans of functions as plain statements, printed by wip/tools/vcgen.py; the kernel holds each to the code. -/
namespace Go.Proofs.YtlpeoaphdmfjdaaGreat.Vc
open Go Go.Eng
def ledger_New.A : Ann := .two .no (.two .no (.two .no (.two (.two .no (.one (.loop [14, 15, 16, 17, 18, 19, 20, 21, 22, 23, 24, 25, 26] [(14, .one (.int .i64))] .no))) .no)))
def ledger_New.P (p0 : Int) (w : World) (K : (Option Addr) × Int × Unit → World → Prop) : Prop :=
  cond (decide (p0 < 0))
  (K (none, (2 : Int), ()) w)
  (cond (decide (p0 > 64))
  (K (none, (2 : Int), ()) w)
  (NewV #[.slice none 0 0] 117 w fun b1 w2 =>
  LoopV [.one (.int .i64)] ((0 : Int), ()) w2 fun (z3 : Int × Unit) w4 (K5 : Int × Unit → World → Prop) =>
  cond (decide (z3.1 < p0))
  (LoadS w4 ⟨b1, 0, none⟩ .sl fun (x6 : SlV) =>
  NewV #[.int .i64 (-1), .int .i64 0, .int .i64 0, .int .i64 0, .bool false, .bool false, .bool false, .bool false, .bool false] 60 w4 fun b7 w8 =>
  AppS w8 (some ⟨b7, 0, none⟩) 1 9 fun ns13 =>
  AppV w8 60 9 40 x6.a x6.n x6.c ns13 1 fun a9 n10 c11 w12 =>
  StoreV w12 ⟨b1, 0, none⟩ [.slice a9 n10 c11] fun w14 =>
  Rng .i64 (z3.1 + 1) ∧
  K5 (z3.1 + 1, ()) w14)
  (K ((some ⟨b1, 0, none⟩), (0 : Int), ()) w4)))
theorem ledger_New.vc (p0 : Int) (w : World) (K : (Option Addr) × Int × Unit → World → Prop) (h : ledger_New.P p0 w K) : CallV Tryz.prog 33 #[.int .i64 p0] w [.one .ptr, .one (.int .i64)] K := by
  refine vcFun.of (A := ledger_New.A) (wr := false) okf_ok follows h Tryz.func33 ?_
  kernel_rfl
def ledger_Ledger_has.A : Ann := .no
def ledger_Ledger_has.P (p0 : Addr) (p1 : Int) (w : World) (K : Bool × Unit → World → Prop) : Prop :=
  cond (decide (p1 ≥ 0))
  (CallV Tryz.prog 78 #[.pointer (some p0)] w [.one (.int .i64)] fun (r1 : Int × Unit) w2 =>
  K (decide (p1 < r1.1), ()) w2)
  (K (false, ()) w)
theorem ledger_Ledger_has.vc (p0 : Addr) (p1 : Int) (w : World) (K : Bool × Unit → World → Prop) (h : ledger_Ledger_has.P p0 p1 w K) : CallV Tryz.prog 52 #[.pointer (some p0), .int .i64 p1] w [.one .bool] K := by
  refine vcFun.of (A := ledger_Ledger_has.A) (wr := false) okf_ok follows h Tryz.func52 ?_
  kernel_rfl
def ledger_Ledger_Len.A : Ann := .no
def ledger_Ledger_Len.P (p0 : Addr) (w : World) (K : Int × Unit → World → Prop) : Prop :=
  LoadS w p0 .sl fun (x1 : SlV) =>
  K (((x1.n : Nat) : Int), ()) w
theorem ledger_Ledger_Len.vc (p0 : Addr) (w : World) (K : Int × Unit → World → Prop) (h : ledger_Ledger_Len.P p0 w K) : CallV Tryz.prog 78 #[.pointer (some p0)] w [.one (.int .i64)] K := by
  refine vcFun.of (A := ledger_Ledger_Len.A) (wr := false) okf_ok follows h Tryz.func78 ?_
  kernel_rfl
def ledger_Ledger_change.A : Ann := .no
def ledger_Ledger_change.P (p0 : Addr) (p1 : Int) (g2 : FuncId) (cap2 : Array Value) (w : World) (K : Int × Unit → World → Prop) : Prop :=
  CallV Tryz.prog 52 #[.pointer (some p0), .int .i64 p1] w [.one .bool] fun (r1 : Bool × Unit) w2 =>
  cond (!r1.1)
  (K ((2 : Int), ()) w2)
  (LoadS w2 p0 .sl fun (x3 : SlV) =>
  (0 ≤ p1 ∧ p1 < ((x3.n : Nat) : Int)) ∧ ∃ q4 : Addr, x3.a = some q4 ∧
  cond (okf g2)
  (CallV Tryz.prog g2 ([] ++ ((([.pointer (some (q4.add (p1.toNat * 9)))] : List Value)) ++ (cap2).toList)).toArray w2 [] fun (r5 : Unit) w6 =>
  K ((0 : Int), ()) w6)
  False)
theorem ledger_Ledger_change.vc (p0 : Addr) (p1 : Int) (g2 : FuncId) (cap2 : Array Value) (w : World) (K : Int × Unit → World → Prop) (h : ledger_Ledger_change.P p0 p1 g2 cap2 w K) : CallV Tryz.prog 96 #[.pointer (some p0), .int .i64 p1, .func (.func g2) #[] cap2] w [.one (.int .i64)] K := by
  refine vcFun.of (A := ledger_Ledger_change.A) (wr := false) okf_ok follows h Tryz.func96 ?_
  kernel_rfl
def ledger_Ledger_At.A : Ann := .no
def ledger_Ledger_At.P (p0 : Addr) (p1 : Int) (w : World) (K : (Int × Int × Int × Int × Bool × Bool × Bool × Bool × Bool × Unit) × Unit → World → Prop) : Prop :=
  NewV #[.int .i64 0, .int .i64 0, .int .i64 0, .int .i64 0, .bool false, .bool false, .bool false, .bool false, .bool false] 60 w fun b1 w2 =>
  CallV Tryz.prog 52 #[.pointer (some p0), .int .i64 p1] w2 [.one .bool] fun (r3 : Bool × Unit) w4 =>
  cond (!r3.1)
  (StoreV w4 ⟨b1, 0, none⟩ [.int .i64 0, .int .i64 0, .int .i64 0, .int .i64 0, .bool false, .bool false, .bool false, .bool false, .bool false] fun w5 =>
  LoadA w5 ⟨b1, 0, none⟩ [.int .i64, .int .i64, .int .i64, .int .i64, .bool, .bool, .bool, .bool, .bool] fun (x6 : Int × Int × Int × Int × Bool × Bool × Bool × Bool × Bool × Unit) =>
  K ((x6.1, x6.2.1, x6.2.2.1, x6.2.2.2.1, x6.2.2.2.2.1, x6.2.2.2.2.2.1, x6.2.2.2.2.2.2.1, x6.2.2.2.2.2.2.2.1, x6.2.2.2.2.2.2.2.2.1, ()), ()) w5)
  (LoadS w4 p0 .sl fun (x7 : SlV) =>
  (0 ≤ p1 ∧ p1 < ((x7.n : Nat) : Int)) ∧ ∃ q8 : Addr, x7.a = some q8 ∧
  LoadA w4 (q8.add (p1.toNat * 9)) [.int .i64, .int .i64, .int .i64, .int .i64, .bool, .bool, .bool, .bool, .bool] fun (x9 : Int × Int × Int × Int × Bool × Bool × Bool × Bool × Bool × Unit) =>
  StoreV w4 ⟨b1, 0, none⟩ [.int .i64 x9.1, .int .i64 x9.2.1, .int .i64 x9.2.2.1, .int .i64 x9.2.2.2.1, .bool x9.2.2.2.2.1, .bool x9.2.2.2.2.2.1, .bool x9.2.2.2.2.2.2.1, .bool x9.2.2.2.2.2.2.2.1, .bool x9.2.2.2.2.2.2.2.2.1] fun w10 =>
  LoadA w10 ⟨b1, 0, none⟩ [.int .i64, .int .i64, .int .i64, .int .i64, .bool, .bool, .bool, .bool, .bool] fun (x11 : Int × Int × Int × Int × Bool × Bool × Bool × Bool × Bool × Unit) =>
  K ((x11.1, x11.2.1, x11.2.2.1, x11.2.2.2.1, x11.2.2.2.2.1, x11.2.2.2.2.2.1, x11.2.2.2.2.2.2.1, x11.2.2.2.2.2.2.2.1, x11.2.2.2.2.2.2.2.2.1, ()), ()) w10)
theorem ledger_Ledger_At.vc (p0 : Addr) (p1 : Int) (w : World) (K : (Int × Int × Int × Int × Bool × Bool × Bool × Bool × Bool × Unit) × Unit → World → Prop) (h : ledger_Ledger_At.P p0 p1 w K) : CallV Tryz.prog 15 #[.pointer (some p0), .int .i64 p1] w [.agg [.int .i64, .int .i64, .int .i64, .int .i64, .bool, .bool, .bool, .bool, .bool]] K := by
  refine vcFun.of (A := ledger_Ledger_At.A) (wr := false) okf_ok follows h Tryz.func15 ?_
  kernel_rfl
def ledger_Ledger_Hold.A : Ann := .no
def ledger_Ledger_Hold.P (p0 : Addr) (p1 p2 : Int) (w : World) (K : Int × Unit → World → Prop) : Prop :=
  NewV #[.int .i64 p2] 3 w fun b1 w2 =>
  LoadS w2 ⟨b1, 0, none⟩ (.int .i64) fun (x3 : Int) =>
  cond (decide (x3 < 0))
  (K ((2 : Int), ()) w2)
  (LoadS w2 ⟨b1, 0, none⟩ (.int .i64) fun (x4 : Int) =>
  cond (decide (x4 ≥ 4))
  (K ((2 : Int), ()) w2)
  (CallV Tryz.prog 96 #[.pointer (some p0), .int .i64 p1, .func (.func 170) #[] #[.pointer (some ⟨b1, 0, none⟩)]] w2 [.one (.int .i64)] fun (r5 : Int × Unit) w6 =>
  K (r5.1, ()) w6))
theorem ledger_Ledger_Hold.vc (p0 : Addr) (p1 p2 : Int) (w : World) (K : Int × Unit → World → Prop) (h : ledger_Ledger_Hold.P p0 p1 p2 w K) : CallV Tryz.prog 158 #[.pointer (some p0), .int .i64 p1, .int .i64 p2] w [.one (.int .i64)] K := by
  refine vcFun.of (A := ledger_Ledger_Hold.A) (wr := false) okf_ok follows h Tryz.func158 ?_
  kernel_rfl
def ledger_Ledger_Hold_1.A : Ann := .no
def ledger_Ledger_Hold_1.P (p0 q0 : Addr) (w : World) (K : Unit → World → Prop) : Prop :=
  LoadS w q0 (.int .i64) fun (x1 : Int) =>
  StoreV w p0 [.int .i64 x1] fun w2 =>
  StoreV w2 (p0.add 4) [.bool true] fun w3 =>
  StoreV w3 (p0.add 5) [.bool false] fun w4 =>
  StoreV w4 (p0.add 1) [.int .i64 0] fun w5 =>
  StoreV w5 (p0.add 2) [.int .i64 0] fun w6 =>
  K () w6
set_option maxRecDepth 65536 in
theorem ledger_Ledger_Hold_1.vc (p0 q0 : Addr) (w : World) (K : Unit → World → Prop) (h : ledger_Ledger_Hold_1.P p0 q0 w K) : CallV Tryz.prog 170 #[.pointer (some p0), .pointer (some q0)] w [] K := by
  refine vcFun.of (A := ledger_Ledger_Hold_1.A) (wr := false) okf_ok follows h Tryz.func170 ?_
  kernel_rfl
def ledger_Ledger_Release.A : Ann := .no
def ledger_Ledger_Release.P (p0 : Addr) (p1 : Int) (w : World) (K : Int × Unit → World → Prop) : Prop :=
  CallV Tryz.prog 96 #[.pointer (some p0), .int .i64 p1, .func (.func 97) #[] #[]] w [.one (.int .i64)] fun (r1 : Int × Unit) w2 =>
  K (r1.1, ()) w2
theorem ledger_Ledger_Release.vc (p0 : Addr) (p1 : Int) (w : World) (K : Int × Unit → World → Prop) (h : ledger_Ledger_Release.P p0 p1 w K) : CallV Tryz.prog 42 #[.pointer (some p0), .int .i64 p1] w [.one (.int .i64)] K := by
  refine vcFun.of (A := ledger_Ledger_Release.A) (wr := false) okf_ok follows h Tryz.func42 ?_
  kernel_rfl
def ledger_Ledger_Release_1.A : Ann := .no
def ledger_Ledger_Release_1.P (p0 : Addr) (w : World) (K : Unit → World → Prop) : Prop :=
  StoreV w (p0.add 4) [.bool false] fun w1 =>
  StoreV w1 (p0.add 2) [.int .i64 0] fun w2 =>
  K () w2
set_option maxRecDepth 65536 in
theorem ledger_Ledger_Release_1.vc (p0 : Addr) (w : World) (K : Unit → World → Prop) (h : ledger_Ledger_Release_1.P p0 w K) : CallV Tryz.prog 97 #[.pointer (some p0)] w [] K := by
  refine vcFun.of (A := ledger_Ledger_Release_1.A) (wr := false) okf_ok follows h Tryz.func97 ?_
  kernel_rfl
def ledger_Ledger_Erased.A : Ann := .no
def ledger_Ledger_Erased.P (p0 : Addr) (p1 : Int) (w : World) (K : Int × Unit → World → Prop) : Prop :=
  CallV Tryz.prog 96 #[.pointer (some p0), .int .i64 p1, .func (.func 104) #[] #[]] w [.one (.int .i64)] fun (r1 : Int × Unit) w2 =>
  K (r1.1, ()) w2
theorem ledger_Ledger_Erased.vc (p0 : Addr) (p1 : Int) (w : World) (K : Int × Unit → World → Prop) (h : ledger_Ledger_Erased.P p0 p1 w K) : CallV Tryz.prog 46 #[.pointer (some p0), .int .i64 p1] w [.one (.int .i64)] K := by
  refine vcFun.of (A := ledger_Ledger_Erased.A) (wr := false) okf_ok follows h Tryz.func46 ?_
  kernel_rfl
def ledger_Ledger_Erased_1.A : Ann := .draw (.take 0 (.take 1 (.take 2 (.take 3 (.take 6 (.take 7 (.take 8 (.both 4 (.take 5 (.eff 9 (.take 10 (.take 11 (.eff 12 (.done)))))) 9 (.eff 4 (.take 5 (.take 10 (.take 11 (.eff 12 (.done))))))))))))))
def ledger_Ledger_Erased_1.P (p0 : Addr) (w : World) (K : Unit → World → Prop) : Prop :=
  DrawV fun D1 =>
  ((LoadS w.drew (p0.add 3) (.int .i64) fun (x2 : Int) =>
  KeepOn D1 w.drew w.drew ∧
  Rng .i64 (x2 + 1) ∧
  LoadS w.drew (p0.add 6) .bool fun (x3 : Bool) =>
  KeepOn D1 w.drew w.drew ∧
  StoreV w.drew p0 [.int .i64 (-2), .int .i64 0, .int .i64 0, .int .i64 (x2 + 1), .bool false, .bool true, .bool x3, .bool false, .bool false] fun w4 =>
  KeepOn D1 w.drew w4 ∧
  K () w4) ∧
  (LoadS w.drew (p0.add 6) .bool fun (x5 : Bool) =>
  KeepOn D1 w.drew w.drew ∧
  LoadS w.drew (p0.add 3) (.int .i64) fun (x6 : Int) =>
  KeepOn D1 w.drew w.drew ∧
  Rng .i64 (x6 + 1) ∧
  StoreV w.drew p0 [.int .i64 (-2), .int .i64 0, .int .i64 0, .int .i64 (x6 + 1), .bool false, .bool true, .bool x5, .bool false, .bool false] fun w7 =>
  KeepOn D1 w.drew w7 ∧
  K () w7))
set_option maxRecDepth 65536 in
theorem ledger_Ledger_Erased_1.vc (p0 : Addr) (w : World) (K : Unit → World → Prop) (h : ledger_Ledger_Erased_1.P p0 w K) : CallV Tryz.prog 104 #[.pointer (some p0)] w [] K := by
  refine vcFun.of (A := ledger_Ledger_Erased_1.A) (wr := false) okf_ok follows h Tryz.func104 ?_
  kernel_rfl
def ledger_Ledger_Failed.A : Ann := .no
def ledger_Ledger_Failed.P (p0 : Addr) (p1 : Int) (w : World) (K : Int × Unit → World → Prop) : Prop :=
  CallV Tryz.prog 96 #[.pointer (some p0), .int .i64 p1, .func (.func 105) #[] #[]] w [.one (.int .i64)] fun (r1 : Int × Unit) w2 =>
  K (r1.1, ()) w2
theorem ledger_Ledger_Failed.vc (p0 : Addr) (p1 : Int) (w : World) (K : Int × Unit → World → Prop) (h : ledger_Ledger_Failed.P p0 p1 w K) : CallV Tryz.prog 47 #[.pointer (some p0), .int .i64 p1] w [.one (.int .i64)] K := by
  refine vcFun.of (A := ledger_Ledger_Failed.A) (wr := false) okf_ok follows h Tryz.func47 ?_
  kernel_rfl
def ledger_Ledger_Failed_1.A : Ann := .no
def ledger_Ledger_Failed_1.P (p0 : Addr) (w : World) (K : Unit → World → Prop) : Prop :=
  StoreV w (p0.add 6) [.bool true] fun w1 =>
  K () w1
set_option maxRecDepth 65536 in
theorem ledger_Ledger_Failed_1.vc (p0 : Addr) (w : World) (K : Unit → World → Prop) (h : ledger_Ledger_Failed_1.P p0 w K) : CallV Tryz.prog 105 #[.pointer (some p0)] w [] K := by
  refine vcFun.of (A := ledger_Ledger_Failed_1.A) (wr := false) okf_ok follows h Tryz.func105 ?_
  kernel_rfl
def ledger_Ledger_Scrubbed.A : Ann := .no
def ledger_Ledger_Scrubbed.P (p0 : Addr) (p1 : Int) (p2 : Bool) (w : World) (K : Int × Unit → World → Prop) : Prop :=
  NewV #[.bool p2] 4 w fun b1 w2 =>
  CallV Tryz.prog 96 #[.pointer (some p0), .int .i64 p1, .func (.func 109) #[] #[.pointer (some ⟨b1, 0, none⟩)]] w2 [.one (.int .i64)] fun (r3 : Int × Unit) w4 =>
  K (r3.1, ()) w4
theorem ledger_Ledger_Scrubbed.vc (p0 : Addr) (p1 : Int) (p2 : Bool) (w : World) (K : Int × Unit → World → Prop) (h : ledger_Ledger_Scrubbed.P p0 p1 p2 w K) : CallV Tryz.prog 49 #[.pointer (some p0), .int .i64 p1, .bool p2] w [.one (.int .i64)] K := by
  refine vcFun.of (A := ledger_Ledger_Scrubbed.A) (wr := false) okf_ok follows h Tryz.func49 ?_
  kernel_rfl
def ledger_Ledger_Scrubbed_1.A : Ann := .draw (.take 0 (.take 1 (.take 2 (.take 3 (.take 4 (.take 5 (.take 6 (.take 7 (.take 8 (.take 9 (.eff 10 (.take 11 (.take 12 (.eff 13 (.take 14 (.take 15 (.eff 16 (.take 17 (.take 18 (.eff 19 (.take 20 (.take 21 (.eff 22 (.done))))))))))))))))))))))))
def ledger_Ledger_Scrubbed_1.P (p0 q0 : Addr) (w : World) (K : Unit → World → Prop) : Prop :=
  DrawV fun D1 =>
  (D1 q0.block ∧ LoadS w.drew q0 .bool fun (x2 : Bool) =>
  (D1 q0.block ∧ LoadS w.drew q0 .bool fun (x3 : Bool) =>
  StoreV w.drew (p0.add 6) [.bool true] fun w4 =>
  KeepOn D1 w.drew w4 ∧
  StoreV w4 (p0.add 5) [.bool false] fun w5 =>
  KeepOn D1 w.drew w5 ∧
  StoreV w5 (p0.add 4) [.bool false] fun w6 =>
  KeepOn D1 w.drew w6 ∧
  StoreV w6 (p0.add 7) [.bool x2] fun w7 =>
  KeepOn D1 w.drew w7 ∧
  StoreV w7 (p0.add 8) [.bool (!x3)] fun w8 =>
  KeepOn D1 w.drew w8 ∧
  K () w8))
set_option maxRecDepth 65536 in
theorem ledger_Ledger_Scrubbed_1.vc (p0 q0 : Addr) (w : World) (K : Unit → World → Prop) (h : ledger_Ledger_Scrubbed_1.P p0 q0 w K) : CallV Tryz.prog 109 #[.pointer (some p0), .pointer (some q0)] w [] K := by
  refine vcFun.of (A := ledger_Ledger_Scrubbed_1.A) (wr := false) okf_ok follows h Tryz.func109 ?_
  kernel_rfl
def ledger_Ledger_best.A : Ann := .two .no (.two .no (.two (.two .no (.one (.loop [7, 8, 11, 12, 13, 14, 15, 16, 17, 18, 19, 20, 21, 22, 23, 24, 25, 26, 27, 28, 29, 30, 31, 32, 33, 34, 35, 36, 37, 38, 39, 40, 41, 42, 43, 44, 45, 46, 47] [(7, .one (.int .i64)), (11, .one (.int .i64))] (.two .no (.two .no (.two (.one (.two .no (.two (.draw (.take 0 (.take 1 (.take 2 (.take 3 (.take 4 (.take 5 (.take 6 (.take 7 (.take 8 (.eff 9 (.take 10 (.take 11 (.take 12 (.take 13 (.take 14 (.take 15 (.take 16 (.take 17 (.take 18 (.take 19 (.take 20 (.take 21 (.take 22 (.take 23 (.take 24 (.take 25 (.take 26 (.take 27 (.take 28 (.eff 29 (.take 30 (.take 31 (.done)))))))))))))))))))))))))))))))))) .no))) .no)))))) .no))
def ledger_Ledger_best.P (p0 : Addr) (g1 : FuncId) (cap1 : Array Value) (g2 : FuncId) (cap2 : Array Value) (w : World) (K : Int × Unit → World → Prop) : Prop :=
  CallV Tryz.prog 78 #[.pointer (some p0)] w [.one (.int .i64)] fun (r1 : Int × Unit) w2 =>
  LoopV [.one (.int .i64), .one (.int .i64)] (((-1) : Int), (0 : Int), ()) w2 fun (z3 : Int × Int × Unit) w4 (K5 : Int × Int × Unit → World → Prop) =>
  cond (decide (z3.2.1 < r1.1))
  (DrawV fun D6 =>
  (D6 p0.block ∧ LoadS w4.drew p0 .sl fun (x7 : SlV) =>
  (0 ≤ z3.2.1 ∧ z3.2.1 < ((x7.n : Nat) : Int)) ∧ ∃ q8 : Addr, x7.a = some q8 ∧
  (D6 (q8.add (z3.2.1.toNat * 9)).block ∧ LoadA w4.drew (q8.add (z3.2.1.toNat * 9)) [.int .i64, .int .i64, .int .i64, .int .i64, .bool, .bool, .bool, .bool, .bool] fun (x9 : Int × Int × Int × Int × Bool × Bool × Bool × Bool × Bool × Unit) =>
  cond (okf g1)
  (CallV Tryz.prog g1 ([] ++ ((([.int .i64 z3.2.1, .agg #[.int .i64 x9.1, .int .i64 x9.2.1, .int .i64 x9.2.2.1, .int .i64 x9.2.2.2.1, .bool x9.2.2.2.2.1, .bool x9.2.2.2.2.2.1, .bool x9.2.2.2.2.2.2.1, .bool x9.2.2.2.2.2.2.2.1, .bool x9.2.2.2.2.2.2.2.2.1]] : List Value)) ++ (cap1).toList)).toArray w4.drew [.one .bool] fun (r10 : Bool × Unit) w11 =>
  KeepOn D6 w4.drew w11 ∧
  cond r10.1
  (cond (decide (z3.1 < 0))
  (Rng .i64 (z3.2.1 + 1) ∧
  K5 (z3.2.1, z3.2.1 + 1, ()) w11)
  ((D6 p0.block ∧ LoadS w4.drew p0 .sl fun (x12 : SlV) =>
  (0 ≤ z3.2.1 ∧ z3.2.1 < ((x12.n : Nat) : Int)) ∧ ∃ q13 : Addr, x12.a = some q13 ∧
  (D6 (q13.add (z3.2.1.toNat * 9)).block ∧ LoadA w4.drew (q13.add (z3.2.1.toNat * 9)) [.int .i64, .int .i64, .int .i64, .int .i64, .bool, .bool, .bool, .bool, .bool] fun (x14 : Int × Int × Int × Int × Bool × Bool × Bool × Bool × Bool × Unit) =>
  (D6 p0.block ∧ LoadS w4.drew p0 .sl fun (x15 : SlV) =>
  (0 ≤ z3.1 ∧ z3.1 < ((x15.n : Nat) : Int)) ∧ ∃ q16 : Addr, x15.a = some q16 ∧
  (D6 (q16.add (z3.1.toNat * 9)).block ∧ LoadA w4.drew (q16.add (z3.1.toNat * 9)) [.int .i64, .int .i64, .int .i64, .int .i64, .bool, .bool, .bool, .bool, .bool] fun (x17 : Int × Int × Int × Int × Bool × Bool × Bool × Bool × Bool × Unit) =>
  cond (okf g2)
  (CallV Tryz.prog g2 ([] ++ ((([.agg #[.int .i64 x14.1, .int .i64 x14.2.1, .int .i64 x14.2.2.1, .int .i64 x14.2.2.2.1, .bool x14.2.2.2.2.1, .bool x14.2.2.2.2.2.1, .bool x14.2.2.2.2.2.2.1, .bool x14.2.2.2.2.2.2.2.1, .bool x14.2.2.2.2.2.2.2.2.1], .agg #[.int .i64 x17.1, .int .i64 x17.2.1, .int .i64 x17.2.2.1, .int .i64 x17.2.2.2.1, .bool x17.2.2.2.2.1, .bool x17.2.2.2.2.2.1, .bool x17.2.2.2.2.2.2.1, .bool x17.2.2.2.2.2.2.2.1, .bool x17.2.2.2.2.2.2.2.2.1]] : List Value)) ++ (cap2).toList)).toArray w11 [.one .bool] fun (r18 : Bool × Unit) w19 =>
  KeepOn D6 w4.drew w19 ∧
  cond r18.1
  (Rng .i64 (z3.2.1 + 1) ∧
  K5 (z3.2.1, z3.2.1 + 1, ()) w19)
  (Rng .i64 (z3.2.1 + 1) ∧
  K5 (z3.1, z3.2.1 + 1, ()) w19))
  False))))))
  (Rng .i64 (z3.2.1 + 1) ∧
  K5 (z3.1, z3.2.1 + 1, ()) w11))
  False)))
  (K (z3.1, ()) w4)
theorem ledger_Ledger_best.vc (p0 : Addr) (g1 : FuncId) (cap1 : Array Value) (g2 : FuncId) (cap2 : Array Value) (w : World) (K : Int × Unit → World → Prop) (h : ledger_Ledger_best.P p0 g1 cap1 g2 cap2 w K) : CallV Tryz.prog 154 #[.pointer (some p0), .func (.func g1) #[] cap1, .func (.func g2) #[] cap2] w [.one (.int .i64)] K := by
  refine vcFun.of (A := ledger_Ledger_best.A) (wr := false) okf_ok follows h Tryz.func154 ?_
  kernel_rfl
def ledger_Ledger_Pick.A : Ann := .no
def ledger_Ledger_Pick.P (p0 : Addr) (w : World) (K : Int × Unit → World → Prop) : Prop :=
  CallV Tryz.prog 154 #[.pointer (some p0), .func (.func 155) #[] #[], .func (.func 157) #[] #[]] w [.one (.int .i64)] fun (r1 : Int × Unit) w2 =>
  K (r1.1, ()) w2
theorem ledger_Ledger_Pick.vc (p0 : Addr) (w : World) (K : Int × Unit → World → Prop) (h : ledger_Ledger_Pick.P p0 w K) : CallV Tryz.prog 110 #[.pointer (some p0)] w [.one (.int .i64)] K := by
  refine vcFun.of (A := ledger_Ledger_Pick.A) (wr := false) okf_ok follows h Tryz.func110 ?_
  kernel_rfl
def ledger_Ledger_Pick_1.A : Ann := .no
def ledger_Ledger_Pick_1.P (p0 p1_0 p1_1 p1_2 p1_3 : Int) (p1_4 p1_5 p1_6 p1_7 p1_8 : Bool) (w : World) (K : Bool × Unit → World → Prop) : Prop :=
  NewV #[.int .i64 p1_0, .int .i64 p1_1, .int .i64 p1_2, .int .i64 p1_3, .bool p1_4, .bool p1_5, .bool p1_6, .bool p1_7, .bool p1_8] 60 w fun b1 w2 =>
  LoadA w2 ⟨b1, 0, none⟩ [.int .i64, .int .i64, .int .i64, .int .i64, .bool, .bool, .bool, .bool, .bool] fun (x3 : Int × Int × Int × Int × Bool × Bool × Bool × Bool × Bool × Unit) =>
  CallV Tryz.prog 156 #[.agg #[.int .i64 x3.1, .int .i64 x3.2.1, .int .i64 x3.2.2.1, .int .i64 x3.2.2.2.1, .bool x3.2.2.2.2.1, .bool x3.2.2.2.2.2.1, .bool x3.2.2.2.2.2.2.1, .bool x3.2.2.2.2.2.2.2.1, .bool x3.2.2.2.2.2.2.2.2.1]] w2 [.one .bool] fun (r4 : Bool × Unit) w5 =>
  K (r4.1, ()) w5
theorem ledger_Ledger_Pick_1.vc (p0 p1_0 p1_1 p1_2 p1_3 : Int) (p1_4 p1_5 p1_6 p1_7 p1_8 : Bool) (w : World) (K : Bool × Unit → World → Prop) (h : ledger_Ledger_Pick_1.P p0 p1_0 p1_1 p1_2 p1_3 p1_4 p1_5 p1_6 p1_7 p1_8 w K) : CallV Tryz.prog 155 #[.int .i64 p0, .agg #[.int .i64 p1_0, .int .i64 p1_1, .int .i64 p1_2, .int .i64 p1_3, .bool p1_4, .bool p1_5, .bool p1_6, .bool p1_7, .bool p1_8]] w [.one .bool] K := by
  refine vcFun.of (A := ledger_Ledger_Pick_1.A) (wr := false) okf_ok follows h Tryz.func155 ?_
  kernel_rfl
def ledger_less.A : Ann := .no
def ledger_less.P (p0_0 p0_1 p0_2 p0_3 : Int) (p0_4 p0_5 p0_6 p0_7 p0_8 : Bool) (p1_0 p1_1 p1_2 p1_3 : Int) (p1_4 p1_5 p1_6 p1_7 p1_8 : Bool) (w : World) (K : Bool × Unit → World → Prop) : Prop :=
  NewV #[.int .i64 p0_0, .int .i64 p0_1, .int .i64 p0_2, .int .i64 p0_3, .bool p0_4, .bool p0_5, .bool p0_6, .bool p0_7, .bool p0_8] 60 w fun b1 w2 =>
  NewV #[.int .i64 p1_0, .int .i64 p1_1, .int .i64 p1_2, .int .i64 p1_3, .bool p1_4, .bool p1_5, .bool p1_6, .bool p1_7, .bool p1_8] 60 w2 fun b3 w4 =>
  LoadS w4 ⟨b1, 3, none⟩ (.int .i64) fun (x5 : Int) =>
  LoadS w4 ⟨b3, 3, none⟩ (.int .i64) fun (x6 : Int) =>
  K (decide (x5 < x6), ()) w4
theorem ledger_less.vc (p0_0 p0_1 p0_2 p0_3 : Int) (p0_4 p0_5 p0_6 p0_7 p0_8 : Bool) (p1_0 p1_1 p1_2 p1_3 : Int) (p1_4 p1_5 p1_6 p1_7 p1_8 : Bool) (w : World) (K : Bool × Unit → World → Prop) (h : ledger_less.P p0_0 p0_1 p0_2 p0_3 p0_4 p0_5 p0_6 p0_7 p0_8 p1_0 p1_1 p1_2 p1_3 p1_4 p1_5 p1_6 p1_7 p1_8 w K) : CallV Tryz.prog 157 #[.agg #[.int .i64 p0_0, .int .i64 p0_1, .int .i64 p0_2, .int .i64 p0_3, .bool p0_4, .bool p0_5, .bool p0_6, .bool p0_7, .bool p0_8], .agg #[.int .i64 p1_0, .int .i64 p1_1, .int .i64 p1_2, .int .i64 p1_3, .bool p1_4, .bool p1_5, .bool p1_6, .bool p1_7, .bool p1_8]] w [.one .bool] K := by
  refine vcFun.of (A := ledger_less.A) (wr := false) okf_ok follows h Tryz.func157 ?_
  kernel_rfl
def ledger_Free.A : Ann := .no
def ledger_Free.P (p0_0 p0_1 p0_2 p0_3 : Int) (p0_4 p0_5 p0_6 p0_7 p0_8 : Bool) (w : World) (K : Bool × Unit → World → Prop) : Prop :=
  NewV #[.int .i64 p0_0, .int .i64 p0_1, .int .i64 p0_2, .int .i64 p0_3, .bool p0_4, .bool p0_5, .bool p0_6, .bool p0_7, .bool p0_8] 60 w fun b1 w2 =>
  LoadS w2 ⟨b1, 4, none⟩ .bool fun (x3 : Bool) =>
  cond (!x3)
  (LoadS w2 ⟨b1, 6, none⟩ .bool fun (x4 : Bool) =>
  K (!x4, ()) w2)
  (K (false, ()) w2)
theorem ledger_Free.vc (p0_0 p0_1 p0_2 p0_3 : Int) (p0_4 p0_5 p0_6 p0_7 p0_8 : Bool) (w : World) (K : Bool × Unit → World → Prop) (h : ledger_Free.P p0_0 p0_1 p0_2 p0_3 p0_4 p0_5 p0_6 p0_7 p0_8 w K) : CallV Tryz.prog 156 #[.agg #[.int .i64 p0_0, .int .i64 p0_1, .int .i64 p0_2, .int .i64 p0_3, .bool p0_4, .bool p0_5, .bool p0_6, .bool p0_7, .bool p0_8]] w [.one .bool] K := by
  refine vcFun.of (A := ledger_Free.A) (wr := false) okf_ok follows h Tryz.func156 ?_
  kernel_rfl
end Go.Proofs.YtlpeoaphdmfjdaaGreat.Vc
/-! The contracts of layer 21 (ledger): the blocks' changes. -/
namespace Go.Proofs.YtlpeoaphdmfjdaaGreat.Vc
open Go Go.Eng Go.RowKit
structure Blk where
  ow : Int
  us : Int
  li : Int
  er : Int
  he : Bool
  cl : Bool
  ba : Bool
  go : Bool
  le : Bool
def Blk.z : Blk := ⟨0, 0, 0, 0, false, false, false, false, false⟩
def Blk.new : Blk := ⟨-1, 0, 0, 0, false, false, false, false, false⟩
instance : Inhabited Blk := ⟨.z⟩
abbrev Blk.vs (x : Blk) : List Value := [.int .i64 x.ow, .int .i64 x.us, .int .i64 x.li, .int .i64 x.er, .bool x.he, .bool x.cl, .bool x.ba, .bool x.go, .bool x.le]
abbrev Blk.tup (x : Blk) : Int × Int × Int × Int × Bool × Bool × Bool × Bool × Bool × Unit := (x.ow, x.us, x.li, x.er, x.he, x.cl, x.ba, x.go, x.le, ())
abbrev Blk.val (x : Blk) : Value := .agg #[.int .i64 x.ow, .int .i64 x.us, .int .i64 x.li, .int .i64 x.er, .bool x.he, .bool x.cl, .bool x.ba, .bool x.go, .bool x.le]
abbrev bvs (L : List Blk) : List Value := L.flatMap Blk.vs
theorem bvs_len (L : List Blk) : (bvs L).length = L.length * 9 := flat_len (f := Blk.vs) (m := 9) (fun _ => rfl) L
theorem bvs_one (L : List Blk) : oneAll (bvs L) := by
  intro u hu
  obtain ⟨x, -, hx⟩ := List.mem_flatMap.1 hu
  simp only [List.mem_cons, List.not_mem_nil, or_false] at hx
  rcases hx with rfl | rfl | rfl | rfl | rfl | rfl | rfl | rfl | rfl <;> rfl
def hB (n : Int) (x : Blk) : Blk := ⟨n, 0, 0, x.er, true, false, x.ba, x.go, x.le⟩
def rB (x : Blk) : Blk := ⟨x.ow, x.us, 0, x.er, false, x.cl, x.ba, x.go, x.le⟩
def eB (x : Blk) : Blk := ⟨-2, 0, 0, x.er + 1, false, true, x.ba, false, false⟩
def fB (x : Blk) : Blk := ⟨x.ow, x.us, x.li, x.er, x.he, x.cl, true, x.go, x.le⟩
def sB (n : Bool) (x : Blk) : Blk := ⟨x.ow, x.us, x.li, x.er, false, false, true, n, !n⟩
def uB (x : Blk) : Blk := ⟨x.ow, x.us + 1, x.li, x.er, x.he, x.cl, x.ba, x.go, x.le⟩
def cB (n : Int) (x : Blk) : Blk := ⟨x.ow, x.us, if n < 0 - x.li then 0 else x.li + n, x.er, x.he, x.cl, x.ba, x.go, x.le⟩
section
variable {F : Nat → Prop} {w : World} {blk o qb : Nat} {e eq : TypeId} {pre post : List Value} {x : Blk} {C : Asr}
theorem Hold1_c {n : Int} (ho : o = pre.length) (S : Sep F w w [BoxA blk e (pre ++ (x.vs ++ post)), BoxA qb eq [.int .i64 n]]) :
    CallV Tryz.prog 170 #[.pointer (some ⟨blk, o, none⟩), .pointer (some ⟨qb, 0, none⟩)] w [] fun _ w' => Sep F w w' [BoxA blk e (pre ++ ((hB n x).vs ++ post)), BoxA qb eq [.int .i64 n]] := by
  apply ledger_Ledger_Hold_1.vc
  unfold ledger_Ledger_Hold_1.P
  refine S.ld1 rfl rfl ?_
  refine S.stM0 0 rfl ho (by simp) fun w1 S f => ?_
  refine S.stM 0 4 rfl ho (by simp) fun w1 S f => ?_
  refine S.stM 0 5 rfl ho (by simp) fun w1 S f => ?_
  refine S.stM 0 1 rfl ho (by simp) fun w1 S f => ?_
  refine S.stM 0 2 rfl ho (by simp) fun w1 S f => ?_
  exact S
theorem Release1_c (ho : o = pre.length) (S : Sep F w w [BoxA blk e (pre ++ (x.vs ++ post)), C]) :
    CallV Tryz.prog 97 #[.pointer (some ⟨blk, o, none⟩)] w [] fun _ w' => Sep F w w' [BoxA blk e (pre ++ ((rB x).vs ++ post)), C] := by
  apply ledger_Ledger_Release_1.vc
  unfold ledger_Ledger_Release_1.P
  refine S.stM 0 4 rfl ho (by simp) fun w1 S f => ?_
  refine S.stM 0 2 rfl ho (by simp) fun w1 S f => ?_
  exact S
theorem Failed1_c (ho : o = pre.length) (S : Sep F w w [BoxA blk e (pre ++ (x.vs ++ post)), C]) :
    CallV Tryz.prog 105 #[.pointer (some ⟨blk, o, none⟩)] w [] fun _ w' => Sep F w w' [BoxA blk e (pre ++ ((fB x).vs ++ post)), C] := by
  apply ledger_Ledger_Failed_1.vc
  unfold ledger_Ledger_Failed_1.P
  refine S.stM 0 6 rfl ho (by simp) fun w1 S f => ?_
  exact S
theorem Erased1_c (ho : o = pre.length) (hr : Rng .i64 (x.er + 1)) (S : Sep F w w [BoxA blk e (pre ++ (x.vs ++ post)), C]) :
    CallV Tryz.prog 104 #[.pointer (some ⟨blk, o, none⟩)] w [] fun _ w' => Sep F w w' [BoxA blk e (pre ++ ((eB x).vs ++ post)), C] := by
  apply ledger_Ledger_Erased_1.vc
  unfold ledger_Ledger_Erased_1.P
  refine S.regX (fun k => k = blk) fun D hD hkeep S T => ?_
  have k0 := hkeep _ (Fr.refl _ _)
  refine ⟨?_, ?_⟩
  · refine S.ldM 0 3 rfl ho rfl rfl ⟨k0, hr, S.ldM 0 6 rfl ho rfl rfl ⟨k0, ?_⟩⟩
    refine S.stM0 0 rfl ho (by simp) fun w1 S f => ⟨hkeep _ f, ?_⟩
    exact S
  · refine S.ldM 0 6 rfl ho rfl rfl ⟨k0, S.ldM 0 3 rfl ho rfl rfl ⟨k0, hr, ?_⟩⟩
    refine S.stM0 0 rfl ho (by simp) fun w1 S f => ⟨hkeep _ f, ?_⟩
    exact S
theorem Scrubbed1_c {n : Bool} (ho : o = pre.length) (S : Sep F w w [BoxA blk e (pre ++ (x.vs ++ post)), BoxA qb eq [.bool n]]) :
    CallV Tryz.prog 109 #[.pointer (some ⟨blk, o, none⟩), .pointer (some ⟨qb, 0, none⟩)] w [] fun _ w' => Sep F w w' [BoxA blk e (pre ++ ((sB n x).vs ++ post)), BoxA qb eq [.bool n]] := by
  apply ledger_Ledger_Scrubbed_1.vc
  unfold ledger_Ledger_Scrubbed_1.P
  have hne := S.ne 0 1 (by decide) rfl rfl
  refine S.regX (fun k => k = blk) fun D hD hkeep S T => ?_
  refine ⟨hD _ S.bl1 (fun h => hne h.symm), S.ld1 rfl rfl ⟨hD _ S.bl1 (fun h => hne h.symm), S.ld1 rfl rfl ?_⟩⟩
  refine S.stM 0 6 rfl ho (by simp) fun w1 S f1 => ⟨hkeep _ f1, ?_⟩
  refine S.stM 0 5 rfl ho (by simp) fun w2 S f2 => ⟨hkeep _ (f1.trans f2), ?_⟩
  refine S.stM 0 4 rfl ho (by simp) fun w3 S f3 => ⟨hkeep _ ((f1.trans f2).trans f3), ?_⟩
  refine S.stM 0 7 rfl ho (by simp) fun w4 S f4 => ⟨hkeep _ (((f1.trans f2).trans f3).trans f4), ?_⟩
  refine S.stM 0 8 rfl ho (by simp) fun w5 S f5 => ⟨hkeep _ ((((f1.trans f2).trans f3).trans f4).trans f5), ?_⟩
  exact S
end
abbrev LedP (p : Nat) (a : Option Addr) (n c : Nat) (L : List Blk) : List Asr := [BoxA p 117 [.slice a n c], OwnA 60 9 a n c (bvs L)]
theorem Len_c {E : Nat → Prop} {w0 w : World} {Rs : List Asr} {p : Nat} {e : TypeId} {a : Option Addr} {n c : Nat} (S : Sep E w0 w (BoxA p e [.slice a n c] :: Rs)) :
    CallV Tryz.prog 78 #[.pointer (some ⟨p, 0, none⟩)] w [.one (.int .i64)] fun r w' => r.1 = (n : Int) ∧ w' = w := by
  apply ledger_Ledger_Len.vc
  unfold ledger_Ledger_Len.P
  exact S.ld0 rfl rfl ⟨rfl, rfl⟩
theorem has_c {E : Nat → Prop} {w0 w : World} {Rs : List Asr} {p : Nat} {e : TypeId} {a : Option Addr} {n c : Nat} {b : Int} (S : Sep E w0 w (BoxA p e [.slice a n c] :: Rs)) :
    CallV Tryz.prog 52 #[.pointer (some ⟨p, 0, none⟩), .int .i64 b] w [.one .bool] fun r w' => r.1 = decide (0 ≤ b ∧ b < (n : Int)) ∧ w' = w := by
  apply ledger_Ledger_has.vc
  unfold ledger_Ledger_has.P
  refine cond_d (fun h => ?_) (fun h => ⟨(decide_eq_false (by omega)).symm, rfl⟩)
  refine (Len_c S).mono ?_
  rintro ⟨(r : Int), ⟨⟩⟩ w1 ⟨h1, rfl⟩
  dsimp only at h1 ⊢
  subst h1
  exact ⟨decide_eq_decide.2 (by omega), rfl⟩
theorem change_c {F : Nat → Prop} {w : World} {p : Nat} {a : Option Addr} {n c : Nat} {L : List Blk} {b : Int} {f : FuncId} {cap : Array Value} {C : Asr} {C' : Asr} {φ : Blk → Blk} (hf : okf f = true)
    (h : ∀ (F : Nat → Prop) (w1 : World) (blk o : Nat) (e : TypeId) (pre post : List Value) (x : Blk), x ∈ L → o = pre.length → Sep F w1 w1 [BoxA blk e (pre ++ (x.vs ++ post)), C] →
      CallV Tryz.prog f ([] ++ ((([.pointer (some ⟨blk, o, none⟩)] : List Value)) ++ cap.toList)).toArray w1 [] fun _ w2 => Sep F w1 w2 [BoxA blk e (pre ++ ((φ x).vs ++ post)), C'])
    (S : Sep F w w (LedP p a n c L ++ [C])) :
    CallV Tryz.prog 96 #[.pointer (some ⟨p, 0, none⟩), .int .i64 b, .func (.func f) #[] cap] w [.one (.int .i64)] fun r w' =>
      (¬ (0 ≤ b ∧ b < (n : Int)) → r.1 = (2 : Int) ∧ w' = w) ∧ (0 ≤ b ∧ b < (n : Int) → r.1 = (0 : Int) ∧ Sep F w w' (LedP p a n c (L.set b.toNat (φ (L.getD b.toNat default))) ++ [C'])) := by
  apply ledger_Ledger_change.vc
  unfold ledger_Ledger_change.P
  refine (has_c (b := b) S).mono ?_
  rintro ⟨(r : Bool), ⟨⟩⟩ w1 ⟨h1, rfl⟩
  dsimp only at h1 ⊢
  subst h1
  refine cond_of (fun hh => ?_) (fun hh => ?_)
  · have hh : ¬ (0 ≤ b ∧ b < (n : Int)) := fun k => by rw [decide_eq_true k] at hh; cases hh
    exact ⟨fun _ => ⟨rfl, rfl⟩, fun k => absurd k hh⟩
  have hh : 0 ≤ b ∧ b < (n : Int) := by
    by_cases k : 0 ≤ b ∧ b < (n : Int)
    · exact k
    · rw [decide_eq_false k] at hh; cases hh
  refine S.ld0 rfl rfl ⟨hh, ?_⟩
  have lL : L.length = n := by have := (S.own 1 rfl).len; rw [bvs_len] at this; omega
  have hi : b.toNat < L.length := by omega
  have hy : L[b.toNat]? = some (L.getD b.toNat default) := by rw [List.getD_eq_getElem?_getD, List.getElem?_eq_getElem hi]; rfl
  generalize L.getD b.toNat default = x at hy ⊢
  obtain ⟨(m1 : bvs L = _), (m2 : bvs (L.set b.toNat (φ x)) = _)⟩ := flat_mid (f := Blk.vs) (z := φ x) hy
  have S1 := S.sel [1, 0, 0] rfl
  obtain ⟨blk, tl, ha, q1, q2, q3, q4, q5, S1⟩ := S1.focus (by intro e; have := bvs_len L; rw [e] at this; simp at this; omega)
  subst ha
  refine ⟨_, rfl, cond_t hf ?_⟩
  have hadd : (⟨blk, 0, none⟩ : Addr).add (b.toNat * 9) = ⟨blk, b.toNat * 9, none⟩ := by simp [Addr.add_lit]
  rw [hadd]
  rw [m1, List.append_assoc, List.append_assoc] at S1
  have hpre : b.toNat * 9 = ((L.take b.toNat).flatMap Blk.vs).length := by rw [flat_len (f := Blk.vs) (m := 9) (fun _ => rfl), List.length_take, Nat.min_eq_left (by omega)]
  dsimp only at S1
  have S2 := S1.sel [0, 1, 0] rfl
  refine Sep.call [BoxA blk 60 _, C] S2 (fun F S => h F _ blk _ _ _ _ x (List.mem_of_getElem? hy) hpre S) ?_
  intro F2 back r w2 S3
  refine ⟨fun k => absurd hh k, fun _ => ⟨rfl, ?_⟩⟩
  have S4 := back _ _ S3
  rw [← List.append_assoc, ← List.append_assoc, List.append_assoc (List.flatMap _ _), ← m2] at S4
  have hl2 : (bvs (L.set b.toNat (φ x))).length = n * 9 := by rw [bvs_len, List.length_set, lL]
  have S5 := Sep.unfocus (n := n) (c := c) (sz := 9) S4 hl2 (by rw [List.length_append, hl2, ← q2, List.length_append, q1]) q3 q4 (bvs_one _)
  exact S5.sel [2, 0, 0] rfl
end Go.Proofs.YtlpeoaphdmfjdaaGreat.Vc
/-! The plans of functions as plain statements, printed by wip/tools/vcgen.py; the kernel holds each to the code. -/
namespace Go.Proofs.YtlpeoaphdmfjdaaGreat.Vc
open Go Go.Eng
def ref21_New.A : Ann := .two .no (.two .no (.two (.two .no (.one (.loop [3, 4, 6, 7, 8, 9, 10, 11, 12, 13, 14] [(3, .one .sl), (4, .one (.int .i64))] .no))) .no))
def ref21_New.P (p0 : Int) (w : World) (K : SlV × Unit → World → Prop) : Prop :=
  NewV #[] 103 w fun b1 w2 =>
  LoopV [.one .sl, .one (.int .i64)] ((⟨(some ⟨b1, 0, none⟩), 0, 0⟩ : SlV), (0 : Int), ()) w2 fun (z3 : SlV × Int × Unit) w4 (K5 : SlV × Int × Unit → World → Prop) =>
  cond (decide (z3.2.1 < p0))
  (NewV #[.int .i64 (-1), .int .i64 0, .int .i64 0, .int .i64 0, .bool false, .bool false, .bool false, .bool false, .bool false] 103 w4 fun b6 w7 =>
  AppS w7 (some ⟨b6, 0, none⟩) 1 9 fun ns12 =>
  AppV w7 103 9 40 z3.1.a z3.1.n z3.1.c ns12 1 fun a8 n9 c10 w11 =>
  Rng .i64 (z3.2.1 + 1) ∧
  K5 ((⟨a8, n9, c10⟩ : SlV), z3.2.1 + 1, ()) w11)
  (K (z3.1, ()) w4)
theorem ref21_New.vc (p0 : Int) (w : World) (K : SlV × Unit → World → Prop) (h : ref21_New.P p0 w K) : CallV Tryz.prog 35 #[.int .i64 p0] w [.one .sl] K := by
  refine vcFun.of (A := ref21_New.A) (wr := false) okf_ok follows h Tryz.func35 ?_
  kernel_rfl
def ref21_Do.A : Ann := .no
def ref21_Do.P (p0_0 p0_1 p0_2 p0_3 : Int) (p0_4 p0_5 p0_6 p0_7 p0_8 : Bool) (p1 p2 : Int) (w : World) (K : (Int × Int × Int × Int × Bool × Bool × Bool × Bool × Bool × Unit) × Unit → World → Prop) : Prop :=
  NewV #[.int .i64 p0_0, .int .i64 p0_1, .int .i64 p0_2, .int .i64 p0_3, .bool p0_4, .bool p0_5, .bool p0_6, .bool p0_7, .bool p0_8] 103 w fun b1 w2 =>
  NewV #[.int .i64 0, .int .i64 0, .int .i64 0, .int .i64 0, .bool false, .bool false, .bool false, .bool false, .bool false] 103 w2 fun b3 w4 =>
  cond (p1 == 1)
  (StoreV w4 ⟨b1, 0, none⟩ [.int .i64 p2] fun w5 =>
  StoreV w5 ⟨b1, 4, none⟩ [.bool true] fun w6 =>
  StoreV w6 ⟨b1, 5, none⟩ [.bool false] fun w7 =>
  StoreV w7 ⟨b1, 1, none⟩ [.int .i64 0] fun w8 =>
  StoreV w8 ⟨b1, 2, none⟩ [.int .i64 0] fun w9 =>
  LoadA w9 ⟨b1, 0, none⟩ [.int .i64, .int .i64, .int .i64, .int .i64, .bool, .bool, .bool, .bool, .bool] fun (x10 : Int × Int × Int × Int × Bool × Bool × Bool × Bool × Bool × Unit) =>
  StoreV w9 ⟨b3, 0, none⟩ [.int .i64 x10.1, .int .i64 x10.2.1, .int .i64 x10.2.2.1, .int .i64 x10.2.2.2.1, .bool x10.2.2.2.2.1, .bool x10.2.2.2.2.2.1, .bool x10.2.2.2.2.2.2.1, .bool x10.2.2.2.2.2.2.2.1, .bool x10.2.2.2.2.2.2.2.2.1] fun w11 =>
  LoadA w11 ⟨b3, 0, none⟩ [.int .i64, .int .i64, .int .i64, .int .i64, .bool, .bool, .bool, .bool, .bool] fun (x12 : Int × Int × Int × Int × Bool × Bool × Bool × Bool × Bool × Unit) =>
  K ((x12.1, x12.2.1, x12.2.2.1, x12.2.2.2.1, x12.2.2.2.2.1, x12.2.2.2.2.2.1, x12.2.2.2.2.2.2.1, x12.2.2.2.2.2.2.2.1, x12.2.2.2.2.2.2.2.2.1, ()), ()) w11)
  (cond (p1 == 2)
  (StoreV w4 ⟨b1, 4, none⟩ [.bool false] fun w13 =>
  StoreV w13 ⟨b1, 2, none⟩ [.int .i64 0] fun w14 =>
  LoadA w14 ⟨b1, 0, none⟩ [.int .i64, .int .i64, .int .i64, .int .i64, .bool, .bool, .bool, .bool, .bool] fun (x15 : Int × Int × Int × Int × Bool × Bool × Bool × Bool × Bool × Unit) =>
  StoreV w14 ⟨b3, 0, none⟩ [.int .i64 x15.1, .int .i64 x15.2.1, .int .i64 x15.2.2.1, .int .i64 x15.2.2.2.1, .bool x15.2.2.2.2.1, .bool x15.2.2.2.2.2.1, .bool x15.2.2.2.2.2.2.1, .bool x15.2.2.2.2.2.2.2.1, .bool x15.2.2.2.2.2.2.2.2.1] fun w16 =>
  LoadA w16 ⟨b3, 0, none⟩ [.int .i64, .int .i64, .int .i64, .int .i64, .bool, .bool, .bool, .bool, .bool] fun (x17 : Int × Int × Int × Int × Bool × Bool × Bool × Bool × Bool × Unit) =>
  K ((x17.1, x17.2.1, x17.2.2.1, x17.2.2.2.1, x17.2.2.2.2.1, x17.2.2.2.2.2.1, x17.2.2.2.2.2.2.1, x17.2.2.2.2.2.2.2.1, x17.2.2.2.2.2.2.2.2.1, ()), ()) w16)
  (cond (p1 == 3)
  (LoadS w4 ⟨b1, 3, none⟩ (.int .i64) fun (x18 : Int) =>
  Rng .i64 (x18 + 1) ∧
  LoadS w4 ⟨b1, 6, none⟩ .bool fun (x19 : Bool) =>
  StoreV w4 ⟨b1, 0, none⟩ [.int .i64 (-2), .int .i64 0, .int .i64 0, .int .i64 (x18 + 1), .bool false, .bool true, .bool x19, .bool false, .bool false] fun w20 =>
  LoadA w20 ⟨b1, 0, none⟩ [.int .i64, .int .i64, .int .i64, .int .i64, .bool, .bool, .bool, .bool, .bool] fun (x21 : Int × Int × Int × Int × Bool × Bool × Bool × Bool × Bool × Unit) =>
  StoreV w20 ⟨b3, 0, none⟩ [.int .i64 x21.1, .int .i64 x21.2.1, .int .i64 x21.2.2.1, .int .i64 x21.2.2.2.1, .bool x21.2.2.2.2.1, .bool x21.2.2.2.2.2.1, .bool x21.2.2.2.2.2.2.1, .bool x21.2.2.2.2.2.2.2.1, .bool x21.2.2.2.2.2.2.2.2.1] fun w22 =>
  LoadA w22 ⟨b3, 0, none⟩ [.int .i64, .int .i64, .int .i64, .int .i64, .bool, .bool, .bool, .bool, .bool] fun (x23 : Int × Int × Int × Int × Bool × Bool × Bool × Bool × Bool × Unit) =>
  K ((x23.1, x23.2.1, x23.2.2.1, x23.2.2.2.1, x23.2.2.2.2.1, x23.2.2.2.2.2.1, x23.2.2.2.2.2.2.1, x23.2.2.2.2.2.2.2.1, x23.2.2.2.2.2.2.2.2.1, ()), ()) w22)
  (cond (p1 == 4)
  (StoreV w4 ⟨b1, 6, none⟩ [.bool true] fun w24 =>
  LoadA w24 ⟨b1, 0, none⟩ [.int .i64, .int .i64, .int .i64, .int .i64, .bool, .bool, .bool, .bool, .bool] fun (x25 : Int × Int × Int × Int × Bool × Bool × Bool × Bool × Bool × Unit) =>
  StoreV w24 ⟨b3, 0, none⟩ [.int .i64 x25.1, .int .i64 x25.2.1, .int .i64 x25.2.2.1, .int .i64 x25.2.2.2.1, .bool x25.2.2.2.2.1, .bool x25.2.2.2.2.2.1, .bool x25.2.2.2.2.2.2.1, .bool x25.2.2.2.2.2.2.2.1, .bool x25.2.2.2.2.2.2.2.2.1] fun w26 =>
  LoadA w26 ⟨b3, 0, none⟩ [.int .i64, .int .i64, .int .i64, .int .i64, .bool, .bool, .bool, .bool, .bool] fun (x27 : Int × Int × Int × Int × Bool × Bool × Bool × Bool × Bool × Unit) =>
  K ((x27.1, x27.2.1, x27.2.2.1, x27.2.2.2.1, x27.2.2.2.2.1, x27.2.2.2.2.2.1, x27.2.2.2.2.2.2.1, x27.2.2.2.2.2.2.2.1, x27.2.2.2.2.2.2.2.2.1, ()), ()) w26)
  (cond (p1 == 5)
  (StoreV w4 ⟨b1, 6, none⟩ [.bool true] fun w28 =>
  StoreV w28 ⟨b1, 5, none⟩ [.bool false] fun w29 =>
  StoreV w29 ⟨b1, 4, none⟩ [.bool false] fun w30 =>
  StoreV w30 ⟨b1, 7, none⟩ [.bool (p2 == 1)] fun w31 =>
  StoreV w31 ⟨b1, 8, none⟩ [.bool (p2 != 1)] fun w32 =>
  LoadA w32 ⟨b1, 0, none⟩ [.int .i64, .int .i64, .int .i64, .int .i64, .bool, .bool, .bool, .bool, .bool] fun (x33 : Int × Int × Int × Int × Bool × Bool × Bool × Bool × Bool × Unit) =>
  StoreV w32 ⟨b3, 0, none⟩ [.int .i64 x33.1, .int .i64 x33.2.1, .int .i64 x33.2.2.1, .int .i64 x33.2.2.2.1, .bool x33.2.2.2.2.1, .bool x33.2.2.2.2.2.1, .bool x33.2.2.2.2.2.2.1, .bool x33.2.2.2.2.2.2.2.1, .bool x33.2.2.2.2.2.2.2.2.1] fun w34 =>
  LoadA w34 ⟨b3, 0, none⟩ [.int .i64, .int .i64, .int .i64, .int .i64, .bool, .bool, .bool, .bool, .bool] fun (x35 : Int × Int × Int × Int × Bool × Bool × Bool × Bool × Bool × Unit) =>
  K ((x35.1, x35.2.1, x35.2.2.1, x35.2.2.2.1, x35.2.2.2.2.1, x35.2.2.2.2.2.1, x35.2.2.2.2.2.2.1, x35.2.2.2.2.2.2.2.1, x35.2.2.2.2.2.2.2.2.1, ()), ()) w34)
  (cond (p1 == 6)
  (LoadS w4 ⟨b1, 1, none⟩ (.int .i64) fun (x36 : Int) =>
  Rng .i64 (x36 + 1) ∧
  StoreV w4 ⟨b1, 1, none⟩ [.int .i64 (x36 + 1)] fun w37 =>
  LoadA w37 ⟨b1, 0, none⟩ [.int .i64, .int .i64, .int .i64, .int .i64, .bool, .bool, .bool, .bool, .bool] fun (x38 : Int × Int × Int × Int × Bool × Bool × Bool × Bool × Bool × Unit) =>
  StoreV w37 ⟨b3, 0, none⟩ [.int .i64 x38.1, .int .i64 x38.2.1, .int .i64 x38.2.2.1, .int .i64 x38.2.2.2.1, .bool x38.2.2.2.2.1, .bool x38.2.2.2.2.2.1, .bool x38.2.2.2.2.2.2.1, .bool x38.2.2.2.2.2.2.2.1, .bool x38.2.2.2.2.2.2.2.2.1] fun w39 =>
  LoadA w39 ⟨b3, 0, none⟩ [.int .i64, .int .i64, .int .i64, .int .i64, .bool, .bool, .bool, .bool, .bool] fun (x40 : Int × Int × Int × Int × Bool × Bool × Bool × Bool × Bool × Unit) =>
  K ((x40.1, x40.2.1, x40.2.2.1, x40.2.2.2.1, x40.2.2.2.2.1, x40.2.2.2.2.2.1, x40.2.2.2.2.2.2.1, x40.2.2.2.2.2.2.2.1, x40.2.2.2.2.2.2.2.2.1, ()), ()) w39)
  (cond (p1 == 7)
  (LoadS w4 ⟨b1, 2, none⟩ (.int .i64) fun (x41 : Int) =>
  Rng .i64 ((0 : Int) - x41) ∧
  cond (decide (p2 < ((0 : Int) - x41)))
  (StoreV w4 ⟨b1, 2, none⟩ [.int .i64 0] fun w42 =>
  LoadA w42 ⟨b1, 0, none⟩ [.int .i64, .int .i64, .int .i64, .int .i64, .bool, .bool, .bool, .bool, .bool] fun (x43 : Int × Int × Int × Int × Bool × Bool × Bool × Bool × Bool × Unit) =>
  StoreV w42 ⟨b3, 0, none⟩ [.int .i64 x43.1, .int .i64 x43.2.1, .int .i64 x43.2.2.1, .int .i64 x43.2.2.2.1, .bool x43.2.2.2.2.1, .bool x43.2.2.2.2.2.1, .bool x43.2.2.2.2.2.2.1, .bool x43.2.2.2.2.2.2.2.1, .bool x43.2.2.2.2.2.2.2.2.1] fun w44 =>
  LoadA w44 ⟨b3, 0, none⟩ [.int .i64, .int .i64, .int .i64, .int .i64, .bool, .bool, .bool, .bool, .bool] fun (x45 : Int × Int × Int × Int × Bool × Bool × Bool × Bool × Bool × Unit) =>
  K ((x45.1, x45.2.1, x45.2.2.1, x45.2.2.2.1, x45.2.2.2.2.1, x45.2.2.2.2.2.1, x45.2.2.2.2.2.2.1, x45.2.2.2.2.2.2.2.1, x45.2.2.2.2.2.2.2.2.1, ()), ()) w44)
  (LoadS w4 ⟨b1, 2, none⟩ (.int .i64) fun (x46 : Int) =>
  Rng .i64 (x46 + p2) ∧
  StoreV w4 ⟨b1, 2, none⟩ [.int .i64 (x46 + p2)] fun w47 =>
  LoadA w47 ⟨b1, 0, none⟩ [.int .i64, .int .i64, .int .i64, .int .i64, .bool, .bool, .bool, .bool, .bool] fun (x48 : Int × Int × Int × Int × Bool × Bool × Bool × Bool × Bool × Unit) =>
  StoreV w47 ⟨b3, 0, none⟩ [.int .i64 x48.1, .int .i64 x48.2.1, .int .i64 x48.2.2.1, .int .i64 x48.2.2.2.1, .bool x48.2.2.2.2.1, .bool x48.2.2.2.2.2.1, .bool x48.2.2.2.2.2.2.1, .bool x48.2.2.2.2.2.2.2.1, .bool x48.2.2.2.2.2.2.2.2.1] fun w49 =>
  LoadA w49 ⟨b3, 0, none⟩ [.int .i64, .int .i64, .int .i64, .int .i64, .bool, .bool, .bool, .bool, .bool] fun (x50 : Int × Int × Int × Int × Bool × Bool × Bool × Bool × Bool × Unit) =>
  K ((x50.1, x50.2.1, x50.2.2.1, x50.2.2.2.1, x50.2.2.2.2.1, x50.2.2.2.2.2.1, x50.2.2.2.2.2.2.1, x50.2.2.2.2.2.2.2.1, x50.2.2.2.2.2.2.2.2.1, ()), ()) w49))
  (LoadA w4 ⟨b1, 0, none⟩ [.int .i64, .int .i64, .int .i64, .int .i64, .bool, .bool, .bool, .bool, .bool] fun (x51 : Int × Int × Int × Int × Bool × Bool × Bool × Bool × Bool × Unit) =>
  StoreV w4 ⟨b3, 0, none⟩ [.int .i64 x51.1, .int .i64 x51.2.1, .int .i64 x51.2.2.1, .int .i64 x51.2.2.2.1, .bool x51.2.2.2.2.1, .bool x51.2.2.2.2.2.1, .bool x51.2.2.2.2.2.2.1, .bool x51.2.2.2.2.2.2.2.1, .bool x51.2.2.2.2.2.2.2.2.1] fun w52 =>
  LoadA w52 ⟨b3, 0, none⟩ [.int .i64, .int .i64, .int .i64, .int .i64, .bool, .bool, .bool, .bool, .bool] fun (x53 : Int × Int × Int × Int × Bool × Bool × Bool × Bool × Bool × Unit) =>
  K ((x53.1, x53.2.1, x53.2.2.1, x53.2.2.2.1, x53.2.2.2.2.1, x53.2.2.2.2.2.1, x53.2.2.2.2.2.2.1, x53.2.2.2.2.2.2.2.1, x53.2.2.2.2.2.2.2.2.1, ()), ()) w52)))))))
theorem ref21_Do.vc (p0_0 p0_1 p0_2 p0_3 : Int) (p0_4 p0_5 p0_6 p0_7 p0_8 : Bool) (p1 p2 : Int) (w : World) (K : (Int × Int × Int × Int × Bool × Bool × Bool × Bool × Bool × Unit) × Unit → World → Prop) (h : ref21_Do.P p0_0 p0_1 p0_2 p0_3 p0_4 p0_5 p0_6 p0_7 p0_8 p1 p2 w K) : CallV Tryz.prog 43 #[.agg #[.int .i64 p0_0, .int .i64 p0_1, .int .i64 p0_2, .int .i64 p0_3, .bool p0_4, .bool p0_5, .bool p0_6, .bool p0_7, .bool p0_8], .int .i64 p1, .int .i64 p2] w [.agg [.int .i64, .int .i64, .int .i64, .int .i64, .bool, .bool, .bool, .bool, .bool]] K := by
  refine vcFun.of (A := ref21_Do.A) (wr := false) okf_ok follows h Tryz.func43 ?_
  kernel_rfl
def ref21_Pick.A : Ann := .two .no (.two .no (.two (.two .no (.one (.loop [3, 4, 8, 9, 10, 11, 12, 13, 14, 15, 16, 17, 18, 19, 20, 21, 22, 23, 24, 25, 26, 27, 28, 29, 30, 31, 32, 33, 34, 35, 36, 37, 38, 39, 40, 41, 42, 43] [(3, .one (.int .i64)), (4, .one (.int .i64))] (.two .no (.two (.one (.two (.draw (.take 0 (.take 1 (.take 2 (.take 3 (.take 4 (.take 5 (.take 6 (.take 7 (.take 8 (.take 9 (.take 10 (.take 11 (.take 12 (.take 13 (.take 14 (.take 15 (.take 16 (.take 17 (.take 18 (.take 19 (.take 20 (.take 21 (.take 22 (.take 23 (.take 24 (.take 25 (.take 26 (.take 27 (.take 28 (.take 29 (.take 30 (.done))))))))))))))))))))))))))))))))) .no)) .no))))) .no))
def ref21_Pick.P (a0 : Option Addr) (n0 c0 : Nat) (w : World) (K : Int × Unit → World → Prop) : Prop :=
  Rng .i64 (((n0 : Nat) : Int) - 1) ∧
  LoopV [.one (.int .i64), .one (.int .i64)] (((-1) : Int), ((n0 : Nat) : Int) - 1, ()) w fun (z1 : Int × Int × Unit) w2 (K3 : Int × Int × Unit → World → Prop) =>
  cond (decide (z1.2.1 ≥ 0))
  (DrawV fun D4 =>
  (0 ≤ z1.2.1 ∧ z1.2.1 < ((n0 : Nat) : Int)) ∧ ∃ q5 : Addr, a0 = some q5 ∧
  (D4 ((q5.add (z1.2.1.toNat * 9)).add 4).block ∧ LoadS w2.drew ((q5.add (z1.2.1.toNat * 9)).add 4) .bool fun (x6 : Bool) =>
  cond (!x6)
  ((0 ≤ z1.2.1 ∧ z1.2.1 < ((n0 : Nat) : Int)) ∧ ∃ q7 : Addr, a0 = some q7 ∧
  (D4 ((q7.add (z1.2.1.toNat * 9)).add 6).block ∧ LoadS w2.drew ((q7.add (z1.2.1.toNat * 9)).add 6) .bool fun (x8 : Bool) =>
  cond (!x8)
  (cond (decide (z1.1 < 0))
  (Rng .i64 (z1.2.1 - 1) ∧
  K3 (z1.2.1, z1.2.1 - 1, ()) w2.drew)
  ((0 ≤ z1.2.1 ∧ z1.2.1 < ((n0 : Nat) : Int)) ∧ ∃ q9 : Addr, a0 = some q9 ∧
  (D4 ((q9.add (z1.2.1.toNat * 9)).add 3).block ∧ LoadS w2.drew ((q9.add (z1.2.1.toNat * 9)).add 3) (.int .i64) fun (x10 : Int) =>
  (0 ≤ z1.1 ∧ z1.1 < ((n0 : Nat) : Int)) ∧ ∃ q11 : Addr, a0 = some q11 ∧
  (D4 ((q11.add (z1.1.toNat * 9)).add 3).block ∧ LoadS w2.drew ((q11.add (z1.1.toNat * 9)).add 3) (.int .i64) fun (x12 : Int) =>
  cond (decide (x10 ≤ x12))
  (Rng .i64 (z1.2.1 - 1) ∧
  K3 (z1.2.1, z1.2.1 - 1, ()) w2.drew)
  (Rng .i64 (z1.2.1 - 1) ∧
  K3 (z1.1, z1.2.1 - 1, ()) w2.drew)))))
  (Rng .i64 (z1.2.1 - 1) ∧
  K3 (z1.1, z1.2.1 - 1, ()) w2.drew)))
  (Rng .i64 (z1.2.1 - 1) ∧
  K3 (z1.1, z1.2.1 - 1, ()) w2.drew)))
  (K (z1.1, ()) w2)
theorem ref21_Pick.vc (a0 : Option Addr) (n0 c0 : Nat) (w : World) (K : Int × Unit → World → Prop) (h : ref21_Pick.P a0 n0 c0 w K) : CallV Tryz.prog 137 #[.slice a0 n0 c0] w [.one (.int .i64)] K := by
  refine vcFun.of (A := ref21_Pick.A) (wr := false) okf_ok follows h Tryz.func137 ?_
  kernel_rfl
end Go.Proofs.YtlpeoaphdmfjdaaGreat.Vc
/-! The contracts of layer 21 (ledger): its changes. -/
namespace Go.Proofs.YtlpeoaphdmfjdaaGreat.Vc
open Go Go.Eng Go.RowKit
def inB (b : Int) (n : Nat) : Prop := 0 ≤ b ∧ b < (n : Int)
instance (b : Int) (n : Nat) : Decidable (inB b n) := by unfold inB; infer_instance
def chL (b : Int) (n : Nat) (φ : Blk → Blk) (L : List Blk) : List Blk := if inB b n then L.set b.toNat (φ (L.getD b.toNat default)) else L
def chE (b : Int) (n : Nat) : Int := if inB b n then 0 else 2
theorem change_d {F : Nat → Prop} {w : World} {p : Nat} {a : Option Addr} {n c : Nat} {L : List Blk} {b : Int} {f : FuncId} {cap : Array Value} {C : Asr} {C' : Asr} {φ : Blk → Blk} (hf : okf f = true)
    (h : ∀ (F : Nat → Prop) (w1 : World) (blk o : Nat) (e : TypeId) (pre post : List Value) (x : Blk), x ∈ L → o = pre.length → Sep F w1 w1 [BoxA blk e (pre ++ (x.vs ++ post)), C] →
      CallV Tryz.prog f ([] ++ ((([.pointer (some ⟨blk, o, none⟩)] : List Value)) ++ cap.toList)).toArray w1 [] fun _ w2 => Sep F w1 w2 [BoxA blk e (pre ++ ((φ x).vs ++ post)), C'])
    (S : Sep F w w (LedP p a n c L ++ [C])) :
    CallV Tryz.prog 96 #[.pointer (some ⟨p, 0, none⟩), .int .i64 b, .func (.func f) #[] cap] w [.one (.int .i64)] fun r w' =>
      r.1 = chE b n ∧ Sep F w w' (LedP p a n c (chL b n φ L)) := by
  refine (change_c (b := b) hf h S).mono ?_
  rintro ⟨(r : Int), ⟨⟩⟩ w1 ⟨h1, h2⟩
  dsimp only at h1 h2 ⊢
  unfold chE chL
  by_cases hb : inB b n
  · rw [if_pos hb, if_pos hb]
    exact ⟨(h2 hb).1, (h2 hb).2.sel [0, 0] rfl⟩
  · rw [if_neg hb, if_neg hb]
    obtain ⟨k1, rfl⟩ := h1 hb
    exact ⟨k1, S.sel [0, 0] rfl⟩
section
variable {F : Nat → Prop} {w : World} {p : Nat} {a : Option Addr} {n c : Nat} {L : List Blk} {b : Int}
theorem Hold21_c {ns : Int} (S : Sep F w w (LedP p a n c L)) : CallV Tryz.prog 158 #[.pointer (some ⟨p, 0, none⟩), .int .i64 b, .int .i64 ns] w [.one (.int .i64)] fun r w' =>
    r.1 = (if 0 ≤ ns ∧ ns < 4 then chE b n else 2) ∧ Sep F w w' (LedP p a n c (if 0 ≤ ns ∧ ns < 4 then chL b n (hB ns) L else L)) := by
  apply ledger_Ledger_Hold.vc
  unfold ledger_Ledger_Hold.P
  refine S.newB fun qb w1 S1 f1 _ => ?_
  refine S1.ld0 rfl rfl (cond_d (fun h => ?_) fun h => S1.ld0 rfl rfl (cond_d (fun h' => ?_) fun h' => ?_))
  · rw [if_neg (by omega), if_neg (by omega)]; exact ⟨rfl, S1.tail⟩
  · rw [if_neg (by omega), if_neg (by omega)]; exact ⟨rfl, S1.tail⟩
  rw [if_pos (by omega), if_pos (by omega)]
  refine Sep.call (LedP p a n c L ++ [BoxA qb _ [.int .i64 ns]]) (Ts := []) (S1.sel [1, 1, 0] rfl) (fun F S => change_d (b := b) (φ := hB ns) (C' := BoxA qb _ [.int .i64 ns]) (by kernel_rfl) (fun F w1 blk o e pre post x _ ho S => Hold1_c ho S) S) ?_
  rintro F2 back ⟨(r : Int), ⟨⟩⟩ w2 ⟨h, S3⟩
  exact ⟨h, (back _ _ S3).sel [0, 0] rfl⟩
theorem Scrubbed_c {m : Bool} (S : Sep F w w (LedP p a n c L)) : CallV Tryz.prog 49 #[.pointer (some ⟨p, 0, none⟩), .int .i64 b, .bool m] w [.one (.int .i64)] fun r w' =>
    r.1 = chE b n ∧ Sep F w w' (LedP p a n c (chL b n (sB m) L)) := by
  apply ledger_Ledger_Scrubbed.vc
  unfold ledger_Ledger_Scrubbed.P
  refine S.newB fun qb w1 S1 f1 _ => ?_
  refine Sep.call (LedP p a n c L ++ [BoxA qb _ [.bool m]]) (Ts := []) (S1.sel [1, 1, 0] rfl) (fun F S => change_d (b := b) (φ := sB m) (C' := BoxA qb _ [.bool m]) (by kernel_rfl) (fun F w1 blk o e pre post x _ ho S => Scrubbed1_c ho S) S) ?_
  rintro F2 back ⟨(r : Int), ⟨⟩⟩ w2 ⟨h, S3⟩
  exact ⟨h, (back _ _ S3).sel [0, 0] rfl⟩
theorem Release_c (S : Sep F w w (LedP p a n c L)) : CallV Tryz.prog 42 #[.pointer (some ⟨p, 0, none⟩), .int .i64 b] w [.one (.int .i64)] fun r w' =>
    r.1 = chE b n ∧ Sep F w w' (LedP p a n c (chL b n rB L)) := by
  apply ledger_Ledger_Release.vc
  unfold ledger_Ledger_Release.P
  exact change_d (b := b) (φ := rB) (C' := emp) (by kernel_rfl) (fun F w1 blk o e pre post x hx ho S => Release1_c ho S) (S.emp.sel [1, 1, 0] rfl)
theorem Erased_c (hL : ∀ x ∈ L, 0 ≤ x.er ∧ x.er ≤ 1000000000) (S : Sep F w w (LedP p a n c L)) : CallV Tryz.prog 46 #[.pointer (some ⟨p, 0, none⟩), .int .i64 b] w [.one (.int .i64)] fun r w' =>
    r.1 = chE b n ∧ Sep F w w' (LedP p a n c (chL b n eB L)) := by
  apply ledger_Ledger_Erased.vc
  unfold ledger_Ledger_Erased.P
  exact change_d (b := b) (φ := eB) (C' := emp) (by kernel_rfl) (fun F w1 blk o e pre post x hx ho S => Erased1_c ho (by have := hL x hx; exact Rng.i64 (by omega) (by omega)) S) (S.emp.sel [1, 1, 0] rfl)
theorem Failed_c (S : Sep F w w (LedP p a n c L)) : CallV Tryz.prog 47 #[.pointer (some ⟨p, 0, none⟩), .int .i64 b] w [.one (.int .i64)] fun r w' =>
    r.1 = chE b n ∧ Sep F w w' (LedP p a n c (chL b n fB L)) := by
  apply ledger_Ledger_Failed.vc
  unfold ledger_Ledger_Failed.P
  exact change_d (b := b) (φ := fB) (C' := emp) (by kernel_rfl) (fun F w1 blk o e pre post x hx ho S => Failed1_c ho S) (S.emp.sel [1, 1, 0] rfl)
end
def doB (k n : Int) (x : Blk) : Blk :=
  if k = 1 then hB n x else if k = 2 then rB x else if k = 3 then eB x else if k = 4 then fB x else if k = 5 then sB (n == 1) x else if k = 6 then uB x else if k = 7 then cB n x else x
end Go.Proofs.YtlpeoaphdmfjdaaGreat.Vc
/-! The contracts of layer 21 (ledger): a step, and new ones. -/
namespace Go.Proofs.YtlpeoaphdmfjdaaGreat.Vc
open Go Go.Eng Go.RowKit
abbrev LstP (a : Option Addr) (n c : Nat) (L : List Blk) : Asr := OwnA 103 9 a n c (bvs L)
theorem vs_one : ∀ x : Blk, oneAll x.vs := fun x u hu => by
  simp only [List.mem_cons, List.not_mem_nil, or_false] at hu
  rcases hu with rfl | rfl | rfl | rfl | rfl | rfl | rfl | rfl | rfl <;> rfl
theorem getD_of {L : List Blk} {i : Nat} {x : Blk} (h : L[i]? = some x) : L.getD i default = x := by rw [List.getD_eq_getElem?_getD, h]; rfl
end Go.Proofs.YtlpeoaphdmfjdaaGreat.Vc
/-! Plain laws of layer 21 (ledger): the least one, found upwards and downwards. -/
namespace Go.Proofs.YtlpeoaphdmfjdaaGreat.Vc
open Go Go.Eng Go.RowKit
abbrev gx (L : List Blk) (i : Nat) : Blk := L.getD i default
def bestT (L : List Blk) (m : Nat → Blk → Bool) (ah : Blk → Blk → Bool) : Nat → Int
  | 0 => -1
  | i + 1 => if m i (gx L i) = true ∧ (bestT L m ah i < 0 ∨ ah (gx L i) (gx L (bestT L m ah i).toNat) = true) then (i : Int) else bestT L m ah i
def dnT (L : List Blk) (m : Nat → Blk → Bool) (le : Blk → Blk → Bool) (n : Nat) : Nat → Int
  | 0 => -1
  | k + 1 => if m (n - 1 - k) (gx L (n - 1 - k)) = true ∧ (dnT L m le n k < 0 ∨ le (gx L (n - 1 - k)) (gx L (dnT L m le n k).toNat) = true) then ((n - 1 - k : Nat) : Int) else dnT L m le n k
def Least (L : List Blk) (m : Nat → Blk → Bool) (key : Blk → Int) (N : Nat → Prop) (t : Int) : Prop :=
  (t = -1 ∧ ∀ j, N j → m j (gx L j) = false) ∨ ∃ a : Nat, t = (a : Int) ∧ N a ∧ m a (gx L a) = true ∧ ∀ j, N j → m j (gx L j) = true → key (gx L a) ≤ key (gx L j) ∧ (key (gx L j) = key (gx L a) → a ≤ j)
theorem Least.uniq {L : List Blk} {m : Nat → Blk → Bool} {key : Blk → Int} {N : Nat → Prop} {s t : Int} (h : Least L m key N s) (k : Least L m key N t) : s = t := by
  rcases h with ⟨h1, h2⟩ | ⟨a, h1, h2, h3, h4⟩ <;> rcases k with ⟨k1, k2⟩ | ⟨b, k1, k2, k3, k4⟩
  · rw [h1, k1]
  · rw [h2 b k2] at k3; cases k3
  · rw [k2 a h2] at h3; cases h3
  · have p := h4 b k2 k3
    have q := k4 a h2 h3
    have e : key (gx L a) = key (gx L b) := by omega
    have p2 := p.2 e.symm
    have q2 := q.2 e
    omega
theorem bestT_least {L : List Blk} {m : Nat → Blk → Bool} {ah : Blk → Blk → Bool} {key : Blk → Int} (ha : ∀ x y, ah x y = decide (key x < key y)) : ∀ i, Least L m key (fun j => j < i) (bestT L m ah i)
  | 0 => .inl ⟨rfl, fun j hj => absurd hj (Nat.not_lt_zero j)⟩
  | i + 1 => by
    have ih := bestT_least (L := L) (m := m) ha i
    unfold bestT
    rcases ih with ⟨h1, h2⟩ | ⟨a, h1, h2, h3, h4⟩
    · by_cases hm : m i (gx L i) = true
      · rw [if_pos ⟨hm, .inl (by omega)⟩]
        refine .inr ⟨i, rfl, by omega, hm, fun j hj hmj => ?_⟩
        by_cases e : j = i
        · subst e; exact ⟨Int.le_refl _, fun _ => Nat.le_refl _⟩
        · rw [h2 j (by omega)] at hmj; cases hmj
      · rw [if_neg (fun h => hm h.1)]
        refine .inl ⟨h1, fun j hj => ?_⟩
        by_cases e : j = i
        · subst e; simpa using hm
        · exact h2 j (by omega)
    · rw [h1, Int.toNat_natCast, ha]
      by_cases hm : m i (gx L i) = true ∧ key (gx L i) < key (gx L a)
      · rw [if_pos ⟨hm.1, .inr (decide_eq_true hm.2)⟩]
        refine .inr ⟨i, rfl, by omega, hm.1, fun j hj hmj => ?_⟩
        by_cases e : j = i
        · subst e; exact ⟨Int.le_refl _, fun _ => Nat.le_refl _⟩
        · have := h4 j (by omega) hmj; omega
      · rw [if_neg (fun h => hm ⟨h.1, by rcases h.2 with k | k; omega; exact of_decide_eq_true k⟩)]
        refine .inr ⟨a, rfl, by omega, h3, fun j hj hmj => ?_⟩
        by_cases e : j = i
        · subst e
          have : ¬ key (gx L j) < key (gx L a) := fun k => hm ⟨hmj, k⟩
          exact ⟨by omega, fun _ => by omega⟩
        · exact h4 j (by omega) hmj
theorem dnT_least {L : List Blk} {m : Nat → Blk → Bool} {le : Blk → Blk → Bool} {key : Blk → Int} (ha : ∀ x y, le x y = decide (key x ≤ key y)) (n : Nat) : ∀ k, k ≤ n → Least L m key (fun j => n - k ≤ j ∧ j < n) (dnT L m le n k)
  | 0, _ => .inl ⟨rfl, fun j hj => by omega⟩
  | k + 1, hk => by
    have ih := dnT_least (L := L) (m := m) ha n k (by omega)
    unfold dnT
    generalize hi : n - 1 - k = i
    rcases ih with ⟨h1, h2⟩ | ⟨a, h1, h2, h3, h4⟩
    · by_cases hm : m i (gx L i) = true
      · rw [if_pos ⟨hm, .inl (by omega)⟩]
        refine .inr ⟨i, rfl, by omega, hm, fun j hj hmj => ?_⟩
        by_cases e : j = i
        · subst e; exact ⟨Int.le_refl _, fun _ => Nat.le_refl _⟩
        · rw [h2 j (by omega)] at hmj; cases hmj
      · rw [if_neg (fun h => hm h.1)]
        refine .inl ⟨h1, fun j hj => ?_⟩
        by_cases e : j = i
        · subst e; simpa using hm
        · exact h2 j (by omega)
    · rw [h1, Int.toNat_natCast, ha]
      by_cases hm : m i (gx L i) = true ∧ key (gx L i) ≤ key (gx L a)
      · rw [if_pos ⟨hm.1, .inr (decide_eq_true hm.2)⟩]
        refine .inr ⟨i, rfl, by omega, hm.1, fun j hj hmj => ?_⟩
        by_cases e : j = i
        · subst e; exact ⟨Int.le_refl _, fun _ => Nat.le_refl _⟩
        · have := h4 j (by omega) hmj; exact ⟨by omega, fun _ => by omega⟩
      · rw [if_neg (fun h => hm ⟨h.1, by rcases h.2 with k | k; omega; exact of_decide_eq_true k⟩)]
        refine .inr ⟨a, rfl, by omega, h3, fun j hj hmj => ?_⟩
        by_cases e : j = i
        · subst e
          have : ¬ key (gx L j) ≤ key (gx L a) := fun k => hm ⟨hmj, k⟩
          exact ⟨by omega, fun _ => by omega⟩
        · exact h4 j (by omega) hmj
theorem best_dn {L : List Blk} {m : Nat → Blk → Bool} {ah le : Blk → Blk → Bool} {key : Blk → Int} (h1 : ∀ x y, ah x y = decide (key x < key y)) (h2 : ∀ x y, le x y = decide (key x ≤ key y)) (n : Nat) : bestT L m ah n = dnT L m le n n := by
  refine (bestT_least h1 n).uniq (Eq.mp (congrArg (fun N => Least L m key N _) (funext fun j => propext ?_)) (dnT_least h2 n n (Nat.le_refl _)))
  omega
theorem bestT_bd {L : List Blk} {m : Nat → Blk → Bool} {ah : Blk → Blk → Bool} : ∀ i, -1 ≤ bestT L m ah i ∧ bestT L m ah i < (i : Int)
  | 0 => by show -1 ≤ (-1 : Int) ∧ (-1 : Int) < 0; omega
  | i + 1 => by
    have := bestT_bd (L := L) (m := m) (ah := ah) i
    unfold bestT
    split <;> push_cast <;> omega
theorem dnT_bd {L : List Blk} {m : Nat → Blk → Bool} {le : Blk → Blk → Bool} {n : Nat} : ∀ k, k ≤ n → -1 ≤ dnT L m le n k ∧ dnT L m le n k < (n : Int)
  | 0, _ => by show -1 ≤ (-1 : Int) ∧ (-1 : Int) < (n : Int); omega
  | k + 1, hk => by
    have := dnT_bd (L := L) (m := m) (le := le) (n := n) k (by omega)
    unfold dnT
    split <;> omega
theorem bestT_is {L : List Blk} {m : Nat → Blk → Bool} {ah : Blk → Blk → Bool} : ∀ i, 0 ≤ bestT L m ah i → m (bestT L m ah i).toNat (gx L (bestT L m ah i).toNat) = true
  | 0, h => by have h : (0 : Int) ≤ -1 := h; omega
  | i + 1, h => by
    unfold bestT at h ⊢
    by_cases hc : m i (gx L i) = true ∧ (bestT L m ah i < 0 ∨ ah (gx L i) (gx L (bestT L m ah i).toNat) = true)
    · rw [if_pos hc, Int.toNat_natCast]; exact hc.1
    · rw [if_neg hc] at h ⊢; exact bestT_is i h
end Go.Proofs.YtlpeoaphdmfjdaaGreat.Vc
/-! The contracts of layer 21 (ledger): new ones, and what a ledger tells. -/
namespace Go.Proofs.YtlpeoaphdmfjdaaGreat.Vc
open Go Go.Eng Go.RowKit
theorem bvs_rep (i : Nat) : bvs (List.replicate (i + 1) Blk.new) = bvs (List.replicate i Blk.new) ++ Blk.new.vs := by
  rw [List.replicate_succ', bvs, List.flatMap_append]
  simp
theorem New21_c {w : World} {n : Int} (h : 0 ≤ n ∧ n ≤ 64) : CallV Tryz.prog 33 #[.int .i64 n] w [.one .ptr, .one (.int .i64)] fun r w' =>
    r.2.1 = (0 : Int) ∧ ∃ p a c, r.1 = some (⟨p, 0, none⟩ : Addr) ∧ Sep NoB w w' (LedP p a n.toNat c (List.replicate n.toNat Blk.new)) := by
  apply ledger_New.vc
  unfold ledger_New.P
  refine cond_d (fun k => absurd k (by omega)) fun _ => cond_d (fun k => absurd k (by omega)) fun _ => ?_
  have S := Sep.start NoB w
  refine S.newB fun b1 w1 S f1 _ => ?_
  have S := (S.nilOwn 60 9).sel [1, 0] rfl
  refine Loop1 (fun (v : Int × Unit) w' => ∃ (i : Nat) (a : Option Addr) (c : Nat), v.1 = (i : Int) ∧ (i : Int) ≤ n ∧ Sep NoB w w' (LedP b1 a i c (List.replicate i Blk.new))) (fun (v : Int × Unit) _ => (n - v.1).toNat) ⟨0, none, 0, rfl, by omega, S⟩ ?_
  rintro ⟨(z : Int), ⟨⟩⟩ w4 ⟨i, a, c, hz, hi, S⟩
  dsimp only at hz ⊢
  subst hz
  refine cond_d (fun hlt => ?_) (fun hge => ?_)
  · refine S.ld0 rfl rfl ?_
    refine S.newB fun b7 w8 S f8 _ => ?_
    dsimp only
    refine AppS.of (news := Blk.new.vs) rfl (.inr ⟨_, rfl, S.cells 0 rfl⟩) ?_
    refine S.ap2 (by rfl) (vs_one _) (by omega) (by omega) fun a9 c11 w12 S f12 => ?_
    refine S.st1 (by rfl) fun w14 S f14 => ?_
    refine ⟨Rng.i64 (by omega) (by omega), ⟨i + 1, a9, c11, by push_cast; rfl, by omega, ?_⟩, by omega⟩
    show Sep NoB w w14 [_, OwnA _ 9 a9 (i + 1) c11 (bvs (List.replicate (i + 1) Blk.new))]
    rw [bvs_rep]
    exact S.tail
  · have : n.toNat = i := by omega
    rw [this]
    exact ⟨rfl, b1, a, c, rfl, S⟩
theorem rNew21_c {w : World} {n : Int} (h : 0 ≤ n ∧ n ≤ 64) : CallV Tryz.prog 35 #[.int .i64 n] w [.one .sl] fun r w' =>
    r.1.n = n.toNat ∧ Sep NoB w w' [LstP r.1.a n.toNat r.1.c (List.replicate n.toNat Blk.new)] := by
  apply ref21_New.vc
  unfold ref21_New.P
  have S := Sep.start NoB w
  refine S.newB fun b1 w1 S f1 _ => ?_
  have S := S.asOwn (sz := 9) (n := 0) rfl (by omega) oneAll.nil
  refine Loop1 (fun (v : SlV × Int × Unit) w' => ∃ (i : Nat), v.2.1 = (i : Int) ∧ (i : Int) ≤ n ∧ v.1.n = i ∧ Sep NoB w w' [LstP v.1.a i v.1.c (List.replicate i Blk.new)]) (fun (v : SlV × Int × Unit) _ => (n - v.2.1).toNat) ⟨0, rfl, by omega, rfl, S⟩ ?_
  rintro ⟨⟨a, m, c⟩, (z : Int), ⟨⟩⟩ w4 ⟨i, hz, hi, hm, S⟩
  dsimp only at hz hm S ⊢
  subst hz; subst hm
  refine cond_d (fun hlt => ?_) (fun hge => ?_)
  · refine S.newB fun b7 w8 S f8 _ => ?_
    refine AppS.of (news := Blk.new.vs) rfl (.inr ⟨_, rfl, S.cells 0 rfl⟩) ?_
    refine S.ap1 (by rfl) (vs_one _) (by omega) (by omega) fun a9 c11 w12 S f12 => ?_
    refine ⟨Rng.i64 (by omega) (by omega), ⟨m + 1, by push_cast; rfl, by omega, rfl, ?_⟩, by omega⟩
    show Sep NoB w w12 [OwnA _ 9 a9 (m + 1) c11 (bvs (List.replicate (m + 1) Blk.new))]
    rw [bvs_rep]
    exact S.tail
  · have : n.toNat = m := by omega
    rw [this]
    exact ⟨rfl, S⟩
section
variable {E : Nat → Prop} {w0 w : World} {Rs : List Asr} {p : Nat} {e e2 : TypeId} {a : Option Addr} {n c : Nat} {L : List Blk}
theorem nthB {i : Int} (k : Nat) (S : Sep E w0 w Rs) (hk : Rs[k]? = some (OwnA e2 9 a n c (bvs L))) (h0 : 0 ≤ i) (h1 : i < (n : Int)) :
    ∃ q, a = some q ∧ CellsAt w (q.add (i.toNat * 9)) (gx L i.toNat).vs ∧ q.block < w.heap.size := by
  obtain ⟨q, x, hq, hx, hc⟩ := S.nthF (f := Blk.vs) (m := 9) k hk (fun _ => rfl) (by decide) h0 h1
  refine ⟨q, hq, ?_, ?_⟩
  · rw [show gx L i.toNat = x from getD_of hx]; exact hc
  · have := cells_lt hc; rwa [add_block] at this
theorem best_c {f1 f2 : FuncId} {cap1 cap2 : Array Value} {m : Nat → Blk → Bool} {ah : Blk → Blk → Bool} (hn : n ≤ 1000000) (hf1 : okf f1 = true) (hf2 : okf f2 = true)
    (h1 : ∀ (w' : World) (i : Nat) (x : Blk), Ext w w' → CallV Tryz.prog f1 ([] ++ ((([.int .i64 (i : Int), x.val] : List Value)) ++ cap1.toList)).toArray w' [.one .bool] fun r w2 => r.1 = m i x ∧ Ext w' w2)
    (h2 : ∀ (w' : World) (x y : Blk), Ext w w' → CallV Tryz.prog f2 ([] ++ ((([x.val, y.val] : List Value)) ++ cap2.toList)).toArray w' [.one .bool] fun r w2 => r.1 = ah x y ∧ Ext w' w2)
    (S : Sep E w0 w (BoxA p e [.slice a n c] :: OwnA e2 9 a n c (bvs L) :: Rs)) :
    CallV Tryz.prog 154 #[.pointer (some ⟨p, 0, none⟩), .func (.func f1) #[] cap1, .func (.func f2) #[] cap2] w [.one (.int .i64)] fun r w' => r.1 = bestT L m ah n ∧ Ext w w' := by
  apply ledger_Ledger_best.vc
  unfold ledger_Ledger_best.P
  refine (Len_c S).mono ?_
  rintro ⟨(r : Int), ⟨⟩⟩ w1 ⟨hr, rfl⟩
  dsimp only at hr ⊢
  subst hr
  refine Loop1 (fun (v : Int × Int × Unit) w' => ∃ i : Nat, v.2.1 = (i : Int) ∧ i ≤ n ∧ v.1 = bestT L m ah i ∧ Ext w1 w') (fun (v : Int × Int × Unit) _ => ((n : Int) - v.2.1).toNat) ⟨0, rfl, by omega, rfl, Ext.refl _⟩ ?_
  rintro ⟨(t : Int), (z : Int), ⟨⟩⟩ w4 ⟨i, hz, hi, ht, x4⟩
  dsimp only at hz ht ⊢
  subst hz
  have S := S.stepE x4
  refine cond_d (fun hlt => ?_) (fun hge => ⟨by rw [ht]; congr 1; omega, x4⟩)
  have tb := bestT_bd (L := L) (m := m) (ah := ah) i
  rw [← ht] at tb
  refine S.reg fun D hD hkeep S T => ?_
  have X := x4.trans (Ext.drew w4)
  obtain ⟨q, hq, hc, hb⟩ := nthB (i := (i : Int)) 1 S rfl (by omega) hlt
  rw [Int.toNat_natCast] at hc
  refine ⟨hD _ S.bl0, S.ld0 rfl rfl ⟨⟨by omega, hlt⟩, q, hq, by rw [add_block]; exact hD _ hb, (gx L i).tup, by rw [Int.toNat_natCast]; exact hc, cond_t hf1 ?_⟩⟩
  refine (h1 _ i (gx L i) X).mono ?_
  rintro ⟨(r : Bool), ⟨⟩⟩ w5 ⟨hr, x5⟩
  dsimp only at hr ⊢
  have T5 := T.stepE x5
  refine ⟨hkeep _ T5.fr, ?_⟩
  have rng : Rng .i64 ((i : Int) + 1) := Rng.i64 (by omega) (by omega)
  have no : ∀ {w' : World}, ¬ (m i (gx L i) = true ∧ (bestT L m ah i < 0 ∨ ah (gx L i) (gx L (bestT L m ah i).toNat) = true)) → Ext w1 w' → Rng .i64 ((i : Int) + 1) ∧ (∃ j : Nat, (i : Int) + 1 = (j : Int) ∧ j ≤ n ∧ t = bestT L m ah j ∧ Ext w1 w') ∧ ((n : Int) - ((i : Int) + 1)).toNat < ((n : Int) - (i : Int)).toNat :=
    fun h x => ⟨rng, ⟨i + 1, by push_cast; rfl, by omega, by show t = if _ then _ else _; rw [if_neg h]; exact ht, x⟩, by omega⟩
  have yes : ∀ {w' : World}, (m i (gx L i) = true ∧ (bestT L m ah i < 0 ∨ ah (gx L i) (gx L (bestT L m ah i).toNat) = true)) → Ext w1 w' → Rng .i64 ((i : Int) + 1) ∧ (∃ j : Nat, (i : Int) + 1 = (j : Int) ∧ j ≤ n ∧ (i : Int) = bestT L m ah j ∧ Ext w1 w') ∧ ((n : Int) - ((i : Int) + 1)).toNat < ((n : Int) - (i : Int)).toNat :=
    fun h x => ⟨rng, ⟨i + 1, by push_cast; rfl, by omega, by show (i : Int) = if _ then _ else _; rw [if_pos h], x⟩, by omega⟩
  subst hr
  refine cond_of (fun hm => ?_) (fun hm => no (fun h => by rw [h.1] at hm; cases hm) (X.trans x5))
  refine cond_d (fun h0 => yes ⟨hm, .inl (by omega)⟩ (X.trans x5)) (fun h0 => ?_)
  obtain ⟨q2, hq2, hc2, hb2⟩ := nthB (i := t) 1 S rfl (by omega) (by omega)
  rw [hq] at hq2
  cases hq2
  refine ⟨hD _ S.bl0, S.ld0 rfl rfl ⟨⟨by omega, hlt⟩, q, hq, by rw [add_block]; exact hD _ hb, (gx L i).tup, by rw [Int.toNat_natCast]; exact hc, ?_⟩⟩
  refine ⟨hD _ S.bl0, S.ld0 rfl rfl ⟨⟨by omega, by dsimp only; omega⟩, q, hq, by rw [add_block]; exact hD _ hb, (gx L t.toNat).tup, hc2, cond_t hf2 ?_⟩⟩
  refine (h2 _ (gx L i) (gx L t.toNat) (X.trans x5)).mono ?_
  rintro ⟨(r : Bool), ⟨⟩⟩ w6 ⟨hr, x6⟩
  dsimp only at hr ⊢
  subst hr
  have T6 := T5.stepE x6
  refine ⟨hkeep _ T6.fr, ?_⟩
  refine cond_of (fun ha => yes ⟨hm, .inr (by rw [← ht]; exact ha)⟩ ((X.trans x5).trans x6)) (fun ha => no (fun h => ?_) ((X.trans x5).trans x6))
  rcases h.2 with k | k
  · omega
  · rw [← ht] at k
    rw [k] at ha
    cases ha
end
def freeB (x : Blk) : Bool := !x.he && !x.ba
section
variable {w : World} {x y : Blk}
theorem Free_c : CallV Tryz.prog 156 #[x.val] w [.one .bool] fun r w' => r.1 = freeB x ∧ Ext w w' := by
  apply ledger_Free.vc
  unfold ledger_Free.P
  have S := Sep.start NoB w
  refine S.newB fun b1 w1 S f1 _ => ?_
  refine S.ld0 rfl rfl (cond_of (fun h => S.ld0 rfl rfl ⟨?_, S.ext⟩) fun h => ⟨?_, S.ext⟩)
  · show (!x.ba) = (!x.he && !x.ba); rw [h]; rfl
  · show false = (!x.he && !x.ba); rw [h]; rfl
theorem less21_c : CallV Tryz.prog 157 #[x.val, y.val] w [.one .bool] fun r w' => r.1 = decide (x.er < y.er) ∧ Ext w w' := by
  apply ledger_less.vc
  unfold ledger_less.P
  have S := Sep.start NoB w
  (repeat ((first | refine S.newB fun _ _ S f _ => ?_ | refine S.la0 rfl ?_ | refine S.la1 rfl ?_ | refine S.la2 rfl ?_ | refine S.la3 rfl ?_ | refine S.la4 rfl ?_ | refine S.la5 rfl ?_ | refine S.ld0 rfl rfl ?_ | refine S.ld1 rfl rfl ?_ | refine S.ld2 rfl rfl ?_ | refine S.ld3 rfl rfl ?_ | refine S.ld4 rfl rfl ?_ | refine S.ld5 rfl rfl ?_ | refine S.st0 (by rfl) fun _ S f => ?_ | refine S.st1 (by rfl) fun _ S f => ?_ | refine S.st2 (by rfl) fun _ S f => ?_ | refine S.st3 (by rfl) fun _ S f => ?_ | refine S.st4 (by rfl) fun _ S f => ?_ | refine S.st5 (by rfl) fun _ S f => ?_ | refine S.su0 (by rfl) fun _ S f => ?_ | refine S.su1 (by rfl) fun _ S f => ?_ | refine S.su2 (by rfl) fun _ S f => ?_ | refine S.su3 (by rfl) fun _ S f => ?_ | refine S.su4 (by rfl) fun _ S f => ?_ | refine S.su5 (by rfl) fun _ S f => ?_ | refine ⟨by decide, ?_⟩); try dsimp only [List.set_cons_zero, List.set_cons_succ, cond_true, cond_false, Bool.not_true, Bool.not_false]))
  exact ⟨rfl, S.ext⟩
theorem Pick1_c {i : Int} : CallV Tryz.prog 155 #[.int .i64 i, x.val] w [.one .bool] fun r w' => r.1 = freeB x ∧ Ext w w' := by
  apply ledger_Ledger_Pick_1.vc
  unfold ledger_Ledger_Pick_1.P
  have S := Sep.start NoB w
  (repeat ((first | refine S.newB fun _ _ S f _ => ?_ | refine S.la0 rfl ?_ | refine S.la1 rfl ?_ | refine S.la2 rfl ?_ | refine S.la3 rfl ?_ | refine S.la4 rfl ?_ | refine S.la5 rfl ?_ | refine S.ld0 rfl rfl ?_ | refine S.ld1 rfl rfl ?_ | refine S.ld2 rfl rfl ?_ | refine S.ld3 rfl rfl ?_ | refine S.ld4 rfl rfl ?_ | refine S.ld5 rfl rfl ?_ | refine S.st0 (by rfl) fun _ S f => ?_ | refine S.st1 (by rfl) fun _ S f => ?_ | refine S.st2 (by rfl) fun _ S f => ?_ | refine S.st3 (by rfl) fun _ S f => ?_ | refine S.st4 (by rfl) fun _ S f => ?_ | refine S.st5 (by rfl) fun _ S f => ?_ | refine S.su0 (by rfl) fun _ S f => ?_ | refine S.su1 (by rfl) fun _ S f => ?_ | refine S.su2 (by rfl) fun _ S f => ?_ | refine S.su3 (by rfl) fun _ S f => ?_ | refine S.su4 (by rfl) fun _ S f => ?_ | refine S.su5 (by rfl) fun _ S f => ?_ | refine ⟨by decide, ?_⟩); try dsimp only [List.set_cons_zero, List.set_cons_succ, cond_true, cond_false, Bool.not_true, Bool.not_false]))
  refine (Free_c (x := x)).mono ?_
  rintro ⟨(r : Bool), ⟨⟩⟩ w1 ⟨h, x1⟩
  exact ⟨h, S.ext.trans x1⟩
end
section
variable {E : Nat → Prop} {w0 w : World} {Rs : List Asr} {p : Nat} {e e2 : TypeId} {a : Option Addr} {n c : Nat} {L : List Blk}
def pickT (L : List Blk) (n : Nat) : Int := bestT L (fun _ x => freeB x) (fun x y => decide (x.er < y.er)) n
theorem Pick_c (hn : n ≤ 1000000) (S : Sep E w0 w (BoxA p e [.slice a n c] :: OwnA e2 9 a n c (bvs L) :: Rs)) :
    CallV Tryz.prog 110 #[.pointer (some ⟨p, 0, none⟩)] w [.one (.int .i64)] fun r w' => r.1 = pickT L n ∧ Ext w w' := by
  apply ledger_Ledger_Pick.vc
  unfold ledger_Ledger_Pick.P
  exact best_c hn (by kernel_rfl) (by kernel_rfl) (fun w' i x _ => Pick1_c) (fun w' x y _ => less21_c) S
theorem At21_c {b : Int} (S : Sep E w0 w (BoxA p e [.slice a n c] :: OwnA e2 9 a n c (bvs L) :: Rs)) (hb : 0 ≤ b ∧ b < (n : Int)) :
    CallV Tryz.prog 15 #[.pointer (some ⟨p, 0, none⟩), .int .i64 b] w [.agg [.int .i64, .int .i64, .int .i64, .int .i64, .bool, .bool, .bool, .bool, .bool]] fun r w' => r.1 = (gx L b.toNat).tup ∧ Ext w w' := by
  apply ledger_Ledger_At.vc
  unfold ledger_Ledger_At.P
  have T := Sep.start NoB w
  refine T.newB fun b1 w1 T f1 _ => ?_
  have S := S.stepE T.ext
  refine (has_c (b := b) S).mono ?_
  rintro ⟨(r : Bool), ⟨⟩⟩ w2 ⟨h2, rfl⟩
  dsimp only at h2 ⊢
  subst h2
  refine cond_f (by rw [decide_eq_true hb]; rfl) ?_
  obtain ⟨q, hq, hc, -⟩ := nthB (i := b) 1 S rfl hb.1 hb.2
  refine S.ld0 rfl rfl ⟨hb, q, hq, (gx L b.toNat).tup, hc, ?_⟩
  refine T.st0 (by rfl) fun w3 T f3 => T.la0 rfl ⟨rfl, T.ext⟩
end
end Go.Proofs.YtlpeoaphdmfjdaaGreat.Vc
/-! Calls and open orders that own the first parts. -/
namespace Go.Eng
open Go
section
variable {E : Nat → Prop} {w0 w w' : World} {Rs Ts : List Asr}
theorem Sep.regC (Rs : List Asr) {Ts : List Asr} (S : Sep E w0 w (Rs ++ Ts)) {body : (Nat → Prop) → Prop}
    (h : ∀ F D : Nat → Prop, (∀ k, F k → (E k ∨ w0.heap.size ≤ k) ∧ k < w.heap.size) → Sep F w.drew w.drew Rs → Sep E w0 w.drew (Rs ++ Ts) → (∀ (i : Nat) (b : Nat) (e : TypeId) (vs : List Value), Ts[i]? = some (BoxA b e vs) → D b) → (∀ b, b < w0.heap.size → ¬ E b → D b) → (∀ w', Fr F w.drew w' → KeepOn D w.drew w') → (∀ w' Ls, Sep F w.drew w' Ls → Sep E w0 w' (Ls ++ Ts)) → body D) : DrawV body := by
  have S := S.drew
  obtain ⟨F, hF, hb⟩ := S.ex
  obtain ⟨F1, F2, h1, h2, h3, h4, h5⟩ := StarP.app.1 hF
  have hsz : w0.heap.size ≤ w.drew.heap.size := S.fr.size
  refine DrawV.but F1 w fun D hD hk => h F1 D (fun k hk => hb k (h4 k hk)) (Sep.begin h1 fun k hk => (hb k (h4 k hk)).2) S (fun i b e vs hi => ?_) (fun b hb1 hb2 => ?_) hk fun w' Ls S' => ?_
  · obtain ⟨G, g1, g2⟩ := StarP.get hi h2
    exact hD b (hb b (h5 b (g2 b g1.1))).2 fun x => h3 b x (g2 b g1.1)
  · refine hD b (Nat.lt_of_lt_of_le hb1 hsz) fun x => ?_
    rcases (hb b (h4 b x)).1 with y | y
    · exact hb2 y
    · omega
  · obtain ⟨G, g1, g2⟩ := S'.ex
    refine ⟨S.fr.trans' S'.fr fun k hk => (hb k (h4 k hk)).1, fun k => G k ∨ F2 k, StarP.app.2 ⟨G, F2, g1, h2.st fun k hk => S'.fr.block k (hb k (h5 k hk)).2 fun x => h3 k x hk, fun k hk hf => ?_, fun k => .inl, fun k => .inr⟩, fun k hk => ?_⟩
    · rcases (g2 k hk).1 with x | x
      · exact h3 k x hf
      · have := (hb k (h5 k hf)).2; omega
    · rcases hk with hk | hk
      · refine ⟨?_, (g2 k hk).2⟩
        rcases (g2 k hk).1 with x | x
        · exact (hb k (h4 k x)).1
        · exact .inr (by omega)
      · exact ⟨(hb k (h5 k hk)).1, Nat.lt_of_lt_of_le (hb k (h5 k hk)).2 S'.fr.size⟩
end
end Go.Eng
/-! An array, and a ledger, as parts of which only the data is told. -/
namespace Go.Proofs.YtlpeoaphdmfjdaaGreat.Vc
open Go Go.Eng Go.RowKit
def chipE (p : Nat) (C : CD) : Asr := ⟨fun w F => ∃ (y : Lay) (L : List TOp), fds y.F = C.pl ∧ StarP w (ChipP p y C L) F, fun h k => by obtain ⟨y, L, h1, h2⟩ := h; exact ⟨y, L, h1, h2.st k⟩⟩
def ledE (q : Nat) (L : List Blk) : Asr := ⟨fun w F => ∃ (a : Option Addr) (c : Nat), StarP w (LedP q a L.length c L) F, fun h k => by obtain ⟨a, c, h1⟩ := h; exact ⟨a, c, h1.st k⟩⟩
theorem eraC_k (C : CD) (n : Int) : (eraC C n).1.g = C.g ∧ (eraC C n).1.pl = C.pl := by unfold eraC eraX; split <;> exact ⟨rfl, rfl⟩
theorem scrC_k (C : CD) (n : Int) : (scrC C n).1.g = C.g ∧ (scrC C n).1.pl = C.pl := by unfold scrC scrX; split <;> exact ⟨rfl, rfl⟩
theorem progC_k (C : CD) (bl pa : Int) (b : List Int) : (progC C bl pa b).1.g = C.g ∧ (progC C bl pa b).1.pl = C.pl := by unfold progC progX; split <;> exact ⟨rfl, rfl⟩
theorem eraC_ok {C : CD} (hC : COk C) (n : Int) (ho : C.ops < 1000000) : COk (eraC C n).1 ∧ (eraC C n).1.ops ≤ C.ops + 1 ∧ C.ops ≤ (eraC C n).1.ops := by
  unfold eraC
  split
  · rename_i h; exact ⟨eraX_ok hC h ho, Nat.le_refl _, Nat.le_succ _⟩
  · exact ⟨hC, Nat.le_succ _, Nat.le_refl _⟩
theorem scrC_ok {C : CD} (hC : COk C) (n : Int) (ho : C.ops < 1000000) : COk (scrC C n).1 ∧ (scrC C n).1.ops ≤ C.ops + 1 ∧ C.ops ≤ (scrC C n).1.ops := by
  unfold scrC
  split
  · rename_i h; exact ⟨scrX_ok hC h ho, Nat.le_refl _, Nat.le_succ _⟩
  · exact ⟨hC, Nat.le_succ _, Nat.le_refl _⟩
theorem progC_ok {C : CD} (hC : COk C) (bl pa : Int) {b : List Int} (bb : Byt b) (ho : C.ops < 1000000) : COk (progC C bl pa b).1 ∧ (progC C bl pa b).1.ops ≤ C.ops + 1 ∧ C.ops ≤ (progC C bl pa b).1.ops := by
  unfold progC
  split
  · rename_i h; exact ⟨progX_ok hC h bb ho, Nat.le_refl _, Nat.le_succ _⟩
  · exact ⟨hC, Nat.le_succ _, Nat.le_refl _⟩
section
variable {E : Nat → Prop} {w0 w : World} {Rs : List Asr} {p q : Nat} {C : CD} {L : List Blk}
theorem chipE_in {y : Lay} {T : List TOp} (hF : fds y.F = C.pl) (S : Sep E w0 w (ChipP p y C T ++ Rs)) : Sep E w0 w (chipE p C :: Rs) :=
  (S.fold (Rs := ChipP p y C T)).conv fun F h _ => ⟨y, T, hF, h⟩
theorem chipE_out (S : Sep E w0 w (chipE p C :: Rs)) : ∃ (y : Lay) (T : List TOp), fds y.F = C.pl ∧ Sep E w0 w (ChipP p y C T ++ Rs) := by
  obtain ⟨F, ⟨F1, F2, ⟨y, T, h1, h2⟩, h3⟩, hb⟩ := S.ex
  have S2 : Sep E w0 w (StarA (ChipP p y C T) :: Rs) := ⟨S.fr, F, ⟨F1, F2, h2, h3⟩, hb⟩
  exact ⟨y, T, h1, S2.unfold (Rs := ChipP p y C T)⟩
theorem ledE_in {a : Option Addr} {n c : Nat} (S : Sep E w0 w (LedP q a n c L ++ Rs)) : Sep E w0 w (ledE q L :: Rs) := by
  have hl : (bvs L).length = n * 9 := (S.own 1 rfl).len
  have hn : n = L.length := by rw [bvs_len] at hl; omega
  subst hn
  exact (S.fold (Rs := LedP q a L.length c L)).conv fun F h _ => ⟨a, c, h⟩
theorem ledE_out (S : Sep E w0 w (ledE q L :: Rs)) : ∃ (a : Option Addr) (c : Nat), Sep E w0 w (LedP q a L.length c L ++ Rs) := by
  obtain ⟨F, ⟨F1, F2, ⟨a, c, h2⟩, h3⟩, hb⟩ := S.ex
  have S2 : Sep E w0 w (StarA (LedP q a L.length c L) :: Rs) := ⟨S.fr, F, ⟨F1, F2, h2, h3⟩, hb⟩
  exact ⟨a, c, S2.unfold (Rs := LedP q a L.length c L)⟩
theorem Erase_e {n : Int} (hC : COk C) (S : Sep E w0 w (chipE p C :: Rs)) : CallV Tryz.prog 45 #[.pointer (some ⟨p, 0, none⟩), .int .i64 n] w [.one (.int .i64)] fun r w' =>
    r.1 = (eraC C n).2 ∧ Sep E w0 w' (chipE p (eraC C n).1 :: Rs) := by
  obtain ⟨y, T, hF, S⟩ := chipE_out S
  refine Sep.call (ChipP p y C T) S (fun G SG => Erase13_c hC hF SG) fun G fr r w' hr => ?_
  obtain ⟨h1, ta, tc, L', -, S'⟩ := hr
  exact ⟨h1, chipE_in (y := upT y ta tc) (by show fds y.F = _; rw [hF, (eraC_k C n).2]) (fr _ _ S')⟩
theorem Scrub_e {n : Int} (hC : COk C) (S : Sep E w0 w (chipE p C :: Rs)) : CallV Tryz.prog 48 #[.pointer (some ⟨p, 0, none⟩), .int .i64 n] w [.one (.int .i64)] fun r w' =>
    r.1 = (scrC C n).2 ∧ Sep E w0 w' (chipE p (scrC C n).1 :: Rs) := by
  obtain ⟨y, T, hF, S⟩ := chipE_out S
  refine Sep.call (ChipP p y C T) S (fun G SG => Scrub13_c hC hF SG) fun G fr r w' hr => ?_
  obtain ⟨h1, ta, tc, L', -, S'⟩ := hr
  exact ⟨h1, chipE_in (y := upT y ta tc) (by show fds y.F = _; rw [hF, (scrC_k C n).2]) (fr _ _ S')⟩
theorem Program_e {bl pa : Int} {dd : SlP Int} (hC : COk C) (hdn : dd.n ≤ 100000) (S : Sep E w0 w (chipE p C :: RdL [dd] :: Rs)) : CallV Tryz.prog 92 #[.pointer (some ⟨p, 0, none⟩), .agg #[.int .i64 bl, .int .i64 pa], .slice dd.a dd.n dd.c] w [.one (.int .i64)] fun r w' =>
    r.1 = (progC C bl pa dd.l).2 ∧ Sep E w0 w' (chipE p (progC C bl pa dd.l).1 :: RdL [dd] :: Rs) := by
  obtain ⟨y, T, hF, S⟩ := chipE_out S
  refine Sep.call (ChipQ p y C T [RdL [dd]]) S (fun G SG => Program13_c (bl := bl) (pa := pa) hC hF hdn SG) fun G fr r w' hr => ?_
  obtain ⟨h1, ta, tc, L', -, S'⟩ := hr
  exact ⟨h1, chipE_in (y := upT y ta tc) (T := L') (Rs := RdL [dd] :: Rs) (by show fds y.F = _; rw [hF, (progC_k C bl pa dd.l).2]) (fr _ _ S')⟩
theorem res_rdL {w1 : World} {s : SlV} {xs : List Int} (S : Sep E w0 w Rs) (h : Res w w1 s xs) (bx : Byt xs) : Sep E w0 w1 (RdL [⟨s.a, s.n, s.c, xs⟩] :: Rs) :=
  (S.pushO h.ext h.own).conv fun F hF _ x hx => by
    rw [List.mem_singleton.1 hx]
    exact own_rdB hF (fun k hk => hk) bx
theorem Ops_e (S : Sep E w0 w (chipE p C :: Rs)) : CallV Tryz.prog 32 #[.pointer (some ⟨p, 0, none⟩)] w [.one (.int .i64)] fun r w' => r.1 = (C.ops : Int) ∧ w' = w := by
  obtain ⟨y, T, hF, S⟩ := chipE_out S
  exact Ops_c S
theorem Geometry_e (S : Sep E w0 w (chipE p C :: Rs)) : CallV Tryz.prog 59 #[.pointer (some ⟨p, 0, none⟩)] w [.agg [.int .i64, .int .i64, .int .i64, .int .i64, .int .i64, .int .i64]] fun r w' => r.1 = C.g.tup ∧ Ext w w' := by
  obtain ⟨y, T, hF, S⟩ := chipE_out S
  exact Geometry_c S
theorem Power_e {on : Bool} (S : Sep E w0 w (chipE p C :: Rs)) : CallV Tryz.prog 24 #[.pointer (some ⟨p, 0, none⟩), .bool on] w [] fun _ w' => Sep E w0 w' (chipE p { C with off := !on } :: Rs) := by
  obtain ⟨y, T, hF, S⟩ := chipE_out S
  refine Sep.call (ChipP p y C T) S (fun G SG => Power_c SG) fun G fr r w' hr => ?_
  exact chipE_in (y := y) hF (fr _ _ hr)
theorem Image_e (hC : COk C) (S : Sep E w0 w (chipE p C :: Rs)) : CallV Tryz.prog 11 #[.pointer (some ⟨p, 0, none⟩)] w [.one .sl] fun r w' => Res w w' r.1 (imgC C) := by
  obtain ⟨y, T, hF, S⟩ := chipE_out S
  exact Image_c hC S
theorem Read_e {bl pa : Int} (hC : COk C) (S : Sep E w0 w (chipE p C :: Rs)) : CallV Tryz.prog 118 #[.pointer (some ⟨p, 0, none⟩), .agg #[.int .i64 bl, .int .i64 pa]] w [.one .sl, .one (.int .i64)] fun r w' =>
    r.2.1 = readC C bl pa ∧ (readC C bl pa ≠ 0 → r.1 = (⟨none, 0, 0⟩ : SlV) ∧ Ext w w') ∧ (readC C bl pa = 0 → Res w w' r.1 (pgC13 C bl pa)) := by
  obtain ⟨y, T, hF, S⟩ := chipE_out S
  exact Read13_c hC S
theorem led_call {fn : FuncId} {args : Array Value} {L' : List Blk} {v : Int} (S : Sep E w0 w (ledE q L :: Rs)) (h : ∀ (G : Nat → Prop) (a : Option Addr) (c : Nat), Sep G w w (LedP q a L.length c L) → CallV Tryz.prog fn args w [.one (.int .i64)] fun r w' => r.1 = v ∧ Sep G w w' (LedP q a L.length c L')) :
    CallV Tryz.prog fn args w [.one (.int .i64)] fun r w' => r.1 = v ∧ Sep E w0 w' (ledE q L' :: Rs) := by
  obtain ⟨a, c, S⟩ := ledE_out S
  refine Sep.call (LedP q a L.length c L) S (fun G SG => h G a c SG) fun G fr r w' hr => ?_
  exact ⟨hr.1, ledE_in (fr _ _ hr.2)⟩
theorem Hold_e {b ns : Int} (S : Sep E w0 w (ledE q L :: Rs)) : CallV Tryz.prog 158 #[.pointer (some ⟨q, 0, none⟩), .int .i64 b, .int .i64 ns] w [.one (.int .i64)] fun r w' =>
    r.1 = (if 0 ≤ ns ∧ ns < 4 then chE b L.length else 2) ∧ Sep E w0 w' (ledE q (if 0 ≤ ns ∧ ns < 4 then chL b L.length (hB ns) L else L) :: Rs) := led_call S fun G a c SG => Hold21_c SG
theorem Scrubbed_e {b : Int} {m : Bool} (S : Sep E w0 w (ledE q L :: Rs)) : CallV Tryz.prog 49 #[.pointer (some ⟨q, 0, none⟩), .int .i64 b, .bool m] w [.one (.int .i64)] fun r w' =>
    r.1 = chE b L.length ∧ Sep E w0 w' (ledE q (chL b L.length (sB m) L) :: Rs) := led_call S fun G a c SG => Scrubbed_c SG
theorem Release_e {b : Int} (S : Sep E w0 w (ledE q L :: Rs)) : CallV Tryz.prog 42 #[.pointer (some ⟨q, 0, none⟩), .int .i64 b] w [.one (.int .i64)] fun r w' =>
    r.1 = chE b L.length ∧ Sep E w0 w' (ledE q (chL b L.length rB L) :: Rs) := led_call S fun G a c SG => Release_c SG
theorem Erased_e {b : Int} (hL : ∀ x ∈ L, 0 ≤ x.er ∧ x.er ≤ 1000000000) (S : Sep E w0 w (ledE q L :: Rs)) : CallV Tryz.prog 46 #[.pointer (some ⟨q, 0, none⟩), .int .i64 b] w [.one (.int .i64)] fun r w' =>
    r.1 = chE b L.length ∧ Sep E w0 w' (ledE q (chL b L.length eB L) :: Rs) := led_call S fun G a c SG => Erased_c hL SG
theorem Failed_e {b : Int} (S : Sep E w0 w (ledE q L :: Rs)) : CallV Tryz.prog 47 #[.pointer (some ⟨q, 0, none⟩), .int .i64 b] w [.one (.int .i64)] fun r w' =>
    r.1 = chE b L.length ∧ Sep E w0 w' (ledE q (chL b L.length fB L) :: Rs) := led_call S fun G a c SG => Failed_c SG
theorem Pick_e (hn : L.length ≤ 1000000) (S : Sep E w0 w (ledE q L :: Rs)) : CallV Tryz.prog 110 #[.pointer (some ⟨q, 0, none⟩)] w [.one (.int .i64)] fun r w' => r.1 = pickT L L.length ∧ Ext w w' := by
  obtain ⟨a, c, S⟩ := ledE_out S
  exact Pick_c hn S
theorem At_e {b : Int} (S : Sep E w0 w (ledE q L :: Rs)) (hb : 0 ≤ b ∧ b < (L.length : Int)) : CallV Tryz.prog 15 #[.pointer (some ⟨q, 0, none⟩), .int .i64 b] w [.agg [.int .i64, .int .i64, .int .i64, .int .i64, .bool, .bool, .bool, .bool, .bool]] fun r w' => r.1 = (gx L b.toNat).tup ∧ Ext w w' := by
  obtain ⟨a, c, S⟩ := ledE_out S
  exact At21_c S hb
theorem Len_e (S : Sep E w0 w (ledE q L :: Rs)) : CallV Tryz.prog 78 #[.pointer (some ⟨q, 0, none⟩)] w [.one (.int .i64)] fun r w' => r.1 = (L.length : Int) ∧ w' = w := by
  obtain ⟨a, c, S⟩ := ledE_out S
  exact Len_c S
end
end Go.Proofs.YtlpeoaphdmfjdaaGreat.Vc
/-! The plans of functions as plain statements, printed by wip/tools/vcgen.py; the kernel holds each to the code. -/
namespace Go.Proofs.YtlpeoaphdmfjdaaGreat.Vc
open Go Go.Eng
def head_Bytes.A : Ann := .two .no (.two (.two .no (.one (.loop [2, 3, 5, 14, 15, 16, 17, 18, 19, 20, 21, 22, 23] [(14, .one (.int .i64))] .no))) .no)
def head_Bytes.P (p0_0 p0_1 p0_2 p0_3 p0_4 p0_5 : Int) (w : World) (K : SlV × Int × Unit → World → Prop) : Prop :=
  NewV #[.int .i64 p0_0, .int .i64 p0_1, .int .i64 p0_2, .int .u32 p0_3, .int .u64 p0_4, .int .u64 p0_5] 46 w fun b1 w2 =>
  LoadS w2 ⟨b1, 0, none⟩ (.int .i64) fun (x3 : Int) =>
  LoadS w2 ⟨b1, 1, none⟩ (.int .i64) fun (x4 : Int) =>
  LoadS w2 ⟨b1, 2, none⟩ (.int .i64) fun (x5 : Int) =>
  LoopV [.one (.int .i64)] ((0 : Int), ()) w2 fun (z6 : Int × Unit) w7 (K8 : Int × Unit → World → Prop) =>
  cond (decide (z6.1 < 3))
  ((0 ≤ z6.1 ∧ z6.1 < (3 : Int)) ∧ ∃ y9 : Int, ([.int .i64 x3, .int .i64 x4, .int .i64 x5] : List Value)[z6.1.toNat * 1]? = some (.int .i64 y9) ∧
  cond (decide (y9 < 0))
  (K ((⟨none, 0, 0⟩ : SlV), (2 : Int), ()) w7)
  (cond (decide (y9 > 255))
  (K ((⟨none, 0, 0⟩ : SlV), (2 : Int), ()) w7)
  (Rng .i64 (z6.1 + 1) ∧
  K8 (z6.1 + 1, ()) w7)))
  (LoadS w7 ⟨b1, 0, none⟩ (.int .i64) fun (x10 : Int) =>
  cond (decide (x10 < 1))
  (K ((⟨none, 0, 0⟩ : SlV), (2 : Int), ()) w7)
  (LoadS w7 ⟨b1, 0, none⟩ (.int .i64) fun (x11 : Int) =>
  cond (decide (x11 > 4))
  (K ((⟨none, 0, 0⟩ : SlV), (2 : Int), ()) w7)
  (LoadS w7 ⟨b1, 0, none⟩ (.int .i64) fun (x12 : Int) =>
  LoadS w7 ⟨b1, 1, none⟩ (.int .i64) fun (x13 : Int) =>
  LoadS w7 ⟨b1, 2, none⟩ (.int .i64) fun (x14 : Int) =>
  NewV #[.int .u8 (IntKind.u8.wrap x12), .int .u8 (IntKind.u8.wrap x13), .int .u8 (IntKind.u8.wrap x14), .int .u8 0] 5 w7 fun b15 w16 =>
  LoadS w16 ⟨b1, 3, none⟩ (.int .u32) fun (x17 : Int) =>
  CallV Tryz.prog 182 #[.int .u64 (IntKind.u64.wrap x17), .int .i64 4] w16 [.one .sl] fun (r18 : SlV × Unit) w19 =>
  AppS w19 r18.1.a r18.1.n 1 fun ns24 =>
  AppV w19 5 1 1 (some ⟨b15, 0, none⟩) 4 4 ns24 r18.1.n fun a20 n21 c22 w23 =>
  LoadS w23 ⟨b1, 4, none⟩ (.int .u64) fun (x25 : Int) =>
  CallV Tryz.prog 182 #[.int .u64 x25, .int .i64 8] w23 [.one .sl] fun (r26 : SlV × Unit) w27 =>
  AppS w27 r26.1.a r26.1.n 1 fun ns32 =>
  AppV w27 5 1 1 a20 n21 c22 ns32 r26.1.n fun a28 n29 c30 w31 =>
  LoadS w31 ⟨b1, 5, none⟩ (.int .u64) fun (x33 : Int) =>
  CallV Tryz.prog 182 #[.int .u64 x33, .int .i64 8] w31 [.one .sl] fun (r34 : SlV × Unit) w35 =>
  AppS w35 r34.1.a r34.1.n 1 fun ns40 =>
  AppV w35 5 1 1 a28 n29 c30 ns40 r34.1.n fun a36 n37 c38 w39 =>
  K ((⟨a36, n37, c38⟩ : SlV), (0 : Int), ()) w39)))
theorem head_Bytes.vc (p0_0 p0_1 p0_2 p0_3 p0_4 p0_5 : Int) (w : World) (K : SlV × Int × Unit → World → Prop) (h : head_Bytes.P p0_0 p0_1 p0_2 p0_3 p0_4 p0_5 w K) : CallV Tryz.prog 178 #[.agg #[.int .i64 p0_0, .int .i64 p0_1, .int .i64 p0_2, .int .u32 p0_3, .int .u64 p0_4, .int .u64 p0_5]] w [.one .sl, .one (.int .i64)] K := by
  refine vcFun.of (A := head_Bytes.A) (wr := false) okf_ok follows h Tryz.func178 ?_
  kernel_rfl
def ref14_Right.A : Ann := .no
def ref14_Right.P (p0_0 p0_1 p0_2 p0_3 p0_4 p0_5 : Int) (w : World) (K : Bool × Unit → World → Prop) : Prop :=
  NewV #[.int .i64 p0_0, .int .i64 p0_1, .int .i64 p0_2, .int .u32 p0_3, .int .u64 p0_4, .int .u64 p0_5] 46 w fun b1 w2 =>
  LoadS w2 ⟨b1, 0, none⟩ (.int .i64) fun (x3 : Int) =>
  cond (decide (x3 ≥ 1))
  (LoadS w2 ⟨b1, 0, none⟩ (.int .i64) fun (x4 : Int) =>
  cond (decide (x4 ≤ 4))
  (LoadS w2 ⟨b1, 1, none⟩ (.int .i64) fun (x5 : Int) =>
  cond (decide (x5 ≥ 0))
  (LoadS w2 ⟨b1, 1, none⟩ (.int .i64) fun (x6 : Int) =>
  cond (decide (x6 ≤ 255))
  (LoadS w2 ⟨b1, 2, none⟩ (.int .i64) fun (x7 : Int) =>
  cond (decide (x7 ≥ 0))
  (LoadS w2 ⟨b1, 2, none⟩ (.int .i64) fun (x8 : Int) =>
  K (decide (x8 ≤ 255), ()) w2)
  (K (false, ()) w2))
  (K (false, ()) w2))
  (K (false, ()) w2))
  (K (false, ()) w2))
  (K (false, ()) w2)
theorem ref14_Right.vc (p0_0 p0_1 p0_2 p0_3 p0_4 p0_5 : Int) (w : World) (K : Bool × Unit → World → Prop) (h : ref14_Right.P p0_0 p0_1 p0_2 p0_3 p0_4 p0_5 w K) : CallV Tryz.prog 86 #[.agg #[.int .i64 p0_0, .int .i64 p0_1, .int .i64 p0_2, .int .u32 p0_3, .int .u64 p0_4, .int .u64 p0_5]] w [.one .bool] K := by
  refine vcFun.of (A := ref14_Right.A) (wr := false) okf_ok follows h Tryz.func86 ?_
  kernel_rfl
def ref14_Bytes.A : Ann := .two .no (.two (.draw (.take 0 (.take 1 (.take 2 (.take 3 (.take 4 (.take 5 (.take 6 (.take 7 (.take 8 (.take 10 (.take 11 (.take 12 (.both 9 (.eff 13 (.eff 14 (.take 15 (.done)))) 13 (.eff 9 (.eff 14 (.take 15 (.done)))))))))))))))))) .no)
def ref14_Bytes.P (p0_0 p0_1 p0_2 p0_3 p0_4 p0_5 : Int) (w : World) (K : SlV × Unit → World → Prop) : Prop :=
  NewV #[.int .i64 p0_0, .int .i64 p0_1, .int .i64 p0_2, .int .u32 p0_3, .int .u64 p0_4, .int .u64 p0_5] 46 w fun b1 w2 =>
  DrawV fun D3 =>
  (D3 b1 ∧ LoadS w2.drew ⟨b1, 0, none⟩ (.int .i64) fun (x4 : Int) =>
  (D3 b1 ∧ LoadS w2.drew ⟨b1, 1, none⟩ (.int .i64) fun (x5 : Int) =>
  (D3 b1 ∧ LoadS w2.drew ⟨b1, 2, none⟩ (.int .i64) fun (x6 : Int) =>
  (D3 b1 ∧ LoadS w2.drew ⟨b1, 3, none⟩ (.int .u32) fun (x7 : Int) =>
  ((NewV #[.int .u8 (IntKind.u8.wrap x4), .int .u8 (IntKind.u8.wrap x5), .int .u8 (IntKind.u8.wrap x6), .int .u8 0] 5 w2.drew fun b8 w9 =>
  KeepOn D3 w2.drew w9 ∧
  CallV Tryz.prog 173 #[.int .u64 (IntKind.u64.wrap x7), .int .i64 4] w9 [.one .sl] fun (r10 : SlV × Unit) w11 =>
  KeepOn D3 w2.drew w11 ∧
  AppS w11 r10.1.a r10.1.n 1 fun ns16 =>
  AppV w11 5 1 1 (some ⟨b8, 0, none⟩) 4 4 ns16 r10.1.n fun a12 n13 c14 w15 =>
  KeepOn D3 w2.drew w15 ∧
  LoadS w15 ⟨b1, 4, none⟩ (.int .u64) fun (x17 : Int) =>
  CallV Tryz.prog 173 #[.int .u64 x17, .int .i64 8] w15 [.one .sl] fun (r18 : SlV × Unit) w19 =>
  AppS w19 r18.1.a r18.1.n 1 fun ns24 =>
  AppV w19 5 1 1 a12 n13 c14 ns24 r18.1.n fun a20 n21 c22 w23 =>
  LoadS w23 ⟨b1, 5, none⟩ (.int .u64) fun (x25 : Int) =>
  CallV Tryz.prog 173 #[.int .u64 x25, .int .i64 8] w23 [.one .sl] fun (r26 : SlV × Unit) w27 =>
  AppS w27 r26.1.a r26.1.n 1 fun ns32 =>
  AppV w27 5 1 1 a20 n21 c22 ns32 r26.1.n fun a28 n29 c30 w31 =>
  K ((⟨a28, n29, c30⟩ : SlV), ()) w31) ∧
  (CallV Tryz.prog 173 #[.int .u64 (IntKind.u64.wrap x7), .int .i64 4] w2.drew [.one .sl] fun (r33 : SlV × Unit) w34 =>
  KeepOn D3 w2.drew w34 ∧
  NewV #[.int .u8 (IntKind.u8.wrap x4), .int .u8 (IntKind.u8.wrap x5), .int .u8 (IntKind.u8.wrap x6), .int .u8 0] 5 w34 fun b35 w36 =>
  KeepOn D3 w2.drew w36 ∧
  AppS w36 r33.1.a r33.1.n 1 fun ns41 =>
  AppV w36 5 1 1 (some ⟨b35, 0, none⟩) 4 4 ns41 r33.1.n fun a37 n38 c39 w40 =>
  KeepOn D3 w2.drew w40 ∧
  LoadS w40 ⟨b1, 4, none⟩ (.int .u64) fun (x42 : Int) =>
  CallV Tryz.prog 173 #[.int .u64 x42, .int .i64 8] w40 [.one .sl] fun (r43 : SlV × Unit) w44 =>
  AppS w44 r43.1.a r43.1.n 1 fun ns49 =>
  AppV w44 5 1 1 a37 n38 c39 ns49 r43.1.n fun a45 n46 c47 w48 =>
  LoadS w48 ⟨b1, 5, none⟩ (.int .u64) fun (x50 : Int) =>
  CallV Tryz.prog 173 #[.int .u64 x50, .int .i64 8] w48 [.one .sl] fun (r51 : SlV × Unit) w52 =>
  AppS w52 r51.1.a r51.1.n 1 fun ns57 =>
  AppV w52 5 1 1 a45 n46 c47 ns57 r51.1.n fun a53 n54 c55 w56 =>
  K ((⟨a53, n54, c55⟩ : SlV), ()) w56))))))
theorem ref14_Bytes.vc (p0_0 p0_1 p0_2 p0_3 p0_4 p0_5 : Int) (w : World) (K : SlV × Unit → World → Prop) (h : ref14_Bytes.P p0_0 p0_1 p0_2 p0_3 p0_4 p0_5 w K) : CallV Tryz.prog 160 #[.agg #[.int .i64 p0_0, .int .i64 p0_1, .int .i64 p0_2, .int .u32 p0_3, .int .u64 p0_4, .int .u64 p0_5]] w [.one .sl] K := by
  refine vcFun.of (A := ref14_Bytes.A) (wr := false) okf_ok follows h Tryz.func160 ?_
  kernel_rfl
def head_Mark.A : Ann := .no
def head_Mark.P (p0 : Int) (w : World) (K : SlV × Unit → World → Prop) : Prop :=
  cond (decide (p0 < 88))
  (K ((⟨none, 0, 0⟩ : SlV), ()) w)
  (cond (decide (p0 > 4184))
  (K ((⟨none, 0, 0⟩ : SlV), ()) w)
  (Rng .i64 (p0 - 8) ∧
  CallV Tryz.prog 126 #[.int .u8 255, .int .i64 (p0 - 8)] w [.one .sl] fun (r1 : SlV × Unit) w2 =>
  CallV Tryz.prog 126 #[.int .u8 0, .int .i64 8] w2 [.one .sl] fun (r3 : SlV × Unit) w4 =>
  AppS w4 r3.1.a r3.1.n 1 fun ns9 =>
  AppV w4 5 1 1 r1.1.a r1.1.n r1.1.c ns9 r3.1.n fun a5 n6 c7 w8 =>
  K ((⟨a5, n6, c7⟩ : SlV), ()) w8))
theorem head_Mark.vc (p0 : Int) (w : World) (K : SlV × Unit → World → Prop) (h : head_Mark.P p0 w K) : CallV Tryz.prog 141 #[.int .i64 p0] w [.one .sl] K := by
  refine vcFun.of (A := head_Mark.A) (wr := false) okf_ok follows h Tryz.func141 ?_
  kernel_rfl
def ref14_Committed.A : Ann := .two .no (.two (.draw (.take 0 (.take 1 (.eff 2 (.eff 3 (.take 4 (.done))))))) .no)
def ref14_Committed.P (a0 : Option Addr) (n0 c0 : Nat) (w : World) (K : Bool × Unit → World → Prop) : Prop :=
  DrawV fun D1 =>
  ((0 : Int) ≤ (80 : Int) ∧ (80 : Int) ≤ ((n0 : Nat) : Int)) ∧
  SubK a0 80 c0 1 fun a2 =>
  CallV Tryz.prog 122 #[.int .u8 0, .int .i64 8] w.drew [.one .sl] fun (r3 : SlV × Unit) w4 =>
  KeepOn D1 w.drew w4 ∧
  CallV Tryz.prog 25 #[.slice a2 (n0 - 80) (c0 - 80), .slice r3.1.a r3.1.n r3.1.c] w4 [.one .bool] fun (r5 : Bool × Unit) w6 =>
  KeepOn D1 w.drew w6 ∧
  K (r5.1, ()) w6
theorem ref14_Committed.vc (a0 : Option Addr) (n0 c0 : Nat) (w : World) (K : Bool × Unit → World → Prop) (h : ref14_Committed.P a0 n0 c0 w K) : CallV Tryz.prog 113 #[.slice a0 n0 c0] w [.one .bool] K := by
  refine vcFun.of (A := ref14_Committed.A) (wr := false) okf_ok follows h Tryz.func113 ?_
  kernel_rfl
def ref14_Read.A : Ann := .two .no (.two (.draw (.take 0 (.take 1 (.take 2 (.take 3 (.take 4 (.take 5 (.take 6 (.take 7 (.take 8 (.take 9 (.take 10 (.take 11 (.take 12 (.take 13 (.take 16 (.take 17 (.take 19 (.take 20 (.both 14 (.take 15 (.both 18 (.both 21 (.take 22 (.eff 23 (.eff 24 (.done)))) 23 (.eff 21 (.take 22 (.eff 24 (.done))))) 23 (.eff 18 (.eff 21 (.take 22 (.eff 24 (.done))))))) 23 (.eff 14 (.take 15 (.eff 18 (.eff 21 (.take 22 (.eff 24 (.done))))))))))))))))))))))))))) (.two .no (.two (.two (.draw (.take 0 (.take 2 (.take 6 (.take 7 (.eff 1 (.eff 3 (.eff 4 (.eff 5 (.eff 8 (.take 9 (.done)))))))))))) .no) .no)))
def ref14_Read.P (a0 : Option Addr) (n0 c0 : Nat) (w : World) (K : (Int × Int × Int × Int × Int × Int × Unit) × Bool × Unit → World → Prop) : Prop :=
  NewV #[.int .i64 0, .int .i64 0, .int .i64 0, .int .u32 0, .int .u64 0, .int .u64 0] 46 w fun b1 w2 =>
  DrawV fun D3 =>
  (0 ≤ (0 : Int) ∧ 0 < ((n0 : Nat) : Int)) ∧ ∃ q4 : Addr, a0 = some q4 ∧
  (D3 (q4.add (0 * 1)).block ∧ LoadS w2.drew (q4.add (0 * 1)) (.int .u8) fun (x5 : Int) =>
  (0 ≤ (1 : Int) ∧ 1 < ((n0 : Nat) : Int)) ∧ ∃ q6 : Addr, a0 = some q6 ∧
  (D3 (q6.add (1 * 1)).block ∧ LoadS w2.drew (q6.add (1 * 1)) (.int .u8) fun (x7 : Int) =>
  (0 ≤ (2 : Int) ∧ 2 < ((n0 : Nat) : Int)) ∧ ∃ q8 : Addr, a0 = some q8 ∧
  (D3 (q8.add (2 * 1)).block ∧ LoadS w2.drew (q8.add (2 * 1)) (.int .u8) fun (x9 : Int) =>
  ((0 : Int) ≤ (4 : Int) ∧ (4 : Int) ≤ (8 : Int) ∧ (8 : Int) ≤ ((c0 : Nat) : Int)) ∧
  SubK a0 4 c0 1 fun a10 =>
  ((0 : Int) ≤ (8 : Int) ∧ (8 : Int) ≤ (16 : Int) ∧ (16 : Int) ≤ ((c0 : Nat) : Int)) ∧
  SubK a0 8 c0 1 fun a11 =>
  ((0 : Int) ≤ (16 : Int) ∧ (16 : Int) ≤ (24 : Int) ∧ (24 : Int) ≤ ((c0 : Nat) : Int)) ∧
  SubK a0 16 c0 1 fun a12 =>
  ((CallV Tryz.prog 159 #[.slice a10 (8 - 4) (c0 - 4)] w2.drew [.one (.int .u64)] fun (r13 : Int × Unit) w14 =>
  KeepOn D3 w2.drew w14 ∧
  ((CallV Tryz.prog 159 #[.slice a11 (16 - 8) (c0 - 8)] w14 [.one (.int .u64)] fun (r15 : Int × Unit) w16 =>
  KeepOn D3 w2.drew w16 ∧
  ((CallV Tryz.prog 159 #[.slice a12 (24 - 16) (c0 - 16)] w16 [.one (.int .u64)] fun (r17 : Int × Unit) w18 =>
  KeepOn D3 w2.drew w18 ∧
  NewV #[.int .i64 0, .int .i64 0, .int .i64 0, .int .u32 0, .int .u64 0, .int .u64 0] 46 w18 fun b19 w20 =>
  KeepOn D3 w2.drew w20 ∧
  StoreV w20 ⟨b19, 0, none⟩ [.int .i64 (IntKind.i64.wrap x5), .int .i64 (IntKind.i64.wrap x7), .int .i64 (IntKind.i64.wrap x9), .int .u32 (IntKind.u32.wrap r13.1), .int .u64 r15.1, .int .u64 r17.1] fun w21 =>
  KeepOn D3 w2.drew w21 ∧
  LoadA w21 ⟨b19, 0, none⟩ [.int .i64, .int .i64, .int .i64, .int .u32, .int .u64, .int .u64] fun (x22 : Int × Int × Int × Int × Int × Int × Unit) =>
  CallV Tryz.prog 86 #[.agg #[.int .i64 x22.1, .int .i64 x22.2.1, .int .i64 x22.2.2.1, .int .u32 x22.2.2.2.1, .int .u64 x22.2.2.2.2.1, .int .u64 x22.2.2.2.2.2.1]] w21 [.one .bool] fun (r23 : Bool × Unit) w24 =>
  cond (!r23.1)
  (StoreV w24 ⟨b1, 0, none⟩ [.int .i64 0, .int .i64 0, .int .i64 0, .int .u32 0, .int .u64 0, .int .u64 0] fun w25 =>
  LoadA w25 ⟨b1, 0, none⟩ [.int .i64, .int .i64, .int .i64, .int .u32, .int .u64, .int .u64] fun (x26 : Int × Int × Int × Int × Int × Int × Unit) =>
  K ((x26.1, x26.2.1, x26.2.2.1, x26.2.2.2.1, x26.2.2.2.2.1, x26.2.2.2.2.2.1, ()), false, ()) w25)
  (DrawV fun D27 =>
  (D27 b19 ∧ LoadA w24.drew ⟨b19, 0, none⟩ [.int .i64, .int .i64, .int .i64, .int .u32, .int .u64, .int .u64] fun (x28 : Int × Int × Int × Int × Int × Int × Unit) =>
  (D27 b19 ∧ LoadA w24.drew ⟨b19, 0, none⟩ [.int .i64, .int .i64, .int .i64, .int .u32, .int .u64, .int .u64] fun (x29 : Int × Int × Int × Int × Int × Int × Unit) =>
  ((0 : Int) ≤ (48 : Int) ∧ (48 : Int) ≤ ((c0 : Nat) : Int)) ∧
  SubK a0 0 c0 1 fun a30 =>
  CallV Tryz.prog 160 #[.agg #[.int .i64 x28.1, .int .i64 x28.2.1, .int .i64 x28.2.2.1, .int .u32 x28.2.2.2.1, .int .u64 x28.2.2.2.2.1, .int .u64 x28.2.2.2.2.2.1]] w24.drew [.one .sl] fun (r31 : SlV × Unit) w32 =>
  KeepOn D27 w24.drew w32 ∧
  CallV Tryz.prog 160 #[.agg #[.int .i64 x29.1, .int .i64 x29.2.1, .int .i64 x29.2.2.1, .int .u32 x29.2.2.2.1, .int .u64 x29.2.2.2.2.1, .int .u64 x29.2.2.2.2.2.1]] w32 [.one .sl] fun (r33 : SlV × Unit) w34 =>
  KeepOn D27 w24.drew w34 ∧
  CallV Tryz.prog 161 #[.slice r33.1.a r33.1.n r33.1.c] w34 [.one .sl] fun (r35 : SlV × Unit) w36 =>
  KeepOn D27 w24.drew w36 ∧
  AppS w36 r35.1.a r35.1.n 1 fun ns41 =>
  AppV w36 5 1 1 r31.1.a r31.1.n r31.1.c ns41 r35.1.n fun a37 n38 c39 w40 =>
  KeepOn D27 w24.drew w40 ∧
  CallV Tryz.prog 25 #[.slice a37 n38 c39, .slice a30 (48 - 0) (c0 - 0)] w40 [.one .bool] fun (r42 : Bool × Unit) w43 =>
  KeepOn D27 w24.drew w43 ∧
  cond (!r42.1)
  (StoreV w43 ⟨b1, 0, none⟩ [.int .i64 0, .int .i64 0, .int .i64 0, .int .u32 0, .int .u64 0, .int .u64 0] fun w44 =>
  LoadA w44 ⟨b1, 0, none⟩ [.int .i64, .int .i64, .int .i64, .int .u32, .int .u64, .int .u64] fun (x45 : Int × Int × Int × Int × Int × Int × Unit) =>
  K ((x45.1, x45.2.1, x45.2.2.1, x45.2.2.2.1, x45.2.2.2.2.1, x45.2.2.2.2.2.1, ()), false, ()) w44)
  (LoadA w43 ⟨b19, 0, none⟩ [.int .i64, .int .i64, .int .i64, .int .u32, .int .u64, .int .u64] fun (x46 : Int × Int × Int × Int × Int × Int × Unit) =>
  StoreV w43 ⟨b1, 0, none⟩ [.int .i64 x46.1, .int .i64 x46.2.1, .int .i64 x46.2.2.1, .int .u32 x46.2.2.2.1, .int .u64 x46.2.2.2.2.1, .int .u64 x46.2.2.2.2.2.1] fun w47 =>
  LoadA w47 ⟨b1, 0, none⟩ [.int .i64, .int .i64, .int .i64, .int .u32, .int .u64, .int .u64] fun (x48 : Int × Int × Int × Int × Int × Int × Unit) =>
  K ((x48.1, x48.2.1, x48.2.2.1, x48.2.2.2.1, x48.2.2.2.2.1, x48.2.2.2.2.2.1, ()), true, ()) w47))))) ∧
  (NewV #[.int .i64 0, .int .i64 0, .int .i64 0, .int .u32 0, .int .u64 0, .int .u64 0] 46 w16 fun b49 w50 =>
  KeepOn D3 w2.drew w50 ∧
  CallV Tryz.prog 159 #[.slice a12 (24 - 16) (c0 - 16)] w50 [.one (.int .u64)] fun (r51 : Int × Unit) w52 =>
  KeepOn D3 w2.drew w52 ∧
  StoreV w52 ⟨b49, 0, none⟩ [.int .i64 (IntKind.i64.wrap x5), .int .i64 (IntKind.i64.wrap x7), .int .i64 (IntKind.i64.wrap x9), .int .u32 (IntKind.u32.wrap r13.1), .int .u64 r15.1, .int .u64 r51.1] fun w53 =>
  KeepOn D3 w2.drew w53 ∧
  LoadA w53 ⟨b49, 0, none⟩ [.int .i64, .int .i64, .int .i64, .int .u32, .int .u64, .int .u64] fun (x54 : Int × Int × Int × Int × Int × Int × Unit) =>
  CallV Tryz.prog 86 #[.agg #[.int .i64 x54.1, .int .i64 x54.2.1, .int .i64 x54.2.2.1, .int .u32 x54.2.2.2.1, .int .u64 x54.2.2.2.2.1, .int .u64 x54.2.2.2.2.2.1]] w53 [.one .bool] fun (r55 : Bool × Unit) w56 =>
  cond (!r55.1)
  (StoreV w56 ⟨b1, 0, none⟩ [.int .i64 0, .int .i64 0, .int .i64 0, .int .u32 0, .int .u64 0, .int .u64 0] fun w57 =>
  LoadA w57 ⟨b1, 0, none⟩ [.int .i64, .int .i64, .int .i64, .int .u32, .int .u64, .int .u64] fun (x58 : Int × Int × Int × Int × Int × Int × Unit) =>
  K ((x58.1, x58.2.1, x58.2.2.1, x58.2.2.2.1, x58.2.2.2.2.1, x58.2.2.2.2.2.1, ()), false, ()) w57)
  (DrawV fun D59 =>
  (D59 b49 ∧ LoadA w56.drew ⟨b49, 0, none⟩ [.int .i64, .int .i64, .int .i64, .int .u32, .int .u64, .int .u64] fun (x60 : Int × Int × Int × Int × Int × Int × Unit) =>
  (D59 b49 ∧ LoadA w56.drew ⟨b49, 0, none⟩ [.int .i64, .int .i64, .int .i64, .int .u32, .int .u64, .int .u64] fun (x61 : Int × Int × Int × Int × Int × Int × Unit) =>
  ((0 : Int) ≤ (48 : Int) ∧ (48 : Int) ≤ ((c0 : Nat) : Int)) ∧
  SubK a0 0 c0 1 fun a62 =>
  CallV Tryz.prog 160 #[.agg #[.int .i64 x60.1, .int .i64 x60.2.1, .int .i64 x60.2.2.1, .int .u32 x60.2.2.2.1, .int .u64 x60.2.2.2.2.1, .int .u64 x60.2.2.2.2.2.1]] w56.drew [.one .sl] fun (r63 : SlV × Unit) w64 =>
  KeepOn D59 w56.drew w64 ∧
  CallV Tryz.prog 160 #[.agg #[.int .i64 x61.1, .int .i64 x61.2.1, .int .i64 x61.2.2.1, .int .u32 x61.2.2.2.1, .int .u64 x61.2.2.2.2.1, .int .u64 x61.2.2.2.2.2.1]] w64 [.one .sl] fun (r65 : SlV × Unit) w66 =>
  KeepOn D59 w56.drew w66 ∧
  CallV Tryz.prog 161 #[.slice r65.1.a r65.1.n r65.1.c] w66 [.one .sl] fun (r67 : SlV × Unit) w68 =>
  KeepOn D59 w56.drew w68 ∧
  AppS w68 r67.1.a r67.1.n 1 fun ns73 =>
  AppV w68 5 1 1 r63.1.a r63.1.n r63.1.c ns73 r67.1.n fun a69 n70 c71 w72 =>
  KeepOn D59 w56.drew w72 ∧
  CallV Tryz.prog 25 #[.slice a69 n70 c71, .slice a62 (48 - 0) (c0 - 0)] w72 [.one .bool] fun (r74 : Bool × Unit) w75 =>
  KeepOn D59 w56.drew w75 ∧
  cond (!r74.1)
  (StoreV w75 ⟨b1, 0, none⟩ [.int .i64 0, .int .i64 0, .int .i64 0, .int .u32 0, .int .u64 0, .int .u64 0] fun w76 =>
  LoadA w76 ⟨b1, 0, none⟩ [.int .i64, .int .i64, .int .i64, .int .u32, .int .u64, .int .u64] fun (x77 : Int × Int × Int × Int × Int × Int × Unit) =>
  K ((x77.1, x77.2.1, x77.2.2.1, x77.2.2.2.1, x77.2.2.2.2.1, x77.2.2.2.2.2.1, ()), false, ()) w76)
  (LoadA w75 ⟨b49, 0, none⟩ [.int .i64, .int .i64, .int .i64, .int .u32, .int .u64, .int .u64] fun (x78 : Int × Int × Int × Int × Int × Int × Unit) =>
  StoreV w75 ⟨b1, 0, none⟩ [.int .i64 x78.1, .int .i64 x78.2.1, .int .i64 x78.2.2.1, .int .u32 x78.2.2.2.1, .int .u64 x78.2.2.2.2.1, .int .u64 x78.2.2.2.2.2.1] fun w79 =>
  LoadA w79 ⟨b1, 0, none⟩ [.int .i64, .int .i64, .int .i64, .int .u32, .int .u64, .int .u64] fun (x80 : Int × Int × Int × Int × Int × Int × Unit) =>
  K ((x80.1, x80.2.1, x80.2.2.1, x80.2.2.2.1, x80.2.2.2.2.1, x80.2.2.2.2.2.1, ()), true, ()) w79))))))) ∧
  (NewV #[.int .i64 0, .int .i64 0, .int .i64 0, .int .u32 0, .int .u64 0, .int .u64 0] 46 w14 fun b81 w82 =>
  KeepOn D3 w2.drew w82 ∧
  CallV Tryz.prog 159 #[.slice a11 (16 - 8) (c0 - 8)] w82 [.one (.int .u64)] fun (r83 : Int × Unit) w84 =>
  KeepOn D3 w2.drew w84 ∧
  CallV Tryz.prog 159 #[.slice a12 (24 - 16) (c0 - 16)] w84 [.one (.int .u64)] fun (r85 : Int × Unit) w86 =>
  KeepOn D3 w2.drew w86 ∧
  StoreV w86 ⟨b81, 0, none⟩ [.int .i64 (IntKind.i64.wrap x5), .int .i64 (IntKind.i64.wrap x7), .int .i64 (IntKind.i64.wrap x9), .int .u32 (IntKind.u32.wrap r13.1), .int .u64 r83.1, .int .u64 r85.1] fun w87 =>
  KeepOn D3 w2.drew w87 ∧
  LoadA w87 ⟨b81, 0, none⟩ [.int .i64, .int .i64, .int .i64, .int .u32, .int .u64, .int .u64] fun (x88 : Int × Int × Int × Int × Int × Int × Unit) =>
  CallV Tryz.prog 86 #[.agg #[.int .i64 x88.1, .int .i64 x88.2.1, .int .i64 x88.2.2.1, .int .u32 x88.2.2.2.1, .int .u64 x88.2.2.2.2.1, .int .u64 x88.2.2.2.2.2.1]] w87 [.one .bool] fun (r89 : Bool × Unit) w90 =>
  cond (!r89.1)
  (StoreV w90 ⟨b1, 0, none⟩ [.int .i64 0, .int .i64 0, .int .i64 0, .int .u32 0, .int .u64 0, .int .u64 0] fun w91 =>
  LoadA w91 ⟨b1, 0, none⟩ [.int .i64, .int .i64, .int .i64, .int .u32, .int .u64, .int .u64] fun (x92 : Int × Int × Int × Int × Int × Int × Unit) =>
  K ((x92.1, x92.2.1, x92.2.2.1, x92.2.2.2.1, x92.2.2.2.2.1, x92.2.2.2.2.2.1, ()), false, ()) w91)
  (DrawV fun D93 =>
  (D93 b81 ∧ LoadA w90.drew ⟨b81, 0, none⟩ [.int .i64, .int .i64, .int .i64, .int .u32, .int .u64, .int .u64] fun (x94 : Int × Int × Int × Int × Int × Int × Unit) =>
  (D93 b81 ∧ LoadA w90.drew ⟨b81, 0, none⟩ [.int .i64, .int .i64, .int .i64, .int .u32, .int .u64, .int .u64] fun (x95 : Int × Int × Int × Int × Int × Int × Unit) =>
  ((0 : Int) ≤ (48 : Int) ∧ (48 : Int) ≤ ((c0 : Nat) : Int)) ∧
  SubK a0 0 c0 1 fun a96 =>
  CallV Tryz.prog 160 #[.agg #[.int .i64 x94.1, .int .i64 x94.2.1, .int .i64 x94.2.2.1, .int .u32 x94.2.2.2.1, .int .u64 x94.2.2.2.2.1, .int .u64 x94.2.2.2.2.2.1]] w90.drew [.one .sl] fun (r97 : SlV × Unit) w98 =>
  KeepOn D93 w90.drew w98 ∧
  CallV Tryz.prog 160 #[.agg #[.int .i64 x95.1, .int .i64 x95.2.1, .int .i64 x95.2.2.1, .int .u32 x95.2.2.2.1, .int .u64 x95.2.2.2.2.1, .int .u64 x95.2.2.2.2.2.1]] w98 [.one .sl] fun (r99 : SlV × Unit) w100 =>
  KeepOn D93 w90.drew w100 ∧
  CallV Tryz.prog 161 #[.slice r99.1.a r99.1.n r99.1.c] w100 [.one .sl] fun (r101 : SlV × Unit) w102 =>
  KeepOn D93 w90.drew w102 ∧
  AppS w102 r101.1.a r101.1.n 1 fun ns107 =>
  AppV w102 5 1 1 r97.1.a r97.1.n r97.1.c ns107 r101.1.n fun a103 n104 c105 w106 =>
  KeepOn D93 w90.drew w106 ∧
  CallV Tryz.prog 25 #[.slice a103 n104 c105, .slice a96 (48 - 0) (c0 - 0)] w106 [.one .bool] fun (r108 : Bool × Unit) w109 =>
  KeepOn D93 w90.drew w109 ∧
  cond (!r108.1)
  (StoreV w109 ⟨b1, 0, none⟩ [.int .i64 0, .int .i64 0, .int .i64 0, .int .u32 0, .int .u64 0, .int .u64 0] fun w110 =>
  LoadA w110 ⟨b1, 0, none⟩ [.int .i64, .int .i64, .int .i64, .int .u32, .int .u64, .int .u64] fun (x111 : Int × Int × Int × Int × Int × Int × Unit) =>
  K ((x111.1, x111.2.1, x111.2.2.1, x111.2.2.2.1, x111.2.2.2.2.1, x111.2.2.2.2.2.1, ()), false, ()) w110)
  (LoadA w109 ⟨b81, 0, none⟩ [.int .i64, .int .i64, .int .i64, .int .u32, .int .u64, .int .u64] fun (x112 : Int × Int × Int × Int × Int × Int × Unit) =>
  StoreV w109 ⟨b1, 0, none⟩ [.int .i64 x112.1, .int .i64 x112.2.1, .int .i64 x112.2.2.1, .int .u32 x112.2.2.2.1, .int .u64 x112.2.2.2.2.1, .int .u64 x112.2.2.2.2.2.1] fun w113 =>
  LoadA w113 ⟨b1, 0, none⟩ [.int .i64, .int .i64, .int .i64, .int .u32, .int .u64, .int .u64] fun (x114 : Int × Int × Int × Int × Int × Int × Unit) =>
  K ((x114.1, x114.2.1, x114.2.2.1, x114.2.2.2.1, x114.2.2.2.2.1, x114.2.2.2.2.2.1, ()), true, ()) w113))))))) ∧
  (NewV #[.int .i64 0, .int .i64 0, .int .i64 0, .int .u32 0, .int .u64 0, .int .u64 0] 46 w2.drew fun b115 w116 =>
  KeepOn D3 w2.drew w116 ∧
  CallV Tryz.prog 159 #[.slice a10 (8 - 4) (c0 - 4)] w116 [.one (.int .u64)] fun (r117 : Int × Unit) w118 =>
  KeepOn D3 w2.drew w118 ∧
  CallV Tryz.prog 159 #[.slice a11 (16 - 8) (c0 - 8)] w118 [.one (.int .u64)] fun (r119 : Int × Unit) w120 =>
  KeepOn D3 w2.drew w120 ∧
  CallV Tryz.prog 159 #[.slice a12 (24 - 16) (c0 - 16)] w120 [.one (.int .u64)] fun (r121 : Int × Unit) w122 =>
  KeepOn D3 w2.drew w122 ∧
  StoreV w122 ⟨b115, 0, none⟩ [.int .i64 (IntKind.i64.wrap x5), .int .i64 (IntKind.i64.wrap x7), .int .i64 (IntKind.i64.wrap x9), .int .u32 (IntKind.u32.wrap r117.1), .int .u64 r119.1, .int .u64 r121.1] fun w123 =>
  KeepOn D3 w2.drew w123 ∧
  LoadA w123 ⟨b115, 0, none⟩ [.int .i64, .int .i64, .int .i64, .int .u32, .int .u64, .int .u64] fun (x124 : Int × Int × Int × Int × Int × Int × Unit) =>
  CallV Tryz.prog 86 #[.agg #[.int .i64 x124.1, .int .i64 x124.2.1, .int .i64 x124.2.2.1, .int .u32 x124.2.2.2.1, .int .u64 x124.2.2.2.2.1, .int .u64 x124.2.2.2.2.2.1]] w123 [.one .bool] fun (r125 : Bool × Unit) w126 =>
  cond (!r125.1)
  (StoreV w126 ⟨b1, 0, none⟩ [.int .i64 0, .int .i64 0, .int .i64 0, .int .u32 0, .int .u64 0, .int .u64 0] fun w127 =>
  LoadA w127 ⟨b1, 0, none⟩ [.int .i64, .int .i64, .int .i64, .int .u32, .int .u64, .int .u64] fun (x128 : Int × Int × Int × Int × Int × Int × Unit) =>
  K ((x128.1, x128.2.1, x128.2.2.1, x128.2.2.2.1, x128.2.2.2.2.1, x128.2.2.2.2.2.1, ()), false, ()) w127)
  (DrawV fun D129 =>
  (D129 b115 ∧ LoadA w126.drew ⟨b115, 0, none⟩ [.int .i64, .int .i64, .int .i64, .int .u32, .int .u64, .int .u64] fun (x130 : Int × Int × Int × Int × Int × Int × Unit) =>
  (D129 b115 ∧ LoadA w126.drew ⟨b115, 0, none⟩ [.int .i64, .int .i64, .int .i64, .int .u32, .int .u64, .int .u64] fun (x131 : Int × Int × Int × Int × Int × Int × Unit) =>
  ((0 : Int) ≤ (48 : Int) ∧ (48 : Int) ≤ ((c0 : Nat) : Int)) ∧
  SubK a0 0 c0 1 fun a132 =>
  CallV Tryz.prog 160 #[.agg #[.int .i64 x130.1, .int .i64 x130.2.1, .int .i64 x130.2.2.1, .int .u32 x130.2.2.2.1, .int .u64 x130.2.2.2.2.1, .int .u64 x130.2.2.2.2.2.1]] w126.drew [.one .sl] fun (r133 : SlV × Unit) w134 =>
  KeepOn D129 w126.drew w134 ∧
  CallV Tryz.prog 160 #[.agg #[.int .i64 x131.1, .int .i64 x131.2.1, .int .i64 x131.2.2.1, .int .u32 x131.2.2.2.1, .int .u64 x131.2.2.2.2.1, .int .u64 x131.2.2.2.2.2.1]] w134 [.one .sl] fun (r135 : SlV × Unit) w136 =>
  KeepOn D129 w126.drew w136 ∧
  CallV Tryz.prog 161 #[.slice r135.1.a r135.1.n r135.1.c] w136 [.one .sl] fun (r137 : SlV × Unit) w138 =>
  KeepOn D129 w126.drew w138 ∧
  AppS w138 r137.1.a r137.1.n 1 fun ns143 =>
  AppV w138 5 1 1 r133.1.a r133.1.n r133.1.c ns143 r137.1.n fun a139 n140 c141 w142 =>
  KeepOn D129 w126.drew w142 ∧
  CallV Tryz.prog 25 #[.slice a139 n140 c141, .slice a132 (48 - 0) (c0 - 0)] w142 [.one .bool] fun (r144 : Bool × Unit) w145 =>
  KeepOn D129 w126.drew w145 ∧
  cond (!r144.1)
  (StoreV w145 ⟨b1, 0, none⟩ [.int .i64 0, .int .i64 0, .int .i64 0, .int .u32 0, .int .u64 0, .int .u64 0] fun w146 =>
  LoadA w146 ⟨b1, 0, none⟩ [.int .i64, .int .i64, .int .i64, .int .u32, .int .u64, .int .u64] fun (x147 : Int × Int × Int × Int × Int × Int × Unit) =>
  K ((x147.1, x147.2.1, x147.2.2.1, x147.2.2.2.1, x147.2.2.2.2.1, x147.2.2.2.2.2.1, ()), false, ()) w146)
  (LoadA w145 ⟨b115, 0, none⟩ [.int .i64, .int .i64, .int .i64, .int .u32, .int .u64, .int .u64] fun (x148 : Int × Int × Int × Int × Int × Int × Unit) =>
  StoreV w145 ⟨b1, 0, none⟩ [.int .i64 x148.1, .int .i64 x148.2.1, .int .i64 x148.2.2.1, .int .u32 x148.2.2.2.1, .int .u64 x148.2.2.2.2.1, .int .u64 x148.2.2.2.2.2.1] fun w149 =>
  LoadA w149 ⟨b1, 0, none⟩ [.int .i64, .int .i64, .int .i64, .int .u32, .int .u64, .int .u64] fun (x150 : Int × Int × Int × Int × Int × Int × Unit) =>
  K ((x150.1, x150.2.1, x150.2.2.1, x150.2.2.2.1, x150.2.2.2.2.1, x150.2.2.2.2.2.1, ()), true, ()) w149)))))))))
theorem ref14_Read.vc (a0 : Option Addr) (n0 c0 : Nat) (w : World) (K : (Int × Int × Int × Int × Int × Int × Unit) × Bool × Unit → World → Prop) (h : ref14_Read.P a0 n0 c0 w K) : CallV Tryz.prog 112 #[.slice a0 n0 c0] w [.agg [.int .i64, .int .i64, .int .i64, .int .u32, .int .u64, .int .u64], .one .bool] K := by
  refine vcFun.of (A := ref14_Read.A) (wr := false) okf_ok follows h Tryz.func112 ?_
  kernel_rfl
def head_End.A : Ann := .no
def head_End.P (p0_0 p0_1 p0_2 p0_3 p0_4 p0_5 : Int) (a1 : Option Addr) (n1 c1 : Nat) (w : World) (K : SlV × Int × Unit → World → Prop) : Prop :=
  NewV #[.int .i64 p0_0, .int .i64 p0_1, .int .i64 p0_2, .int .u32 p0_3, .int .u64 p0_4, .int .u64 p0_5] 46 w fun b1 w2 =>
  LoadA w2 ⟨b1, 0, none⟩ [.int .i64, .int .i64, .int .i64, .int .u32, .int .u64, .int .u64] fun (x3 : Int × Int × Int × Int × Int × Int × Unit) =>
  CallV Tryz.prog 178 #[.agg #[.int .i64 x3.1, .int .i64 x3.2.1, .int .i64 x3.2.2.1, .int .u32 x3.2.2.2.1, .int .u64 x3.2.2.2.2.1, .int .u64 x3.2.2.2.2.2.1]] w2 [.one .sl, .one (.int .i64)] fun (r4 : SlV × Int × Unit) w5 =>
  cond (r4.2.1 != 0)
  (K ((⟨none, 0, 0⟩ : SlV), r4.2.1, ()) w5)
  (cond (((n1 : Nat) : Int) == 0)
  (CallV Tryz.prog 126 #[.int .u8 255, .int .i64 32] w5 [.one .sl] fun (r6 : SlV × Unit) w7 =>
  cond (((r6.1.n : Nat) : Int) != 32)
  (K ((⟨none, 0, 0⟩ : SlV), (2 : Int), ()) w7)
  (CallV Tryz.prog 151 #[.slice r4.1.a r4.1.n r4.1.c] w7 [.one .sl] fun (r8 : SlV × Unit) w9 =>
  AppS w9 r8.1.a r8.1.n 1 fun ns14 =>
  AppV w9 5 1 1 r4.1.a r4.1.n r4.1.c ns14 r8.1.n fun a10 n11 c12 w13 =>
  AppS w13 r6.1.a r6.1.n 1 fun ns19 =>
  AppV w13 5 1 1 a10 n11 c12 ns19 r6.1.n fun a15 n16 c17 w18 =>
  CallV Tryz.prog 126 #[.int .u8 255, .int .i64 8] w18 [.one .sl] fun (r20 : SlV × Unit) w21 =>
  AppS w21 r20.1.a r20.1.n 1 fun ns26 =>
  AppV w21 5 1 1 a15 n16 c17 ns26 r20.1.n fun a22 n23 c24 w25 =>
  K ((⟨a22, n23, c24⟩ : SlV), (0 : Int), ()) w25))
  (cond (((n1 : Nat) : Int) != 32)
  (K ((⟨none, 0, 0⟩ : SlV), (2 : Int), ()) w5)
  (CallV Tryz.prog 151 #[.slice r4.1.a r4.1.n r4.1.c] w5 [.one .sl] fun (r27 : SlV × Unit) w28 =>
  AppS w28 r27.1.a r27.1.n 1 fun ns33 =>
  AppV w28 5 1 1 r4.1.a r4.1.n r4.1.c ns33 r27.1.n fun a29 n30 c31 w32 =>
  AppS w32 a1 n1 1 fun ns38 =>
  AppV w32 5 1 1 a29 n30 c31 ns38 n1 fun a34 n35 c36 w37 =>
  CallV Tryz.prog 126 #[.int .u8 255, .int .i64 8] w37 [.one .sl] fun (r39 : SlV × Unit) w40 =>
  AppS w40 r39.1.a r39.1.n 1 fun ns45 =>
  AppV w40 5 1 1 a34 n35 c36 ns45 r39.1.n fun a41 n42 c43 w44 =>
  K ((⟨a41, n42, c43⟩ : SlV), (0 : Int), ()) w44)))
theorem head_End.vc (p0_0 p0_1 p0_2 p0_3 p0_4 p0_5 : Int) (a1 : Option Addr) (n1 c1 : Nat) (w : World) (K : SlV × Int × Unit → World → Prop) (h : head_End.P p0_0 p0_1 p0_2 p0_3 p0_4 p0_5 a1 n1 c1 w K) : CallV Tryz.prog 163 #[.agg #[.int .i64 p0_0, .int .i64 p0_1, .int .i64 p0_2, .int .u32 p0_3, .int .u64 p0_4, .int .u64 p0_5], .slice a1 n1 c1] w [.one .sl, .one (.int .i64)] K := by
  refine vcFun.of (A := head_End.A) (wr := false) okf_ok follows h Tryz.func163 ?_
  kernel_rfl
def ref14_End.A : Ann := .two .no (.two (.draw (.take 0 (.take 2 (.eff 1 (.eff 3 (.eff 4 (.eff 5 (.take 6 (.done))))))))) .no)
def ref14_End.P (p0_0 p0_1 p0_2 p0_3 p0_4 p0_5 : Int) (a1 : Option Addr) (n1 c1 : Nat) (w : World) (K : SlV × Unit → World → Prop) : Prop :=
  NewV #[.int .i64 p0_0, .int .i64 p0_1, .int .i64 p0_2, .int .u32 p0_3, .int .u64 p0_4, .int .u64 p0_5] 46 w fun b1 w2 =>
  DrawV fun D3 =>
  (D3 b1 ∧ LoadA w2.drew ⟨b1, 0, none⟩ [.int .i64, .int .i64, .int .i64, .int .u32, .int .u64, .int .u64] fun (x4 : Int × Int × Int × Int × Int × Int × Unit) =>
  (D3 b1 ∧ LoadA w2.drew ⟨b1, 0, none⟩ [.int .i64, .int .i64, .int .i64, .int .u32, .int .u64, .int .u64] fun (x5 : Int × Int × Int × Int × Int × Int × Unit) =>
  CallV Tryz.prog 160 #[.agg #[.int .i64 x4.1, .int .i64 x4.2.1, .int .i64 x4.2.2.1, .int .u32 x4.2.2.2.1, .int .u64 x4.2.2.2.2.1, .int .u64 x4.2.2.2.2.2.1]] w2.drew [.one .sl] fun (r6 : SlV × Unit) w7 =>
  KeepOn D3 w2.drew w7 ∧
  CallV Tryz.prog 160 #[.agg #[.int .i64 x5.1, .int .i64 x5.2.1, .int .i64 x5.2.2.1, .int .u32 x5.2.2.2.1, .int .u64 x5.2.2.2.2.1, .int .u64 x5.2.2.2.2.2.1]] w7 [.one .sl] fun (r8 : SlV × Unit) w9 =>
  KeepOn D3 w2.drew w9 ∧
  CallV Tryz.prog 161 #[.slice r8.1.a r8.1.n r8.1.c] w9 [.one .sl] fun (r10 : SlV × Unit) w11 =>
  KeepOn D3 w2.drew w11 ∧
  AppS w11 r10.1.a r10.1.n 1 fun ns16 =>
  AppV w11 5 1 1 r6.1.a r6.1.n r6.1.c ns16 r10.1.n fun a12 n13 c14 w15 =>
  KeepOn D3 w2.drew w15 ∧
  cond (((n1 : Nat) : Int) == 0)
  (CallV Tryz.prog 122 #[.int .u8 255, .int .i64 32] w15 [.one .sl] fun (r17 : SlV × Unit) w18 =>
  AppS w18 r17.1.a r17.1.n 1 fun ns23 =>
  AppV w18 5 1 1 a12 n13 c14 ns23 r17.1.n fun a19 n20 c21 w22 =>
  CallV Tryz.prog 122 #[.int .u8 255, .int .i64 8] w22 [.one .sl] fun (r24 : SlV × Unit) w25 =>
  AppS w25 r24.1.a r24.1.n 1 fun ns30 =>
  AppV w25 5 1 1 a19 n20 c21 ns30 r24.1.n fun a26 n27 c28 w29 =>
  K ((⟨a26, n27, c28⟩ : SlV), ()) w29)
  (AppS w15 a1 n1 1 fun ns35 =>
  AppV w15 5 1 1 a12 n13 c14 ns35 n1 fun a31 n32 c33 w34 =>
  CallV Tryz.prog 122 #[.int .u8 255, .int .i64 8] w34 [.one .sl] fun (r36 : SlV × Unit) w37 =>
  AppS w37 r36.1.a r36.1.n 1 fun ns42 =>
  AppV w37 5 1 1 a31 n32 c33 ns42 r36.1.n fun a38 n39 c40 w41 =>
  K ((⟨a38, n39, c40⟩ : SlV), ()) w41)))
theorem ref14_End.vc (p0_0 p0_1 p0_2 p0_3 p0_4 p0_5 : Int) (a1 : Option Addr) (n1 c1 : Nat) (w : World) (K : SlV × Unit → World → Prop) (h : ref14_End.P p0_0 p0_1 p0_2 p0_3 p0_4 p0_5 a1 n1 c1 w K) : CallV Tryz.prog 140 #[.agg #[.int .i64 p0_0, .int .i64 p0_1, .int .i64 p0_2, .int .u32 p0_3, .int .u64 p0_4, .int .u64 p0_5], .slice a1 n1 c1] w [.one .sl] K := by
  refine vcFun.of (A := ref14_End.A) (wr := false) okf_ok follows h Tryz.func140 ?_
  kernel_rfl
end Go.Proofs.YtlpeoaphdmfjdaaGreat.Vc
/-! The contracts of layer 14 (head): a head's bytes. -/
namespace Go.Proofs.YtlpeoaphdmfjdaaGreat.Vc
open Go Go.Eng Go.RowKit
theorem appL {w : World} {a a2 : Option Addr} {n c m c2 : Nat} {xs ys : List Int} {B : Nat} {K : Option Addr → Nat → Nat → World → Prop} (ho : Own w B 5 1 a n c (xs.map (Value.int .u8))) (hy : Ints w .u8 a2 m c2 ys) (hB : B ≤ w.heap.size) (hn : n + m ≤ 100000000)
    (hk : ∀ a' c' w', Own w' B 5 1 a' (n + m) c' ((xs ++ ys).map (Value.int .u8)) → Below B w w' → K a' (n + m) c' w') :
    AppS w a2 m 1 fun ns => AppV w 5 1 1 a n c ns m K := by
  refine AppS.of (news := ys.map (Value.int .u8)) (by rw [List.length_map, hy.len]; omega) hy.rd ?_
  refine AppV.own ho hB (by rw [List.length_map, hy.len]; omega) (oneAll.ints _ _) (by omega) (by omega) fun a' c' w' h1 h2 _ _ => ?_
  refine hk a' c' w' ?_ h2
  rw [List.map_append]
  exact h1
structure Hd where
  k : Int
  n : Int
  c : Int
  l : Int
  e : Int
  t : Int
abbrev Hd.vs (h : Hd) : List Value := [.int .i64 h.k, .int .i64 h.n, .int .i64 h.c, .int .u32 h.l, .int .u64 h.e, .int .u64 h.t]
abbrev Hd.val (h : Hd) : Value := .agg #[.int .i64 h.k, .int .i64 h.n, .int .i64 h.c, .int .u32 h.l, .int .u64 h.e, .int .u64 h.t]
abbrev Hd.tup (h : Hd) : Int × Int × Int × Int × Int × Int × Unit := (h.k, h.n, h.c, h.l, h.e, h.t, ())
def Hd.rng (h : Hd) : Prop := (0 ≤ h.l ∧ h.l < 4294967296) ∧ (0 ≤ h.e ∧ h.e < 18446744073709551616) ∧ (0 ≤ h.t ∧ h.t < 18446744073709551616)
def HRight (h : Hd) : Prop := (1 ≤ h.k ∧ h.k ≤ 4) ∧ (0 ≤ h.n ∧ h.n ≤ 255) ∧ (0 ≤ h.c ∧ h.c ≤ 255)
instance (h : Hd) : Decidable (HRight h) := by unfold HRight; infer_instance
def big (n : Int) (k : Nat) : List Int := (leL n k).reverse
def hdL (h : Hd) : List Int := [h.k, h.n, h.c, 0] ++ big h.l 4 ++ big h.e 8 ++ big h.t 8
theorem big_length (n : Int) (k : Nat) : (big n k).length = k := by simp [big, leL_length]
theorem hdL_length (h : Hd) : (hdL h).length = 24 := by simp [hdL, big_length]
theorem newH {w : World} {h : Hd} {K : Nat → World → Prop} (hk : ∀ b w1, Ext w w1 → Box w1 w.heap.size b 46 h.vs → K b w1) : NewV #[.int .i64 h.k, .int .i64 h.n, .int .i64 h.c, .int .u32 h.l, .int .u64 h.e, .int .u64 h.t] 46 w K := newBox hk
theorem ldH {w : World} {h : Hd} {B b : Nat} {e : TypeId} (hb : Box w B b e h.vs) {K : Int × Int × Int × Int × Int × Int × Unit → Prop} (hk : K h.tup) : LoadA w ⟨b, 0, none⟩ [.int .i64, .int .i64, .int .i64, .int .u32, .int .u64, .int .u64] K := hb.lda (l := [.int .i64, .int .i64, .int .i64, .int .u32, .int .u64, .int .u64]) h.tup rfl hk
theorem Own.list {w : World} {xs : List Int} {n : Nat} (hn : n = xs.length) (h9 : n ≤ 9223372036854775807) : Own (w.alloc (.cells (xs.map (Value.int .u8)).toArray 5)) w.heap.size 5 1 (some ⟨w.heap.size, 0, none⟩) n n (xs.map (Value.int .u8)) := by
  have := Own.new (w := w) (B := w.heap.size) (e := 5) (sz := 1) (n := n) (c := n) (cs := xs.map (Value.int .u8)) (Nat.le_refl _) (by simp [hn]) (Nat.le_refl _) h9 (oneAll.ints _ _)
  rwa [List.take_of_length_le (by simp [hn])] at this
theorem wrap_u8 {x : Int} (h : 0 ≤ x ∧ x ≤ 255) : IntKind.u8.wrap x = x := by rw [u8_wrap]; omega
theorem HRight_c {w : World} {h : Hd} : CallV Tryz.prog 86 #[h.val] w [.one .bool] fun r w' => r.1 = decide (HRight h) ∧ Ext w w' := by
  refine ref14_Right.vc _ _ _ _ _ _ _ _ ?_
  unfold ref14_Right.P
  refine newH fun b1 w1 e1 hb => ?_
  have no : ¬ HRight h → (false = decide (HRight h) ∧ Ext w w1) := fun hr => ⟨(decide_eq_false hr).symm, e1⟩
  refine hb.ld (i := 0) (h := .int .i64) (x := h.k) rfl (cond_d (fun c1 => ?_) (fun hc => no (fun hr => by unfold HRight at hr; omega)))
  refine hb.ld (i := 0) (h := .int .i64) (x := h.k) rfl (cond_d (fun c2 => ?_) (fun hc => no (fun hr => by unfold HRight at hr; omega)))
  refine hb.ld (i := 1) (h := .int .i64) (x := h.n) rfl (cond_d (fun c3 => ?_) (fun hc => no (fun hr => by unfold HRight at hr; omega)))
  refine hb.ld (i := 1) (h := .int .i64) (x := h.n) rfl (cond_d (fun c4 => ?_) (fun hc => no (fun hr => by unfold HRight at hr; omega)))
  refine hb.ld (i := 2) (h := .int .i64) (x := h.c) rfl (cond_d (fun c5 => ?_) (fun hc => no (fun hr => by unfold HRight at hr; omega)))
  refine hb.ld (i := 2) (h := .int .i64) (x := h.c) rfl ?_
  refine ⟨?_, e1⟩
  apply decide_eq_decide.2
  unfold HRight
  omega
theorem c4 : cl8 4 = 4 := by decide
theorem c8 : cl8 8 = 8 := by decide
theorem Bytes_c {w : World} {h : Hd} (hg : h.rng) : CallV Tryz.prog 178 #[h.val] w [.one .sl, .one (.int .i64)] fun r w' => Ext w w' ∧ (HRight h → Res w w' r.1 (hdL h) ∧ r.2.1 = (0 : Int)) ∧ (¬ HRight h → r.1 = (⟨none, 0, 0⟩ : SlV) ∧ r.2.1 = (2 : Int)) := by
  unfold Hd.rng at hg
  refine head_Bytes.vc _ _ _ _ _ _ _ _ ?_
  unfold head_Bytes.P
  refine newH fun b1 w1 e1 hb => ?_
  have no : ∀ {w' : World}, ¬ HRight h → Ext w w' → (Ext w w' ∧ (HRight h → Res w w' (⟨none, 0, 0⟩ : SlV) (hdL h) ∧ (2 : Int) = (0 : Int)) ∧ (¬ HRight h → (⟨none, 0, 0⟩ : SlV) = (⟨none, 0, 0⟩ : SlV) ∧ (2 : Int) = (2 : Int))) := fun hr he => ⟨he, fun h => absurd h hr, fun _ => ⟨rfl, rfl⟩⟩
  refine hb.ld (i := 0) (h := .int .i64) (x := h.k) rfl ?_
  refine hb.ld (i := 1) (h := .int .i64) (x := h.n) rfl ?_
  refine hb.ld (i := 2) (h := .int .i64) (x := h.c) rfl ?_
  refine Loop1 (fun (y : Int × Unit) w' => ∃ i : Nat, y.1 = (i : Int) ∧ i ≤ 3 ∧ (∀ j, j < i → 0 ≤ [h.k, h.n, h.c].getD j 0 ∧ [h.k, h.n, h.c].getD j 0 ≤ 255) ∧ w' = w1) (fun (y : Int × Unit) _ => (3 - y.1).toNat) ⟨0, rfl, by omega, fun j hj => absurd hj (by omega), rfl⟩ ?_
  rintro ⟨(z : Int), ⟨⟩⟩ w' ⟨i, hz, h3, hr, rfl⟩
  dsimp only at hz ⊢
  subst hz
  refine cond_d (fun hlt => ?_) (fun hge => ?_)
  · refine ⟨⟨by omega, hlt⟩, [h.k, h.n, h.c].getD i 0, ?_, ?_⟩
    · rw [Int.toNat_natCast]
      match i, hlt with
      | 0, _ => rfl
      | 1, _ => rfl
      | 2, _ => rfl
      | n + 3, hh => exact absurd hh (by omega)
    · have bad : ¬ (0 ≤ [h.k, h.n, h.c].getD i 0 ∧ [h.k, h.n, h.c].getD i 0 ≤ 255) → ¬ HRight h := fun hb hrr => hb (by
        unfold HRight at hrr
        match i, hlt with
        | 0, _ => show 0 ≤ h.k ∧ h.k ≤ 255; omega
        | 1, _ => exact hrr.2.1
        | 2, _ => exact hrr.2.2
        | n + 3, hh => exact absurd hh (by omega))
      refine cond_d (fun hc => no (bad (by omega)) e1) (fun hc => cond_d (fun hc' => no (bad (by omega)) e1) (fun hc' => ?_))
      refine ⟨Rng.i64 (by omega) (by omega), ⟨i + 1, by push_cast; rfl, by omega, fun j hj => ?_, rfl⟩, by omega⟩
      by_cases hji : j = i
      · subst hji; omega
      · exact hr j (by omega)
  · have : i = 3 := by omega
    subst this
    have k0 : 0 ≤ h.k ∧ h.k ≤ 255 := hr 0 (by omega)
    have k1 : 0 ≤ h.n ∧ h.n ≤ 255 := hr 1 (by omega)
    have k2 : 0 ≤ h.c ∧ h.c ≤ 255 := hr 2 (by omega)
    refine hb.ld (i := 0) (h := .int .i64) (x := h.k) rfl (cond_d (fun hc => no (fun hr => by unfold HRight at hr; omega) e1) (fun c1 => ?_))
    refine hb.ld (i := 0) (h := .int .i64) (x := h.k) rfl (cond_d (fun hc => no (fun hr => by unfold HRight at hr; omega) e1) (fun c2 => ?_))
    have hR : HRight h := ⟨by omega, k1, k2⟩
    refine hb.ld (i := 0) (h := .int .i64) (x := h.k) rfl ?_
    refine hb.ld (i := 1) (h := .int .i64) (x := h.n) rfl ?_
    refine hb.ld (i := 2) (h := .int .i64) (x := h.c) rfl ?_
    rw [wrap_u8 k0, wrap_u8 k1, wrap_u8 k2]
    rintro b2 w2 rfl rfl
    have ho := Own.list (w := w') (xs := [h.k, h.n, h.c, 0]) (n := 4) rfl (by omega)
    have x2 : Ext w' (w'.alloc (.cells #[.int .u8 h.k, .int .u8 h.n, .int .u8 h.c, .int .u8 0] 5)) := Ext.alloc _ _
    generalize hw2 : w'.alloc (.cells #[.int .u8 h.k, .int .u8 h.n, .int .u8 h.c, .int .u8 0] 5) = w2 at x2 ⊢
    have ho2 : Own w2 w'.heap.size 5 1 (some ⟨w'.heap.size, 0, none⟩) 4 4 ([h.k, h.n, h.c, 0].map (Value.int .u8)) := by rw [← hw2]; exact ho
    refine (hb.ext x2).ld (i := 3) (h := .int .u32) (x := h.l) rfl ?_
    rw [show IntKind.u64.wrap h.l = h.l from u64_id (by omega) (by omega)]
    refine (Big_c (by omega)).mono ?_
    rintro ⟨(s3 : SlV), ⟨⟩⟩ w3 h3
    dsimp only at h3 ⊢
    rw [c4] at h3
    have l3 := h3.ints.len
    rw [List.length_reverse, leL_length] at l3
    have x3 := x2.trans h3.ext
    refine appL (ho2.ext h3.ext) h3.ints x3.size (by omega) fun a4 c4' w4 o4 b4 => ?_
    have x4 : Ext w' w4 := Below.trans x3 b4
    refine (hb.ext x4).ld (i := 4) (h := .int .u64) (x := h.e) rfl ?_
    refine (Big_c (by omega)).mono ?_
    rintro ⟨(s5 : SlV), ⟨⟩⟩ w5 h5
    dsimp only at h5 ⊢
    rw [c8] at h5
    have l5 := h5.ints.len
    rw [List.length_reverse, leL_length] at l5
    have x5 := x4.trans h5.ext
    refine appL (o4.ext h5.ext) h5.ints x5.size (by omega) fun a6 c6' w6 o6 b6 => ?_
    have x6 : Ext w' w6 := Below.trans x5 b6
    refine (hb.ext x6).ld (i := 5) (h := .int .u64) (x := h.t) rfl ?_
    refine (Big_c (by omega)).mono ?_
    rintro ⟨(s7 : SlV), ⟨⟩⟩ w7 h7
    dsimp only at h7 ⊢
    rw [c8] at h7
    have l7 := h7.ints.len
    rw [List.length_reverse, leL_length] at l7
    have x7 := x6.trans h7.ext
    refine appL (o6.ext h7.ext) h7.ints x7.size (by omega) fun a8 c8' w8 o8 b8 => ?_
    have x8 : Ext w' w8 := Below.trans x7 b8
    exact ⟨e1.trans x8, fun _ => ⟨⟨e1.trans x8, o8.mono e1.size⟩, rfl⟩, fun hn => absurd hR hn⟩
theorem rBytes_c {w : World} {h : Hd} (hg : h.rng) (hR : HRight h) : CallV Tryz.prog 160 #[h.val] w [.one .sl] fun r w' => Res w w' r.1 (hdL h) := by
  unfold Hd.rng at hg
  have hR' := hR
  unfold HRight at hR'
  refine ref14_Bytes.vc _ _ _ _ _ _ _ _ ?_
  unfold ref14_Bytes.P
  refine newH fun b1 w1 e1 hb => ?_
  refine DrawV.old w1 fun D hD hkeep => ?_
  have hD1 := hD _ hb.lt
  have hd := hb.ext (Ext.drew w1)
  refine ⟨hD1, hd.ld (i := 0) (h := .int .i64) (x := h.k) rfl ⟨hD1, hd.ld (i := 1) (h := .int .i64) (x := h.n) rfl ⟨hD1, hd.ld (i := 2) (h := .int .i64) (x := h.c) rfl ⟨hD1, hd.ld (i := 3) (h := .int .u32) (x := h.l) rfl ?_⟩⟩⟩⟩
  rw [show IntKind.u64.wrap h.l = h.l from u64_id (by omega) (by omega), wrap_u8 (by omega : 0 ≤ h.k ∧ h.k ≤ 255), wrap_u8 hR'.2.1, wrap_u8 hR'.2.2]
  have tail : ∀ (a : Option Addr) (c : Nat) (w4 : World), Ext w1 w4 → Own w4 w1.heap.size 5 1 a (4 + 4) c (([h.k, h.n, h.c, 0] ++ big h.l 4).map (Value.int .u8)) → LoadS w4 ⟨b1, 4, none⟩ (.int .u64) fun (x17 : Int) =>
      CallV Tryz.prog 173 #[.int .u64 x17, .int .i64 8] w4 [.one .sl] fun (r18 : SlV × Unit) w19 =>
      AppS w19 r18.1.a r18.1.n 1 fun ns24 =>
      AppV w19 5 1 1 a (4 + 4) c ns24 r18.1.n fun a20 n21 c22 w23 =>
      LoadS w23 ⟨b1, 5, none⟩ (.int .u64) fun (x25 : Int) =>
      CallV Tryz.prog 173 #[.int .u64 x25, .int .i64 8] w23 [.one .sl] fun (r26 : SlV × Unit) w27 =>
      AppS w27 r26.1.a r26.1.n 1 fun ns32 =>
      AppV w27 5 1 1 a20 n21 c22 ns32 r26.1.n fun a28 n29 c30 w31 => Res w w31 (⟨a28, n29, c30⟩ : SlV) (hdL h) := by
    intro a c w4 x4 o4
    refine (hb.ext x4).ld (i := 4) (h := .int .u64) (x := h.e) rfl ?_
    refine (rBig_c (by omega) (by omega)).mono ?_
    rintro ⟨(s5 : SlV), ⟨⟩⟩ w5 h5
    dsimp only at h5 ⊢
    rw [c8] at h5
    have l5 := h5.ints.len
    rw [List.length_reverse, leL_length] at l5
    have x5 := x4.trans h5.ext
    refine appL (o4.ext h5.ext) h5.ints x5.size (by omega) fun a6 c6' w6 o6 b6 => ?_
    have x6 : Ext w1 w6 := Below.trans x5 b6
    refine (hb.ext x6).ld (i := 5) (h := .int .u64) (x := h.t) rfl ?_
    refine (rBig_c (by omega) (by omega)).mono ?_
    rintro ⟨(s7 : SlV), ⟨⟩⟩ w7 h7
    dsimp only at h7 ⊢
    rw [c8] at h7
    have l7 := h7.ints.len
    rw [List.length_reverse, leL_length] at l7
    have x7 := x6.trans h7.ext
    refine appL (o6.ext h7.ext) h7.ints x7.size (by omega) fun a8 c8' w8 o8 b8 => ?_
    have x8 : Ext w1 w8 := Below.trans x7 b8
    exact ⟨e1.trans x8, o8.mono e1.size⟩
  constructor
  · rintro b2 w2 rfl rfl
    have ho := Own.list (w := w1.drew) (xs := [h.k, h.n, h.c, 0]) (n := 4) rfl (by omega)
    have x2 : Ext w1 (w1.drew.alloc (.cells #[.int .u8 h.k, .int .u8 h.n, .int .u8 h.c, .int .u8 0] 5)) := (Ext.drew w1).trans (Ext.alloc _ _)
    refine ⟨hkeep _ x2, ?_⟩
    refine (rBig_c (by omega) (by omega)).mono ?_
    rintro ⟨⟨sa, sn, sc⟩, ⟨⟩⟩ w3 h3
    dsimp only at h3 ⊢
    rw [c4] at h3
    have l3 := h3.ints.len
    rw [List.length_reverse, leL_length] at l3
    dsimp only at l3
    subst l3
    have x3 := x2.trans h3.ext
    refine ⟨hkeep _ x3, ?_⟩
    refine appL (ho.ext h3.ext) h3.ints x3.size (by omega) fun a4 c4' w4 o4 b4 => ?_
    have x4 : Ext w1 w4 := Below.trans x3 b4
    refine ⟨hkeep _ x4, ?_⟩
    exact tail a4 c4' w4 x4 o4
  · refine (rBig_c (by omega) (by omega)).mono ?_
    rintro ⟨⟨sa, sn, sc⟩, ⟨⟩⟩ w3 h3
    dsimp only at h3 ⊢
    rw [c4] at h3
    have l3 := h3.ints.len
    rw [List.length_reverse, leL_length] at l3
    dsimp only at l3
    subst l3
    have x3 := (Ext.drew w1).trans h3.ext
    refine ⟨hkeep _ x3, ?_⟩
    rintro b2 w2 rfl rfl
    have ho := Own.list (w := w3) (xs := [h.k, h.n, h.c, 0]) (n := 4) rfl (by omega)
    have x2 : Ext w3 (w3.alloc (.cells #[.int .u8 h.k, .int .u8 h.n, .int .u8 h.c, .int .u8 0] 5)) := Ext.alloc _ _
    refine ⟨hkeep _ (x3.trans x2), ?_⟩
    refine appL ho (h3.ints.ext x2) x2.size (by omega) fun a4 c4' w4 o4 b4 => ?_
    have x4 : Ext w1 w4 := x3.trans (Below.trans x2 b4)
    refine ⟨hkeep _ x4, ?_⟩
    exact tail a4 c4' w4 x4 (o4.mono x3.size)
end Go.Proofs.YtlpeoaphdmfjdaaGreat.Vc
/-! The law HeadBytes of layer 14: each call gives true, and what it read stays. -/
namespace Go.Proofs.YtlpeoaphdmfjdaaGreat.Vc
open Go Go.Eng Go.RowKit
theorem MarkLen_c {w : World} {n : Int} (h : 88 ≤ n ∧ n ≤ 4184) : CallV Tryz.prog 141 #[.int .i64 n] w [.one .sl] fun r w' => Res w w' r.1 (List.replicate (n - 8).toNat 255 ++ List.replicate 8 0) := by
  refine head_Mark.vc _ _ _ ?_
  unfold head_Mark.P
  refine cond_d (fun h => by omega) (fun _ => cond_d (fun h => by omega) (fun _ => ⟨Rng.i64 (by omega) (by omega), ?_⟩))
  refine Fill_c.mono ?_
  rintro ⟨(s1 : SlV), ⟨⟩⟩ w1 h1
  refine Fill_c.mono ?_
  rintro ⟨(s2 : SlV), ⟨⟩⟩ w2 h2
  dsimp only at h1 h2 ⊢
  generalize hL : (65536 : Int) = L at h1 h2
  rw [show max 0 (min L (n - 8)) = n - 8 by omega] at h1
  rw [show (max 0 (min L 8)).toNat = 8 by omega] at h2
  have l1 := h1.ints.len
  have l2 := h2.ints.len
  rw [List.length_replicate] at l1 l2
  refine appL (h1.own.ext h2.ext) h2.ints (Nat.le_trans h1.ext.size h2.ext.size) (by omega) fun a' c' w' o b => ?_
  exact ⟨Below.trans (h1.ext.trans h2.ext) b, o⟩
abbrev THd : Ty := .cons (.int .i64) (.cons (.int .i64) (.cons (.int .i64) (.cons (.int .u32) (.cons (.int .u64) (.cons (.int .u64) .nil)))))
def hdT (x : THd.T) : Hd := ⟨x.1, x.2.1, x.2.2.1, x.2.2.2.1, x.2.2.2.2.1, x.2.2.2.2.2.1⟩
theorem hdT_val (x : THd.T) : (.agg (THd.vs x).toArray : Value) = (hdT x).val := rfl
theorem rng_u32 {x : Int} (h : Rng .u32 x) : 0 ≤ x ∧ x < 4294967296 := by
  unfold Rng at h
  have e1 : IntKind.u32.min = 0 := by decide
  have e2 : IntKind.u32.max = 4294967295 := by decide
  omega
theorem hdT_rng {w : World} {x : THd.T} (g : THd.ok w x) : (hdT x).rng :=
  ⟨rng_u32 g.2.2.2.1, rng_u64 g.2.2.2.2.1, rng_u64 g.2.2.2.2.2.1⟩
end Go.Proofs.YtlpeoaphdmfjdaaGreat.Vc
/-! The contracts of layer 14 (head): an end's bytes, and is it committed. -/
namespace Go.Proofs.YtlpeoaphdmfjdaaGreat.Vc
open Go Go.Eng Go.RowKit
theorem appLB {w : World} {a a2 : Option Addr} {n c m c2 : Nat} {xs ys : List Int} {B : Nat} {K : Option Addr → Nat → Nat → World → Prop} (ho : Own w B 5 1 a n c (xs.map (Value.int .u8))) (hy : Ints w .u8 a2 m c2 ys) (hB : B ≤ w.heap.size) (hn : n + m ≤ 100000000)
    (hk : ∀ a' c' w', Own w' B 5 1 a' (n + m) c' ((xs ++ ys).map (Value.int .u8)) → Below B w w' → But a w w' → K a' (n + m) c' w') :
    AppS w a2 m 1 fun ns => AppV w 5 1 1 a n c ns m K := by
  refine AppS.of (news := ys.map (Value.int .u8)) (by rw [List.length_map, hy.len]; omega) hy.rd ?_
  refine AppV.own ho hB (by rw [List.length_map, hy.len]; omega) (oneAll.ints _ _) (by omega) (by omega) fun a' c' w' h1 h2 h3 _ => ?_
  refine hk a' c' w' ?_ h2 h3
  rw [List.map_append]
  exact h1
theorem intsU_but {w w' : World} {a a2 : Option Addr} {n c : Nat} {xs : List Int} (h : Ints w .u8 a n c xs) (x : But a2 w w') (hne : ∀ p q, a = some p → a2 = some q → p.block ≠ q.block) : Ints w' .u8 a n c xs := by
  refine ⟨h.len, h.cap, h.lim, ?_⟩
  rcases h.rd with h1 | ⟨p, h1, h2⟩
  · exact .inl h1
  · refine .inr ⟨p, h1, ?_⟩
    cases hx : xs.map (Value.int .u8) with
    | nil => intro j v hv; simp at hv
    | cons v vs =>
      rw [hx] at h2
      exact cells_same (x _ (cells_lt h2) (fun q hq => hne p q h1 hq)) h2
theorem Res.apart {w0 w1 w2 : World} {s t : SlV} {xs ys : List Int} (h : Res w0 w1 s xs) (k : Res w1 w2 t ys) : ∀ p q, t.a = some p → s.a = some q → p.block ≠ q.block := by
  intro p q hp hq
  rcases h.own.at_ with ⟨h1, _⟩ | ⟨b, cs, h1, _, h3, _⟩
  · rw [h1] at hq; cases hq
  · rcases k.own.at_ with ⟨k1, _⟩ | ⟨b', cs', k1, k2, _⟩
    · rw [k1] at hp; cases hp
    · rw [k1] at hp; rw [h1] at hq
      have e1 := Option.some.inj hp
      have e2 := Option.some.inj hq
      subst e1; subst e2
      have hlt : b < w1.heap.size := (Array.getElem?_eq_some_iff.1 h3).1
      show b' ≠ b
      omega
def tagL (tg : List Int) : List Int := if tg.length = 0 then List.replicate 32 255 else tg
def endL (h : Hd) (tg : List Int) : List Int := ((hdL h ++ invL (hdL h)) ++ tagL tg) ++ List.replicate 8 255
def ERight (h : Hd) (n : Nat) : Prop := HRight h ∧ (n = 0 ∨ n = 32)
instance (h : Hd) (n : Nat) : Decidable (ERight h n) := by unfold ERight; infer_instance
theorem invL_length (xs : List Int) : (invL xs).length = xs.length := by simp [invL]
theorem fill32 : (max 0 (min (65536 : Int) 32)).toNat = 32 := by generalize hL : (65536 : Int) = L; omega
theorem fill8 : (max 0 (min (65536 : Int) 8)).toNat = 8 := by generalize hL : (65536 : Int) = L; omega
theorem End_c {w : World} {h : Hd} {a : Option Addr} {n c : Nat} {tg : List Int} (hg : h.rng) (ht : Ints w .u8 a n c tg) :
    CallV Tryz.prog 163 #[h.val, .slice a n c] w [.one .sl, .one (.int .i64)] fun r w' => Ext w w' ∧ (ERight h n → Res w w' r.1 (endL h tg) ∧ r.2.1 = (0 : Int)) ∧ (¬ ERight h n → r.1 = (⟨none, 0, 0⟩ : SlV) ∧ r.2.1 = (2 : Int)) := by
  refine head_End.vc _ _ _ _ _ _ _ _ _ _ _ ?_
  unfold head_End.P
  have lt := ht.len
  refine newH fun b1 w1 e1 hb => ?_
  refine ldH hb ?_
  refine (Bytes_c (h := h) hg).mono ?_
  rintro ⟨⟨sa, sn, sc⟩, (e2 : Int), ⟨⟩⟩ w2 ⟨x2, h2, h2'⟩
  dsimp only at h2 h2' ⊢
  have E2 := e1.trans x2
  have no : ∀ {w' : World}, ¬ ERight h n → Ext w w' → (Ext w w' ∧ (ERight h n → Res w w' (⟨none, 0, 0⟩ : SlV) (endL h tg) ∧ (2 : Int) = (0 : Int)) ∧ (¬ ERight h n → (⟨none, 0, 0⟩ : SlV) = (⟨none, 0, 0⟩ : SlV) ∧ (2 : Int) = (2 : Int))) := fun hr he => ⟨he, fun h => absurd h hr, fun _ => ⟨rfl, rfl⟩⟩
  by_cases hR : ¬ HRight h
  · obtain ⟨_, k2⟩ := h2' hR
    refine cond_t (by rw [k2]; rfl) ?_
    have := no (w' := w2) (fun hh => hR hh.1) E2
    rw [k2]
    exact this
  have hR := Decidable.not_not.1 hR
  obtain ⟨k1, k2⟩ := h2 hR
  have l1 := k1.ints.len
  rw [hdL_length] at l1
  dsimp only at l1
  subst l1
  refine cond_f (by rw [k2]; rfl) ?_
  have fin : ∀ {w' : World} {a' : Option Addr} {m c' : Nat}, Ext w w' → Own w' w1.heap.size 5 1 a' m c' ((endL h tg).map (Value.int .u8)) → ERight h n →
      (Ext w w' ∧ (ERight h n → Res w w' (⟨a', m, c'⟩ : SlV) (endL h tg) ∧ (0 : Int) = (0 : Int)) ∧ (¬ ERight h n → (⟨a', m, c'⟩ : SlV) = (⟨none, 0, 0⟩ : SlV) ∧ (0 : Int) = (2 : Int))) := fun e o hr =>
    ⟨e, fun _ => ⟨⟨e, o.mono e1.size⟩, rfl⟩, fun hn => absurd hr hn⟩
  refine cond_eq (fun h0 => ?_) (fun h0 => ?_)
  · refine Fill_c.mono ?_
    rintro ⟨⟨ta, tn, tc⟩, ⟨⟩⟩ w3 h3
    dsimp only at h3 ⊢
    rw [fill32] at h3
    have l3 := h3.ints.len
    rw [List.length_replicate] at l3
    dsimp only at l3
    subst l3
    refine cond_ne (fun hh => absurd rfl hh) (fun _ => ?_)
    refine (Invert_c (k1.ints.ext h3.ext) (by dsimp only; omega)).mono ?_
    rintro ⟨⟨va, vn, vc⟩, ⟨⟩⟩ w4 h4
    dsimp only at h4 ⊢
    have l4 := h4.ints.len
    rw [invL_length, hdL_length] at l4
    dsimp only at l4
    subst l4
    have x4 := h3.ext.trans h4.ext
    have X4 : Ext w1 w4 := x2.trans x4
    refine appLB (k1.own.ext x4) h4.ints X4.size (by omega) fun a5 c5 w5 o5 b5 but5 => ?_
    have X5 : Ext w1 w5 := Below.trans X4 b5
    have i5 := intsU_but (h3.ints.ext h4.ext) but5 (Res.apart k1 h3)
    refine appL o5 i5 X5.size (by omega) fun a6 c6 w6 o6 b6 => ?_
    have X6 : Ext w1 w6 := Below.trans X5 b6
    refine Fill_c.mono ?_
    rintro ⟨⟨ua, un, uc⟩, ⟨⟩⟩ w7 h7
    dsimp only at h7 ⊢
    rw [fill8] at h7
    have l7 := h7.ints.len
    rw [List.length_replicate] at l7
    dsimp only at l7
    subst l7
    have X7 := X6.trans h7.ext
    refine appL (o6.ext h7.ext) h7.ints X7.size (by omega) fun a8 c8 w8 o8 b8 => ?_
    have X8 : Ext w1 w8 := Below.trans X7 b8
    have ht0 : tagL tg = List.replicate 32 255 := by unfold tagL; rw [if_pos (by omega)]
    refine fin (e1.trans X8) ?_ ⟨hR, .inl (by omega)⟩
    unfold endL
    rw [ht0]
    exact o8
  · refine cond_ne (fun hh => no (fun hr => by unfold ERight at hr; omega) E2) (fun h32 => ?_)
    refine (Invert_c k1.ints (by dsimp only; omega)).mono ?_
    rintro ⟨⟨va, vn, vc⟩, ⟨⟩⟩ w4 h4
    dsimp only at h4 ⊢
    have l4 := h4.ints.len
    rw [invL_length, hdL_length] at l4
    dsimp only at l4
    subst l4
    have X4 : Ext w1 w4 := x2.trans h4.ext
    refine appL (k1.own.ext h4.ext) h4.ints X4.size (by omega) fun a5 c5 w5 o5 b5 => ?_
    have X5 : Ext w1 w5 := Below.trans X4 b5
    refine appL o5 (ht.ext (e1.trans X5)) X5.size (by omega) fun a6 c6 w6 o6 b6 => ?_
    have X6 : Ext w1 w6 := Below.trans X5 b6
    refine Fill_c.mono ?_
    rintro ⟨⟨ua, un, uc⟩, ⟨⟩⟩ w7 h7
    dsimp only at h7 ⊢
    rw [fill8] at h7
    have l7 := h7.ints.len
    rw [List.length_replicate] at l7
    dsimp only at l7
    subst l7
    have X7 := X6.trans h7.ext
    refine appL (o6.ext h7.ext) h7.ints X7.size (by omega) fun a8 c8 w8 o8 b8 => ?_
    have X8 : Ext w1 w8 := Below.trans X7 b8
    have ht0 : tagL tg = tg := by unfold tagL; rw [if_neg (by omega)]
    refine fin (e1.trans X8) ?_ ⟨hR, .inr (by omega)⟩
    unfold endL
    rw [ht0]
    exact o8
theorem rEnd_c {w : World} {h : Hd} {a : Option Addr} {n c : Nat} {tg : List Int} (hg : h.rng) (ht : Ints w .u8 a n c tg) (hE : ERight h n) :
    CallV Tryz.prog 140 #[h.val, .slice a n c] w [.one .sl] fun r w' => Res w w' r.1 (endL h tg) := by
  have hR := hE.1
  have hE' := hE.2
  refine ref14_End.vc _ _ _ _ _ _ _ _ _ _ _ ?_
  unfold ref14_End.P
  have lt := ht.len
  refine newH fun b1 w1 e1 hb => ?_
  refine DrawV.old w1 fun D hD hkeep => ?_
  have hD1 := hD _ hb.lt
  have hd := hb.ext (Ext.drew w1)
  refine ⟨hD1, ldH hd ⟨hD1, ldH hd ?_⟩⟩
  refine (rBytes_c (h := h) hg hR).mono ?_
  rintro ⟨⟨sa, sn, sc⟩, ⟨⟩⟩ w2 h2
  have x2 := (Ext.drew w1).trans h2.ext
  refine ⟨hkeep _ x2, ?_⟩
  refine (rBytes_c (h := h) hg hR).mono ?_
  rintro ⟨(s3 : SlV), ⟨⟩⟩ w3 h3
  dsimp only at h2 h3 ⊢
  have l2 := h2.ints.len
  rw [hdL_length] at l2
  dsimp only at l2
  subst l2
  have l3 := h3.ints.len
  rw [hdL_length] at l3
  have x3 := x2.trans h3.ext
  refine ⟨hkeep _ x3, ?_⟩
  refine (rInvert_c h3.ints (by omega)).mono ?_
  rintro ⟨⟨va, vn, vc⟩, ⟨⟩⟩ w4 h4
  dsimp only at h4 ⊢
  have l4 := h4.ints.len
  rw [invL_length, hdL_length] at l4
  dsimp only at l4
  subst l4
  have x4 := x3.trans h4.ext
  refine ⟨hkeep _ x4, ?_⟩
  have o4 := (h2.own.ext (h3.ext.trans h4.ext)).mono (Ext.drew w1).size
  refine appL o4 h4.ints x4.size (by omega) fun a5 c5 w5 o5 b5 => ?_
  have X5 : Ext w1 w5 := Below.trans x4 b5
  refine ⟨hkeep _ X5, ?_⟩
  refine cond_eq (fun h0 => ?_) (fun h0 => ?_)
  · refine rFill_c.mono ?_
    rintro ⟨⟨ta, tn, tc⟩, ⟨⟩⟩ w6 h6
    dsimp only at h6 ⊢
    rw [fill32] at h6
    have l6 := h6.ints.len
    rw [List.length_replicate] at l6
    dsimp only at l6
    subst l6
    have X6 := X5.trans h6.ext
    refine appL (o5.ext h6.ext) h6.ints X6.size (by omega) fun a7 c7 w7 o7 b7 => ?_
    have X7 : Ext w1 w7 := Below.trans X6 b7
    refine rFill_c.mono ?_
    rintro ⟨⟨ua, un, uc⟩, ⟨⟩⟩ w8 h8
    dsimp only at h8 ⊢
    rw [fill8] at h8
    have l8 := h8.ints.len
    rw [List.length_replicate] at l8
    dsimp only at l8
    subst l8
    have X8 := X7.trans h8.ext
    refine appL (o7.ext h8.ext) h8.ints X8.size (by omega) fun a9 c9 w9 o9 b9 => ?_
    have ht0 : tagL tg = List.replicate 32 255 := by unfold tagL; rw [if_pos (by omega)]
    refine ⟨e1.trans (Below.trans X8 b9), ?_⟩
    unfold endL
    rw [ht0]
    exact o9.mono e1.size
  · refine appL o5 (ht.ext (e1.trans X5)) X5.size (by omega) fun a7 c7 w7 o7 b7 => ?_
    have X7 : Ext w1 w7 := Below.trans X5 b7
    refine rFill_c.mono ?_
    rintro ⟨⟨ua, un, uc⟩, ⟨⟩⟩ w8 h8
    dsimp only at h8 ⊢
    rw [fill8] at h8
    have l8 := h8.ints.len
    rw [List.length_replicate] at l8
    dsimp only at l8
    subst l8
    have X8 := X7.trans h8.ext
    refine appL (o7.ext h8.ext) h8.ints X8.size (by omega) fun a9 c9 w9 o9 b9 => ?_
    have ht0 : tagL tg = tg := by unfold tagL; rw [if_neg (by omega)]
    refine ⟨e1.trans (Below.trans X8 b9), ?_⟩
    unfold endL
    rw [ht0]
    exact o9.mono e1.size
def comm (xs : List Int) : Bool := decide (xs.length = 88 ∧ xs.drop 80 = List.replicate 8 0)
theorem rCommitted_c {w : World} {a : Option Addr} {n c : Nat} {xs : List Int} (hx : Ints w .u8 a n c xs) (hn : n = 88) :
    CallV Tryz.prog 113 #[.slice a n c] w [.one .bool] fun r w' => r.1 = comm xs ∧ Ext w w' := by
  refine ref14_Committed.vc _ _ _ _ _ ?_
  unfold ref14_Committed.P
  have lx := hx.len
  refine DrawV.old w fun D hD hkeep => ?_
  refine ⟨by omega, ?_⟩
  intro a2 ha2
  have hs := (hx.ext (Ext.drew w)).sub (l := 80) (hh := n) (m := c) (by omega) (Nat.le_refl _) hx.cap ha2
  rw [List.take_of_length_le (by rw [List.length_drop]; omega)] at hs
  refine rFill_c.mono ?_
  rintro ⟨(s3 : SlV), ⟨⟩⟩ w3 h3
  dsimp only at h3 ⊢
  rw [fill8] at h3
  have x3 := (Ext.drew w).trans h3.ext
  refine ⟨hkeep _ x3, ?_⟩
  refine (SameBytes_c (hs.ext h3.ext) h3.ints).mono ?_
  rintro ⟨(r4 : Bool), ⟨⟩⟩ w4 ⟨h4, e4⟩
  refine ⟨hkeep _ (x3.trans e4), ?_, x3.trans e4⟩
  dsimp only at h4 ⊢
  rw [h4]
  unfold comm
  exact decide_eq_decide.2 ⟨fun h => ⟨by omega, h⟩, fun h => h.2⟩
end Go.Proofs.YtlpeoaphdmfjdaaGreat.Vc
/-! Plain laws for layer 14 (head): numbers of bytes, back as bytes. -/
namespace Go.Proofs.YtlpeoaphdmfjdaaGreat.Vc
open Go Go.Eng Go.RowKit
theorem leL_cons (n : Int) (h : 0 ≤ n) (k : Nat) : leL n (k + 1) = n % 256 :: leL (n / 256) k := by
  refine List.ext_getElem (by simp [leL_length]) fun i h1 h2 => ?_
  rw [leL_get]
  cases i with
  | zero => simp
  | succ i =>
    rw [List.getElem_cons_succ, leL_get, Int.pow_succ, Int.mul_comm, ← Int.ediv_ediv_of_nonneg (by omega)]
theorem leL_leN : ∀ {xs : List Int}, Byt xs → leL (leN xs) xs.length = xs
  | [], _ => rfl
  | x :: xs, hb => by
    have hx := hb x (List.mem_cons_self ..)
    have hb' : Byt xs := fun y hy => hb y (List.mem_cons_of_mem _ hy)
    have bd := leN_bd hb'
    have bd2 := leN_bd hb
    have e : leN (x :: xs) = x + 256 * leN xs := rfl
    rw [List.length_cons, leL_cons _ bd2.1, e, show (x + 256 * leN xs) % 256 = x by omega, show (x + 256 * leN xs) / 256 = leN xs by omega, leL_leN hb']
theorem big_numB {xs : List Int} (hb : Byt xs) (h8 : xs.length ≤ 8) : big (numB xs) xs.length = xs := by
  unfold big numB
  rw [List.take_of_length_le (by rw [List.length_reverse]; exact h8)]
  have := leL_leN hb.reverse
  rw [List.length_reverse] at this
  rw [this, List.reverse_reverse]
theorem numB_bd {xs : List Int} (hb : Byt xs) {k : Nat} (h : xs.length = k) (h8 : k ≤ 8) : 0 ≤ numB xs ∧ numB xs < 256 ^ k := by
  unfold numB
  rw [List.take_of_length_le (by rw [List.length_reverse]; omega)]
  have := leN_bd hb.reverse
  rw [List.length_reverse, h] at this
  exact this
def part (xs : List Int) (i j : Nat) : List Int := (xs.drop i).take (j - i)
theorem part_length {xs : List Int} {i j : Nat} (h : j ≤ xs.length) (hi : i ≤ j) : (part xs i j).length = j - i := by unfold part; simp; omega
theorem part_byt {xs : List Int} (hb : Byt xs) (i j : Nat) : Byt (part xs i j) := (hb.drop i).take _
def hdOf (xs : List Int) : Hd := ⟨xs.getD 0 0, xs.getD 1 0, xs.getD 2 0, numB (part xs 4 8), numB (part xs 8 16), numB (part xs 16 24)⟩
def okR (xs : List Int) : Prop := (1 ≤ xs.getD 0 0 ∧ xs.getD 0 0 ≤ 4) ∧ xs.getD 3 0 = 0 ∧ invL (part xs 0 24) = part xs 24 48
instance (xs : List Int) : Decidable (okR xs) := by unfold okR; infer_instance
theorem part_split (xs : List Int) {i j k : Nat} (h1 : i ≤ j) (h2 : j ≤ k) : part xs i j ++ part xs j k = part xs i k := by
  unfold part
  rw [show k - i = (j - i) + (k - j) by omega, List.take_add, List.drop_drop, show i + (j - i) = j by omega]
theorem part4 {xs : List Int} (h : 4 ≤ xs.length) : part xs 0 4 = [xs.getD 0 0, xs.getD 1 0, xs.getD 2 0, xs.getD 3 0] := by
  unfold part
  match xs, h with
  | a :: b :: c :: d :: t, _ => rfl
theorem hdL_of {xs : List Int} (hb : Byt xs) (hl : 24 ≤ xs.length) : hdL (hdOf xs) = [xs.getD 0 0, xs.getD 1 0, xs.getD 2 0, 0] ++ part xs 4 8 ++ part xs 8 16 ++ part xs 16 24 := by
  unfold hdL hdOf
  have a := big_numB (part_byt hb 4 8) (by rw [part_length (by omega) (by omega)]; omega)
  have b := big_numB (part_byt hb 8 16) (by rw [part_length (by omega) (by omega)]; omega)
  have c := big_numB (part_byt hb 16 24) (by rw [part_length (by omega) (by omega)]; omega)
  rw [part_length (by omega) (by omega)] at a b c
  dsimp only
  rw [show (4 : Nat) = 8 - 4 from rfl, a, show (8 : Nat) = 16 - 8 from rfl, b]
  rw [show (16 - 8 : Nat) = 24 - 16 from rfl, c]
theorem hdL_eq {xs : List Int} (hb : Byt xs) (hl : 24 ≤ xs.length) : hdL (hdOf xs) = part xs 0 24 ↔ xs.getD 3 0 = 0 := by
  rw [hdL_of hb hl, ← part_split xs (show 0 ≤ 16 by omega) (show 16 ≤ 24 by omega), ← part_split xs (show 0 ≤ 8 by omega) (show 8 ≤ 16 by omega), ← part_split xs (show 0 ≤ 4 by omega) (show 4 ≤ 8 by omega), part4 (by omega)]
  constructor
  · intro h
    have := congrArg (fun l => l.getD 3 0) h
    simpa using this.symm
  · intro h
    rw [h]
theorem hdOf_rng {xs : List Int} (hb : Byt xs) (hl : 24 ≤ xs.length) : (hdOf xs).rng := by
  have a := numB_bd (part_byt hb 4 8) (part_length (by omega) (by omega)) (by omega)
  have b := numB_bd (part_byt hb 8 16) (part_length (by omega) (by omega)) (by omega)
  have c := numB_bd (part_byt hb 16 24) (part_length (by omega) (by omega)) (by omega)
  exact ⟨a, b, c⟩
theorem hdOf_right {xs : List Int} (hb : Byt xs) : HRight (hdOf xs) ↔ 1 ≤ xs.getD 0 0 ∧ xs.getD 0 0 ≤ 4 := by
  have h1 := hb.getD 1
  have h2 := hb.getD 2
  unfold HRight hdOf
  dsimp only
  omega
theorem okR_iff {xs : List Int} (hb : Byt xs) (hl : xs.length = 88) : okR xs ↔ HRight (hdOf xs) ∧ hdL (hdOf xs) ++ invL (hdL (hdOf xs)) = part xs 0 48 := by
  rw [hdOf_right hb, ← part_split xs (show 0 ≤ 24 by omega) (show 24 ≤ 48 by omega)]
  have e := hdL_eq hb (by omega)
  constructor
  · rintro ⟨h1, h2, h3⟩
    have := e.2 h2
    exact ⟨h1, by rw [this, h3]⟩
  · rintro ⟨h1, h2⟩
    have hlen : (hdL (hdOf xs)).length = (part xs 0 24).length := by rw [hdL_length, part_length (by omega) (by omega)]
    obtain ⟨a, b⟩ := List.append_inj h2 hlen
    exact ⟨h1, e.1 a, by rw [← a]; exact b⟩
theorem part_hdL (h : Hd) (hg : h.rng) (rest : List Int) : hdOf (hdL h ++ rest) = h := by
  unfold Hd.rng at hg
  have p1 : part (hdL h ++ rest) 4 8 = big h.l 4 := by
    unfold part hdL
    rw [List.append_assoc, List.append_assoc, List.append_assoc, List.drop_left' (by rfl), List.take_left' (by rw [big_length])]
  have p2 : part (hdL h ++ rest) 8 16 = big h.e 8 := by
    unfold part hdL
    rw [List.append_assoc, List.append_assoc, List.drop_left' (by rw [List.length_append, big_length]; rfl), List.take_left' (by rw [big_length])]
  have p3 : part (hdL h ++ rest) 16 24 = big h.t 8 := by
    unfold part hdL
    rw [List.append_assoc, List.drop_left' (by rw [List.length_append, List.length_append, big_length, big_length]; rfl), List.take_left' (by rw [big_length])]
  have nb : ∀ (n : Int) (k : Nat), 0 ≤ n → n < 256 ^ k → k ≤ 8 → numB (big n k) = n := fun n k h0 h1 h8 => by
    unfold numB big
    rw [List.reverse_reverse, List.take_of_length_le (by rw [leL_length]; exact h8), leN_leL n h0]
    exact Int.emod_eq_of_lt h0 h1
  unfold hdOf
  rw [p1, p2, p3, nb _ _ hg.1.1 hg.1.2 (by omega), nb _ _ hg.2.1.1 hg.2.1.2 (by omega), nb _ _ hg.2.2.1 hg.2.2.2 (by omega)]
  rfl
end Go.Proofs.YtlpeoaphdmfjdaaGreat.Vc
/-! The contracts of layer 14 (head): what an end tells. -/
namespace Go.Proofs.YtlpeoaphdmfjdaaGreat.Vc
open Go Go.Eng Go.RowKit
abbrev zeroH : Hd := ⟨0, 0, 0, 0, 0, 0⟩
end Go.Proofs.YtlpeoaphdmfjdaaGreat.Vc
/-! The contract of head.Read. -/
namespace Go.Proofs.YtlpeoaphdmfjdaaGreat.Vc
open Go Go.Eng Go.RowKit
theorem sub_part {w : World} {a : Option Addr} {n c : Nat} {xs : List Int} (h : Ints w .u8 a n c xs) {i j m : Nat} (h1 : i ≤ j) (h2 : j ≤ n) (h3 : j ≤ m) {a' : Option Addr} (ha : a' = if m = i then a else a.map (·.add (i * 1))) : Ints w .u8 a' (j - i) (m - i) (part xs i j) := h.sub h1 h2 h3 ha
end Go.Proofs.YtlpeoaphdmfjdaaGreat.Vc
/-! Heads are the same where all their numbers are. -/
namespace Go.Proofs.YtlpeoaphdmfjdaaGreat.Vc
open Go Go.Eng Go.RowKit
set_option maxRecDepth 100000 in
theorem eqH (a1 a2 a3 a4 a5 a6 b1 b2 b3 b4 b5 b6 : Int) (w : World) : (Op.equalIn 10000 46 (.agg #[.int .i64 a1, .int .i64 a2, .int .i64 a3, .int .u32 a4, .int .u64 a5, .int .u64 a6]) (.agg #[.int .i64 b1, .int .i64 b2, .int .i64 b3, .int .u32 b4, .int .u64 b5, .int .u64 b6])).run Tryz.prog w =
    .ok (a1 == b1 && (a2 == b2 && (a3 == b3 && (a4 == b4 && (a5 == b5 && a6 == b6))))) w := by
  have u1 := Tryz.underlying3
  have u2 := Tryz.underlying43
  have u3 := Tryz.underlying44
  have v1 := Tryz.isAgg3
  have v2 := Tryz.isAgg43
  have v3 := Tryz.isAgg44
  have z1 := Tryz.sizeOf3
  have z2 := Tryz.sizeOf43
  have z3 := Tryz.sizeOf44
  have hS : Tryz.prog.underlying 46 = some (.struct (Tryz.prog.fieldsOf 46)) := by kernel_rfl
  rw [show (10000 : Nat) = 9999 + 1 from rfl, run_equalIn_agg w 9999 46 _ _ hS (by kernel_rfl)]
  simp only [Program.fieldsOf, Tryz.underlying46]
  go_simp
  repeat' split
  all_goals simp_all
open Classical in
theorem eqHd {g h : Hd} {K : Bool → Prop} (hk : K (decide (g = h))) : AggEq Tryz.prog 46 #[.int .i64 g.k, .int .i64 g.n, .int .i64 g.c, .int .u32 g.l, .int .u64 g.e, .int .u64 g.t] #[.int .i64 h.k, .int .i64 h.n, .int .i64 h.c, .int .u32 h.l, .int .u64 h.e, .int .u64 h.t] K := by
  refine ⟨_, fun w => eqH _ _ _ _ _ _ _ _ _ _ _ _ w, by kernel_rfl, ?_⟩
  have : (g.k == h.k && (g.n == h.n && (g.c == h.c && (g.l == h.l && (g.e == h.e && g.t == h.t))))) = decide (g = h) := by
    obtain ⟨a1, a2, a3, a4, a5, a6⟩ := g
    obtain ⟨b1, b2, b3, b4, b5, b6⟩ := h
    apply Bool.eq_iff_iff.2
    simp
  rw [this]
  exact hk
end Go.Proofs.YtlpeoaphdmfjdaaGreat.Vc
/-! The law HeadEnds of layer 14: each call gives true, and what it read stays. -/
namespace Go.Proofs.YtlpeoaphdmfjdaaGreat.Vc
open Go Go.Eng Go.RowKit
theorem tagL_length {tg : List Int} (hl : tg.length = 0 ∨ tg.length = 32) : (tagL tg).length = 32 := by
  unfold tagL
  split
  · simp
  · omega
theorem endL_length (h : Hd) {tg : List Int} (hl : tg.length = 0 ∨ tg.length = 32) : (endL h tg).length = 88 := by
  unfold endL
  rw [List.length_append, List.length_append, List.length_append, invL_length, hdL_length, tagL_length hl, List.length_replicate]
theorem big_byt (n : Int) (k : Nat) : Byt (big n k) := (leL_byt n k).reverse
theorem hdL_byt {h : Hd} (hR : HRight h) : Byt (hdL h) := by
  unfold HRight at hR
  unfold hdL
  refine (((Byt.cons (by omega) (Byt.cons (by omega) (Byt.cons (by omega) (Byt.cons (by omega) Byt.nil)))).append (big_byt _ _)).append (big_byt _ _)).append (big_byt _ _)
theorem endL_byt {h : Hd} (hg : h.rng) (hR : HRight h) {tg : List Int} (bt : Byt tg) : Byt (endL h tg) := by
  unfold endL
  refine (((hdL_byt hR).append (invL_byt _)).append ?_).append (Byt.replicate (by omega) (by omega) _)
  unfold tagL
  split
  · exact Byt.replicate (by omega) (by omega) _
  · exact bt
end Go.Proofs.YtlpeoaphdmfjdaaGreat.Vc
