/- Texts in one: The contracts of layer 13: the document's array, its blocks. The contracts of layer 13: the document's array, bytes cut into pages, blank blocks. The contracts of layer 13: the document's array, new, and all its bytes. The contracts of layer 13: the document's array, a block erased, or scrubbed. The contracts of layer 13: the document's array, a block scrubbed. The contracts of layer 13: the document's array, a page programmed. The contracts of layer 13: the document's array, a byte changed. The contracts of layer 21 (ledger): the blocks' changes. Calls and open orders that own the first parts. An array, and a ledger, as parts of which only the data is told. The plans of functions as plain statements, printed by wip/tools/vcgen.py; the kernel holds each to the code. The contracts of layer 14 (head): a head's bytes. The law HeadBytes of layer 14: each call gives true, and what it read stays. The contracts of layer 14 (head): an end's bytes, and is it committed. Plain laws for layer 14 (head): numbers of bytes, back as bytes. Parts of plans, cut out by wip/tools/vccut.py. The contracts of layer 14 (head): what an end tells. The contract of head.Read. Heads are the same where all their numbers are. The law HeadEnds of layer 14: each call gives true, and what it read stays. The plans of functions as plain statements, printed by wip/tools/vcgen.py; the kernel holds each to the code. The contracts of layer 15 (page): pages that are made. -/
import Derived.Test.YtlpeoaphdmfjdaaGreatZKeyboxRunsc

set_option linter.unusedVariables false
set_option linter.unusedSimpArgs false
/-! The contracts of layer 13: the document's array, its blocks. -/
namespace Go.Proofs.YtlpeoaphdmfjdaaGreat.Vc
open Go Go.Eng Go.RowKit
theorem vs_one_ty : ∀ (t : Ty) (x : t.T), oneAll (t.vs x)
  | .int k, x => fun u hu => by rw [List.mem_singleton.1 hu]; rfl
  | .bool, x => fun u hu => by rw [List.mem_singleton.1 hu]; rfl
  | .str, x => fun u hu => by rw [List.mem_singleton.1 hu]; rfl
  | .sl e, x => fun u hu => by rw [List.mem_singleton.1 hu]; rfl
  | .nil, x => fun u hu => (List.not_mem_nil hu).elim
  | .cons a r, x => fun u hu => (List.mem_append.1 hu).elim (vs_one_ty a x.1 u) (vs_one_ty r x.2 u)
theorem own_rdF {w : World} {F G : Nat → Prop} {t : Ty} {e : TypeId} {a : Option Addr} {n c : Nat} {L : List t.T} (ho : (OwnA e t.n a n c (L.flatMap t.vs)).p w F) (hp : 0 < t.n) (hF : ∀ k, F k → G k) (h : ∀ y ∈ L, t.rd w G y) : (Ty.sl t).rd w G ⟨a, n, c, L⟩ := by
  have hm := maxLen_eq
  obtain ⟨ho, hq⟩ := ho
  refine ⟨?_, ho.cap, by have := ho.lim; show n ≤ maxLen; omega, ?_, h⟩
  · have := ho.len
    rw [flatF_len (f := t.vs) (m := t.n) t.vs_length] at this
    exact Nat.eq_of_mul_eq_mul_right hp this
  · rcases ho.rd with h | ⟨p, h1, h2⟩
    · exact .inl h
    · exact .inr ⟨p, h1, h2, fun _ => hF _ (hq p h1)⟩
theorem with_c {w : World} {B : SlP TBd.T} {f : SlP TF.T} {C : CD} {G : Nat → Prop} {n : Int} {x : TBd.T} (hB : (Ty.sl TBd).rd w G B) (hl : B.n ≤ 1000) (ho : C.ops ≤ 1000000) (hx : TBd.rd w G x) (hn : 0 ≤ n ∧ n < (B.n : Int)) :
    CallV Tryz.prog 133 #[chVal B f C, .int .i64 n, bdVal x] w [.agg [.int .i64, .int .i64, .int .i64, .int .i64, .int .i64, .int .i64, .sl, .sl, .bool, .int .i64]] fun r w' =>
      ∃ B' : SlP TBd.T, r.1 = chT B' f { C with ops := C.ops + 1 } ∧ (Ty.sl TBd).rd w' (fun k => G k ∨ w.heap.size ≤ k) B' ∧ B'.l = B.l.set n.toNat x ∧ Ext w w' := by
  apply ref13_with.vc
  unfold ref13_with.P
  have S := Sep.start NoB w
  refine S.newB fun b1 w1 S f1 _ => ?_
  refine S.newB fun b3 w3 S f3 _ => ?_
  refine S.newB fun b5 w5 S f5 _ => ?_
  refine S.newB fun b7 w7 S f7 _ => ?_
  have S := S.asOwn (sz := 5) (n := 0) rfl (by omega) oneAll.nil
  refine S.ld3 (j := 6) rfl rfl ?_
  dsimp only
  have hrb := Ty.rd_ext S.ext _ hB
  have hfl : (B.l.flatMap TBd.vs).length = B.n * 5 := by rw [flatF_len (f := TBd.vs) (m := 5) TBd.vs_length]; rw [show B.l.length = B.n from hB.1]
  refine AppS.of (news := B.l.flatMap TBd.vs) hfl hrb.2.2.2.1.rdc ?_
  refine S.ap0 hfl (flatF_one (vs_one_ty TBd) _) (by omega) (by omega) fun a c w8 S f8 => ?_
  rw [List.nil_append, Nat.zero_add] at S
  rw [Nat.zero_add]
  refine S.la2 rfl ?_
  refine ⟨hn, ?_⟩
  refine (S.putF (f := TBd.vs) (m := 5) TBd.vs_length (vs_one_ty TBd) (by decide) hn x fun w9 S f9 => ?_)
  refine S.su3 (j := 6) (by rfl) fun w10 S f10 => ?_
  refine S.ld3 (j := 9) rfl rfl ⟨Rng.i64 (by omega) (by omega), ?_⟩
  refine S.su3 (j := 9) (by rfl) fun w11 S f11 => ?_
  refine S.la3 rfl (S.st1 (by rfl) fun w12 S f12 => S.la1 rfl ?_)
  have hX := S.ext
  refine ⟨⟨a, B.n, c, B.l.set n.toNat x⟩, ?_, ?_, rfl, hX⟩
  · show (C.g.b, C.g.p, C.g.s, C.g.sp, C.g.wr, C.g.ro, (⟨a, B.n, c⟩ : SlV), (⟨f.a, f.n, f.c⟩ : SlV), C.off, (C.ops : Int) + 1, ()) = _
    have : (((C.ops + 1 : Nat)) : Int) = (C.ops : Int) + 1 := by push_cast; rfl
    unfold chT
    rw [this]
  · obtain ⟨F, h1, h2⟩ := S.get (i := 0) rfl
    refine own_rdF (t := TBd) h1 (by decide) (fun k hk => .inr ((h2 k hk).1.resolve_left fun x => x)) fun y hy => ?_
    rcases List.mem_or_eq_of_mem_set hy with h3 | h3
    · exact TBd.rd_mono (fun k hk _ => .inl hk) (Ty.rd_ext hX _ (hB.2.2.2.2 y h3))
    · rw [h3]; exact TBd.rd_mono (fun k hk _ => .inl hk) (Ty.rd_ext hX _ hx)
theorem joined_c {w : World} {x : TBd.T} {g : Geo} {m z : Nat} (hx : TBd.rd w All x) (hp : x.1.l.length ≤ 100) (hz : z ≤ 10000) (hl : ∀ q ∈ x.1.l, q.l.length = z) :
    CallV Tryz.prog 74 #[bdVal x] w [.one .sl] fun r w' => Res w w' r.1 ((x.1.l.map (·.l)).flatten) := by
  apply ref13_joined.vc
  unfold ref13_joined.P
  have hpn : x.1.l.length = x.1.n := hx.1.1
  have S := Sep.start NoB w
  refine S.newB fun b1 w1 S f1 _ => ?_
  refine S.newB fun b3 w3 S f3 _ => ?_
  have S := S.asOwn (sz := 1) (n := 0) rfl (by omega) oneAll.nil
  refine Loop1 (fun (v : SlV × Int × Unit) w' => ∃ i : Nat, v.2.1 = (i : Int) ∧ i ≤ x.1.n ∧ v.1.n = i * z ∧ Sep NoB w w' [OwnA 5 1 v.1.a v.1.n v.1.c ((((x.1.l.map (·.l)).take i).flatten).map (Value.int .u8)), BoxA b1 133 (bdV x)]) (fun (v : SlV × Int × Unit) _ => ((x.1.n : Int) - v.2.1).toNat) ⟨0, rfl, by omega, by simp, S⟩ ?_
  rintro ⟨⟨a, n, c⟩, (v : Int), ⟨⟩⟩ w4 ⟨i, hv, hi, hn, S⟩
  dsimp only at hv hn S ⊢
  subst hv
  subst hn
  refine S.ld1 (j := 0) rfl rfl ?_
  dsimp only
  refine cond_d (fun hlt => ?_) (fun hge => ?_)
  · refine S.ld1 (j := 0) rfl rfl ?_
    obtain ⟨q, y, hq, hy, hc, hr, -, -⟩ := TBB_nth (Ty.rd_ext S.ext _ hx.1) (Int.natCast_nonneg i) hlt
    refine ⟨⟨by omega, hlt⟩, q, hq, ldp0 hc (h := .sl) (x := ⟨y.a, y.n, y.c⟩) rfl ?_⟩
    have hI := Ty.ints hr
    have hyl := hI.len
    rw [Int.toNat_natCast] at hy
    have hyz := hl y (List.mem_of_getElem? hy)
    dsimp only
    have m1 : i * z ≤ 100 * 10000 := Nat.mul_le_mul (by omega) hz
    refine S.ab0 hI (by omega) fun a' c' w5 S f5 => ⟨Rng.i64 (by omega) (by omega), ⟨i + 1, by push_cast; rfl, by omega, by show i * z + y.n = _; rw [Nat.add_mul]; omega, ?_⟩, by omega⟩
    have e : ((x.1.l.map (·.l)).take (i + 1)).flatten = ((x.1.l.map (·.l)).take i).flatten ++ y.l := by
      have h1 : (x.1.l.map (·.l))[i]? = some y.l := by rw [List.getElem?_map, hy]; rfl
      rw [List.take_add_one, h1, List.flatten_append]
      simp
    rw [e]
    exact S
  · have : i = x.1.n := by omega
    subst this
    rw [List.take_of_length_le (by rw [List.length_map]; omega)] at S
    exact S.out
end Go.Proofs.YtlpeoaphdmfjdaaGreat.Vc
/-! The contracts of layer 13: the document's array, bytes cut into pages, blank blocks. -/
namespace Go.Proofs.YtlpeoaphdmfjdaaGreat.Vc
open Go Go.Eng Go.RowKit
theorem TB_sub {w : World} {G : Nat → Prop} {a a' : Option Addr} {n c l hh m : Nat} {xs : List Int} (h : TB.rd w G ⟨a, n, c, xs⟩) (h1 : l ≤ hh) (h2 : hh ≤ n) (h3 : hh ≤ m) (ha : a' = if m = l then a else a.map (·.add (l * 1))) : TB.rd w G ⟨a', hh - l, m - l, (xs.drop l).take (hh - l)⟩ := by
  have hs := (Ty.ints h).sub h1 h2 h3 ha
  have hm := maxLen_eq
  refine ⟨hs.len, hs.cap, by have := hs.lim; show hh - l ≤ maxLen; omega, ?_, fun y hy => h.2.2.2.2 y (List.mem_of_mem_drop (List.mem_of_mem_take hy))⟩
  rw [show ((xs.drop l).take (hh - l)).flatMap (Ty.int .u8).vs = ((xs.drop l).take (hh - l)).map (Value.int .u8) from flat_ints .u8 _]
  rcases hs.rd with hn | ⟨p, hp, hc⟩
  · exact .inl hn
  · refine .inr ⟨p, hp, hc, fun hne => ?_⟩
    rcases h.2.2.2.1 with ⟨ha0, _⟩ | ⟨q, hq, _, hG⟩
    · have ha0 : a = none := ha0
      rw [ha0] at ha
      rw [hp] at ha
      split at ha <;> cases ha
    · have hq : a = some q := hq
      have : q.block = p.block := by
        rw [hq, hp] at ha
        split at ha
        · cases ha; rfl
        · cases ha; rw [add_block]
      rw [← this]
      refine hG fun he => hne ?_
      have he : xs.flatMap (Ty.int .u8).vs = [] := he
      have hxe : xs = [] := by
        cases xs with
        | nil => rfl
        | cons y ys => cases he
      rw [hxe]; simp
theorem res_rd {w w' : World} {s : SlV} {xs : List Int} (h : Res w w' s xs) (bx : Byt xs) : TB.rd w' (fun k => w.heap.size ≤ k) ⟨s.a, s.n, s.c, xs⟩ := by
  have hm := maxLen_eq
  have hi := h.ints
  refine ⟨hi.len, hi.cap, by have := hi.lim; show s.n ≤ maxLen; omega, ?_, fun y hy => rngU8 (bx y hy)⟩
  rw [show xs.flatMap (Ty.int .u8).vs = xs.map (Value.int .u8) from flat_ints .u8 _]
  exact Own_in h.own
theorem cut13_c {w : World} {G : Nat → Prop} {a : Option Addr} {n c P : Nat} {xs : List Int} (hx' : TB.rd w G ⟨a, n, c, xs⟩) (hP : 0 < P ∧ P ≤ 1000) (hn : n ≤ 1000000) :
    CallV Tryz.prog 134 #[.slice a n c, .int .i64 (P : Int)] w [.one .sl] fun r w' => ∃ L : List (SlP Int), TBB.rd w' (fun k => G k ∨ w.heap.size ≤ k) ⟨r.1.a, r.1.n, r.1.c, L⟩ ∧ L.map (·.l) = cutL xs P ∧ Ext w w' := by
  apply ref13_cut.vc
  unfold ref13_cut.P
  have hx : Ints w .u8 a n c xs := Ty.ints hx'
  have hl := hx.len
  have hcap := hx.cap
  have hdiv : Int.tdiv (n : Int) (P : Int) = ((n / P : Nat) : Int) := by rw [Int.tdiv_eq_ediv_of_nonneg (by omega)]; exact (Int.natCast_ediv n P).symm
  simp only [hdiv]
  have hzn : n / P ≤ n := Nat.div_le_self n P
  have hmul : P * (n / P) ≤ n := Nat.mul_div_le n P
  generalize hz : n / P = z at *
  have S := Sep.start NoB w
  refine S.newB fun b1 w1 S f1 _ => ?_
  have S := S.asOwn (sz := 1) (n := 0) rfl (by omega) oneAll.nil
  refine ⟨by omega, Rng.i64 (by omega) (by omega), ?_⟩
  refine Loop1 (fun (v : SlV × Int × Unit) w' => ∃ (i : Nat) (L : List (SlP Int)), v.2.1 = (i : Int) ∧ i ≤ P ∧ v.1.n = i ∧ L.map (·.l) = (cutL xs P).take i ∧ (∀ y ∈ L, TB.rd w G y) ∧ Sep NoB w w' [OwnA 51 1 v.1.a v.1.n v.1.c (L.map slV)]) (fun (v : SlV × Int × Unit) _ => ((P : Int) - v.2.1).toNat) ⟨0, [], rfl, by omega, rfl, rfl, fun y hy => (List.not_mem_nil hy).elim, S⟩ ?_
  rintro ⟨⟨va, vn, vc⟩, (v : Int), ⟨⟩⟩ w4 ⟨i, L, hv, hi, hvn, hL, hrd, S⟩
  dsimp only at hv hvn S ⊢
  subst hv
  subst hvn
  refine cond_d (fun hlt => ?_) (fun hge => ?_)
  · have m1 : (vn + 1) * z ≤ P * z := Nat.mul_le_mul_right _ (by omega)
    have m2 : (vn + 1) * z = vn * z + z := by rw [Nat.add_mul, Nat.one_mul]
    have v1 : (vn : Int) * (z : Int) = ((vn * z : Nat) : Int) := by push_cast; rfl
    have v2 : (vn : Int) * (z : Int) + (z : Int) = ((vn * z + z : Nat) : Int) := by push_cast; rfl
    refine ⟨by rw [v1]; exact Rng.i64 (by omega) (by omega), by rw [v1]; exact Rng.i64 (by omega) (by omega), by rw [v2]; exact Rng.i64 (by omega) (by omega), ⟨by rw [v1]; omega, by rw [v2, v1]; omega, by rw [v2]; omega⟩, ?_⟩
    intro a6 ha6
    rw [v1, Int.toNat_natCast] at ha6
    rw [v2, v1, Int.toNat_natCast, Int.toNat_natCast]
    have hsub := TB_sub hx' (l := vn * z) (hh := vn * z + z) (m := c) (by omega) (by omega) (by omega) ha6
    have hel : (xs.drop (vn * z)).take (vn * z + z - vn * z) = (xs.drop (vn * z)).take z := by rw [Nat.add_sub_cancel_left]
    rw [hel] at hsub
    refine S.newB fun b7 w5 S f5 _ => ?_
    refine AppS.of (news := [slV ⟨a6, vn * z + z - vn * z, c - vn * z, (xs.drop (vn * z)).take z⟩]) rfl (.inr ⟨_, rfl, S.cells 0 rfl⟩) ?_
    refine S.ap1 (by rfl) (fun u hu => by rw [List.mem_singleton.1 hu]; rfl) (by omega) (by omega) fun a9 c11 w6 S f6 => ?_
    refine ⟨Rng.i64 (by omega) (by omega), ⟨vn + 1, L ++ [⟨a6, vn * z + z - vn * z, c - vn * z, (xs.drop (vn * z)).take z⟩], by push_cast; rfl, by omega, rfl, ?_, fun y hy => ?_, by rw [List.map_append]; exact S.tail⟩, by omega⟩
    · rw [List.map_append, hL, List.take_add_one]
      have : (cutL xs P)[vn]? = some ((xs.drop (vn * z)).take z) := by unfold cutL; rw [List.getElem?_map, List.getElem?_range (by omega), hl, hz]; rfl
      rw [this]
      rfl
    · rcases List.mem_append.1 hy with h | h
      · exact hrd y h
      · rw [List.mem_singleton.1 h]
        exact hsub
  · have : vn = P := by omega
    subst this
    obtain ⟨F1, h1, h2⟩ := S.get (i := 0) rfl
    rw [← flat_sl] at h1
    refine ⟨L, own_rdF (t := TB) h1 (by decide) (fun k hk => .inr ((h2 k hk).1.resolve_left fun x => x)) fun y hy => TB.rd_mono (fun k hk _ => .inl hk) (Ty.rd_ext S.ext _ (hrd y hy)), ?_, S.ext⟩
    rw [hL, List.take_of_length_le (by simp [cutL])]
theorem blank_c {w : World} {g : Geo} (hR : Right g) : CallV Tryz.prog 65 #[g.val] w [.agg [.sl, .sl, .int .i64, .bool, .int .i64]] fun r w' => ∃ x : TBd.T, r.1 = bdT x ∧ Sep NoB w w' [RdT TBd x] ∧ bdOf x = blankB g := by
  apply ref13_blank.vc
  unfold ref13_blank.P
  have hs := hR.sec
  have hK := hR.1
  unfold Kept at hK
  have S := Sep.start NoB w
  refine S.newB fun b1 w1 S f1 _ => ?_
  refine S.newB fun b3 w3 S f3 _ => ?_
  refine S.newB fun b5 w5 S f5 _ => ?_
  refine S.st0 (by rfl) fun w6 S f6 => ?_
  have S := ((S.nilL.nilOwn 51 1).nilOwn 3 1).sel [3, 1, 1, 0, 0, 0] rfl
  obtain ⟨P, hP, hP'⟩ : ∃ P : Nat, g.p = (P : Int) ∧ g.p.toNat = P := ⟨g.p.toNat, by omega, rfl⟩
  refine Loop1 (fun (v : Int × Unit) w' => ∃ (i : Nat) (a1 a2 : Option Addr) (c1 c2 : Nat) (L : List (SlP Int)), v.1 = (i : Int) ∧ i ≤ P ∧ L.map (·.l) = List.replicate i (List.replicate (szP g) 255) ∧ Sep NoB w w' [BoxA b5 133 [.slice a1 i c1, .slice a2 i c2, .int .i64 (-1), .bool false, .int .i64 0], OwnA 51 1 a1 i c1 (L.map slV), RdL L, OwnA 3 1 a2 i c2 (iv (List.replicate i 0)),
      BoxA b3 133 [.slice none 0 0, .slice none 0 0, .int .i64 0, .bool false, .int .i64 0], BoxA b1 23 g.vs]) (fun (v : Int × Unit) _ => ((P : Int) - v.1).toNat) ⟨0, none, none, 0, 0, [], rfl, by omega, rfl, S⟩ ?_
  rintro ⟨(z : Int), ⟨⟩⟩ w7 ⟨i, a1, a2, c1, c2, L, hz, hi, hL, S⟩
  dsimp only at hz ⊢
  subst hz
  refine S.ld5 (j := 1) rfl rfl ?_
  rw [hP]
  refine cond_d (fun hlt => ?_) (fun hge => ?_)
  case refine_2 =>
    have : i = P := by omega
    subst this
    refine S.la0 rfl (S.st4 (by rfl) fun w8 S f8 => S.la4 rfl ?_)
    have hX := S.ext
    have r1 : Rng .i64 (-1) := Rng.i64 (by decide) (by decide)
    have r0 : Rng .i64 0 := Rng.i64 (by decide) (by decide)
    refine ⟨(⟨a1, i, c1, L⟩, ⟨a2, i, c2, List.replicate i 0⟩, -1, false, 0, ()), rfl, ?_, ?_⟩
    · have SA := (S.sel [1, 1, 1] rfl).conv2 (R' := RdT TBB ⟨a1, i, c1, L⟩) fun F1 F2 h1 h2 _ => by
        rw [← flat_sl] at h1
        exact own_rdF (t := TB) h1 (by decide) (fun k hk => .inl hk) fun y hy => TB.rd_mono (fun k hk _ => .inr hk) (h2 y hy)
      refine SA.conv2 (R' := RdT TBd (⟨a1, i, c1, L⟩, ⟨a2, i, c2, List.replicate i 0⟩, -1, false, 0, ())) fun F1 F2 h1 h2 _ => ⟨TBB.rd_mono (fun k hk _ => .inl hk) h1, ?_, r1, trivial, r0, trivial⟩
      rw [iv, ← flat_ints] at h2
      exact own_rdF (t := .int .i64) h2 (by decide) (fun k hk => .inr hk) fun y hy => by rw [(List.mem_replicate.1 hy).2]; exact r0
    · unfold bdOf blankB
      dsimp only
      rw [hL, hP']
  refine ⟨fun (_ : Unit) w' => ∃ (a1 : Option Addr) (c1 : Nat) (L : List (SlP Int)), L.map (·.l) = List.replicate (i + 1) (List.replicate (szP g) 255) ∧ Sep NoB w w' [BoxA b5 133 [.slice a1 (i + 1) c1, .slice a2 i c2, .int .i64 (-1), .bool false, .int .i64 0], OwnA 51 1 a1 (i + 1) c1 (L.map slV), RdL L, OwnA 3 1 a2 i c2 (iv (List.replicate i 0)),
      BoxA b3 133 [.slice none 0 0, .slice none 0 0, .int .i64 0, .bool false, .int .i64 0], BoxA b1 23 g.vs], ?_, ?_⟩
  · rintro ⟨⟩ w14 ⟨a1', c1', L', hL', S⟩
    refine S.ld0 (j := 1) rfl rfl ?_
    refine S.newB fun b16 w17 S f17 _ => ?_
    dsimp only
    refine AppS.of (news := [.int .i64 0]) rfl (.inr ⟨_, rfl, S.cells 0 rfl⟩) ?_
    refine S.ap4 (by rfl) (fun u hu => by rw [List.mem_singleton.1 hu]; rfl) (by omega) (by omega) fun a18 c20 w21 S f21 => ?_
    refine S.su1 (j := 1) (by rfl) fun w23 S f23 => ?_
    refine ⟨Rng.i64 (by omega) (by omega), ⟨i + 1, a1', a18, c1', c20, L', by push_cast; rfl, by omega, hL', ?_⟩, by omega⟩
    have e : iv (List.replicate (i + 1) 0) = iv (List.replicate i 0) ++ [Value.int .i64 0] := by rw [List.replicate_succ', iv, List.map_append]; rfl
    rw [e]
    exact S.tail
  · have hne := S.ne 0 5 (by decide) rfl rfl
    have hno := S.neO 5 1 (by decide) rfl rfl
    refine S.regX (fun k => k = b5 ∨ ∃ q : Addr, a1 = some q ∧ k = q.block) fun D hD hkeep S T => ?_
    have k0 := hkeep _ (Fr.refl _ _)
    refine ⟨hD _ S.bl5 (fun h => h.elim (fun h => hne h.symm) fun ⟨q, hq, h⟩ => hno q hq h), S.ld5 (j := 2) rfl rfl ⟨Rng.i64 (by omega) (by omega), ?_⟩⟩
    have hsz : (max 0 (min 65536 (g.s + 88))).toNat = szP g := by
      have : max 0 (min 65536 (g.s + 88)) = g.s + 88 := by omega
      rw [this]
    have fin : ∀ {w' : World} {bb : Nat} {a : Option Addr} {n c : Nat}, Sep NoB w7.drew w' [BoxA bb 51 [.slice a n c], OwnA 5 1 a n c ((List.replicate (szP g) 255).map (Value.int .u8))] →
        AppS w' (some ⟨bb, 0, none⟩) 1 1 fun ns => AppV w' 51 1 24 a1 i c1 ns 1 fun a31 n32 c33 w34 => KeepOn D w7.drew w34 ∧ StoreV w34 ⟨b5, 0, none⟩ [.slice a31 n32 c33] fun w36 => KeepOn D w7.drew w36 ∧
          ∃ (a1 : Option Addr) (c1 : Nat) (L : List (SlP Int)), L.map (·.l) = List.replicate (i + 1) (List.replicate (szP g) 255) ∧ Sep NoB w w36 [BoxA b5 133 [.slice a1 (i + 1) c1, .slice a2 i c2, .int .i64 (-1), .bool false, .int .i64 0], OwnA 51 1 a1 (i + 1) c1 (L.map slV), RdL L, OwnA 3 1 a2 i c2 (iv (List.replicate i 0)),
            BoxA b3 133 [.slice none 0 0, .slice none 0 0, .int .i64 0, .bool false, .int .i64 0], BoxA b1 23 g.vs] := by
      intro w' bb a n c T
      have S := S.frame0 T
      dsimp only [List.cons_append, List.nil_append] at S
      refine AppS.of (news := [slV ⟨a, n, c, List.replicate (szP g) 255⟩]) rfl (.inr ⟨_, rfl, S.cells 0 rfl⟩) ?_
      refine S.ap3 (by rfl) (fun u hu => by rw [List.mem_singleton.1 hu]; rfl) (by omega) (by omega) fun a13 c13 w13 S f13 => ?_
      have g13 : Fr (fun k => k = b5 ∨ ∃ q : Addr, a1 = some q ∧ k = q.block) w7.drew w13 := T.fr.any.trans (f13.mono fun k hk => .inr hk)
      refine ⟨hkeep _ g13, S.su2 (j := 0) (by rfl) fun w14 S f14 => ⟨hkeep _ (g13.trans (f14.mono fun k hk => .inl hk)), a13, c13, L ++ [⟨a, n, c, List.replicate (szP g) 255⟩], ?_, ?_⟩⟩
      · rw [List.map_append, hL, List.replicate_succ']; rfl
      · have S := ((S.sel [1, 3, 1, 1, 1, 1, 1] rfl).addL (Byt.replicate (by decide) (by decide) _)).sel [1, 1, 0, 0, 0, 0] rfl
        rw [List.map_append]
        exact S
    refine ⟨?_, ?_⟩
    · refine S.ld0 (j := 0) rfl rfl ⟨k0, ?_⟩
      refine (rFill_c (x := 255) (n := g.s + 88)).mono ?_
      rintro ⟨⟨ra, rn, rc⟩, ⟨⟩⟩ w8 h8
      rw [hsz] at h8
      have T := T.res h8
      dsimp only at T ⊢
      exact ⟨hkeep _ T.fr.any, T.newB fun b29 w9 T f9 _ => ⟨hkeep _ T.fr.any, fin T⟩⟩
    · refine (rFill_c (x := 255) (n := g.s + 88)).mono ?_
      rintro ⟨⟨ra, rn, rc⟩, ⟨⟩⟩ w8 h8
      rw [hsz] at h8
      have T := T.res h8
      dsimp only at T ⊢
      have k8 := hkeep _ T.fr.any
      refine ⟨k8, ?_, ?_⟩
      · refine (S.stepE T.ext).ld0 (j := 0) rfl rfl ⟨k8, ?_⟩
        exact T.newB fun b29 w9 T f9 _ => ⟨hkeep _ T.fr.any, fin T⟩
      · refine T.newB fun b29 w9 T f9 _ => ⟨hkeep _ T.fr.any, ?_⟩
        have k9 := hkeep _ T.fr.any
        refine (S.stepE T.ext).ld0 (j := 0) rfl rfl ⟨k9, ?_⟩
        dsimp only
        exact fin T
end Go.Proofs.YtlpeoaphdmfjdaaGreat.Vc
/-! The contracts of layer 13: the document's array, new, and all its bytes. -/
namespace Go.Proofs.YtlpeoaphdmfjdaaGreat.Vc
open Go Go.Eng Go.RowKit
theorem bd_page_len {g : Geo} {m : Nat} {x : TBd.T} (h : BOk g m (bdOf x)) : ∀ q ∈ x.1.l, q.l.length = szP g := fun q hq => (h.pb q.l (List.mem_map.2 ⟨q, hq, rfl⟩)).1
theorem bd_len {g : Geo} {m : Nat} {x : TBd.T} (h : BOk g m (bdOf x)) : x.1.l.length = g.p.toNat := by
  have h2 : (x.1.l.map (·.l)).length = g.p.toNat := h.pl
  rwa [List.length_map] at h2
theorem rImage_c {H : Nat → Prop} {w : World} {B : SlP TBd.T} {f : SlP TF.T} {C : CD} (h : RefR H w B f C) (hC : COk C) :
    CallV Tryz.prog 29 #[chVal B f C] w [.one .sl] fun r w' => Res w w' r.1 (imgC C) := by
  apply ref13_Image.vc
  unfold ref13_Image.P
  obtain ⟨⟨n1, n2⟩, ⟨n3, n4⟩, ⟨n5, n6⟩, n7, n8⟩ := hC.num
  have hBn := h.len
  rw [hC.bl] at hBn
  have S := Sep.start NoB w
  refine S.newB fun b1 w1 S f1 _ => ?_
  refine S.newB fun b3 w3 S f3 _ => ?_
  have S := S.asOwn (sz := 1) (n := 0) rfl (by omega) oneAll.nil
  refine Loop1 (fun (v : SlV × Int × Unit) w' => ∃ i : Nat, v.2.1 = (i : Int) ∧ i ≤ B.n ∧ v.1.n = i * bszC C ∧ Sep NoB w w' [OwnA 5 1 v.1.a v.1.n v.1.c (((C.bs.take i).flatMap fun x => x.pg.flatten).map (Value.int .u8)), BoxA b1 34 (chV B f C)]) (fun (v : SlV × Int × Unit) _ => ((B.n : Int) - v.2.1).toNat) ⟨0, rfl, by omega, by simp, S⟩ ?_
  rintro ⟨⟨a, n, c⟩, (v : Int), ⟨⟩⟩ w4 ⟨i, hv, hi, hn, S⟩
  dsimp only at hv hn S ⊢
  subst hv
  subst hn
  refine S.ld1 (j := 6) rfl rfl ?_
  dsimp only
  refine cond_d (fun hlt => ?_) (fun hge => ?_)
  · refine S.ld1 (j := 6) rfl rfl ?_
    obtain ⟨q, x, hq, hc, hr, hx, hbd, -⟩ := (h.ext S.ext).nth (i := (i : Int)) (by omega) hlt
    have hb := (hC.blk (bl := (i : Int)) (by omega)).2
    have hbs := (hC.blk (bl := (i : Int)) (by omega)).1
    rw [← hbd] at hb hbs
    refine ⟨⟨by omega, hlt⟩, q, hq, bdT x, hc, ?_⟩
    refine (joined_c (g := C.g) (m := 0) (z := szP C.g) hr (by rw [bd_len hb]; omega) (by omega) (bd_page_len hb)).mono ?_
    rintro ⟨⟨ra, rn, rc⟩, ⟨⟩⟩ w5 h5
    have hlen := h5.ints.len
    have hall : ((x.1.l.map (·.l)).flatten).length = bszC C := hb.all.1
    rw [hall] at hlen
    dsimp only at hlen h5 ⊢
    have S := S.stepE h5.ext
    have m2 : bszC C ≤ 20 * 216 := Nat.mul_le_mul (by omega) (by omega)
    have m1 : i * bszC C ≤ 16 * (20 * 216) := Nat.mul_le_mul (by omega) m2
    refine S.ab0 h5.ints (by dsimp only; omega) fun a' c' w6 S f6 => ⟨Rng.i64 (by omega) (by omega), ⟨i + 1, by push_cast; rfl, by omega, by show i * bszC C + rn = _; rw [Nat.add_mul]; omega, ?_⟩, by omega⟩
    have e : ((C.bs.take (i + 1)).flatMap fun x => x.pg.flatten) = ((C.bs.take i).flatMap fun x => x.pg.flatten) ++ (x.1.l.map (·.l)).flatten := by
      rw [Int.toNat_natCast] at hbs
      rw [List.take_add_one, hbs, List.flatMap_append]
      simp [bdOf]
    rw [e]
    exact S
  · have hiB : i = B.n := by omega
    subst hiB
    rw [List.take_of_length_le (by rw [hC.bl]; omega)] at S
    exact S.out
def RdLT (t : Ty) (L : List t.T) : Asr := ⟨fun w F => ∀ x ∈ L, t.rd w F x, fun h k x hx => t.rd_kp (fun i hi _ => k i hi) (h x hx)⟩
theorem addT {t : Ty} {x : t.T} {L : List t.T} {E : Nat → Prop} {w0 w : World} {Rs : List Asr} (S : Sep E w0 w (RdT t x :: RdLT t L :: Rs)) : Sep E w0 w (RdLT t (L ++ [x]) :: Rs) :=
  S.conv2 fun F1 F2 h1 h2 _ y hy => by
    rcases List.mem_append.1 hy with h | h
    · exact t.rd_mono (fun k hk _ => .inr hk) (h2 y h)
    · rw [List.mem_singleton.1 h]; exact t.rd_mono (fun k hk _ => .inl hk) h1
theorem rNew13_c {w : World} {g : Geo} {f : SlP TF.T} (hR : Right g) (hf : LF.rd w All f) : CallV Tryz.prog 22 #[g.val, .slice f.a f.n f.c] w [.agg [.int .i64, .int .i64, .int .i64, .int .i64, .int .i64, .int .i64, .sl, .sl, .bool, .int .i64]] fun r w' =>
    ∃ B : SlP TBd.T, r.1 = chT B f (newC g (fds f)) ∧ RefR (fun k => w.heap.size ≤ k) w' B f (newC g (fds f)) ∧ Ext w w' := by
  apply ref13_New.vc
  unfold ref13_New.P
  have hK := hR.1
  unfold Kept at hK
  obtain ⟨N, hN, hN'⟩ : ∃ N : Nat, g.b = (N : Int) ∧ g.b.toNat = N := ⟨g.b.toNat, by omega, rfl⟩
  have S := Sep.start NoB w
  refine S.newB fun b1 w1 S f1 _ => ?_
  refine S.newB fun b3 w3 S f3 _ => ?_
  refine S.la1 rfl ?_
  refine S.newB fun b6 w6 S f6 _ => ?_
  refine S.st0 (by rfl) fun w7 S f7 => ?_
  have S : Sep NoB w w7 (RdLT TBd [] :: _) := S.push (F := NoB) (Fr.refl _ _) (fun x hx => (List.not_mem_nil hx).elim) fun _ x => x.elim
  have S := (S.nilOwn 133 5).sel [2, 0, 0, 0, 0] rfl
  refine Loop1 (fun (v : Int × Unit) w' => ∃ (i : Nat) (a : Option Addr) (c : Nat) (L : List TBd.T), v.1 = (i : Int) ∧ i ≤ N ∧ L.map bdOf = List.replicate i (blankB g) ∧ Sep NoB w w' [BoxA b6 34 [.int .i64 g.b, .int .i64 g.p, .int .i64 g.s, .int .i64 g.sp, .int .i64 g.wr, .int .i64 g.ro, .slice a i c, .slice f.a f.n f.c, .bool false, .int .i64 0],
      OwnA 133 5 a i c (L.flatMap TBd.vs), RdLT TBd L, BoxA b3 34 [.int .i64 0, .int .i64 0, .int .i64 0, .int .i64 0, .int .i64 0, .int .i64 0, .slice none 0 0, .slice none 0 0, .bool false, .int .i64 0], BoxA b1 23 g.vs]) (fun (v : Int × Unit) _ => ((N : Int) - v.1).toNat) ⟨0, none, 0, [], rfl, by omega, rfl, S⟩ ?_
  rintro ⟨(z : Int), ⟨⟩⟩ w8 ⟨i, a, c, L, hz, hi, hL, S⟩
  dsimp only at hz ⊢
  subst hz
  refine S.ld4 (j := 0) rfl rfl ?_
  refine cond_d (fun hlt => ?_) (fun hge => ?_)
  case refine_2 =>
    have hiN : i = N := by omega
    subst hiN
    refine S.la0 rfl (S.st3 (by rfl) fun w9 S f9 => S.la3 rfl ?_)
    have X := S.ext
    refine ⟨⟨a, i, c, L⟩, rfl, ⟨?_, ?_, Ty.rd_ext X _ hf, rfl⟩, X⟩
    · obtain ⟨F0, h0, h0'⟩ := S.get (i := 1) rfl
      refine own_rdF (t := TBd) h0 (by decide) (fun k hk => (h0' k hk).1.resolve_left fun x => x) fun y hy => ?_
      obtain ⟨F1, h1, h1'⟩ := S.get (i := 2) rfl
      exact TBd.rd_mono (fun k hk _ => (h1' k hk).1.resolve_left fun x => x) (h1 y hy)
    · show L.map bdOf = _
      rw [hL]
      unfold newC
      rw [hN']
  have hne := S.ne 0 4 (by decide) rfl rfl
  have hno := S.neO 4 1 (by decide) rfl rfl
  refine S.regX (fun k => k = b6 ∨ ∃ q : Addr, a = some q ∧ k = q.block) fun D hD hkeep S T => ?_
  have k0 := hkeep _ (Fr.refl _ _)
  have fin : ∀ {w' : World} {bb : Nat} {x : TBd.T}, bdOf x = blankB g → Sep NoB w8.drew w' [BoxA bb 133 (bdV x), RdT TBd x] →
      AppS w' (some ⟨bb, 0, none⟩) 1 5 fun ns => AppV w' 133 5 72 a i c ns 1 fun a20 n21 c22 w23 => KeepOn D w8.drew w23 ∧ StoreV w23 ⟨b6, 6, none⟩ [.slice a20 n21 c22] fun w25 => KeepOn D w8.drew w25 ∧ Rng .i64 ((i : Int) + 1) ∧
        (∃ (j : Nat) (a : Option Addr) (c : Nat) (L : List TBd.T), (i : Int) + 1 = (j : Int) ∧ j ≤ N ∧ L.map bdOf = List.replicate j (blankB g) ∧ Sep NoB w w25 [BoxA b6 34 [.int .i64 g.b, .int .i64 g.p, .int .i64 g.s, .int .i64 g.sp, .int .i64 g.wr, .int .i64 g.ro, .slice a j c, .slice f.a f.n f.c, .bool false, .int .i64 0],
          OwnA 133 5 a j c (L.flatMap TBd.vs), RdLT TBd L, BoxA b3 34 [.int .i64 0, .int .i64 0, .int .i64 0, .int .i64 0, .int .i64 0, .int .i64 0, .slice none 0 0, .slice none 0 0, .bool false, .int .i64 0], BoxA b1 23 g.vs]) ∧ ((N : Int) - ((i : Int) + 1)).toNat < ((N : Int) - (i : Int)).toNat := by
    intro w' bb x hbx T
    have S := S.frame0 T
    dsimp only [List.cons_append, List.nil_append] at S
    refine AppS.of (news := TBd.vs x) rfl (.inr ⟨_, rfl, S.cells 0 rfl⟩) ?_
    refine S.ap3 (by rfl) (vs_one_ty TBd x) (by omega) (by omega) fun a13 c13 w13 S f13 => ?_
    have g13 : Fr (fun k => k = b6 ∨ ∃ q : Addr, a = some q ∧ k = q.block) w8.drew w13 := T.fr.any.trans (f13.mono fun k hk => .inr hk)
    refine ⟨hkeep _ g13, S.su2 (j := 6) (by rfl) fun w14 S f14 => ⟨hkeep _ (g13.trans (f14.mono fun k hk => .inl hk)), Rng.i64 (by omega) (by omega), ⟨i + 1, a13, c13, L ++ [x], by push_cast; rfl, by omega, by rw [List.map_append, hL, List.replicate_succ', ← hbx]; rfl, ?_⟩, by omega⟩⟩
    have S := (addT (S.sel [1, 3, 1, 1, 1, 1] rfl)).sel [1, 1, 0, 0, 0] rfl
    rw [List.flatMap_append, List.flatMap_singleton]
    exact S
  refine ⟨hD _ S.bl4 (fun h => h.elim (fun h => hne h.symm) fun ⟨q, hq, h⟩ => hno q hq h), S.la4 rfl ⟨?_, ?_⟩⟩
  · refine S.ld0 (j := 6) rfl rfl ⟨k0, ?_⟩
    refine (blank_c (g := g) hR).mono ?_
    rintro ⟨_, ⟨⟩⟩ w9 ⟨x, hx, T9, hbx⟩
    dsimp only at hx
    subst hx
    have T := T.frame0 T9
    dsimp only [List.cons_append, List.nil_append] at T
    exact ⟨hkeep _ T.fr.any, T.newB fun b29 w10 T f10 _ => ⟨hkeep _ T.fr.any, fin hbx T⟩⟩
  · refine (blank_c (g := g) hR).mono ?_
    rintro ⟨_, ⟨⟩⟩ w9 ⟨x, hx, T9, hbx⟩
    dsimp only at hx
    subst hx
    have T := T.frame0 T9
    dsimp only [List.cons_append, List.nil_append] at T
    have k8 := hkeep _ T.fr.any
    refine ⟨k8, ?_, ?_⟩
    · refine (S.stepE T.ext).ld0 (j := 6) rfl rfl ⟨k8, ?_⟩
      exact T.newB fun b29 w10 T f10 _ => ⟨hkeep _ T.fr.any, fin hbx T⟩
    · refine T.newB fun b29 w10 T f10 _ => ⟨hkeep _ T.fr.any, ?_⟩
      have k9 := hkeep _ T.fr.any
      refine (S.stepE T.ext).ld0 (j := 6) rfl rfl ⟨k9, ?_⟩
      dsimp only
      exact fin hbx T
end Go.Proofs.YtlpeoaphdmfjdaaGreat.Vc
/-! The contracts of layer 13: the document's array, a block erased, or scrubbed. -/
namespace Go.Proofs.YtlpeoaphdmfjdaaGreat.Vc
open Go Go.Eng Go.RowKit
theorem _root_.Go.Eng.Sep.off {E : Nat → Prop} {w0 w : World} {Rs : List Asr} (S : Sep E w0 w Rs) (i : Nat) {R : Asr} (hi : Rs[i]? = some R) :
    ∃ F, R.p w F ∧ (∀ k, F k → (E k ∨ w0.heap.size ≤ k) ∧ k < w.heap.size) ∧ ∀ (j b : Nat) (e : TypeId) (vs : List Value), j ≠ i → Rs[j]? = some (BoxA b e vs) → ¬ F b := by
  obtain ⟨F, h, hF⟩ := S.ex
  obtain ⟨F1, F2, h1, h2, h3, h4, h5⟩ := StarP.perm (perm_front hi) h
  refine ⟨F1, h1, fun k hk => hF k (h4 k hk), fun j b e vs hj hjb hb => ?_⟩
  have : (Rs.eraseIdx i)[if j < i then j else j - 1]? = some (BoxA b e vs) := by
    split
    · rw [List.getElem?_eraseIdx_of_lt (by omega)]; exact hjb
    · rw [List.getElem?_eraseIdx_of_ge (by omega), show j - 1 + 1 = j by omega]; exact hjb
  obtain ⟨G, g1, g2⟩ := StarP.get this h2
  exact h3 b hb (g2 b g1.1)
theorem rd_keep {t : Ty} {w w' : World} {G X H : Nat → Prop} {x : t.T} (h : t.rd w G x) (f : Fr X w w') (hG : ∀ k, G k → H k) (hd : ∀ k, G k → k < w.heap.size → ¬ X k) : t.rd w' H x :=
  t.rd_mono (fun k hk _ => hG k hk) (t.rd_kp (fun k hk hl => f.block k hl (hd k hk hl)) h)
section
variable {H : Nat → Prop} {w : World} {B : SlP TBd.T} {f : SlP TF.T} {C : CD}
abbrev SH10 : List SS := [.int .i64, .int .i64, .int .i64, .int .i64, .int .i64, .int .i64, .sl, .sl, .bool, .int .i64]
theorem rErase13_c {n : Int} (hH : ∀ k, w.heap.size ≤ k → H k) (h : RefR H w B f C) (hC : COk C) (ho : C.ops < 1000000) :
    CallV Tryz.prog 79 #[chVal B f C, .int .i64 n] w [.agg SH10, .one (.int .i64)] fun r w' => ∃ B' : SlP TBd.T, r.1 = chT B' f (eraC C n).1 ∧ r.2.1 = (eraC C n).2 ∧ RefR H w' B' f (eraC C n).1 ∧ Ext w w' := by
  apply ref13_Erase.vc
  unfold ref13_Erase.P
  obtain ⟨⟨n1, n2⟩, ⟨n3, n4⟩, ⟨n5, n6⟩, n7, n8⟩ := hC.num
  have hBn := h.len
  rw [hC.bl] at hBn
  have S := Sep.start NoB w
  refine S.newB fun b1 w1 S f1 _ => ?_
  refine S.newB fun b3 w3 S f3 _ => ?_
  have no : ∀ {w' : World} {e : Int}, mayC C n = e → e ≠ 0 → Sep NoB w w' [BoxA b3 34 [.int .i64 0, .int .i64 0, .int .i64 0, .int .i64 0, .int .i64 0, .int .i64 0, .slice none 0 0, .slice none 0 0, .bool false, .int .i64 0], BoxA b1 34 (chV B f C)] →
      LoadA w' ⟨b1, 0, none⟩ SH10 fun x => StoreV w' ⟨b3, 0, none⟩ [.int .i64 x.1, .int .i64 x.2.1, .int .i64 x.2.2.1, .int .i64 x.2.2.2.1, .int .i64 x.2.2.2.2.1, .int .i64 x.2.2.2.2.2.1, .slice x.2.2.2.2.2.2.1.a x.2.2.2.2.2.2.1.n x.2.2.2.2.2.2.1.c, .slice x.2.2.2.2.2.2.2.1.a x.2.2.2.2.2.2.2.1.n x.2.2.2.2.2.2.2.1.c, .bool x.2.2.2.2.2.2.2.2.1, .int .i64 x.2.2.2.2.2.2.2.2.2.1] fun w9 =>
        LoadA w9 ⟨b3, 0, none⟩ SH10 fun x => ∃ B' : SlP TBd.T, (x.1, x.2.1, x.2.2.1, x.2.2.2.1, x.2.2.2.2.1, x.2.2.2.2.2.1, x.2.2.2.2.2.2.1, x.2.2.2.2.2.2.2.1, x.2.2.2.2.2.2.2.2.1, x.2.2.2.2.2.2.2.2.2.1, ()) = chT B' f (eraC C n).1 ∧ e = (eraC C n).2 ∧ RefR H w9 B' f (eraC C n).1 ∧ Ext w w9 := fun he h0 S => by
    refine S.la1 rfl (S.st0 (by rfl) fun w9 S f9 => S.la0 rfl ?_)
    have X := S.ext
    unfold eraC
    rw [if_neg (by rw [he]; exact h0)]
    exact ⟨B, rfl, he.symm, h.ext X, X⟩
  refine S.ld1 (j := 8) rfl rfl (cond_of (fun hoff => no (e := 4) (by unfold mayC; rw [if_pos hoff]) (by decide) S) fun hoff => ?_)
  have hoff' : ¬ C.off = true := by rw [hoff]; decide
  refine cond_d (fun hn => no (e := 2) (by unfold mayC; rw [if_neg hoff', if_pos (by omega)]) (by decide) S) fun hn0 => ?_
  refine S.ld1 (j := 6) rfl rfl (cond_d (fun hn => no (e := 2) (by unfold mayC; rw [if_neg hoff', if_pos (by dsimp only at hn; omega)]) (by decide) S) fun hn1 => ?_)
  dsimp only at hn1
  have hn : 0 ≤ n ∧ n < C.g.b := by omega
  have hmay : mayC C n = 0 := by unfold mayC; rw [if_neg hoff', if_neg (fun k => k hn)]
  refine S.la1 rfl ?_
  refine (code_c (h.ext S.ext) hC).mono ?_
  rintro ⟨(e : Int), ⟨ma, mn, mc⟩, (cr : Bool), ⟨⟩⟩ w4 ⟨h4, h4', i4, x4⟩
  dsimp only at h4 h4' i4 ⊢
  subst h4; subst h4'
  have S := S.stepE x4
  refine S.ld1 (j := 6) rfl rfl ?_
  obtain ⟨q, x, hq, hc, hr, hx, hbd, -⟩ := (h.ext S.ext).nth (i := n) hn.1 (by omega)
  have hb := (hC.blk hn).2
  have her := hb.er
  refine ⟨⟨hn.1, by dsimp only; omega⟩, q, hq, bdT x, hc, ?_⟩
  refine S.newB fun b22 w5 S f5 _ => ?_
  refine S.st0 (by rfl) fun w6 S f6 => ?_
  have eer : (blkC C n).er = x.2.2.2.2.1 := by rw [← hbd]; rfl
  have hG : ∀ b, w.heap.size ≤ b → ∀ k, k < w.heap.size → k ≠ b := fun b hb k hk => by omega
  refine cond_eq (fun hc0 => ?_) (fun hc0 => ?_)
  · have hc0 : (codeC C).1 = 0 := hc0
    have hcr := (code_off C).1 hc0
    refine S.lb2 (o := 0) rfl ?_
    refine (blank_c (g := C.g) hC.g).mono ?_
    rintro ⟨_, ⟨⟩⟩ w7 ⟨y, hy, T7, hby⟩
    dsimp only at hy
    subst hy
    have S := S.frame0 T7
    dsimp only [List.cons_append, List.nil_append] at S
    refine S.newB fun b28 w8 S f8 _ => ?_
    refine S.st0 (by rfl) fun w9 S f9 => ?_
    refine S.ld2 (j := 4) rfl rfl ⟨Rng.i64 (by omega) (by omega), ?_⟩
    refine S.su0 (j := 4) (by rfl) fun w10 S f10 => ?_
    refine S.la4 rfl (S.la0 rfl ?_)
    dsimp only
    have X10 := S.ext
    have hb3' := S.bl3
    have rer : Rng .i64 (x.2.2.2.2.1 + 1) := Rng.i64 (by omega) (by omega)
    have hgen := S.off 1 rfl
    obtain ⟨Fy, hyr, hyF, hyo⟩ := hgen
    have hG1 : ∀ k, ((k < w.heap.size ∧ H k) ∨ Fy k) → k ≠ b3 := fun k hk => by
      rcases hk with hk | hk
      · have := (S.get (i := 3) rfl)
        obtain ⟨F3, h3, h3'⟩ := this
        intro e
        have := (h3' b3 h3.1).1
        rcases this with t | t
        · exact t
        · omega
      · intro e
        subst e
        exact hyo 3 _ _ _ (by decide) rfl hk
    have hx' : TBd.rd w10 (fun k => (k < w.heap.size ∧ H k) ∨ Fy k) (y.1, y.2.1, y.2.2.1, y.2.2.2.1, x.2.2.2.2.1 + 1, ()) := by
      have hy := TBd.rd_mono (G' := fun k => (k < w.heap.size ∧ H k) ∨ Fy k) (fun k hk _ => .inr hk) hyr
      exact ⟨hy.1, hy.2.1, hy.2.2.1, hy.2.2.2.1, rer, trivial⟩
    have hB' : (Ty.sl TBd).rd w10 (fun k => (k < w.heap.size ∧ H k) ∨ Fy k) B := Ty.rd_ext X10 _ ((Ty.sl TBd).rd_mono (fun k hk1 hk => .inl ⟨hk, hk1⟩) h.rb)
    refine (with_c (f := f) (C := C) (n := n) (x := (y.1, y.2.1, y.2.2.1, y.2.2.2.1, x.2.2.2.2.1 + 1, ())) hB' (by omega) (by omega) hx' (by omega)).mono ?_
    rintro ⟨_, ⟨⟩⟩ w11 ⟨B', hr', hrd', hl', x11⟩
    dsimp only at hr'
    subst hr'
    have S := S.stepE x11
    refine S.st3 (by rfl) fun w12 S f12 => S.la3 rfl ?_
    have X := S.ext
    have hC' : (eraC C n).1 = { C with bs := B'.l.map bdOf, ops := C.ops + 1 } := by
      unfold eraC
      rw [if_pos hmay]
      unfold eraX
      rw [if_pos hc0, hl', List.map_set, h.db, hcr.1, ← eer, ← hby]
      have : C.off = false := hoff
      rw [← this]
      rfl
    refine ⟨B', ?_, ?_, ⟨?_, ?_, Ty.rd_ext X _ h.rf, ?_⟩, X⟩
    · rw [hC']
    · unfold eraC; rw [if_pos hmay]
    · exact rd_keep hrd' f12 (fun k hk => by
        rcases hk with (hk | hk) | hk
        · exact hk.2
        · exact hH k ((hyF k hk).1.resolve_left fun x => x)
        · exact hH k (by have := X10.size; omega)) fun k hk hlt => by
        rcases hk with hk | hk
        · exact hG1 k hk
        · omega
    · rw [hC']
    · rw [hC']; exact h.df
  · have hc0 : ¬ (codeC C).1 = 0 := hc0
    have hne := S.ne 0 2 (by decide) rfl rfl
    have hN22 := S.bl0
    have hN3 := S.bl1
    have hN1 := S.bl2
    have hmem : x ∈ B.l := List.mem_of_getElem? hx
    have hrx : TBd.rd w (fun k => k < w.heap.size ∧ H k) x := TBd.rd_mono (fun k hk1 hk => ⟨hk, hk1⟩) (h.rb.2.2.2.2 x hmem)
    have hge : ∀ (i : Nat) (b : Nat) (e : TypeId) (vs : List Value), [BoxA b22 133 (bdV x), BoxA b3 34 [.int .i64 0, .int .i64 0, .int .i64 0, .int .i64 0, .int .i64 0, .int .i64 0, .slice none 0 0, .slice none 0 0, .bool false, .int .i64 0], BoxA b1 34 (chV B f C)][i]? = some (BoxA b e vs) → w.heap.size ≤ b := fun i b e vs hi => by
      obtain ⟨F3, h3, h3'⟩ := S.get hi
      exact (h3' b h3.1).1.resolve_left fun x => x
    have g22 := hge 0 _ _ _ rfl
    have g3 := hge 1 _ _ _ rfl
    have g1 := hge 2 _ _ _ rfl
    have X6 := S.ext
    refine S.regX (fun k => k = b22) fun D hD hkeep S T => ?_
    refine ⟨hD _ S.bl2 (fun e => hne e.symm), S.ld2 (j := 1) rfl rfl (S.la0 rfl ⟨hkeep _ (Fr.refl _ _), ?_⟩)⟩
    have hbx := hb
    rw [← hbd] at hbx
    have hallx : ((x.1.l.map (·.l)).flatten) = allC C n := by show (bdOf x).pg.flatten = _; rw [hbd]
    have hrx6 : TBd.rd w6.drew All x := TBd.rd_mono (fun _ _ _ => trivial) (Ty.rd_ext (X6.trans (Ext.drew _)) _ hrx)
    refine (joined_c (g := C.g) (m := 0) (z := szP C.g) hrx6 (by rw [bd_len hbx]; omega) (by omega) (bd_page_len hbx)).mono ?_
    rintro ⟨⟨ja, jn, jc⟩, ⟨⟩⟩ w7 h7
    rw [hallx] at h7
    have hall := hb.all
    have hjl := h7.ints.len
    rw [show (allC C n).length = bszC C from hall.1] at hjl
    have m2 : bszC C ≤ 20 * 216 := Nat.mul_le_mul (by omega) (by omega)
    dsimp only at hjl h7 ⊢
    refine ⟨hkeep _ (Fr.of h7.ext).any, ?_⟩
    have X47 : Ext w4 w7 := (Fr.ext (f5.trans' f6 fun k hk => .inr (by omega))).trans ((Ext.drew _).trans h7.ext)
    have hbm : Byt (codeC C).2.1 := by
      unfold codeC
      cases hat : atF C.pl (C.ops : Int) with
      | none => exact Byt.nil
      | some F => exact atF_byt hC hat
    refine (Erase_c h7.ints hall.2 (i4.ext X47) hbm (by dsimp only; omega)).mono ?_
    rintro ⟨⟨ea, en, ec⟩, ⟨⟩⟩ w8 h8
    have hel : turn (allC C n) (erF (allC C n) (codeC C).2.1) (8 * jn) = eraL (allC C n) (codeC C).2.1 := by unfold eraL; rw [show (allC C n).length = jn from by rw [← hjl]; exact hall.1]
    dsimp only at h8 ⊢
    rw [hel] at h8
    have hen := h8.ints.len
    have heL : (eraL (allC C n) (codeC C).2.1).length = bszC C := by unfold eraL; rw [turn_len]; exact hall.1
    rw [heL] at hen
    dsimp only at hen
    have x78 : Ext w6.drew w8 := h7.ext.trans h8.ext
    refine ⟨hkeep _ (Fr.of x78).any, ?_⟩
    have hbe : Byt (eraL (allC C n) (codeC C).2.1) := turn_byt hall.2 _ _
    have hcut := cut13_c (P := C.g.p.toNat) (res_rd h8 hbe) ⟨by omega, by omega⟩ (by dsimp only; omega)
    rw [show ((C.g.p.toNat : Nat) : Int) = C.g.p from by omega] at hcut
    refine hcut.mono ?_
    rintro ⟨⟨ca, cn, cc⟩, ⟨⟩⟩ w9 ⟨Lp, hLr, hLp, x9⟩
    dsimp only at hLr ⊢
    have x69 := x78.trans x9
    refine ⟨hkeep _ (Fr.of x69).any, ?_⟩
    have S := S.stepE x69
    refine S.su0 (j := 0) (by rfl) fun w10 S f10 => ⟨hkeep _ ((Fr.of x69).any.trans f10), ?_⟩
    have rer : Rng .i64 (x.2.2.2.2.1 + 1) := Rng.i64 (by omega) (by omega)
    refine S.ld0 (j := 4) rfl rfl ⟨rer, ?_⟩
    refine S.su0 (j := 4) (by rfl) fun w11 S f11 => ?_
    refine S.la2 rfl (S.la0 rfl ?_)
    dsimp only
    have X11 := S.ext
    have s78 : w6.heap.size ≤ w7.heap.size := h7.ext.size
    have s88 : w7.heap.size ≤ w8.heap.size := h8.ext.size
    have hx' : TBd.rd w11 (fun k => (k < w.heap.size ∧ H k) ∨ w6.heap.size ≤ k) (⟨ca, cn, cc, Lp⟩, x.2.1, x.2.2.1, x.2.2.2.1, x.2.2.2.2.1 + 1, ()) := by
      have h1 := Ty.rd_ext X11 _ hrx
      refine ⟨?_, TI.rd_mono (fun k hk _ => .inl hk) h1.2.1, h1.2.2.1, h1.2.2.2.1, rer, trivial⟩
      have g : Fr (fun k => k = b22) w9 w11 := f10.trans f11
      have h2 := TBB.rd_kp (w' := w11) (fun k hk hl => g.block k hl (by rcases hk with hk | hk <;> omega)) hLr
      exact TBB.rd_mono (fun k hk _ => .inr (by rcases hk with hk | hk <;> omega)) h2
    have hB' : (Ty.sl TBd).rd w11 (fun k => (k < w.heap.size ∧ H k) ∨ w6.heap.size ≤ k) B := Ty.rd_ext X11 _ ((Ty.sl TBd).rd_mono (fun k hk1 hk => .inl ⟨hk, hk1⟩) h.rb)
    have hN := S.bl2
    have hN3' := S.bl1
    refine (with_c (f := f) (C := C) (n := n) (x := (⟨ca, cn, cc, Lp⟩, x.2.1, x.2.2.1, x.2.2.2.1, x.2.2.2.2.1 + 1, ())) hB' (by omega) (by omega) hx' (by omega)).mono ?_
    rintro ⟨_, ⟨⟩⟩ w12 ⟨B', hr', hrd', hl', x12⟩
    dsimp only at hr'
    subst hr'
    have S := S.stepE x12
    refine S.st2 (by rfl) fun w13 S f13 => S.su2 (j := 8) (by rfl) fun w14 S f14 => S.la2 rfl (S.st1 (by rfl) fun w15 S f15 => S.la1 rfl ?_)
    have X := S.ext
    have hbd2 : bdOf (⟨ca, cn, cc, Lp⟩, x.2.1, x.2.2.1, x.2.2.2.1, x.2.2.2.2.1 + 1, ()) = { blkC C n with pg := cutL (eraL (blkC C n).pg.flatten (codeC C).2.1) C.g.p.toNat, er := (blkC C n).er + 1 } := by
      unfold bdOf
      dsimp only
      rw [hLp, ← hbd]
      unfold bdOf
      dsimp only
      rw [hallx]
    have hC' : (eraC C n).1 = { C with bs := B'.l.map bdOf, off := (codeC C).2.2, ops := C.ops + 1 } := by
      unfold eraC
      rw [if_pos hmay]
      unfold eraX
      rw [if_neg hc0, hl', List.map_set, h.db, hbd2]
    refine ⟨B', ?_, ?_, ⟨?_, ?_, Ty.rd_ext X _ h.rf, ?_⟩, X⟩
    · rw [hC']
    · unfold eraC; rw [if_pos hmay]
    · have g : Fr (fun k => k = b1 ∨ k = b3) w12 w15 := ((f13.mono fun k hk => .inl hk).trans (f14.mono fun k hk => .inl hk)).trans (f15.mono fun k hk => .inr hk)
      exact rd_keep hrd' g (fun k hk => by
        have := X6.size
        have := X11.size
        rcases hk with (hk | hk) | hk
        · exact hk.2
        · exact hH k (by omega)
        · exact hH k (by omega)) fun k hk hlt => by
        rcases hk with (hk | hk) | hk <;> omega
    · rw [hC']
    · rw [hC']; exact h.df
end
end Go.Proofs.YtlpeoaphdmfjdaaGreat.Vc
/-! The contracts of layer 13: the document's array, a block scrubbed. -/
namespace Go.Proofs.YtlpeoaphdmfjdaaGreat.Vc
open Go Go.Eng Go.RowKit
section
variable {H : Nat → Prop} {w : World} {B : SlP TBd.T} {f : SlP TF.T} {C : CD}
theorem rScrub13_c {n : Int} (hH : ∀ k, w.heap.size ≤ k → H k) (h : RefR H w B f C) (hC : COk C) (ho : C.ops < 1000000) :
    CallV Tryz.prog 81 #[chVal B f C, .int .i64 n] w [.agg SH10, .one (.int .i64)] fun r w' => ∃ B' : SlP TBd.T, r.1 = chT B' f (scrC C n).1 ∧ r.2.1 = (scrC C n).2 ∧ RefR H w' B' f (scrC C n).1 ∧ Ext w w' := by
  apply ref13_Scrub.vc
  unfold ref13_Scrub.P
  obtain ⟨⟨n1, n2⟩, ⟨n3, n4⟩, ⟨n5, n6⟩, n7, n8⟩ := hC.num
  have hBn := h.len
  rw [hC.bl] at hBn
  have S := Sep.start NoB w
  refine S.newB fun b1 w1 S f1 _ => ?_
  refine S.newB fun b3 w3 S f3 _ => ?_
  have no : ∀ {w' : World} {e : Int}, mayC C n = e → e ≠ 0 → Sep NoB w w' [BoxA b3 34 [.int .i64 0, .int .i64 0, .int .i64 0, .int .i64 0, .int .i64 0, .int .i64 0, .slice none 0 0, .slice none 0 0, .bool false, .int .i64 0], BoxA b1 34 (chV B f C)] →
      LoadA w' ⟨b1, 0, none⟩ SH10 fun x => StoreV w' ⟨b3, 0, none⟩ [.int .i64 x.1, .int .i64 x.2.1, .int .i64 x.2.2.1, .int .i64 x.2.2.2.1, .int .i64 x.2.2.2.2.1, .int .i64 x.2.2.2.2.2.1, .slice x.2.2.2.2.2.2.1.a x.2.2.2.2.2.2.1.n x.2.2.2.2.2.2.1.c, .slice x.2.2.2.2.2.2.2.1.a x.2.2.2.2.2.2.2.1.n x.2.2.2.2.2.2.2.1.c, .bool x.2.2.2.2.2.2.2.2.1, .int .i64 x.2.2.2.2.2.2.2.2.2.1] fun w9 =>
        LoadA w9 ⟨b3, 0, none⟩ SH10 fun x => ∃ B' : SlP TBd.T, (x.1, x.2.1, x.2.2.1, x.2.2.2.1, x.2.2.2.2.1, x.2.2.2.2.2.1, x.2.2.2.2.2.2.1, x.2.2.2.2.2.2.2.1, x.2.2.2.2.2.2.2.2.1, x.2.2.2.2.2.2.2.2.2.1, ()) = chT B' f (scrC C n).1 ∧ e = (scrC C n).2 ∧ RefR H w9 B' f (scrC C n).1 ∧ Ext w w9 := fun he h0 S => by
    refine S.la1 rfl (S.st0 (by rfl) fun w9 S f9 => S.la0 rfl ?_)
    have X := S.ext
    unfold scrC
    rw [if_neg (by rw [he]; exact h0)]
    exact ⟨B, rfl, he.symm, h.ext X, X⟩
  refine S.ld1 (j := 8) rfl rfl (cond_of (fun hoff => no (e := 4) (by unfold mayC; rw [if_pos hoff]) (by decide) S) fun hoff => ?_)
  have hoff' : ¬ C.off = true := by rw [hoff]; decide
  refine cond_d (fun hn => no (e := 2) (by unfold mayC; rw [if_neg hoff', if_pos (by omega)]) (by decide) S) fun hn0 => ?_
  refine S.ld1 (j := 6) rfl rfl (cond_d (fun hn => no (e := 2) (by unfold mayC; rw [if_neg hoff', if_pos (by dsimp only at hn; omega)]) (by decide) S) fun hn1 => ?_)
  dsimp only at hn1
  have hn : 0 ≤ n ∧ n < C.g.b := by omega
  have hmay : mayC C n = 0 := by unfold mayC; rw [if_neg hoff', if_neg (fun k => k hn)]
  refine S.la1 rfl ?_
  refine (code_c (h.ext S.ext) hC).mono ?_
  rintro ⟨(e : Int), ⟨ma, mn, mc⟩, (cr : Bool), ⟨⟩⟩ w4 ⟨h4, h4', i4, x4⟩
  dsimp only at h4 h4' i4 ⊢
  subst h4; subst h4'
  have S := S.stepE x4
  refine S.ld1 (j := 6) rfl rfl ?_
  obtain ⟨q, x, hq, hc, hr, hx, hbd, -⟩ := (h.ext S.ext).nth (i := n) hn.1 (by omega)
  have hb := (hC.blk hn).2
  have her := hb.er
  refine ⟨⟨hn.1, by dsimp only; omega⟩, q, hq, bdT x, hc, ?_⟩
  refine S.newB fun b22 w5 S f5 _ => ?_
  refine S.st0 (by rfl) fun w6 S f6 => ?_
  have eer : (blkC C n).er = x.2.2.2.2.1 := by rw [← hbd]; rfl
  have hG : ∀ b, w.heap.size ≤ b → ∀ k, k < w.heap.size → k ≠ b := fun b hb k hk => by omega
  have hN22 := S.bl0
  have hN3 := S.bl1
  have hN1 := S.bl2
  have hmem : x ∈ B.l := List.mem_of_getElem? hx
  have hrx : TBd.rd w (fun k => k < w.heap.size ∧ H k) x := TBd.rd_mono (fun k hk1 hk => ⟨hk, hk1⟩) (h.rb.2.2.2.2 x hmem)
  have hge : ∀ (i : Nat) (b : Nat) (e : TypeId) (vs : List Value), [BoxA b22 133 (bdV x), BoxA b3 34 [.int .i64 0, .int .i64 0, .int .i64 0, .int .i64 0, .int .i64 0, .int .i64 0, .slice none 0 0, .slice none 0 0, .bool false, .int .i64 0], BoxA b1 34 (chV B f C)][i]? = some (BoxA b e vs) → w.heap.size ≤ b := fun i b e vs hi => by
    obtain ⟨F3, h3, h3'⟩ := S.get hi
    exact (h3' b h3.1).1.resolve_left fun x => x
  have g22 := hge 0 _ _ _ rfl
  have g3 := hge 1 _ _ _ rfl
  have g1 := hge 2 _ _ _ rfl
  refine S.su0 (j := 3) (by rfl) fun w6' S f6' => S.la0 rfl ?_
  have X6 := S.ext
  have hs6 : w6.heap.size ≤ w6'.heap.size := f6'.size
  have hbx := hb
  rw [← hbd] at hbx
  have hallx : ((x.1.l.map (·.l)).flatten) = allC C n := by show (bdOf x).pg.flatten = _; rw [hbd]
  have hrx6 : TBd.rd w6' All x := TBd.rd_mono (fun _ _ _ => trivial) (Ty.rd_ext X6 _ hrx)
  have hrx7 : TBd.rd w6' All (x.1, x.2.1, x.2.2.1, true, x.2.2.2.2.1, ()) := ⟨hrx6.1, hrx6.2.1, hrx6.2.2.1, trivial, hrx6.2.2.2.2.1, trivial⟩
  refine (joined_c (g := C.g) (m := 0) (z := szP C.g) hrx7 (by show x.1.l.length ≤ 100; rw [bd_len hbx]; omega) (by omega) (show ∀ q ∈ x.1.l, q.l.length = szP C.g from bd_page_len hbx)).mono ?_
  rintro ⟨⟨ja, jn, jc⟩, ⟨⟩⟩ w7 h7
  have h7 : Res w6' w7 ⟨ja, jn, jc⟩ (allC C n) := by rw [← hallx]; exact h7
  have hall := hb.all
  have hjl := h7.ints.len
  rw [show (allC C n).length = bszC C from hall.1] at hjl
  have m2 : bszC C ≤ 20 * 216 := Nat.mul_le_mul (by omega) (by omega)
  dsimp only at hjl ⊢
  have S7 := S.stepE h7.ext
  refine (rFill_c (x := 0) (n := 0)).mono ?_
  rintro ⟨⟨za, zn, zc⟩, ⟨⟩⟩ w8 h8
  have hmm : (max 0 (min 65536 (0 : Int))).toNat = 0 := by omega
  dsimp only at h8 ⊢
  rw [hmm] at h8
  have x78 := h7.ext.trans h8.ext
  have T0 : Sep NoB w7 w8 _ := (Sep.start NoB w7).res h8
  dsimp only at T0
  have hz0 : zn = 0 := by have := h8.ints.len; simpa using this.symm
  refine Loop1 (fun (v : SlV × Int × Unit) w' => ∃ i : Nat, v.2.1 = (i : Int) ∧ i ≤ jn ∧ v.1.n = i ∧ Sep NoB w7 w' [OwnA 5 1 v.1.a v.1.n v.1.c ((List.replicate i 0).map (Value.int .u8))]) (fun (v : SlV × Int × Unit) _ => ((jn : Int) - v.2.1).toNat) ⟨0, rfl, by omega, hz0, T0⟩ ?_
  rintro ⟨⟨va, vn, vc⟩, (v : Int), ⟨⟩⟩ w9 ⟨i, hv, hi, hvn, T9⟩
  dsimp only at hv hvn T9 ⊢
  subst hv
  subst hvn
  refine cond_d (fun hlt => ?_) (fun hge' => ?_)
  · refine T9.newB fun b34 w10 T9 f10 _ => ?_
    refine AppS.of (news := [.int .u8 0]) rfl (.inr ⟨_, rfl, T9.cells 0 rfl⟩) ?_
    refine T9.ap1 (by rfl) (fun u hu => by rw [List.mem_singleton.1 hu]; rfl) (by omega) (by omega) fun a36 c38 w11 T9 f11 => ?_
    refine ⟨Rng.i64 (by omega) (by omega), ⟨vn + 1, by push_cast; rfl, by omega, rfl, ?_⟩, by omega⟩
    rw [List.replicate_succ', List.map_append]
    exact T9.tail
  have hvj : vn = jn := by omega
  subst hvj
  have x79 : Ext w7 w9 := T9.ext
  have hZ : Ints w9 .u8 va vn vc (List.replicate vn 0) := T9.in0
  have bz : Byt (List.replicate vn (0 : Int)) := Byt.replicate (by decide) (by decide) _
  have hbm : Byt (codeC C).2.1 := by
    unfold codeC
    cases hat : atF C.pl (C.ops : Int) with
    | none => exact Byt.nil
    | some F => exact atF_byt hC hat
  have hlj : (allC C n).length = vn := by rw [← hjl]; exact hall.1
  generalize hQ : (if (codeC C).1 = 0 then List.replicate (allC C n).length (0 : Int) else progL (allC C n) (List.replicate (allC C n).length 0) (codeC C).2.1 false) = Q
  have hQl : Q.length = bszC C := by rw [← hQ]; split; rw [List.length_replicate]; exact hall.1; unfold progL; rw [turn_len]; exact hall.1
  have hQb : Byt Q := by rw [← hQ]; split; exact Byt.replicate (by decide) (by decide) _; exact turn_byt hall.2 _ _
  refine ⟨fun (v : SlV × Unit) w' => Ext w7 w' ∧ TB.rd w' (fun k => w7.heap.size ≤ k) ⟨v.1.a, v.1.n, v.1.c, Q⟩, ?_, ?_⟩
  case refine_2 =>
    refine cond_ne (fun hc0 => ?_) (fun hc0 => ?_)
    · have hc0 : ¬ (codeC C).1 = 0 := hc0
      have X49 : Ext w4 w9 := (Fr.ext ((f5.trans' f6 fun k hk => .inr (by omega)).trans' f6' fun k hk => .inr (by omega))).trans (h7.ext.trans x79)
      refine (Program_c (h7.ints.ext x79) hall.2 hZ bz (i4.ext X49) hbm (by dsimp only; omega)).mono ?_
      rintro ⟨⟨ra, rn, rc⟩, ⟨⟩⟩ w10 h10
      refine ⟨x79.trans h10.ext, ?_⟩
      have hs := x79.size
      rw [if_neg hc0] at hQ
      have hq : turn (allC C n) (prF (allC C n) (List.replicate vn 0) (codeC C).2.1 false vn) (8 * vn) = Q := by
        rw [← hQ]
        unfold progL
        rw [hlj]
      rw [hq] at h10
      exact TB.rd_mono (fun k hk _ => by omega) (res_rd h10 hQb)
    · have hc0 : (codeC C).1 = 0 := hc0
      refine ⟨x79, ?_⟩
      rw [if_pos hc0, hlj] at hQ
      obtain ⟨F1, k1, k2⟩ := T9.get (i := 0) rfl
      have := own_rd k1 bz
      rw [hQ] at this
      exact TB.rd_mono (fun k hk _ => (k2 k hk).1.resolve_left fun x => x) this
  rintro ⟨⟨ra, rn, rc⟩, ⟨⟩⟩ w10 ⟨x710, hQr⟩
  dsimp only at hQr ⊢
  have S := S7.stepE x710
  refine S.ld2 (j := 1) rfl rfl ?_
  have hrn : rn = bszC C := by rw [← hQl]; exact hQr.1.symm
  have hcut := cut13_c (P := C.g.p.toNat) hQr ⟨by omega, by omega⟩ (by omega)
  rw [show ((C.g.p.toNat : Nat) : Int) = C.g.p from by omega] at hcut
  refine hcut.mono ?_
  rintro ⟨⟨ca, cn, cc⟩, ⟨⟩⟩ w11 ⟨Lp, hLr, hLp, x11⟩
  dsimp only at hLr ⊢
  have S := S.stepE x11
  refine S.su0 (j := 0) (by rfl) fun w12 S f12 => ?_
  refine S.la2 rfl (S.la0 rfl ?_)
  have X12 := S.ext
  have s67 := h7.ext.size
  have s710 := x710.size
  have hx' : TBd.rd w12 (fun k => (k < w.heap.size ∧ H k) ∨ w6.heap.size ≤ k) (⟨ca, cn, cc, Lp⟩, x.2.1, x.2.2.1, true, x.2.2.2.2.1, ()) := by
    have h1 := Ty.rd_ext X12 _ hrx
    refine ⟨?_, TI.rd_mono (fun k hk _ => .inl hk) h1.2.1, h1.2.2.1, trivial, h1.2.2.2.2.1, trivial⟩
    have h2 := TBB.rd_kp (w' := w12) (fun k hk hl => f12.block k hl (by rcases hk with hk | hk <;> omega)) hLr
    exact TBB.rd_mono (fun k hk _ => .inr (by rcases hk with hk | hk <;> omega)) h2
  have hB' : (Ty.sl TBd).rd w12 (fun k => (k < w.heap.size ∧ H k) ∨ w6.heap.size ≤ k) B := Ty.rd_ext X12 _ ((Ty.sl TBd).rd_mono (fun k hk1 hk => .inl ⟨hk, hk1⟩) h.rb)
  have hN := S.bl2
  have hN3' := S.bl1
  refine (with_c (f := f) (C := C) (n := n) (x := (⟨ca, cn, cc, Lp⟩, x.2.1, x.2.2.1, true, x.2.2.2.2.1, ())) hB' (by omega) (by omega) hx' (by omega)).mono ?_
  rintro ⟨_, ⟨⟩⟩ w13 ⟨B', hr', hrd', hl', x13⟩
  dsimp only at hr'
  subst hr'
  have S := S.stepE x13
  refine S.st2 (by rfl) fun w14 S f14 => S.su2 (j := 8) (by rfl) fun w15 S f15 => S.la2 rfl (S.st1 (by rfl) fun w16 S f16 => S.la1 rfl ?_)
  have X := S.ext
  have hbd2 : bdOf (⟨ca, cn, cc, Lp⟩, x.2.1, x.2.2.1, true, x.2.2.2.2.1, ()) = { blkC C n with sc := true, pg := cutL Q C.g.p.toNat } := by
    unfold bdOf
    dsimp only
    rw [hLp, ← hbd]
    rfl
  have hC' : (scrC C n).1 = { C with bs := B'.l.map bdOf, off := (codeC C).2.2, ops := C.ops + 1 } := by
    unfold scrC
    rw [if_pos hmay]
    unfold scrX
    dsimp only
    rw [hl', List.map_set, h.db, hbd2, ← hQ]
  refine ⟨B', ?_, ?_, ⟨?_, ?_, Ty.rd_ext X _ h.rf, ?_⟩, X⟩
  · rw [hC']
  · unfold scrC; rw [if_pos hmay]
  · have g : Fr (fun k => k = b1 ∨ k = b3) w13 w16 := ((f14.mono fun k hk => .inl hk).trans (f15.mono fun k hk => .inl hk)).trans (f16.mono fun k hk => .inr hk)
    exact rd_keep hrd' g (fun k hk => by
      have := X6.size
      have := X12.size
      rcases hk with (hk | hk) | hk
      · exact hk.2
      · exact hH k (by omega)
      · exact hH k (by omega)) fun k hk hlt => by
      rcases hk with (hk | hk) | hk <;> omega
  · rw [hC']
  · rw [hC']; exact h.df
end
end Go.Proofs.YtlpeoaphdmfjdaaGreat.Vc
/-! The contracts of layer 13: the document's array, a page programmed. -/
namespace Go.Proofs.YtlpeoaphdmfjdaaGreat.Vc
open Go Go.Eng Go.RowKit
section
variable {H : Nat → Prop} {w : World} {B : SlP TBd.T} {f : SlP TF.T} {C : CD}
abbrev zCH : List Value := [.int .i64 0, .int .i64 0, .int .i64 0, .int .i64 0, .int .i64 0, .int .i64 0, .slice none 0 0, .slice none 0 0, .bool false, .int .i64 0]
theorem asWas {w' : World} {Rs : List Asr} {e : Int} {C' : CD × Int} {b5 b1 : Nat} {e5 e1 : TypeId} (h : RefR H w B f C) (he : C' = (C, e)) (S : Sep NoB w w' (BoxA b5 e5 zCH :: BoxA b1 e1 (chV B f C) :: Rs)) :
    LoadA w' ⟨b1, 0, none⟩ SH10 fun x => StoreV w' ⟨b5, 0, none⟩ [.int .i64 x.1, .int .i64 x.2.1, .int .i64 x.2.2.1, .int .i64 x.2.2.2.1, .int .i64 x.2.2.2.2.1, .int .i64 x.2.2.2.2.2.1, .slice x.2.2.2.2.2.2.1.a x.2.2.2.2.2.2.1.n x.2.2.2.2.2.2.1.c, .slice x.2.2.2.2.2.2.2.1.a x.2.2.2.2.2.2.2.1.n x.2.2.2.2.2.2.2.1.c, .bool x.2.2.2.2.2.2.2.2.1, .int .i64 x.2.2.2.2.2.2.2.2.2.1] fun w9 =>
      LoadA w9 ⟨b5, 0, none⟩ SH10 fun x => ∃ B' : SlP TBd.T, (x.1, x.2.1, x.2.2.1, x.2.2.2.1, x.2.2.2.2.1, x.2.2.2.2.2.1, x.2.2.2.2.2.2.1, x.2.2.2.2.2.2.2.1, x.2.2.2.2.2.2.2.2.1, x.2.2.2.2.2.2.2.2.2.1, ()) = chT B' f C'.1 ∧ e = C'.2 ∧ RefR H w9 B' f C'.1 ∧ Ext w w9 := by
  refine S.la1 rfl (S.st0 (by rfl) fun w9 S f9 => S.la0 rfl ?_)
  have X := S.ext
  rw [he]
  exact ⟨B, rfl, rfl, h.ext X, X⟩
theorem rProgram13_c {bl pa : Int} {a : Option Addr} {n c : Nat} {xs : List Int} (hH : ∀ k, w.heap.size ≤ k → H k) (h : RefR H w B f C) (hC : COk C) (ho : C.ops < 1000000) (hx : Ints w .u8 a n c xs) (bx : Byt xs) :
    CallV Tryz.prog 94 #[chVal B f C, .agg #[.int .i64 bl, .int .i64 pa], .slice a n c] w [.agg SH10, .one (.int .i64)] fun r w' => ∃ B' : SlP TBd.T, r.1 = chT B' f (progC C bl pa xs).1 ∧ r.2.1 = (progC C bl pa xs).2 ∧ RefR H w' B' f (progC C bl pa xs).1 ∧ Ext w w' := by
  apply ref13_Program.vc
  unfold ref13_Program.P
  obtain ⟨⟨n1, n2⟩, ⟨n3, n4⟩, ⟨n5, n6⟩, n7, n8⟩ := hC.num
  have hBn := h.len
  have hxl := hx.len
  rw [hC.bl] at hBn
  have S := Sep.start NoB w
  refine S.newB fun b1 w1 S f1 _ => ?_
  refine S.newB fun b3 w3 S f3 _ => ?_
  refine S.newB fun b5 w5 S f5 _ => ?_
  have hno : ∀ {e : Int}, refC C bl pa xs.length = e → e ≠ 0 → progC C bl pa xs = (C, e) := fun he h0 => by unfold progC; rw [he, if_neg h0]
  refine S.ld2 (j := 8) rfl rfl (cond_of (fun hoff => asWas h (hno (e := 4) (by unfold refC; rw [if_pos hoff]) (by decide)) (S.sel [0, 1] rfl)) fun hoff => ?_)
  have hoff' : ¬ C.off = true := by rw [hoff]; decide
  refine S.lb2 (o := 0) rfl (S.la1 rfl ?_)
  refine (rRight13_c (g := C.g) (b := bl) (p := pa)).mono ?_
  rintro ⟨(r : Bool), ⟨⟩⟩ w6 ⟨h6, x6⟩
  dsimp only at h6 ⊢
  subst h6
  have S := S.stepE x6
  by_cases hi : inC C bl pa
  case neg => exact cond_t (by rw [decide_eq_false (fun k => hi k.2)]; rfl) (asWas h (hno (e := 2) (by unfold refC; rw [if_neg hoff', if_pos (fun k => hi k.1)]) (by decide)) (S.sel [0, 1] rfl))
  refine cond_f (by rw [decide_eq_true (show plOk C.g bl pa from ⟨hC.g, hi⟩)]; rfl) ?_
  refine S.ld2 (j := 2) rfl rfl ⟨Rng.i64 (by omega) (by omega), ?_⟩
  have href := refC_eq (n := xs.length) hoff' hi
  refine cond_ne (fun hn => asWas h (hno (e := 2) (by rw [href, if_pos (by omega)]) (by decide)) (S.sel [0, 1] rfl)) fun hn => ?_
  have hxz : xs.length = szP C.g := by omega
  rw [if_neg (fun k => k hxz)] at href
  refine S.ld2 (j := 6) rfl rfl (S.ld1 (j := 0) rfl rfl ?_)
  obtain ⟨q, x, hq, hc, hr, hxx, hbd, -⟩ := (h.ext S.ext).nth (i := bl) hi.1.1 (by have := hi.1.2; omega)
  refine ⟨⟨hi.1.1, by have := hi.1.2; dsimp only; omega⟩, q, hq, bdT x, hc, ?_⟩
  refine S.newB fun b26 w7 S f7 _ => ?_
  refine S.st0 (by rfl) fun w8 S f8 => ?_
  have hb := (hC.blk hi.1).2
  have hsc : (blkC C bl).sc = x.2.2.2.1 := by rw [← hbd]; rfl
  have hus : (blkC C bl).us = x.2.1.l := by rw [← hbd]; rfl
  have hla : (blkC C bl).la = x.2.2.1 := by rw [← hbd]; rfl
  refine S.ld0 (j := 3) rfl rfl (cond_of (fun hs => asWas h (hno (e := 7) (by rw [href, if_pos (.inl (by rw [hsc]; exact hs))]) (by decide)) (S.sel [1, 2] rfl)) fun hs => ?_)
  have hmem : x ∈ B.l := List.mem_of_getElem? hxx
  have hrx : TBd.rd w (fun k => k < w.heap.size ∧ H k) x := TBd.rd_mono (fun k hk1 hk => ⟨hk, hk1⟩) (h.rb.2.2.2.2 x hmem)
  have hge : ∀ (i : Nat) (b : Nat) (e : TypeId) (vs : List Value), [BoxA b26 133 (bdV x), BoxA b5 34 zCH, BoxA b3 160 [.int .i64 bl, .int .i64 pa], BoxA b1 34 (chV B f C)][i]? = some (BoxA b e vs) → w.heap.size ≤ b := fun i b e vs hi => by
    obtain ⟨F3, h3, h3'⟩ := S.get hi
    exact (h3' b h3.1).1.resolve_left fun x => x
  have g26 := hge 0 _ _ _ rfl
  have g5 := hge 1 _ _ _ rfl
  have g1 := hge 3 _ _ _ rfl
  clear hge
  have l26 := S.bl0
  have l5 := S.bl1
  have l1 := S.bl3
  have X8 := S.ext
  have hr8 := TBd.rd_mono (fun _ _ _ => trivial) (Ty.rd_ext X8 _ hrx) (G' := All)
  have hul : x.2.1.n = C.g.p.toNat := by rw [← hb.ul, hus]; exact hr8.2.1.1.symm
  have hpp := hi.2
  have hu8 : Ints w8 .i64 x.2.1.a x.2.1.n x.2.1.c x.2.1.l := Ty.ints hr8.2.1
  have hue : x.2.1.l.getD pa.toNat 0 = usC C bl pa := by rw [← hus]
  have hu2 := (hC.us hi).2
  refine S.ld0 (j := 1) rfl rfl (S.ld2 (j := 1) rfl rfl (hu8.idx (by omega) (by omega) ?_))
  rw [hue]
  refine cond_d (fun h2 => asWas h (hno (e := 7) (by rw [href, if_pos (.inr h2)]) (by decide)) (S.sel [1, 2] rfl)) fun h2 => ?_
  rw [if_neg (fun k => k.elim (fun k => by rw [hsc, hs] at k; cases k) h2)] at href
  refine ⟨fun (_ : Unit) w' => w' = w8 ∧ refC C bl pa xs.length = 0, ?_, ?_⟩
  case refine_2 =>
    refine S.ld0 (j := 1) rfl rfl (S.ld2 (j := 1) rfl rfl (hu8.idx (by omega) (by omega) ?_))
    rw [hue]
    refine cond_eq (fun h0 => ?_) (fun h0 => ⟨rfl, by rw [href, if_neg (fun k => h0 k.1)]⟩)
    refine S.ld2 (j := 1) rfl rfl (S.ld0 (j := 2) rfl rfl (cond_d (fun hp => ?_) fun hp => ⟨rfl, by rw [href, if_neg (fun k => hp (by rw [← hla]; exact k.2))]⟩))
    exact asWas h (hno (e := 6) (by rw [href, if_pos ⟨h0, by rw [hla]; exact hp⟩]) (by decide)) (S.sel [1, 2] rfl)
  rintro ⟨⟩ w9 ⟨rfl, href0⟩
  clear href hno
  refine S.la3 rfl ?_
  refine (code_c (h.ext X8) hC).mono ?_
  rintro ⟨(e : Int), ⟨ma, mn, mc⟩, (cr : Bool), ⟨⟩⟩ w10 ⟨h10, h10', i10, x10⟩
  dsimp only at h10 h10' i10 ⊢
  subst h10; subst h10'
  have S := S.stepE x10
  refine S.ld0 (j := 0) rfl rfl (S.ld2 (j := 1) rfl rfl ?_)
  have hr10 := Ty.rd_ext x10 _ hr8
  have hpl : x.1.n = C.g.p.toNat := by rw [← bd_len (x := x) (by rw [hbd]; exact hb)]; exact hr8.1.1.symm
  obtain ⟨q2, y, hq2, hy, hc2, hry, -, -⟩ := TBB_nth hr10.1 (i := pa) (by omega) (by omega)
  have hyp : y.l = pgC13 C bl pa := by
    have h1 : (x.1.l.map (·.l))[pa.toNat]? = some y.l := by rw [List.getElem?_map, hy]; rfl
    have h2 : (blkC C bl).pg = x.1.l.map (·.l) := by rw [← hbd]; rfl
    show _ = (blkC C bl).pg.getD pa.toNat []
    rw [h2, getD_some h1]
  have hyI := Ty.ints hry
  rw [hyp] at hyI
  have hyl := hyI.len
  rw [(hC.page hi).2.1] at hyl
  refine ⟨⟨by omega, by dsimp only; omega⟩, q2, hq2, ldp0 hc2 (h := .sl) (x := ⟨y.a, y.n, y.c⟩) rfl ?_⟩
  dsimp only
  have X10 := X8.trans x10
  refine (And_c hyI (hx.ext X10) (by omega) (by omega)).mono ?_
  rintro ⟨⟨na, nn, nc⟩, ⟨⟩⟩ w11 h11
  dsimp only at h11 ⊢
  have hbm : Byt (codeC C).2.1 := by
    unfold codeC
    cases hat : atF C.pl (C.ops : Int) with
    | none => exact Byt.nil
    | some F => exact atF_byt hC hat
  have hbp := (hC.page hi).2.2
  generalize hQ : (if (codeC C).1 = 0 then andL (pgC13 C bl pa) xs else progL (pgC13 C bl pa) xs (codeC C).2.1 (!(codeC C).2.2)) = Q
  have hQl : Q.length = szP C.g := by
    rw [← hQ]
    split
    · rw [← (hC.page hi).2.1]; simp [andL]
    · unfold progL; rw [turn_len]; exact (hC.page hi).2.1
  have hQb : Byt Q := by rw [← hQ]; split; exact andL_byt _ _; exact turn_byt hbp _ _
  refine ⟨fun (v : SlV × Unit) w' => Ext w10 w' ∧ TB.rd w' (fun k => w10.heap.size ≤ k) ⟨v.1.a, v.1.n, v.1.c, Q⟩, ?_, ?_⟩
  case refine_2 =>
    refine cond_ne (fun hc0 => ?_) (fun hc0 => ?_)
    · have hc0 : ¬ (codeC C).1 = 0 := hc0
      have hs11 := h11.ext.size
      obtain ⟨na', hna'⟩ : ∃ t : SlV, t = ⟨a, n, c⟩ := ⟨_, rfl⟩
      have hnn : n = y.n := by omega
      subst hnn
      refine (Program_c (hyI.ext h11.ext) hbp (hx.ext (X10.trans h11.ext)) bx (i10.ext h11.ext) hbm (by omega)).mono ?_
      rintro ⟨⟨ra, rn, rc⟩, ⟨⟩⟩ w12 h12
      refine ⟨h11.ext.trans h12.ext, ?_⟩
      rw [if_neg hc0] at hQ
      have hq : turn (pgC13 C bl pa) (prF (pgC13 C bl pa) xs (codeC C).2.1 (!(codeC C).2.2) y.n) (8 * y.n) = Q := by
        rw [← hQ]
        unfold progL
        rw [(hC.page hi).2.1, hyl]
      rw [hq] at h12
      exact TB.rd_mono (fun k hk _ => by omega) (res_rd h12 hQb)
    · have hc0 : (codeC C).1 = 0 := hc0
      rw [if_pos hc0] at hQ
      rw [hQ] at h11
      exact ⟨h11.ext, res_rd h11 hQb⟩
  rintro ⟨⟨va, vn, vc⟩, ⟨⟩⟩ w12 ⟨x12, hvQ⟩
  dsimp only at hvQ ⊢
  have S := S.push (R := RdT TB ⟨va, vn, vc, Q⟩) (F := fun k => w10.heap.size ≤ k ∧ k < w12.heap.size) (.of x12) (TB.rd_mono (fun k h1 h2 => ⟨h1, h2⟩) hvQ) fun k hk => hk
  have hrP : TBB.rd w12 All x.1 := Ty.rd_ext x12 _ hr10.1
  have hrU : TI.rd w12 All x.2.1 := Ty.rd_ext x12 _ hr10.2.1
  have hPc : RdC w12 x.1.a (x.1.l.map slV) := by
    have := hrP.2.2.2.1.rdc
    rwa [show x.1.l.flatMap TB.vs = x.1.l.map slV from flat_sl _] at this
  have hUi : Ints w12 .i64 x.2.1.a x.2.1.n x.2.1.c x.2.1.l := Ty.ints hrU
  have hPl : x.1.l.length = x.1.n := hrP.1
  have hUl : x.2.1.l.length = x.2.1.n := hrU.1
  have w12s : Sep NoB w12 w12 [] := Sep.start NoB w12
  refine S.newB fun b55 w13 S f13 _ => ?_
  have S := S.asOwn (sz := 1) (n := 0) rfl (by omega) oneAll.nil
  refine S.ld2 (j := 0) rfl rfl ?_
  dsimp only
  have X13 := Fr.ext f13
  refine AppS.of (news := x.1.l.map slV) (by rw [List.length_map]; omega) (X13.rd hPc) ?_
  refine S.ap0 (by rw [List.length_map]; omega) (fun u hu => by obtain ⟨v, -, rfl⟩ := List.mem_map.1 hu; rfl) (by omega) (by omega) fun a58 c60 w14 S f14 => ?_
  rw [List.nil_append, Nat.zero_add] at S
  rw [Nat.zero_add]
  refine S.su2 (j := 0) (by rfl) fun w15 S f15 => ?_
  refine S.newB fun b64 w16 S f16 _ => ?_
  have S := S.asOwn (sz := 1) (n := 0) rfl (by omega) oneAll.nil
  refine S.ld3 (j := 1) rfl rfl ?_
  dsimp only
  have X16 : Ext w w16 := S.ext
  have hU16 : Ints w16 .i64 x.2.1.a x.2.1.n x.2.1.c x.2.1.l := Ty.ints (Ty.rd_ext X16 _ hrx).2.1
  refine AppS.of (news := iv x.2.1.l) (by rw [List.length_map]; omega) hU16.rd ?_
  refine S.ap0 (by rw [List.length_map]; omega) (oneAll.ints _ _) (by omega) (by omega) fun a67 c69 w17 S f17 => ?_
  rw [List.nil_append, Nat.zero_add] at S
  rw [Nat.zero_add]
  refine S.su3 (j := 1) (by rfl) fun w18 S f18 => ?_
  refine S.ld3 (j := 0) rfl rfl (S.ld5 (j := 1) rfl rfl ?_)
  refine S.put (i := 1) rfl (by omega) (by omega) (v := .slice va vn vc) rfl fun w19 S f19 => ?_
  dsimp only [List.set_cons_succ, List.set_cons_zero] at S
  refine S.ld3 (j := 1) rfl rfl (S.ld5 (j := 1) rfl rfl ?_)
  dsimp only
  refine (S.ints 0 rfl).idx (by omega) (by omega) ?_
  rw [hue]
  refine ⟨Rng.i64 (by omega) (by omega), ?_⟩
  refine S.put (i := 0) rfl (by omega) (by omega) (v := .int .i64 (usC C bl pa + 1)) rfl fun w20 S f20 => ?_
  dsimp only [List.set_cons_succ, List.set_cons_zero] at S
  rw [iv_set] at S
  refine S.ld3 (j := 2) rfl rfl (S.ld5 (j := 1) rfl rfl ?_)
  intro z hz
  subst hz
  refine S.su3 (j := 2) (by rfl) fun w21 S f21 => ?_
  refine S.la6 rfl (S.ld5 (j := 0) rfl rfl (S.la3 rfl ?_))
  dsimp only
  have X21 := S.ext
  obtain ⟨FP, hFP, nP, oP⟩ := S.off 1 rfl
  obtain ⟨FU, hFU, nU, oU⟩ := S.off 0 rfl
  obtain ⟨FQ, hFQ, nQ, oQ⟩ := S.off 2 rfl
  have aP : ∀ k, FP k → H k ∧ k ≠ b1 ∧ k ≠ b5 := fun k hk => ⟨hH k ((nP k hk).1.resolve_left fun x => x), fun e => oP 6 _ _ _ (by decide) rfl (e ▸ hk), fun e => oP 4 _ _ _ (by decide) rfl (e ▸ hk)⟩
  have aU : ∀ k, FU k → H k ∧ k ≠ b1 ∧ k ≠ b5 := fun k hk => ⟨hH k ((nU k hk).1.resolve_left fun x => x), fun e => oU 6 _ _ _ (by decide) rfl (e ▸ hk), fun e => oU 4 _ _ _ (by decide) rfl (e ▸ hk)⟩
  have aQ : ∀ k, FQ k → H k ∧ k ≠ b1 ∧ k ≠ b5 := fun k hk => ⟨hH k ((nQ k hk).1.resolve_left fun x => x), fun e => oQ 6 _ _ _ (by decide) rfl (e ▸ hk), fun e => oQ 4 _ _ _ (by decide) rfl (e ▸ hk)⟩
  have hx21 := Ty.rd_ext X21 _ hrx
  have hla2 := hb.la
  rw [hla] at hla2
  have ewP : (x.1.l.map slV).set pa.toNat (.slice va vn vc) = (x.1.l.set pa.toNat ⟨va, vn, vc, Q⟩).flatMap TB.vs := by rw [show (x.1.l.set pa.toNat ⟨va, vn, vc, Q⟩).flatMap TB.vs = (x.1.l.set pa.toNat ⟨va, vn, vc, Q⟩).map slV from flat_sl _, List.map_set]
  rw [ewP] at hFP
  have hQ21 : TB.rd w21 (fun k => H k ∧ k ≠ b1 ∧ k ≠ b5) ⟨va, vn, vc, Q⟩ := TB.rd_mono (fun k hk _ => aQ k hk) hFQ
  have old : ∀ k, k < w.heap.size ∧ H k → H k ∧ k ≠ b1 ∧ k ≠ b5 := fun k hk => ⟨hk.2, by omega, by omega⟩
  have hP' : TBB.rd w21 (fun k => H k ∧ k ≠ b1 ∧ k ≠ b5) ⟨a58, x.1.n, c60, x.1.l.set pa.toNat ⟨va, vn, vc, Q⟩⟩ := by
    refine own_rdF (t := TB) hFP (by decide) aP fun y hy => ?_
    rcases List.mem_or_eq_of_mem_set hy with hm | hm
    · exact TB.rd_mono (fun k hk _ => old k hk) (hx21.1.2.2.2.2 y hm)
    · rw [hm]; exact hQ21
  have hU' : TI.rd w21 (fun k => H k ∧ k ≠ b1 ∧ k ≠ b5) ⟨a67, x.2.1.n, c69, x.2.1.l.set pa.toNat (usC C bl pa + 1)⟩ := by
    rw [iv, ← flat_ints] at hFU
    refine own_rdF (t := .int .i64) hFU (by decide) aU fun y hy => ?_
    rcases List.mem_or_eq_of_mem_set hy with hm | hm
    · exact hx21.2.1.2.2.2.2 y hm
    · rw [hm]; exact Rng.i64 (by omega) (by omega)
  have rla : Rng .i64 (max x.2.2.1 pa) := Rng.i64 (by omega) (by omega)
  have hx' : TBd.rd w21 (fun k => H k ∧ k ≠ b1 ∧ k ≠ b5) (⟨a58, x.1.n, c60, x.1.l.set pa.toNat ⟨va, vn, vc, Q⟩⟩, ⟨a67, x.2.1.n, c69, x.2.1.l.set pa.toNat (usC C bl pa + 1)⟩, max x.2.2.1 pa, x.2.2.2.1, x.2.2.2.2.1, ()) :=
    ⟨hP', hU', rla, trivial, hx21.2.2.2.2.1, trivial⟩
  have hB' : (Ty.sl TBd).rd w21 (fun k => H k ∧ k ≠ b1 ∧ k ≠ b5) B := Ty.rd_ext X21 _ ((Ty.sl TBd).rd_mono (fun k hk1 hk => old k ⟨hk, hk1⟩) h.rb)
  have hN1 := S.bl6
  have hN5 := S.bl4
  refine (with_c (f := f) (C := C) (n := bl) (x := (⟨a58, x.1.n, c60, x.1.l.set pa.toNat ⟨va, vn, vc, Q⟩⟩, ⟨a67, x.2.1.n, c69, x.2.1.l.set pa.toNat (usC C bl pa + 1)⟩, max x.2.2.1 pa, x.2.2.2.1, x.2.2.2.2.1, ())) hB' (by omega) (by omega) hx' ⟨hi.1.1, by have := hi.1.2; omega⟩).mono ?_
  rintro ⟨_, ⟨⟩⟩ w22 ⟨B', hr', hrd', hl', x22⟩
  dsimp only at hr'
  subst hr'
  have S := S.stepE x22
  refine S.st6 (by rfl) fun w23 S f23 => S.su6 (j := 8) (by rfl) fun w24 S f24 => S.la6 rfl (S.st4 (by rfl) fun w25 S f25 => S.la4 rfl ?_)
  have X := S.ext
  have hbd2 : bdOf (⟨a58, x.1.n, c60, x.1.l.set pa.toNat ⟨va, vn, vc, Q⟩⟩, ⟨a67, x.2.1.n, c69, x.2.1.l.set pa.toNat (usC C bl pa + 1)⟩, max x.2.2.1 pa, x.2.2.2.1, x.2.2.2.2.1, ()) = { blkC C bl with pg := (blkC C bl).pg.set pa.toNat Q, us := (blkC C bl).us.set pa.toNat (usC C bl pa + 1), la := max (blkC C bl).la pa } := by
    rw [← hbd]
    unfold bdOf
    dsimp only
    rw [List.map_set]
  have hC' : (progC C bl pa xs).1 = { C with bs := B'.l.map bdOf, off := (codeC C).2.2, ops := C.ops + 1 } := by
    unfold progC
    rw [if_pos href0]
    unfold progX
    rw [hQ, hl', List.map_set, h.db, hbd2]
  refine ⟨B', ?_, ?_, ⟨?_, ?_, Ty.rd_ext X _ h.rf, ?_⟩, X⟩
  · rw [hC']
  · unfold progC; rw [if_pos href0]
  · have g : Fr (fun k => k = b1 ∨ k = b5) w22 w25 := ((f23.mono fun k hk => .inl hk).trans (f24.mono fun k hk => .inl hk)).trans (f25.mono fun k hk => .inr hk)
    exact rd_keep hrd' g (fun k hk => by
      rcases hk with hk | hk
      · exact hk.1
      · exact hH k (by have := X21.size; omega)) fun k hk hlt => by
      rcases hk with hk | hk
      · exact fun e => e.elim hk.2.1 hk.2.2
      · omega
  · rw [hC']
  · rw [hC']; exact h.df
end
end Go.Proofs.YtlpeoaphdmfjdaaGreat.Vc
/-! The contracts of layer 13: the document's array, a byte changed. -/
namespace Go.Proofs.YtlpeoaphdmfjdaaGreat.Vc
open Go Go.Eng Go.RowKit
section
variable {H : Nat → Prop} {w : World} {B : SlP TBd.T} {f : SlP TF.T} {C : CD}
theorem own_rdB {w : World} {F G : Nat → Prop} {e : TypeId} {a : Option Addr} {n c : Nat} {xs : List Int} (ho : (OwnA e 1 a n c (xs.map (Value.int .u8))).p w F) (hF : ∀ k, F k → G k) (bx : Byt xs) : TB.rd w G ⟨a, n, c, xs⟩ := by
  rw [← flat_ints] at ho
  exact own_rdF (t := .int .u8) ho (by decide) hF fun y hy => rngU8 (bx y hy)
end
end Go.Proofs.YtlpeoaphdmfjdaaGreat.Vc
/-! The contracts of layer 21 (ledger): the blocks' changes. -/
namespace Go.Proofs.YtlpeoaphdmfjdaaGreat.Vc
open Go Go.Eng Go.RowKit
structure Blk where
  ow : Int
  us : Int
  li : Int
  er : Int
  he : Bool
  cl : Bool
  ba : Bool
  go : Bool
  le : Bool
def Blk.z : Blk := ⟨0, 0, 0, 0, false, false, false, false, false⟩
instance : Inhabited Blk := ⟨.z⟩
abbrev Blk.vs (x : Blk) : List Value := [.int .i64 x.ow, .int .i64 x.us, .int .i64 x.li, .int .i64 x.er, .bool x.he, .bool x.cl, .bool x.ba, .bool x.go, .bool x.le]
def hB (n : Int) (x : Blk) : Blk := ⟨n, 0, 0, x.er, true, false, x.ba, x.go, x.le⟩
end Go.Proofs.YtlpeoaphdmfjdaaGreat.Vc
/-! Calls and open orders that own the first parts. -/
namespace Go.Eng
open Go
section
variable {E : Nat → Prop} {w0 w w' : World} {Rs Ts : List Asr}
theorem Sep.callB {P : Program} {g : FuncId} {args : Array Value} {l : List Sh} (Rs : List Asr) {Ts : List Asr} (S : Sep E w0 w (Rs ++ Ts)) {C : (Nat → Prop) → RT l → World → Prop}
    (hc : ∀ F, (∀ k, F k → (E k ∨ w0.heap.size ≤ k) ∧ k < w.heap.size) → Sep F w w Rs → CallV P g args w l fun r w' => C F r w') {K : RT l → World → Prop}
    (hk : ∀ F, (∀ w' Ls, Sep F w w' Ls → Sep E w0 w' (Ls ++ Ts)) → ∀ r w', C F r w' → K r w') : CallV P g args w l K := by
  obtain ⟨G, g1, g2, g3⟩ : ∃ G, StarP w Rs G ∧ (∀ k, G k → (E k ∨ w0.heap.size ≤ k) ∧ k < w.heap.size) ∧ ∀ w' Ls, Sep G w w' Ls → Sep E w0 w' (Ls ++ Ts) := by
    obtain ⟨F, h, hb⟩ := S.ex
    obtain ⟨F1, F2, h1, h2, h3, h4, h5⟩ := StarP.app.1 h
    refine ⟨F1, h1, fun k hk => hb k (h4 k hk), fun w' Ls S' => ?_⟩
    have S1 : Sep (fun k => F1 k ∨ F2 k) w w (Rs ++ Ts) := Sep.begin (StarP.app.2 ⟨F1, F2, h1, h2, h3, fun _ => .inl, fun _ => .inr⟩) fun k hk => hk.elim (fun x => (hb k (h4 k x)).2) (fun x => (hb k (h5 k x)).2)
    obtain ⟨G, g1, g2⟩ := S'.ex
    refine ⟨S.fr.trans' S'.fr fun k hk => (hb k (h4 k hk)).1, fun k => G k ∨ F2 k, StarP.app.2 ⟨G, F2, g1, h2.st fun k hk => S'.fr.block k (hb k (h5 k hk)).2 fun x => h3 k x hk, fun k hk hf => ?_, fun k => .inl, fun k => .inr⟩, fun k hk => ?_⟩
    · rcases (g2 k hk).1 with x | x
      · exact h3 k x hf
      · have := (hb k (h5 k hf)).2; omega
    · rcases hk with hk | hk
      · refine ⟨?_, (g2 k hk).2⟩
        rcases (g2 k hk).1 with x | x
        · exact (hb k (h4 k x)).1
        · have := S.fr.size; exact .inr (by omega)
      · exact ⟨(hb k (h5 k hk)).1, Nat.lt_of_lt_of_le (hb k (h5 k hk)).2 S'.fr.size⟩
  exact (hc G g2 (Sep.begin g1 fun k hk => (g2 k hk).2)).mono fun r w' h => hk G g3 r w' h
theorem Sep.regC (Rs : List Asr) {Ts : List Asr} (S : Sep E w0 w (Rs ++ Ts)) {body : (Nat → Prop) → Prop}
    (h : ∀ F D : Nat → Prop, (∀ k, F k → (E k ∨ w0.heap.size ≤ k) ∧ k < w.heap.size) → Sep F w.drew w.drew Rs → Sep E w0 w.drew (Rs ++ Ts) → (∀ (i : Nat) (b : Nat) (e : TypeId) (vs : List Value), Ts[i]? = some (BoxA b e vs) → D b) → (∀ b, b < w0.heap.size → ¬ E b → D b) → (∀ w', Fr F w.drew w' → KeepOn D w.drew w') → (∀ w' Ls, Sep F w.drew w' Ls → Sep E w0 w' (Ls ++ Ts)) → body D) : DrawV body := by
  have S := S.drew
  obtain ⟨F, hF, hb⟩ := S.ex
  obtain ⟨F1, F2, h1, h2, h3, h4, h5⟩ := StarP.app.1 hF
  have hsz : w0.heap.size ≤ w.drew.heap.size := S.fr.size
  refine DrawV.but F1 w fun D hD hk => h F1 D (fun k hk => hb k (h4 k hk)) (Sep.begin h1 fun k hk => (hb k (h4 k hk)).2) S (fun i b e vs hi => ?_) (fun b hb1 hb2 => ?_) hk fun w' Ls S' => ?_
  · obtain ⟨G, g1, g2⟩ := StarP.get hi h2
    exact hD b (hb b (h5 b (g2 b g1.1))).2 fun x => h3 b x (g2 b g1.1)
  · refine hD b (Nat.lt_of_lt_of_le hb1 hsz) fun x => ?_
    rcases (hb b (h4 b x)).1 with y | y
    · exact hb2 y
    · omega
  · obtain ⟨G, g1, g2⟩ := S'.ex
    refine ⟨S.fr.trans' S'.fr fun k hk => (hb k (h4 k hk)).1, fun k => G k ∨ F2 k, StarP.app.2 ⟨G, F2, g1, h2.st fun k hk => S'.fr.block k (hb k (h5 k hk)).2 fun x => h3 k x hk, fun k hk hf => ?_, fun k => .inl, fun k => .inr⟩, fun k hk => ?_⟩
    · rcases (g2 k hk).1 with x | x
      · exact h3 k x hf
      · have := (hb k (h5 k hf)).2; omega
    · rcases hk with hk | hk
      · refine ⟨?_, (g2 k hk).2⟩
        rcases (g2 k hk).1 with x | x
        · exact (hb k (h4 k x)).1
        · exact .inr (by omega)
      · exact ⟨(hb k (h5 k hk)).1, Nat.lt_of_lt_of_le (hb k (h5 k hk)).2 S'.fr.size⟩
end
end Go.Eng
/-! An array, and a ledger, as parts of which only the data is told. -/
namespace Go.Proofs.YtlpeoaphdmfjdaaGreat.Vc
open Go Go.Eng Go.RowKit
def chipE (p : Nat) (C : CD) : Asr := ⟨fun w F => ∃ (y : Lay) (L : List TOp), fds y.F = C.pl ∧ StarP w (ChipP p y C L) F, fun h k => by obtain ⟨y, L, h1, h2⟩ := h; exact ⟨y, L, h1, h2.st k⟩⟩
theorem eraC_k (C : CD) (n : Int) : (eraC C n).1.g = C.g ∧ (eraC C n).1.pl = C.pl := by unfold eraC eraX; split <;> exact ⟨rfl, rfl⟩
theorem scrC_k (C : CD) (n : Int) : (scrC C n).1.g = C.g ∧ (scrC C n).1.pl = C.pl := by unfold scrC scrX; split <;> exact ⟨rfl, rfl⟩
theorem progC_k (C : CD) (bl pa : Int) (b : List Int) : (progC C bl pa b).1.g = C.g ∧ (progC C bl pa b).1.pl = C.pl := by unfold progC progX; split <;> exact ⟨rfl, rfl⟩
theorem eraC_ok {C : CD} (hC : COk C) (n : Int) (ho : C.ops < 1000000) : COk (eraC C n).1 ∧ (eraC C n).1.ops ≤ C.ops + 1 ∧ C.ops ≤ (eraC C n).1.ops := by
  unfold eraC
  split
  · rename_i h; exact ⟨eraX_ok hC h ho, Nat.le_refl _, Nat.le_succ _⟩
  · exact ⟨hC, Nat.le_succ _, Nat.le_refl _⟩
theorem scrC_ok {C : CD} (hC : COk C) (n : Int) (ho : C.ops < 1000000) : COk (scrC C n).1 ∧ (scrC C n).1.ops ≤ C.ops + 1 ∧ C.ops ≤ (scrC C n).1.ops := by
  unfold scrC
  split
  · rename_i h; exact ⟨scrX_ok hC h ho, Nat.le_refl _, Nat.le_succ _⟩
  · exact ⟨hC, Nat.le_succ _, Nat.le_refl _⟩
theorem progC_ok {C : CD} (hC : COk C) (bl pa : Int) {b : List Int} (bb : Byt b) (ho : C.ops < 1000000) : COk (progC C bl pa b).1 ∧ (progC C bl pa b).1.ops ≤ C.ops + 1 ∧ C.ops ≤ (progC C bl pa b).1.ops := by
  unfold progC
  split
  · rename_i h; exact ⟨progX_ok hC h bb ho, Nat.le_refl _, Nat.le_succ _⟩
  · exact ⟨hC, Nat.le_succ _, Nat.le_refl _⟩
section
variable {E : Nat → Prop} {w0 w : World} {Rs : List Asr} {p q : Nat} {C : CD} {L : List Blk}
theorem chipE_in {y : Lay} {T : List TOp} (hF : fds y.F = C.pl) (S : Sep E w0 w (ChipP p y C T ++ Rs)) : Sep E w0 w (chipE p C :: Rs) :=
  (S.fold (Rs := ChipP p y C T)).conv fun F h _ => ⟨y, T, hF, h⟩
theorem chipE_out (S : Sep E w0 w (chipE p C :: Rs)) : ∃ (y : Lay) (T : List TOp), fds y.F = C.pl ∧ Sep E w0 w (ChipP p y C T ++ Rs) := by
  obtain ⟨F, ⟨F1, F2, ⟨y, T, h1, h2⟩, h3⟩, hb⟩ := S.ex
  have S2 : Sep E w0 w (StarA (ChipP p y C T) :: Rs) := ⟨S.fr, F, ⟨F1, F2, h2, h3⟩, hb⟩
  exact ⟨y, T, h1, S2.unfold (Rs := ChipP p y C T)⟩
theorem Erase_e {n : Int} (hC : COk C) (S : Sep E w0 w (chipE p C :: Rs)) : CallV Tryz.prog 45 #[.pointer (some ⟨p, 0, none⟩), .int .i64 n] w [.one (.int .i64)] fun r w' =>
    r.1 = (eraC C n).2 ∧ Sep E w0 w' (chipE p (eraC C n).1 :: Rs) := by
  obtain ⟨y, T, hF, S⟩ := chipE_out S
  refine Sep.call (ChipP p y C T) S (fun G SG => Erase13_c hC hF SG) fun G fr r w' hr => ?_
  obtain ⟨h1, ta, tc, L', -, S'⟩ := hr
  exact ⟨h1, chipE_in (y := upT y ta tc) (by show fds y.F = _; rw [hF, (eraC_k C n).2]) (fr _ _ S')⟩
theorem Scrub_e {n : Int} (hC : COk C) (S : Sep E w0 w (chipE p C :: Rs)) : CallV Tryz.prog 48 #[.pointer (some ⟨p, 0, none⟩), .int .i64 n] w [.one (.int .i64)] fun r w' =>
    r.1 = (scrC C n).2 ∧ Sep E w0 w' (chipE p (scrC C n).1 :: Rs) := by
  obtain ⟨y, T, hF, S⟩ := chipE_out S
  refine Sep.call (ChipP p y C T) S (fun G SG => Scrub13_c hC hF SG) fun G fr r w' hr => ?_
  obtain ⟨h1, ta, tc, L', -, S'⟩ := hr
  exact ⟨h1, chipE_in (y := upT y ta tc) (by show fds y.F = _; rw [hF, (scrC_k C n).2]) (fr _ _ S')⟩
theorem Program_eL {bl pa : Int} {dd : SlP Int} {D : List (SlP Int)} (hC : COk C) (hdn : dd.n ≤ 100000) (hD : dd ∈ D) (S : Sep E w0 w (chipE p C :: RdL D :: Rs)) : CallV Tryz.prog 92 #[.pointer (some ⟨p, 0, none⟩), .agg #[.int .i64 bl, .int .i64 pa], .slice dd.a dd.n dd.c] w [.one (.int .i64)] fun r w' =>
    r.1 = (progC C bl pa dd.l).2 ∧ Sep E w0 w' (chipE p (progC C bl pa dd.l).1 :: RdL D :: Rs) := by
  obtain ⟨y, T, hF, S⟩ := chipE_out S
  refine Sep.call (ChipQ p y C T [RdL D]) S (fun G SG => Program13_c (bl := bl) (pa := pa) hC hF hdn SG hD) fun G fr r w' hr => ?_
  obtain ⟨h1, ta, tc, L', -, S'⟩ := hr
  exact ⟨h1, chipE_in (y := upT y ta tc) (T := L') (Rs := RdL D :: Rs) (by show fds y.F = _; rw [hF, (progC_k C bl pa dd.l).2]) (fr _ _ S')⟩
theorem Program_e {bl pa : Int} {dd : SlP Int} (hC : COk C) (hdn : dd.n ≤ 100000) (S : Sep E w0 w (chipE p C :: RdL [dd] :: Rs)) : CallV Tryz.prog 92 #[.pointer (some ⟨p, 0, none⟩), .agg #[.int .i64 bl, .int .i64 pa], .slice dd.a dd.n dd.c] w [.one (.int .i64)] fun r w' =>
    r.1 = (progC C bl pa dd.l).2 ∧ Sep E w0 w' (chipE p (progC C bl pa dd.l).1 :: RdL [dd] :: Rs) := Program_eL hC hdn (List.mem_singleton.2 rfl) S
theorem res_rdL {w1 : World} {s : SlV} {xs : List Int} (S : Sep E w0 w Rs) (h : Res w w1 s xs) (bx : Byt xs) : Sep E w0 w1 (RdL [⟨s.a, s.n, s.c, xs⟩] :: Rs) :=
  (S.pushO h.ext h.own).conv fun F hF _ x hx => by
    rw [List.mem_singleton.1 hx]
    exact own_rdB hF (fun k hk => hk) bx
theorem On_e (hC : COk C) (S : Sep E w0 w (chipE p C :: Rs)) : CallV Tryz.prog 60 #[.pointer (some ⟨p, 0, none⟩)] w [.one .bool] fun r w' => r.1 = (!C.off) ∧ w' = w := by
  obtain ⟨y, T, hF, S⟩ := chipE_out S
  exact On_c hC S
theorem Geometry_e (S : Sep E w0 w (chipE p C :: Rs)) : CallV Tryz.prog 59 #[.pointer (some ⟨p, 0, none⟩)] w [.agg [.int .i64, .int .i64, .int .i64, .int .i64, .int .i64, .int .i64]] fun r w' => r.1 = C.g.tup ∧ Ext w w' := by
  obtain ⟨y, T, hF, S⟩ := chipE_out S
  exact Geometry_c S
theorem Power_e {on : Bool} (S : Sep E w0 w (chipE p C :: Rs)) : CallV Tryz.prog 24 #[.pointer (some ⟨p, 0, none⟩), .bool on] w [] fun _ w' => Sep E w0 w' (chipE p { C with off := !on } :: Rs) := by
  obtain ⟨y, T, hF, S⟩ := chipE_out S
  refine Sep.call (ChipP p y C T) S (fun G SG => Power_c SG) fun G fr r w' hr => ?_
  exact chipE_in (y := y) hF (fr _ _ hr)
theorem Image_e (hC : COk C) (S : Sep E w0 w (chipE p C :: Rs)) : CallV Tryz.prog 11 #[.pointer (some ⟨p, 0, none⟩)] w [.one .sl] fun r w' => Res w w' r.1 (imgC C) := by
  obtain ⟨y, T, hF, S⟩ := chipE_out S
  exact Image_c hC S
theorem Read_e {bl pa : Int} (hC : COk C) (S : Sep E w0 w (chipE p C :: Rs)) : CallV Tryz.prog 118 #[.pointer (some ⟨p, 0, none⟩), .agg #[.int .i64 bl, .int .i64 pa]] w [.one .sl, .one (.int .i64)] fun r w' =>
    r.2.1 = readC C bl pa ∧ (readC C bl pa ≠ 0 → r.1 = (⟨none, 0, 0⟩ : SlV) ∧ Ext w w') ∧ (readC C bl pa = 0 → Res w w' r.1 (pgC13 C bl pa)) := by
  obtain ⟨y, T, hF, S⟩ := chipE_out S
  exact Read13_c hC S
end
end Go.Proofs.YtlpeoaphdmfjdaaGreat.Vc
/-! The plans of functions as plain statements, printed by wip/tools/vcgen.py; the kernel holds each to the code. -/
namespace Go.Proofs.YtlpeoaphdmfjdaaGreat.Vc
open Go Go.Eng
def head_Bytes.A : Ann := .two .no (.two (.two .no (.one (.loop [2, 3, 5, 14, 15, 16, 17, 18, 19, 20, 21, 22, 23] [(14, .one (.int .i64))] .no))) .no)
def head_Bytes.P (p0_0 p0_1 p0_2 p0_3 p0_4 p0_5 : Int) (w : World) (K : SlV × Int × Unit → World → Prop) : Prop :=
  NewV #[.int .i64 p0_0, .int .i64 p0_1, .int .i64 p0_2, .int .u32 p0_3, .int .u64 p0_4, .int .u64 p0_5] 46 w fun b1 w2 =>
  LoadS w2 ⟨b1, 0, none⟩ (.int .i64) fun (x3 : Int) =>
  LoadS w2 ⟨b1, 1, none⟩ (.int .i64) fun (x4 : Int) =>
  LoadS w2 ⟨b1, 2, none⟩ (.int .i64) fun (x5 : Int) =>
  LoopV [.one (.int .i64)] ((0 : Int), ()) w2 fun (z6 : Int × Unit) w7 (K8 : Int × Unit → World → Prop) =>
  cond (decide (z6.1 < 3))
  ((0 ≤ z6.1 ∧ z6.1 < (3 : Int)) ∧ ∃ y9 : Int, ([.int .i64 x3, .int .i64 x4, .int .i64 x5] : List Value)[z6.1.toNat * 1]? = some (.int .i64 y9) ∧
  cond (decide (y9 < 0))
  (K ((⟨none, 0, 0⟩ : SlV), (2 : Int), ()) w7)
  (cond (decide (y9 > 255))
  (K ((⟨none, 0, 0⟩ : SlV), (2 : Int), ()) w7)
  (Rng .i64 (z6.1 + 1) ∧
  K8 (z6.1 + 1, ()) w7)))
  (LoadS w7 ⟨b1, 0, none⟩ (.int .i64) fun (x10 : Int) =>
  cond (decide (x10 < 1))
  (K ((⟨none, 0, 0⟩ : SlV), (2 : Int), ()) w7)
  (LoadS w7 ⟨b1, 0, none⟩ (.int .i64) fun (x11 : Int) =>
  cond (decide (x11 > 4))
  (K ((⟨none, 0, 0⟩ : SlV), (2 : Int), ()) w7)
  (LoadS w7 ⟨b1, 0, none⟩ (.int .i64) fun (x12 : Int) =>
  LoadS w7 ⟨b1, 1, none⟩ (.int .i64) fun (x13 : Int) =>
  LoadS w7 ⟨b1, 2, none⟩ (.int .i64) fun (x14 : Int) =>
  NewV #[.int .u8 (IntKind.u8.wrap x12), .int .u8 (IntKind.u8.wrap x13), .int .u8 (IntKind.u8.wrap x14), .int .u8 0] 5 w7 fun b15 w16 =>
  LoadS w16 ⟨b1, 3, none⟩ (.int .u32) fun (x17 : Int) =>
  CallV Tryz.prog 182 #[.int .u64 (IntKind.u64.wrap x17), .int .i64 4] w16 [.one .sl] fun (r18 : SlV × Unit) w19 =>
  AppS w19 r18.1.a r18.1.n 1 fun ns24 =>
  AppV w19 5 1 1 (some ⟨b15, 0, none⟩) 4 4 ns24 r18.1.n fun a20 n21 c22 w23 =>
  LoadS w23 ⟨b1, 4, none⟩ (.int .u64) fun (x25 : Int) =>
  CallV Tryz.prog 182 #[.int .u64 x25, .int .i64 8] w23 [.one .sl] fun (r26 : SlV × Unit) w27 =>
  AppS w27 r26.1.a r26.1.n 1 fun ns32 =>
  AppV w27 5 1 1 a20 n21 c22 ns32 r26.1.n fun a28 n29 c30 w31 =>
  LoadS w31 ⟨b1, 5, none⟩ (.int .u64) fun (x33 : Int) =>
  CallV Tryz.prog 182 #[.int .u64 x33, .int .i64 8] w31 [.one .sl] fun (r34 : SlV × Unit) w35 =>
  AppS w35 r34.1.a r34.1.n 1 fun ns40 =>
  AppV w35 5 1 1 a28 n29 c30 ns40 r34.1.n fun a36 n37 c38 w39 =>
  K ((⟨a36, n37, c38⟩ : SlV), (0 : Int), ()) w39)))
theorem head_Bytes.vc (p0_0 p0_1 p0_2 p0_3 p0_4 p0_5 : Int) (w : World) (K : SlV × Int × Unit → World → Prop) (h : head_Bytes.P p0_0 p0_1 p0_2 p0_3 p0_4 p0_5 w K) : CallV Tryz.prog 178 #[.agg #[.int .i64 p0_0, .int .i64 p0_1, .int .i64 p0_2, .int .u32 p0_3, .int .u64 p0_4, .int .u64 p0_5]] w [.one .sl, .one (.int .i64)] K := by
  refine vcFun.of (A := head_Bytes.A) (wr := false) okf_ok follows h Tryz.func178 ?_
  kernel_rfl
def ref14_Right.A : Ann := .no
def ref14_Right.P (p0_0 p0_1 p0_2 p0_3 p0_4 p0_5 : Int) (w : World) (K : Bool × Unit → World → Prop) : Prop :=
  NewV #[.int .i64 p0_0, .int .i64 p0_1, .int .i64 p0_2, .int .u32 p0_3, .int .u64 p0_4, .int .u64 p0_5] 46 w fun b1 w2 =>
  LoadS w2 ⟨b1, 0, none⟩ (.int .i64) fun (x3 : Int) =>
  cond (decide (x3 ≥ 1))
  (LoadS w2 ⟨b1, 0, none⟩ (.int .i64) fun (x4 : Int) =>
  cond (decide (x4 ≤ 4))
  (LoadS w2 ⟨b1, 1, none⟩ (.int .i64) fun (x5 : Int) =>
  cond (decide (x5 ≥ 0))
  (LoadS w2 ⟨b1, 1, none⟩ (.int .i64) fun (x6 : Int) =>
  cond (decide (x6 ≤ 255))
  (LoadS w2 ⟨b1, 2, none⟩ (.int .i64) fun (x7 : Int) =>
  cond (decide (x7 ≥ 0))
  (LoadS w2 ⟨b1, 2, none⟩ (.int .i64) fun (x8 : Int) =>
  K (decide (x8 ≤ 255), ()) w2)
  (K (false, ()) w2))
  (K (false, ()) w2))
  (K (false, ()) w2))
  (K (false, ()) w2))
  (K (false, ()) w2)
theorem ref14_Right.vc (p0_0 p0_1 p0_2 p0_3 p0_4 p0_5 : Int) (w : World) (K : Bool × Unit → World → Prop) (h : ref14_Right.P p0_0 p0_1 p0_2 p0_3 p0_4 p0_5 w K) : CallV Tryz.prog 86 #[.agg #[.int .i64 p0_0, .int .i64 p0_1, .int .i64 p0_2, .int .u32 p0_3, .int .u64 p0_4, .int .u64 p0_5]] w [.one .bool] K := by
  refine vcFun.of (A := ref14_Right.A) (wr := false) okf_ok follows h Tryz.func86 ?_
  kernel_rfl
def ref14_Bytes.A : Ann := .two .no (.two (.draw (.take 0 (.take 1 (.take 2 (.take 3 (.take 4 (.take 5 (.take 6 (.take 7 (.take 8 (.take 10 (.take 11 (.take 12 (.both 9 (.eff 13 (.eff 14 (.take 15 (.done)))) 13 (.eff 9 (.eff 14 (.take 15 (.done)))))))))))))))))) .no)
def ref14_Bytes.P (p0_0 p0_1 p0_2 p0_3 p0_4 p0_5 : Int) (w : World) (K : SlV × Unit → World → Prop) : Prop :=
  NewV #[.int .i64 p0_0, .int .i64 p0_1, .int .i64 p0_2, .int .u32 p0_3, .int .u64 p0_4, .int .u64 p0_5] 46 w fun b1 w2 =>
  DrawV fun D3 =>
  (D3 b1 ∧ LoadS w2.drew ⟨b1, 0, none⟩ (.int .i64) fun (x4 : Int) =>
  (D3 b1 ∧ LoadS w2.drew ⟨b1, 1, none⟩ (.int .i64) fun (x5 : Int) =>
  (D3 b1 ∧ LoadS w2.drew ⟨b1, 2, none⟩ (.int .i64) fun (x6 : Int) =>
  (D3 b1 ∧ LoadS w2.drew ⟨b1, 3, none⟩ (.int .u32) fun (x7 : Int) =>
  ((NewV #[.int .u8 (IntKind.u8.wrap x4), .int .u8 (IntKind.u8.wrap x5), .int .u8 (IntKind.u8.wrap x6), .int .u8 0] 5 w2.drew fun b8 w9 =>
  KeepOn D3 w2.drew w9 ∧
  CallV Tryz.prog 173 #[.int .u64 (IntKind.u64.wrap x7), .int .i64 4] w9 [.one .sl] fun (r10 : SlV × Unit) w11 =>
  KeepOn D3 w2.drew w11 ∧
  AppS w11 r10.1.a r10.1.n 1 fun ns16 =>
  AppV w11 5 1 1 (some ⟨b8, 0, none⟩) 4 4 ns16 r10.1.n fun a12 n13 c14 w15 =>
  KeepOn D3 w2.drew w15 ∧
  LoadS w15 ⟨b1, 4, none⟩ (.int .u64) fun (x17 : Int) =>
  CallV Tryz.prog 173 #[.int .u64 x17, .int .i64 8] w15 [.one .sl] fun (r18 : SlV × Unit) w19 =>
  AppS w19 r18.1.a r18.1.n 1 fun ns24 =>
  AppV w19 5 1 1 a12 n13 c14 ns24 r18.1.n fun a20 n21 c22 w23 =>
  LoadS w23 ⟨b1, 5, none⟩ (.int .u64) fun (x25 : Int) =>
  CallV Tryz.prog 173 #[.int .u64 x25, .int .i64 8] w23 [.one .sl] fun (r26 : SlV × Unit) w27 =>
  AppS w27 r26.1.a r26.1.n 1 fun ns32 =>
  AppV w27 5 1 1 a20 n21 c22 ns32 r26.1.n fun a28 n29 c30 w31 =>
  K ((⟨a28, n29, c30⟩ : SlV), ()) w31) ∧
  (CallV Tryz.prog 173 #[.int .u64 (IntKind.u64.wrap x7), .int .i64 4] w2.drew [.one .sl] fun (r33 : SlV × Unit) w34 =>
  KeepOn D3 w2.drew w34 ∧
  NewV #[.int .u8 (IntKind.u8.wrap x4), .int .u8 (IntKind.u8.wrap x5), .int .u8 (IntKind.u8.wrap x6), .int .u8 0] 5 w34 fun b35 w36 =>
  KeepOn D3 w2.drew w36 ∧
  AppS w36 r33.1.a r33.1.n 1 fun ns41 =>
  AppV w36 5 1 1 (some ⟨b35, 0, none⟩) 4 4 ns41 r33.1.n fun a37 n38 c39 w40 =>
  KeepOn D3 w2.drew w40 ∧
  LoadS w40 ⟨b1, 4, none⟩ (.int .u64) fun (x42 : Int) =>
  CallV Tryz.prog 173 #[.int .u64 x42, .int .i64 8] w40 [.one .sl] fun (r43 : SlV × Unit) w44 =>
  AppS w44 r43.1.a r43.1.n 1 fun ns49 =>
  AppV w44 5 1 1 a37 n38 c39 ns49 r43.1.n fun a45 n46 c47 w48 =>
  LoadS w48 ⟨b1, 5, none⟩ (.int .u64) fun (x50 : Int) =>
  CallV Tryz.prog 173 #[.int .u64 x50, .int .i64 8] w48 [.one .sl] fun (r51 : SlV × Unit) w52 =>
  AppS w52 r51.1.a r51.1.n 1 fun ns57 =>
  AppV w52 5 1 1 a45 n46 c47 ns57 r51.1.n fun a53 n54 c55 w56 =>
  K ((⟨a53, n54, c55⟩ : SlV), ()) w56))))))
theorem ref14_Bytes.vc (p0_0 p0_1 p0_2 p0_3 p0_4 p0_5 : Int) (w : World) (K : SlV × Unit → World → Prop) (h : ref14_Bytes.P p0_0 p0_1 p0_2 p0_3 p0_4 p0_5 w K) : CallV Tryz.prog 160 #[.agg #[.int .i64 p0_0, .int .i64 p0_1, .int .i64 p0_2, .int .u32 p0_3, .int .u64 p0_4, .int .u64 p0_5]] w [.one .sl] K := by
  refine vcFun.of (A := ref14_Bytes.A) (wr := false) okf_ok follows h Tryz.func160 ?_
  kernel_rfl
def head_Mark.A : Ann := .no
def head_Mark.P (p0 : Int) (w : World) (K : SlV × Unit → World → Prop) : Prop :=
  cond (decide (p0 < 88))
  (K ((⟨none, 0, 0⟩ : SlV), ()) w)
  (cond (decide (p0 > 4184))
  (K ((⟨none, 0, 0⟩ : SlV), ()) w)
  (Rng .i64 (p0 - 8) ∧
  CallV Tryz.prog 126 #[.int .u8 255, .int .i64 (p0 - 8)] w [.one .sl] fun (r1 : SlV × Unit) w2 =>
  CallV Tryz.prog 126 #[.int .u8 0, .int .i64 8] w2 [.one .sl] fun (r3 : SlV × Unit) w4 =>
  AppS w4 r3.1.a r3.1.n 1 fun ns9 =>
  AppV w4 5 1 1 r1.1.a r1.1.n r1.1.c ns9 r3.1.n fun a5 n6 c7 w8 =>
  K ((⟨a5, n6, c7⟩ : SlV), ()) w8))
theorem head_Mark.vc (p0 : Int) (w : World) (K : SlV × Unit → World → Prop) (h : head_Mark.P p0 w K) : CallV Tryz.prog 141 #[.int .i64 p0] w [.one .sl] K := by
  refine vcFun.of (A := head_Mark.A) (wr := false) okf_ok follows h Tryz.func141 ?_
  kernel_rfl
def head_Read.A : Ann := .two .no (.two .no (.two (.draw (.take 0 (.take 1 (.take 2 (.take 3 (.take 4 (.take 5 (.done)))))))) (.two (.draw (.take 0 (.take 1 (.take 2 (.take 3 (.take 4 (.take 5 (.take 6 (.take 7 (.take 8 (.take 9 (.take 10 (.take 11 (.take 12 (.take 13 (.take 16 (.take 17 (.take 19 (.take 20 (.both 14 (.take 15 (.both 18 (.both 21 (.take 22 (.eff 23 (.eff 24 (.done)))) 23 (.eff 21 (.take 22 (.eff 24 (.done))))) 23 (.eff 18 (.eff 21 (.take 22 (.eff 24 (.done))))))) 23 (.eff 14 (.take 15 (.eff 18 (.eff 21 (.take 22 (.eff 24 (.done))))))))))))))))))))))))))) (.two (.two (.draw (.take 0 (.take 2 (.take 3 (.eff 1 (.eff 4 (.take 5 (.take 6 (.take 7 (.take 8 (.take 9 (.take 10 (.take 11 (.take 12 (.take 13 (.take 14 (.take 15 (.take 16 (.take 17 (.take 18 (.take 19 (.take 20 (.take 21 (.done)))))))))))))))))))))))) .no) (.two (.draw (.take 0 (.take 2 (.eff 1 (.eff 3 (.eff 4 (.take 5 (.take 6 (.done))))))))) .no)))))
def head_Read.P (a0 : Option Addr) (n0 c0 : Nat) (w : World) (K : (Int × Int × Int × Int × Int × Int × Unit) × SlV × Int × Unit → World → Prop) : Prop :=
  NewV #[.int .i64 0, .int .i64 0, .int .i64 0, .int .u32 0, .int .u64 0, .int .u64 0] 46 w fun b1 w2 =>
  cond (((n0 : Nat) : Int) != 88)
  (StoreV w2 ⟨b1, 0, none⟩ [.int .i64 0, .int .i64 0, .int .i64 0, .int .u32 0, .int .u64 0, .int .u64 0] fun w3 =>
  LoadA w3 ⟨b1, 0, none⟩ [.int .i64, .int .i64, .int .i64, .int .u32, .int .u64, .int .u64] fun (x4 : Int × Int × Int × Int × Int × Int × Unit) =>
  K ((x4.1, x4.2.1, x4.2.2.1, x4.2.2.2.1, x4.2.2.2.2.1, x4.2.2.2.2.2.1, ()), (⟨none, 0, 0⟩ : SlV), (2 : Int), ()) w3)
  (DrawV fun D5 =>
  ((0 : Int) ≤ (24 : Int) ∧ (24 : Int) ≤ ((c0 : Nat) : Int)) ∧
  SubK a0 0 c0 1 fun a6 =>
  ((0 : Int) ≤ (48 : Int) ∧ (48 : Int) ≤ (80 : Int) ∧ (80 : Int) ≤ ((c0 : Nat) : Int)) ∧
  SubK a0 48 c0 1 fun a7 =>
  DrawV fun D8 =>
  (0 ≤ (0 : Int) ∧ 0 < ((24 - 0 : Nat) : Int)) ∧ ∃ q9 : Addr, a6 = some q9 ∧
  (D8 (q9.add (0 * 1)).block ∧ LoadS w2.drew.drew (q9.add (0 * 1)) (.int .u8) fun (x10 : Int) =>
  (0 ≤ (1 : Int) ∧ 1 < ((24 - 0 : Nat) : Int)) ∧ ∃ q11 : Addr, a6 = some q11 ∧
  (D8 (q11.add (1 * 1)).block ∧ LoadS w2.drew.drew (q11.add (1 * 1)) (.int .u8) fun (x12 : Int) =>
  (0 ≤ (2 : Int) ∧ 2 < ((24 - 0 : Nat) : Int)) ∧ ∃ q13 : Addr, a6 = some q13 ∧
  (D8 (q13.add (2 * 1)).block ∧ LoadS w2.drew.drew (q13.add (2 * 1)) (.int .u8) fun (x14 : Int) =>
  ((0 : Int) ≤ (4 : Int) ∧ (4 : Int) ≤ (8 : Int) ∧ (8 : Int) ≤ ((c0 - 0 : Nat) : Int)) ∧
  SubK a6 4 (c0 - 0) 1 fun a15 =>
  ((0 : Int) ≤ (8 : Int) ∧ (8 : Int) ≤ (16 : Int) ∧ (16 : Int) ≤ ((c0 - 0 : Nat) : Int)) ∧
  SubK a6 8 (c0 - 0) 1 fun a16 =>
  ((0 : Int) ≤ (16 : Int) ∧ (16 : Int) ≤ (24 : Int) ∧ (24 : Int) ≤ ((c0 - 0 : Nat) : Int)) ∧
  SubK a6 16 (c0 - 0) 1 fun a17 =>
  ((CallV Tryz.prog 180 #[.slice a15 (8 - 4) ((c0 - 0) - 4)] w2.drew.drew [.one (.int .u64)] fun (r18 : Int × Unit) w19 =>
  KeepOn D8 w2.drew.drew w19 ∧
  ((CallV Tryz.prog 180 #[.slice a16 (16 - 8) ((c0 - 0) - 8)] w19 [.one (.int .u64)] fun (r20 : Int × Unit) w21 =>
  KeepOn D8 w2.drew.drew w21 ∧
  ((CallV Tryz.prog 180 #[.slice a17 (24 - 16) ((c0 - 0) - 16)] w21 [.one (.int .u64)] fun (r22 : Int × Unit) w23 =>
  KeepOn D8 w2.drew.drew w23 ∧
  NewV #[.int .i64 0, .int .i64 0, .int .i64 0, .int .u32 0, .int .u64 0, .int .u64 0] 46 w23 fun b24 w25 =>
  KeepOn D8 w2.drew.drew w25 ∧
  StoreV w25 ⟨b24, 0, none⟩ [.int .i64 (IntKind.i64.wrap x10), .int .i64 (IntKind.i64.wrap x12), .int .i64 (IntKind.i64.wrap x14), .int .u32 (IntKind.u32.wrap r18.1), .int .u64 r20.1, .int .u64 r22.1] fun w26 =>
  KeepOn D8 w2.drew.drew w26 ∧
  DrawV fun D27 =>
  ((0 : Int) ≤ (24 : Int) ∧ (24 : Int) ≤ (48 : Int) ∧ (48 : Int) ≤ ((c0 : Nat) : Int)) ∧
  SubK a0 24 c0 1 fun a28 =>
  CallV Tryz.prog 151 #[.slice a6 (24 - 0) (c0 - 0)] w26.drew [.one .sl] fun (r29 : SlV × Unit) w30 =>
  KeepOn D27 w26.drew w30 ∧
  CallV Tryz.prog 181 #[.slice r29.1.a r29.1.n r29.1.c, .slice a28 (48 - 24) (c0 - 24)] w30 [.one .bool] fun (r31 : Bool × Unit) w32 =>
  KeepOn D27 w26.drew w32 ∧
  cond (!r31.1)
  (StoreV w32 ⟨b1, 0, none⟩ [.int .i64 0, .int .i64 0, .int .i64 0, .int .u32 0, .int .u64 0, .int .u64 0] fun w33 =>
  LoadA w33 ⟨b1, 0, none⟩ [.int .i64, .int .i64, .int .i64, .int .u32, .int .u64, .int .u64] fun (x34 : Int × Int × Int × Int × Int × Int × Unit) =>
  K ((x34.1, x34.2.1, x34.2.2.1, x34.2.2.2.1, x34.2.2.2.2.1, x34.2.2.2.2.2.1, ()), (⟨none, 0, 0⟩ : SlV), (1 : Int), ()) w33)
  ((0 ≤ (3 : Int) ∧ 3 < ((24 - 0 : Nat) : Int)) ∧ ∃ q35 : Addr, a6 = some q35 ∧
  (D27 (q35.add (3 * 1)).block ∧ LoadS w26.drew (q35.add (3 * 1)) (.int .u8) fun (x36 : Int) =>
  cond (x36 != 0)
  (StoreV w32 ⟨b1, 0, none⟩ [.int .i64 0, .int .i64 0, .int .i64 0, .int .u32 0, .int .u64 0, .int .u64 0] fun w37 =>
  LoadA w37 ⟨b1, 0, none⟩ [.int .i64, .int .i64, .int .i64, .int .u32, .int .u64, .int .u64] fun (x38 : Int × Int × Int × Int × Int × Int × Unit) =>
  K ((x38.1, x38.2.1, x38.2.2.1, x38.2.2.2.1, x38.2.2.2.2.1, x38.2.2.2.2.2.1, ()), (⟨none, 0, 0⟩ : SlV), (1 : Int), ()) w37)
  ((D27 b24 ∧ LoadS w26.drew ⟨b24, 0, none⟩ (.int .i64) fun (x39 : Int) =>
  cond (decide (x39 < 1))
  (StoreV w32 ⟨b1, 0, none⟩ [.int .i64 0, .int .i64 0, .int .i64 0, .int .u32 0, .int .u64 0, .int .u64 0] fun w40 =>
  LoadA w40 ⟨b1, 0, none⟩ [.int .i64, .int .i64, .int .i64, .int .u32, .int .u64, .int .u64] fun (x41 : Int × Int × Int × Int × Int × Int × Unit) =>
  K ((x41.1, x41.2.1, x41.2.2.1, x41.2.2.2.1, x41.2.2.2.2.1, x41.2.2.2.2.2.1, ()), (⟨none, 0, 0⟩ : SlV), (1 : Int), ()) w40)
  ((D27 b24 ∧ LoadS w26.drew ⟨b24, 0, none⟩ (.int .i64) fun (x42 : Int) =>
  cond (decide (x42 > 4))
  (StoreV w32 ⟨b1, 0, none⟩ [.int .i64 0, .int .i64 0, .int .i64 0, .int .u32 0, .int .u64 0, .int .u64 0] fun w43 =>
  LoadA w43 ⟨b1, 0, none⟩ [.int .i64, .int .i64, .int .i64, .int .u32, .int .u64, .int .u64] fun (x44 : Int × Int × Int × Int × Int × Int × Unit) =>
  K ((x44.1, x44.2.1, x44.2.2.1, x44.2.2.2.1, x44.2.2.2.2.1, x44.2.2.2.2.2.1, ()), (⟨none, 0, 0⟩ : SlV), (1 : Int), ()) w43)
  (DrawV fun D45 =>
  (D45 b24 ∧ LoadA w32.drew ⟨b24, 0, none⟩ [.int .i64, .int .i64, .int .i64, .int .u32, .int .u64, .int .u64] fun (x46 : Int × Int × Int × Int × Int × Int × Unit) =>
  NewV #[] 5 w32.drew fun b47 w48 =>
  KeepOn D45 w32.drew w48 ∧
  AppS w48 a7 (80 - 48) 1 fun ns53 =>
  AppV w48 5 1 1 (some ⟨b47, 0, none⟩) 0 0 ns53 (80 - 48) fun a49 n50 c51 w52 =>
  KeepOn D45 w32.drew w52 ∧
  StoreV w52 ⟨b1, 0, none⟩ [.int .i64 x46.1, .int .i64 x46.2.1, .int .i64 x46.2.2.1, .int .u32 x46.2.2.2.1, .int .u64 x46.2.2.2.2.1, .int .u64 x46.2.2.2.2.2.1] fun w54 =>
  KeepOn D45 w32.drew w54 ∧
  LoadA w54 ⟨b1, 0, none⟩ [.int .i64, .int .i64, .int .i64, .int .u32, .int .u64, .int .u64] fun (x55 : Int × Int × Int × Int × Int × Int × Unit) =>
  K ((x55.1, x55.2.1, x55.2.2.1, x55.2.2.2.1, x55.2.2.2.2.1, x55.2.2.2.2.2.1, ()), (⟨a49, n50, c51⟩ : SlV), (0 : Int), ()) w54))))))))) ∧
  (NewV #[.int .i64 0, .int .i64 0, .int .i64 0, .int .u32 0, .int .u64 0, .int .u64 0] 46 w21 fun b56 w57 =>
  KeepOn D8 w2.drew.drew w57 ∧
  CallV Tryz.prog 180 #[.slice a17 (24 - 16) ((c0 - 0) - 16)] w57 [.one (.int .u64)] fun (r58 : Int × Unit) w59 =>
  KeepOn D8 w2.drew.drew w59 ∧
  StoreV w59 ⟨b56, 0, none⟩ [.int .i64 (IntKind.i64.wrap x10), .int .i64 (IntKind.i64.wrap x12), .int .i64 (IntKind.i64.wrap x14), .int .u32 (IntKind.u32.wrap r18.1), .int .u64 r20.1, .int .u64 r58.1] fun w60 =>
  KeepOn D8 w2.drew.drew w60 ∧
  DrawV fun D61 =>
  ((0 : Int) ≤ (24 : Int) ∧ (24 : Int) ≤ (48 : Int) ∧ (48 : Int) ≤ ((c0 : Nat) : Int)) ∧
  SubK a0 24 c0 1 fun a62 =>
  CallV Tryz.prog 151 #[.slice a6 (24 - 0) (c0 - 0)] w60.drew [.one .sl] fun (r63 : SlV × Unit) w64 =>
  KeepOn D61 w60.drew w64 ∧
  CallV Tryz.prog 181 #[.slice r63.1.a r63.1.n r63.1.c, .slice a62 (48 - 24) (c0 - 24)] w64 [.one .bool] fun (r65 : Bool × Unit) w66 =>
  KeepOn D61 w60.drew w66 ∧
  cond (!r65.1)
  (StoreV w66 ⟨b1, 0, none⟩ [.int .i64 0, .int .i64 0, .int .i64 0, .int .u32 0, .int .u64 0, .int .u64 0] fun w67 =>
  LoadA w67 ⟨b1, 0, none⟩ [.int .i64, .int .i64, .int .i64, .int .u32, .int .u64, .int .u64] fun (x68 : Int × Int × Int × Int × Int × Int × Unit) =>
  K ((x68.1, x68.2.1, x68.2.2.1, x68.2.2.2.1, x68.2.2.2.2.1, x68.2.2.2.2.2.1, ()), (⟨none, 0, 0⟩ : SlV), (1 : Int), ()) w67)
  ((0 ≤ (3 : Int) ∧ 3 < ((24 - 0 : Nat) : Int)) ∧ ∃ q69 : Addr, a6 = some q69 ∧
  (D61 (q69.add (3 * 1)).block ∧ LoadS w60.drew (q69.add (3 * 1)) (.int .u8) fun (x70 : Int) =>
  cond (x70 != 0)
  (StoreV w66 ⟨b1, 0, none⟩ [.int .i64 0, .int .i64 0, .int .i64 0, .int .u32 0, .int .u64 0, .int .u64 0] fun w71 =>
  LoadA w71 ⟨b1, 0, none⟩ [.int .i64, .int .i64, .int .i64, .int .u32, .int .u64, .int .u64] fun (x72 : Int × Int × Int × Int × Int × Int × Unit) =>
  K ((x72.1, x72.2.1, x72.2.2.1, x72.2.2.2.1, x72.2.2.2.2.1, x72.2.2.2.2.2.1, ()), (⟨none, 0, 0⟩ : SlV), (1 : Int), ()) w71)
  ((D61 b56 ∧ LoadS w60.drew ⟨b56, 0, none⟩ (.int .i64) fun (x73 : Int) =>
  cond (decide (x73 < 1))
  (StoreV w66 ⟨b1, 0, none⟩ [.int .i64 0, .int .i64 0, .int .i64 0, .int .u32 0, .int .u64 0, .int .u64 0] fun w74 =>
  LoadA w74 ⟨b1, 0, none⟩ [.int .i64, .int .i64, .int .i64, .int .u32, .int .u64, .int .u64] fun (x75 : Int × Int × Int × Int × Int × Int × Unit) =>
  K ((x75.1, x75.2.1, x75.2.2.1, x75.2.2.2.1, x75.2.2.2.2.1, x75.2.2.2.2.2.1, ()), (⟨none, 0, 0⟩ : SlV), (1 : Int), ()) w74)
  ((D61 b56 ∧ LoadS w60.drew ⟨b56, 0, none⟩ (.int .i64) fun (x76 : Int) =>
  cond (decide (x76 > 4))
  (StoreV w66 ⟨b1, 0, none⟩ [.int .i64 0, .int .i64 0, .int .i64 0, .int .u32 0, .int .u64 0, .int .u64 0] fun w77 =>
  LoadA w77 ⟨b1, 0, none⟩ [.int .i64, .int .i64, .int .i64, .int .u32, .int .u64, .int .u64] fun (x78 : Int × Int × Int × Int × Int × Int × Unit) =>
  K ((x78.1, x78.2.1, x78.2.2.1, x78.2.2.2.1, x78.2.2.2.2.1, x78.2.2.2.2.2.1, ()), (⟨none, 0, 0⟩ : SlV), (1 : Int), ()) w77)
  (DrawV fun D79 =>
  (D79 b56 ∧ LoadA w66.drew ⟨b56, 0, none⟩ [.int .i64, .int .i64, .int .i64, .int .u32, .int .u64, .int .u64] fun (x80 : Int × Int × Int × Int × Int × Int × Unit) =>
  NewV #[] 5 w66.drew fun b81 w82 =>
  KeepOn D79 w66.drew w82 ∧
  AppS w82 a7 (80 - 48) 1 fun ns87 =>
  AppV w82 5 1 1 (some ⟨b81, 0, none⟩) 0 0 ns87 (80 - 48) fun a83 n84 c85 w86 =>
  KeepOn D79 w66.drew w86 ∧
  StoreV w86 ⟨b1, 0, none⟩ [.int .i64 x80.1, .int .i64 x80.2.1, .int .i64 x80.2.2.1, .int .u32 x80.2.2.2.1, .int .u64 x80.2.2.2.2.1, .int .u64 x80.2.2.2.2.2.1] fun w88 =>
  KeepOn D79 w66.drew w88 ∧
  LoadA w88 ⟨b1, 0, none⟩ [.int .i64, .int .i64, .int .i64, .int .u32, .int .u64, .int .u64] fun (x89 : Int × Int × Int × Int × Int × Int × Unit) =>
  K ((x89.1, x89.2.1, x89.2.2.1, x89.2.2.2.1, x89.2.2.2.2.1, x89.2.2.2.2.2.1, ()), (⟨a83, n84, c85⟩ : SlV), (0 : Int), ()) w88))))))))))) ∧
  (NewV #[.int .i64 0, .int .i64 0, .int .i64 0, .int .u32 0, .int .u64 0, .int .u64 0] 46 w19 fun b90 w91 =>
  KeepOn D8 w2.drew.drew w91 ∧
  CallV Tryz.prog 180 #[.slice a16 (16 - 8) ((c0 - 0) - 8)] w91 [.one (.int .u64)] fun (r92 : Int × Unit) w93 =>
  KeepOn D8 w2.drew.drew w93 ∧
  CallV Tryz.prog 180 #[.slice a17 (24 - 16) ((c0 - 0) - 16)] w93 [.one (.int .u64)] fun (r94 : Int × Unit) w95 =>
  KeepOn D8 w2.drew.drew w95 ∧
  StoreV w95 ⟨b90, 0, none⟩ [.int .i64 (IntKind.i64.wrap x10), .int .i64 (IntKind.i64.wrap x12), .int .i64 (IntKind.i64.wrap x14), .int .u32 (IntKind.u32.wrap r18.1), .int .u64 r92.1, .int .u64 r94.1] fun w96 =>
  KeepOn D8 w2.drew.drew w96 ∧
  DrawV fun D97 =>
  ((0 : Int) ≤ (24 : Int) ∧ (24 : Int) ≤ (48 : Int) ∧ (48 : Int) ≤ ((c0 : Nat) : Int)) ∧
  SubK a0 24 c0 1 fun a98 =>
  CallV Tryz.prog 151 #[.slice a6 (24 - 0) (c0 - 0)] w96.drew [.one .sl] fun (r99 : SlV × Unit) w100 =>
  KeepOn D97 w96.drew w100 ∧
  CallV Tryz.prog 181 #[.slice r99.1.a r99.1.n r99.1.c, .slice a98 (48 - 24) (c0 - 24)] w100 [.one .bool] fun (r101 : Bool × Unit) w102 =>
  KeepOn D97 w96.drew w102 ∧
  cond (!r101.1)
  (StoreV w102 ⟨b1, 0, none⟩ [.int .i64 0, .int .i64 0, .int .i64 0, .int .u32 0, .int .u64 0, .int .u64 0] fun w103 =>
  LoadA w103 ⟨b1, 0, none⟩ [.int .i64, .int .i64, .int .i64, .int .u32, .int .u64, .int .u64] fun (x104 : Int × Int × Int × Int × Int × Int × Unit) =>
  K ((x104.1, x104.2.1, x104.2.2.1, x104.2.2.2.1, x104.2.2.2.2.1, x104.2.2.2.2.2.1, ()), (⟨none, 0, 0⟩ : SlV), (1 : Int), ()) w103)
  ((0 ≤ (3 : Int) ∧ 3 < ((24 - 0 : Nat) : Int)) ∧ ∃ q105 : Addr, a6 = some q105 ∧
  (D97 (q105.add (3 * 1)).block ∧ LoadS w96.drew (q105.add (3 * 1)) (.int .u8) fun (x106 : Int) =>
  cond (x106 != 0)
  (StoreV w102 ⟨b1, 0, none⟩ [.int .i64 0, .int .i64 0, .int .i64 0, .int .u32 0, .int .u64 0, .int .u64 0] fun w107 =>
  LoadA w107 ⟨b1, 0, none⟩ [.int .i64, .int .i64, .int .i64, .int .u32, .int .u64, .int .u64] fun (x108 : Int × Int × Int × Int × Int × Int × Unit) =>
  K ((x108.1, x108.2.1, x108.2.2.1, x108.2.2.2.1, x108.2.2.2.2.1, x108.2.2.2.2.2.1, ()), (⟨none, 0, 0⟩ : SlV), (1 : Int), ()) w107)
  ((D97 b90 ∧ LoadS w96.drew ⟨b90, 0, none⟩ (.int .i64) fun (x109 : Int) =>
  cond (decide (x109 < 1))
  (StoreV w102 ⟨b1, 0, none⟩ [.int .i64 0, .int .i64 0, .int .i64 0, .int .u32 0, .int .u64 0, .int .u64 0] fun w110 =>
  LoadA w110 ⟨b1, 0, none⟩ [.int .i64, .int .i64, .int .i64, .int .u32, .int .u64, .int .u64] fun (x111 : Int × Int × Int × Int × Int × Int × Unit) =>
  K ((x111.1, x111.2.1, x111.2.2.1, x111.2.2.2.1, x111.2.2.2.2.1, x111.2.2.2.2.2.1, ()), (⟨none, 0, 0⟩ : SlV), (1 : Int), ()) w110)
  ((D97 b90 ∧ LoadS w96.drew ⟨b90, 0, none⟩ (.int .i64) fun (x112 : Int) =>
  cond (decide (x112 > 4))
  (StoreV w102 ⟨b1, 0, none⟩ [.int .i64 0, .int .i64 0, .int .i64 0, .int .u32 0, .int .u64 0, .int .u64 0] fun w113 =>
  LoadA w113 ⟨b1, 0, none⟩ [.int .i64, .int .i64, .int .i64, .int .u32, .int .u64, .int .u64] fun (x114 : Int × Int × Int × Int × Int × Int × Unit) =>
  K ((x114.1, x114.2.1, x114.2.2.1, x114.2.2.2.1, x114.2.2.2.2.1, x114.2.2.2.2.2.1, ()), (⟨none, 0, 0⟩ : SlV), (1 : Int), ()) w113)
  (DrawV fun D115 =>
  (D115 b90 ∧ LoadA w102.drew ⟨b90, 0, none⟩ [.int .i64, .int .i64, .int .i64, .int .u32, .int .u64, .int .u64] fun (x116 : Int × Int × Int × Int × Int × Int × Unit) =>
  NewV #[] 5 w102.drew fun b117 w118 =>
  KeepOn D115 w102.drew w118 ∧
  AppS w118 a7 (80 - 48) 1 fun ns123 =>
  AppV w118 5 1 1 (some ⟨b117, 0, none⟩) 0 0 ns123 (80 - 48) fun a119 n120 c121 w122 =>
  KeepOn D115 w102.drew w122 ∧
  StoreV w122 ⟨b1, 0, none⟩ [.int .i64 x116.1, .int .i64 x116.2.1, .int .i64 x116.2.2.1, .int .u32 x116.2.2.2.1, .int .u64 x116.2.2.2.2.1, .int .u64 x116.2.2.2.2.2.1] fun w124 =>
  KeepOn D115 w102.drew w124 ∧
  LoadA w124 ⟨b1, 0, none⟩ [.int .i64, .int .i64, .int .i64, .int .u32, .int .u64, .int .u64] fun (x125 : Int × Int × Int × Int × Int × Int × Unit) =>
  K ((x125.1, x125.2.1, x125.2.2.1, x125.2.2.2.1, x125.2.2.2.2.1, x125.2.2.2.2.2.1, ()), (⟨a119, n120, c121⟩ : SlV), (0 : Int), ()) w124))))))))))) ∧
  (NewV #[.int .i64 0, .int .i64 0, .int .i64 0, .int .u32 0, .int .u64 0, .int .u64 0] 46 w2.drew.drew fun b126 w127 =>
  KeepOn D8 w2.drew.drew w127 ∧
  CallV Tryz.prog 180 #[.slice a15 (8 - 4) ((c0 - 0) - 4)] w127 [.one (.int .u64)] fun (r128 : Int × Unit) w129 =>
  KeepOn D8 w2.drew.drew w129 ∧
  CallV Tryz.prog 180 #[.slice a16 (16 - 8) ((c0 - 0) - 8)] w129 [.one (.int .u64)] fun (r130 : Int × Unit) w131 =>
  KeepOn D8 w2.drew.drew w131 ∧
  CallV Tryz.prog 180 #[.slice a17 (24 - 16) ((c0 - 0) - 16)] w131 [.one (.int .u64)] fun (r132 : Int × Unit) w133 =>
  KeepOn D8 w2.drew.drew w133 ∧
  StoreV w133 ⟨b126, 0, none⟩ [.int .i64 (IntKind.i64.wrap x10), .int .i64 (IntKind.i64.wrap x12), .int .i64 (IntKind.i64.wrap x14), .int .u32 (IntKind.u32.wrap r128.1), .int .u64 r130.1, .int .u64 r132.1] fun w134 =>
  KeepOn D8 w2.drew.drew w134 ∧
  DrawV fun D135 =>
  ((0 : Int) ≤ (24 : Int) ∧ (24 : Int) ≤ (48 : Int) ∧ (48 : Int) ≤ ((c0 : Nat) : Int)) ∧
  SubK a0 24 c0 1 fun a136 =>
  CallV Tryz.prog 151 #[.slice a6 (24 - 0) (c0 - 0)] w134.drew [.one .sl] fun (r137 : SlV × Unit) w138 =>
  KeepOn D135 w134.drew w138 ∧
  CallV Tryz.prog 181 #[.slice r137.1.a r137.1.n r137.1.c, .slice a136 (48 - 24) (c0 - 24)] w138 [.one .bool] fun (r139 : Bool × Unit) w140 =>
  KeepOn D135 w134.drew w140 ∧
  cond (!r139.1)
  (StoreV w140 ⟨b1, 0, none⟩ [.int .i64 0, .int .i64 0, .int .i64 0, .int .u32 0, .int .u64 0, .int .u64 0] fun w141 =>
  LoadA w141 ⟨b1, 0, none⟩ [.int .i64, .int .i64, .int .i64, .int .u32, .int .u64, .int .u64] fun (x142 : Int × Int × Int × Int × Int × Int × Unit) =>
  K ((x142.1, x142.2.1, x142.2.2.1, x142.2.2.2.1, x142.2.2.2.2.1, x142.2.2.2.2.2.1, ()), (⟨none, 0, 0⟩ : SlV), (1 : Int), ()) w141)
  ((0 ≤ (3 : Int) ∧ 3 < ((24 - 0 : Nat) : Int)) ∧ ∃ q143 : Addr, a6 = some q143 ∧
  (D135 (q143.add (3 * 1)).block ∧ LoadS w134.drew (q143.add (3 * 1)) (.int .u8) fun (x144 : Int) =>
  cond (x144 != 0)
  (StoreV w140 ⟨b1, 0, none⟩ [.int .i64 0, .int .i64 0, .int .i64 0, .int .u32 0, .int .u64 0, .int .u64 0] fun w145 =>
  LoadA w145 ⟨b1, 0, none⟩ [.int .i64, .int .i64, .int .i64, .int .u32, .int .u64, .int .u64] fun (x146 : Int × Int × Int × Int × Int × Int × Unit) =>
  K ((x146.1, x146.2.1, x146.2.2.1, x146.2.2.2.1, x146.2.2.2.2.1, x146.2.2.2.2.2.1, ()), (⟨none, 0, 0⟩ : SlV), (1 : Int), ()) w145)
  ((D135 b126 ∧ LoadS w134.drew ⟨b126, 0, none⟩ (.int .i64) fun (x147 : Int) =>
  cond (decide (x147 < 1))
  (StoreV w140 ⟨b1, 0, none⟩ [.int .i64 0, .int .i64 0, .int .i64 0, .int .u32 0, .int .u64 0, .int .u64 0] fun w148 =>
  LoadA w148 ⟨b1, 0, none⟩ [.int .i64, .int .i64, .int .i64, .int .u32, .int .u64, .int .u64] fun (x149 : Int × Int × Int × Int × Int × Int × Unit) =>
  K ((x149.1, x149.2.1, x149.2.2.1, x149.2.2.2.1, x149.2.2.2.2.1, x149.2.2.2.2.2.1, ()), (⟨none, 0, 0⟩ : SlV), (1 : Int), ()) w148)
  ((D135 b126 ∧ LoadS w134.drew ⟨b126, 0, none⟩ (.int .i64) fun (x150 : Int) =>
  cond (decide (x150 > 4))
  (StoreV w140 ⟨b1, 0, none⟩ [.int .i64 0, .int .i64 0, .int .i64 0, .int .u32 0, .int .u64 0, .int .u64 0] fun w151 =>
  LoadA w151 ⟨b1, 0, none⟩ [.int .i64, .int .i64, .int .i64, .int .u32, .int .u64, .int .u64] fun (x152 : Int × Int × Int × Int × Int × Int × Unit) =>
  K ((x152.1, x152.2.1, x152.2.2.1, x152.2.2.2.1, x152.2.2.2.2.1, x152.2.2.2.2.2.1, ()), (⟨none, 0, 0⟩ : SlV), (1 : Int), ()) w151)
  (DrawV fun D153 =>
  (D153 b126 ∧ LoadA w140.drew ⟨b126, 0, none⟩ [.int .i64, .int .i64, .int .i64, .int .u32, .int .u64, .int .u64] fun (x154 : Int × Int × Int × Int × Int × Int × Unit) =>
  NewV #[] 5 w140.drew fun b155 w156 =>
  KeepOn D153 w140.drew w156 ∧
  AppS w156 a7 (80 - 48) 1 fun ns161 =>
  AppV w156 5 1 1 (some ⟨b155, 0, none⟩) 0 0 ns161 (80 - 48) fun a157 n158 c159 w160 =>
  KeepOn D153 w140.drew w160 ∧
  StoreV w160 ⟨b1, 0, none⟩ [.int .i64 x154.1, .int .i64 x154.2.1, .int .i64 x154.2.2.1, .int .u32 x154.2.2.2.1, .int .u64 x154.2.2.2.2.1, .int .u64 x154.2.2.2.2.2.1] fun w162 =>
  KeepOn D153 w140.drew w162 ∧
  LoadA w162 ⟨b1, 0, none⟩ [.int .i64, .int .i64, .int .i64, .int .u32, .int .u64, .int .u64] fun (x163 : Int × Int × Int × Int × Int × Int × Unit) =>
  K ((x163.1, x163.2.1, x163.2.2.1, x163.2.2.2.1, x163.2.2.2.2.1, x163.2.2.2.2.2.1, ()), (⟨a157, n158, c159⟩ : SlV), (0 : Int), ()) w162))))))))))))))
theorem head_Read.vc (a0 : Option Addr) (n0 c0 : Nat) (w : World) (K : (Int × Int × Int × Int × Int × Int × Unit) × SlV × Int × Unit → World → Prop) (h : head_Read.P a0 n0 c0 w K) : CallV Tryz.prog 176 #[.slice a0 n0 c0] w [.agg [.int .i64, .int .i64, .int .i64, .int .u32, .int .u64, .int .u64], .one .sl, .one (.int .i64)] K := by
  refine vcFun.of (A := head_Read.A) (wr := false) okf_ok follows h Tryz.func176 ?_
  kernel_rfl
def head_Committed.A : Ann := .two .no (.two (.draw (.take 0 (.take 1 (.take 2 (.take 3 (.take 4 (.take 5 (.eff 6 (.eff 7 (.take 8 (.take 9 (.done)))))))))))) .no)
def head_Committed.P (a0 : Option Addr) (n0 c0 : Nat) (w : World) (K : Bool × Unit → World → Prop) : Prop :=
  DrawV fun D1 =>
  cond (((n0 : Nat) : Int) == 88)
  (((0 : Int) ≤ (80 : Int) ∧ (80 : Int) ≤ ((n0 : Nat) : Int)) ∧
  SubK a0 80 c0 1 fun a2 =>
  CallV Tryz.prog 126 #[.int .u8 0, .int .i64 8] w.drew [.one .sl] fun (r3 : SlV × Unit) w4 =>
  KeepOn D1 w.drew w4 ∧
  CallV Tryz.prog 181 #[.slice a2 (n0 - 80) (c0 - 80), .slice r3.1.a r3.1.n r3.1.c] w4 [.one .bool] fun (r5 : Bool × Unit) w6 =>
  KeepOn D1 w.drew w6 ∧
  K (r5.1, ()) w6)
  (K (false, ()) w.drew)
theorem head_Committed.vc (a0 : Option Addr) (n0 c0 : Nat) (w : World) (K : Bool × Unit → World → Prop) (h : head_Committed.P a0 n0 c0 w K) : CallV Tryz.prog 177 #[.slice a0 n0 c0] w [.one .bool] K := by
  refine vcFun.of (A := head_Committed.A) (wr := false) okf_ok follows h Tryz.func177 ?_
  kernel_rfl
def ref14_Committed.A : Ann := .two .no (.two (.draw (.take 0 (.take 1 (.eff 2 (.eff 3 (.take 4 (.done))))))) .no)
def ref14_Committed.P (a0 : Option Addr) (n0 c0 : Nat) (w : World) (K : Bool × Unit → World → Prop) : Prop :=
  DrawV fun D1 =>
  ((0 : Int) ≤ (80 : Int) ∧ (80 : Int) ≤ ((n0 : Nat) : Int)) ∧
  SubK a0 80 c0 1 fun a2 =>
  CallV Tryz.prog 122 #[.int .u8 0, .int .i64 8] w.drew [.one .sl] fun (r3 : SlV × Unit) w4 =>
  KeepOn D1 w.drew w4 ∧
  CallV Tryz.prog 25 #[.slice a2 (n0 - 80) (c0 - 80), .slice r3.1.a r3.1.n r3.1.c] w4 [.one .bool] fun (r5 : Bool × Unit) w6 =>
  KeepOn D1 w.drew w6 ∧
  K (r5.1, ()) w6
theorem ref14_Committed.vc (a0 : Option Addr) (n0 c0 : Nat) (w : World) (K : Bool × Unit → World → Prop) (h : ref14_Committed.P a0 n0 c0 w K) : CallV Tryz.prog 113 #[.slice a0 n0 c0] w [.one .bool] K := by
  refine vcFun.of (A := ref14_Committed.A) (wr := false) okf_ok follows h Tryz.func113 ?_
  kernel_rfl
def ref14_Read.A : Ann := .two .no (.two (.draw (.take 0 (.take 1 (.take 2 (.take 3 (.take 4 (.take 5 (.take 6 (.take 7 (.take 8 (.take 9 (.take 10 (.take 11 (.take 12 (.take 13 (.take 16 (.take 17 (.take 19 (.take 20 (.both 14 (.take 15 (.both 18 (.both 21 (.take 22 (.eff 23 (.eff 24 (.done)))) 23 (.eff 21 (.take 22 (.eff 24 (.done))))) 23 (.eff 18 (.eff 21 (.take 22 (.eff 24 (.done))))))) 23 (.eff 14 (.take 15 (.eff 18 (.eff 21 (.take 22 (.eff 24 (.done))))))))))))))))))))))))))) (.two .no (.two (.two (.draw (.take 0 (.take 2 (.take 6 (.take 7 (.eff 1 (.eff 3 (.eff 4 (.eff 5 (.eff 8 (.take 9 (.done)))))))))))) .no) .no)))
def ref14_Read.P (a0 : Option Addr) (n0 c0 : Nat) (w : World) (K : (Int × Int × Int × Int × Int × Int × Unit) × Bool × Unit → World → Prop) : Prop :=
  NewV #[.int .i64 0, .int .i64 0, .int .i64 0, .int .u32 0, .int .u64 0, .int .u64 0] 46 w fun b1 w2 =>
  DrawV fun D3 =>
  (0 ≤ (0 : Int) ∧ 0 < ((n0 : Nat) : Int)) ∧ ∃ q4 : Addr, a0 = some q4 ∧
  (D3 (q4.add (0 * 1)).block ∧ LoadS w2.drew (q4.add (0 * 1)) (.int .u8) fun (x5 : Int) =>
  (0 ≤ (1 : Int) ∧ 1 < ((n0 : Nat) : Int)) ∧ ∃ q6 : Addr, a0 = some q6 ∧
  (D3 (q6.add (1 * 1)).block ∧ LoadS w2.drew (q6.add (1 * 1)) (.int .u8) fun (x7 : Int) =>
  (0 ≤ (2 : Int) ∧ 2 < ((n0 : Nat) : Int)) ∧ ∃ q8 : Addr, a0 = some q8 ∧
  (D3 (q8.add (2 * 1)).block ∧ LoadS w2.drew (q8.add (2 * 1)) (.int .u8) fun (x9 : Int) =>
  ((0 : Int) ≤ (4 : Int) ∧ (4 : Int) ≤ (8 : Int) ∧ (8 : Int) ≤ ((c0 : Nat) : Int)) ∧
  SubK a0 4 c0 1 fun a10 =>
  ((0 : Int) ≤ (8 : Int) ∧ (8 : Int) ≤ (16 : Int) ∧ (16 : Int) ≤ ((c0 : Nat) : Int)) ∧
  SubK a0 8 c0 1 fun a11 =>
  ((0 : Int) ≤ (16 : Int) ∧ (16 : Int) ≤ (24 : Int) ∧ (24 : Int) ≤ ((c0 : Nat) : Int)) ∧
  SubK a0 16 c0 1 fun a12 =>
  ((CallV Tryz.prog 159 #[.slice a10 (8 - 4) (c0 - 4)] w2.drew [.one (.int .u64)] fun (r13 : Int × Unit) w14 =>
  KeepOn D3 w2.drew w14 ∧
  ((CallV Tryz.prog 159 #[.slice a11 (16 - 8) (c0 - 8)] w14 [.one (.int .u64)] fun (r15 : Int × Unit) w16 =>
  KeepOn D3 w2.drew w16 ∧
  ((CallV Tryz.prog 159 #[.slice a12 (24 - 16) (c0 - 16)] w16 [.one (.int .u64)] fun (r17 : Int × Unit) w18 =>
  KeepOn D3 w2.drew w18 ∧
  NewV #[.int .i64 0, .int .i64 0, .int .i64 0, .int .u32 0, .int .u64 0, .int .u64 0] 46 w18 fun b19 w20 =>
  KeepOn D3 w2.drew w20 ∧
  StoreV w20 ⟨b19, 0, none⟩ [.int .i64 (IntKind.i64.wrap x5), .int .i64 (IntKind.i64.wrap x7), .int .i64 (IntKind.i64.wrap x9), .int .u32 (IntKind.u32.wrap r13.1), .int .u64 r15.1, .int .u64 r17.1] fun w21 =>
  KeepOn D3 w2.drew w21 ∧
  LoadA w21 ⟨b19, 0, none⟩ [.int .i64, .int .i64, .int .i64, .int .u32, .int .u64, .int .u64] fun (x22 : Int × Int × Int × Int × Int × Int × Unit) =>
  CallV Tryz.prog 86 #[.agg #[.int .i64 x22.1, .int .i64 x22.2.1, .int .i64 x22.2.2.1, .int .u32 x22.2.2.2.1, .int .u64 x22.2.2.2.2.1, .int .u64 x22.2.2.2.2.2.1]] w21 [.one .bool] fun (r23 : Bool × Unit) w24 =>
  cond (!r23.1)
  (StoreV w24 ⟨b1, 0, none⟩ [.int .i64 0, .int .i64 0, .int .i64 0, .int .u32 0, .int .u64 0, .int .u64 0] fun w25 =>
  LoadA w25 ⟨b1, 0, none⟩ [.int .i64, .int .i64, .int .i64, .int .u32, .int .u64, .int .u64] fun (x26 : Int × Int × Int × Int × Int × Int × Unit) =>
  K ((x26.1, x26.2.1, x26.2.2.1, x26.2.2.2.1, x26.2.2.2.2.1, x26.2.2.2.2.2.1, ()), false, ()) w25)
  (DrawV fun D27 =>
  (D27 b19 ∧ LoadA w24.drew ⟨b19, 0, none⟩ [.int .i64, .int .i64, .int .i64, .int .u32, .int .u64, .int .u64] fun (x28 : Int × Int × Int × Int × Int × Int × Unit) =>
  (D27 b19 ∧ LoadA w24.drew ⟨b19, 0, none⟩ [.int .i64, .int .i64, .int .i64, .int .u32, .int .u64, .int .u64] fun (x29 : Int × Int × Int × Int × Int × Int × Unit) =>
  ((0 : Int) ≤ (48 : Int) ∧ (48 : Int) ≤ ((c0 : Nat) : Int)) ∧
  SubK a0 0 c0 1 fun a30 =>
  CallV Tryz.prog 160 #[.agg #[.int .i64 x28.1, .int .i64 x28.2.1, .int .i64 x28.2.2.1, .int .u32 x28.2.2.2.1, .int .u64 x28.2.2.2.2.1, .int .u64 x28.2.2.2.2.2.1]] w24.drew [.one .sl] fun (r31 : SlV × Unit) w32 =>
  KeepOn D27 w24.drew w32 ∧
  CallV Tryz.prog 160 #[.agg #[.int .i64 x29.1, .int .i64 x29.2.1, .int .i64 x29.2.2.1, .int .u32 x29.2.2.2.1, .int .u64 x29.2.2.2.2.1, .int .u64 x29.2.2.2.2.2.1]] w32 [.one .sl] fun (r33 : SlV × Unit) w34 =>
  KeepOn D27 w24.drew w34 ∧
  CallV Tryz.prog 161 #[.slice r33.1.a r33.1.n r33.1.c] w34 [.one .sl] fun (r35 : SlV × Unit) w36 =>
  KeepOn D27 w24.drew w36 ∧
  AppS w36 r35.1.a r35.1.n 1 fun ns41 =>
  AppV w36 5 1 1 r31.1.a r31.1.n r31.1.c ns41 r35.1.n fun a37 n38 c39 w40 =>
  KeepOn D27 w24.drew w40 ∧
  CallV Tryz.prog 25 #[.slice a37 n38 c39, .slice a30 (48 - 0) (c0 - 0)] w40 [.one .bool] fun (r42 : Bool × Unit) w43 =>
  KeepOn D27 w24.drew w43 ∧
  cond (!r42.1)
  (StoreV w43 ⟨b1, 0, none⟩ [.int .i64 0, .int .i64 0, .int .i64 0, .int .u32 0, .int .u64 0, .int .u64 0] fun w44 =>
  LoadA w44 ⟨b1, 0, none⟩ [.int .i64, .int .i64, .int .i64, .int .u32, .int .u64, .int .u64] fun (x45 : Int × Int × Int × Int × Int × Int × Unit) =>
  K ((x45.1, x45.2.1, x45.2.2.1, x45.2.2.2.1, x45.2.2.2.2.1, x45.2.2.2.2.2.1, ()), false, ()) w44)
  (LoadA w43 ⟨b19, 0, none⟩ [.int .i64, .int .i64, .int .i64, .int .u32, .int .u64, .int .u64] fun (x46 : Int × Int × Int × Int × Int × Int × Unit) =>
  StoreV w43 ⟨b1, 0, none⟩ [.int .i64 x46.1, .int .i64 x46.2.1, .int .i64 x46.2.2.1, .int .u32 x46.2.2.2.1, .int .u64 x46.2.2.2.2.1, .int .u64 x46.2.2.2.2.2.1] fun w47 =>
  LoadA w47 ⟨b1, 0, none⟩ [.int .i64, .int .i64, .int .i64, .int .u32, .int .u64, .int .u64] fun (x48 : Int × Int × Int × Int × Int × Int × Unit) =>
  K ((x48.1, x48.2.1, x48.2.2.1, x48.2.2.2.1, x48.2.2.2.2.1, x48.2.2.2.2.2.1, ()), true, ()) w47))))) ∧
  (NewV #[.int .i64 0, .int .i64 0, .int .i64 0, .int .u32 0, .int .u64 0, .int .u64 0] 46 w16 fun b49 w50 =>
  KeepOn D3 w2.drew w50 ∧
  CallV Tryz.prog 159 #[.slice a12 (24 - 16) (c0 - 16)] w50 [.one (.int .u64)] fun (r51 : Int × Unit) w52 =>
  KeepOn D3 w2.drew w52 ∧
  StoreV w52 ⟨b49, 0, none⟩ [.int .i64 (IntKind.i64.wrap x5), .int .i64 (IntKind.i64.wrap x7), .int .i64 (IntKind.i64.wrap x9), .int .u32 (IntKind.u32.wrap r13.1), .int .u64 r15.1, .int .u64 r51.1] fun w53 =>
  KeepOn D3 w2.drew w53 ∧
  LoadA w53 ⟨b49, 0, none⟩ [.int .i64, .int .i64, .int .i64, .int .u32, .int .u64, .int .u64] fun (x54 : Int × Int × Int × Int × Int × Int × Unit) =>
  CallV Tryz.prog 86 #[.agg #[.int .i64 x54.1, .int .i64 x54.2.1, .int .i64 x54.2.2.1, .int .u32 x54.2.2.2.1, .int .u64 x54.2.2.2.2.1, .int .u64 x54.2.2.2.2.2.1]] w53 [.one .bool] fun (r55 : Bool × Unit) w56 =>
  cond (!r55.1)
  (StoreV w56 ⟨b1, 0, none⟩ [.int .i64 0, .int .i64 0, .int .i64 0, .int .u32 0, .int .u64 0, .int .u64 0] fun w57 =>
  LoadA w57 ⟨b1, 0, none⟩ [.int .i64, .int .i64, .int .i64, .int .u32, .int .u64, .int .u64] fun (x58 : Int × Int × Int × Int × Int × Int × Unit) =>
  K ((x58.1, x58.2.1, x58.2.2.1, x58.2.2.2.1, x58.2.2.2.2.1, x58.2.2.2.2.2.1, ()), false, ()) w57)
  (DrawV fun D59 =>
  (D59 b49 ∧ LoadA w56.drew ⟨b49, 0, none⟩ [.int .i64, .int .i64, .int .i64, .int .u32, .int .u64, .int .u64] fun (x60 : Int × Int × Int × Int × Int × Int × Unit) =>
  (D59 b49 ∧ LoadA w56.drew ⟨b49, 0, none⟩ [.int .i64, .int .i64, .int .i64, .int .u32, .int .u64, .int .u64] fun (x61 : Int × Int × Int × Int × Int × Int × Unit) =>
  ((0 : Int) ≤ (48 : Int) ∧ (48 : Int) ≤ ((c0 : Nat) : Int)) ∧
  SubK a0 0 c0 1 fun a62 =>
  CallV Tryz.prog 160 #[.agg #[.int .i64 x60.1, .int .i64 x60.2.1, .int .i64 x60.2.2.1, .int .u32 x60.2.2.2.1, .int .u64 x60.2.2.2.2.1, .int .u64 x60.2.2.2.2.2.1]] w56.drew [.one .sl] fun (r63 : SlV × Unit) w64 =>
  KeepOn D59 w56.drew w64 ∧
  CallV Tryz.prog 160 #[.agg #[.int .i64 x61.1, .int .i64 x61.2.1, .int .i64 x61.2.2.1, .int .u32 x61.2.2.2.1, .int .u64 x61.2.2.2.2.1, .int .u64 x61.2.2.2.2.2.1]] w64 [.one .sl] fun (r65 : SlV × Unit) w66 =>
  KeepOn D59 w56.drew w66 ∧
  CallV Tryz.prog 161 #[.slice r65.1.a r65.1.n r65.1.c] w66 [.one .sl] fun (r67 : SlV × Unit) w68 =>
  KeepOn D59 w56.drew w68 ∧
  AppS w68 r67.1.a r67.1.n 1 fun ns73 =>
  AppV w68 5 1 1 r63.1.a r63.1.n r63.1.c ns73 r67.1.n fun a69 n70 c71 w72 =>
  KeepOn D59 w56.drew w72 ∧
  CallV Tryz.prog 25 #[.slice a69 n70 c71, .slice a62 (48 - 0) (c0 - 0)] w72 [.one .bool] fun (r74 : Bool × Unit) w75 =>
  KeepOn D59 w56.drew w75 ∧
  cond (!r74.1)
  (StoreV w75 ⟨b1, 0, none⟩ [.int .i64 0, .int .i64 0, .int .i64 0, .int .u32 0, .int .u64 0, .int .u64 0] fun w76 =>
  LoadA w76 ⟨b1, 0, none⟩ [.int .i64, .int .i64, .int .i64, .int .u32, .int .u64, .int .u64] fun (x77 : Int × Int × Int × Int × Int × Int × Unit) =>
  K ((x77.1, x77.2.1, x77.2.2.1, x77.2.2.2.1, x77.2.2.2.2.1, x77.2.2.2.2.2.1, ()), false, ()) w76)
  (LoadA w75 ⟨b49, 0, none⟩ [.int .i64, .int .i64, .int .i64, .int .u32, .int .u64, .int .u64] fun (x78 : Int × Int × Int × Int × Int × Int × Unit) =>
  StoreV w75 ⟨b1, 0, none⟩ [.int .i64 x78.1, .int .i64 x78.2.1, .int .i64 x78.2.2.1, .int .u32 x78.2.2.2.1, .int .u64 x78.2.2.2.2.1, .int .u64 x78.2.2.2.2.2.1] fun w79 =>
  LoadA w79 ⟨b1, 0, none⟩ [.int .i64, .int .i64, .int .i64, .int .u32, .int .u64, .int .u64] fun (x80 : Int × Int × Int × Int × Int × Int × Unit) =>
  K ((x80.1, x80.2.1, x80.2.2.1, x80.2.2.2.1, x80.2.2.2.2.1, x80.2.2.2.2.2.1, ()), true, ()) w79))))))) ∧
  (NewV #[.int .i64 0, .int .i64 0, .int .i64 0, .int .u32 0, .int .u64 0, .int .u64 0] 46 w14 fun b81 w82 =>
  KeepOn D3 w2.drew w82 ∧
  CallV Tryz.prog 159 #[.slice a11 (16 - 8) (c0 - 8)] w82 [.one (.int .u64)] fun (r83 : Int × Unit) w84 =>
  KeepOn D3 w2.drew w84 ∧
  CallV Tryz.prog 159 #[.slice a12 (24 - 16) (c0 - 16)] w84 [.one (.int .u64)] fun (r85 : Int × Unit) w86 =>
  KeepOn D3 w2.drew w86 ∧
  StoreV w86 ⟨b81, 0, none⟩ [.int .i64 (IntKind.i64.wrap x5), .int .i64 (IntKind.i64.wrap x7), .int .i64 (IntKind.i64.wrap x9), .int .u32 (IntKind.u32.wrap r13.1), .int .u64 r83.1, .int .u64 r85.1] fun w87 =>
  KeepOn D3 w2.drew w87 ∧
  LoadA w87 ⟨b81, 0, none⟩ [.int .i64, .int .i64, .int .i64, .int .u32, .int .u64, .int .u64] fun (x88 : Int × Int × Int × Int × Int × Int × Unit) =>
  CallV Tryz.prog 86 #[.agg #[.int .i64 x88.1, .int .i64 x88.2.1, .int .i64 x88.2.2.1, .int .u32 x88.2.2.2.1, .int .u64 x88.2.2.2.2.1, .int .u64 x88.2.2.2.2.2.1]] w87 [.one .bool] fun (r89 : Bool × Unit) w90 =>
  cond (!r89.1)
  (StoreV w90 ⟨b1, 0, none⟩ [.int .i64 0, .int .i64 0, .int .i64 0, .int .u32 0, .int .u64 0, .int .u64 0] fun w91 =>
  LoadA w91 ⟨b1, 0, none⟩ [.int .i64, .int .i64, .int .i64, .int .u32, .int .u64, .int .u64] fun (x92 : Int × Int × Int × Int × Int × Int × Unit) =>
  K ((x92.1, x92.2.1, x92.2.2.1, x92.2.2.2.1, x92.2.2.2.2.1, x92.2.2.2.2.2.1, ()), false, ()) w91)
  (DrawV fun D93 =>
  (D93 b81 ∧ LoadA w90.drew ⟨b81, 0, none⟩ [.int .i64, .int .i64, .int .i64, .int .u32, .int .u64, .int .u64] fun (x94 : Int × Int × Int × Int × Int × Int × Unit) =>
  (D93 b81 ∧ LoadA w90.drew ⟨b81, 0, none⟩ [.int .i64, .int .i64, .int .i64, .int .u32, .int .u64, .int .u64] fun (x95 : Int × Int × Int × Int × Int × Int × Unit) =>
  ((0 : Int) ≤ (48 : Int) ∧ (48 : Int) ≤ ((c0 : Nat) : Int)) ∧
  SubK a0 0 c0 1 fun a96 =>
  CallV Tryz.prog 160 #[.agg #[.int .i64 x94.1, .int .i64 x94.2.1, .int .i64 x94.2.2.1, .int .u32 x94.2.2.2.1, .int .u64 x94.2.2.2.2.1, .int .u64 x94.2.2.2.2.2.1]] w90.drew [.one .sl] fun (r97 : SlV × Unit) w98 =>
  KeepOn D93 w90.drew w98 ∧
  CallV Tryz.prog 160 #[.agg #[.int .i64 x95.1, .int .i64 x95.2.1, .int .i64 x95.2.2.1, .int .u32 x95.2.2.2.1, .int .u64 x95.2.2.2.2.1, .int .u64 x95.2.2.2.2.2.1]] w98 [.one .sl] fun (r99 : SlV × Unit) w100 =>
  KeepOn D93 w90.drew w100 ∧
  CallV Tryz.prog 161 #[.slice r99.1.a r99.1.n r99.1.c] w100 [.one .sl] fun (r101 : SlV × Unit) w102 =>
  KeepOn D93 w90.drew w102 ∧
  AppS w102 r101.1.a r101.1.n 1 fun ns107 =>
  AppV w102 5 1 1 r97.1.a r97.1.n r97.1.c ns107 r101.1.n fun a103 n104 c105 w106 =>
  KeepOn D93 w90.drew w106 ∧
  CallV Tryz.prog 25 #[.slice a103 n104 c105, .slice a96 (48 - 0) (c0 - 0)] w106 [.one .bool] fun (r108 : Bool × Unit) w109 =>
  KeepOn D93 w90.drew w109 ∧
  cond (!r108.1)
  (StoreV w109 ⟨b1, 0, none⟩ [.int .i64 0, .int .i64 0, .int .i64 0, .int .u32 0, .int .u64 0, .int .u64 0] fun w110 =>
  LoadA w110 ⟨b1, 0, none⟩ [.int .i64, .int .i64, .int .i64, .int .u32, .int .u64, .int .u64] fun (x111 : Int × Int × Int × Int × Int × Int × Unit) =>
  K ((x111.1, x111.2.1, x111.2.2.1, x111.2.2.2.1, x111.2.2.2.2.1, x111.2.2.2.2.2.1, ()), false, ()) w110)
  (LoadA w109 ⟨b81, 0, none⟩ [.int .i64, .int .i64, .int .i64, .int .u32, .int .u64, .int .u64] fun (x112 : Int × Int × Int × Int × Int × Int × Unit) =>
  StoreV w109 ⟨b1, 0, none⟩ [.int .i64 x112.1, .int .i64 x112.2.1, .int .i64 x112.2.2.1, .int .u32 x112.2.2.2.1, .int .u64 x112.2.2.2.2.1, .int .u64 x112.2.2.2.2.2.1] fun w113 =>
  LoadA w113 ⟨b1, 0, none⟩ [.int .i64, .int .i64, .int .i64, .int .u32, .int .u64, .int .u64] fun (x114 : Int × Int × Int × Int × Int × Int × Unit) =>
  K ((x114.1, x114.2.1, x114.2.2.1, x114.2.2.2.1, x114.2.2.2.2.1, x114.2.2.2.2.2.1, ()), true, ()) w113))))))) ∧
  (NewV #[.int .i64 0, .int .i64 0, .int .i64 0, .int .u32 0, .int .u64 0, .int .u64 0] 46 w2.drew fun b115 w116 =>
  KeepOn D3 w2.drew w116 ∧
  CallV Tryz.prog 159 #[.slice a10 (8 - 4) (c0 - 4)] w116 [.one (.int .u64)] fun (r117 : Int × Unit) w118 =>
  KeepOn D3 w2.drew w118 ∧
  CallV Tryz.prog 159 #[.slice a11 (16 - 8) (c0 - 8)] w118 [.one (.int .u64)] fun (r119 : Int × Unit) w120 =>
  KeepOn D3 w2.drew w120 ∧
  CallV Tryz.prog 159 #[.slice a12 (24 - 16) (c0 - 16)] w120 [.one (.int .u64)] fun (r121 : Int × Unit) w122 =>
  KeepOn D3 w2.drew w122 ∧
  StoreV w122 ⟨b115, 0, none⟩ [.int .i64 (IntKind.i64.wrap x5), .int .i64 (IntKind.i64.wrap x7), .int .i64 (IntKind.i64.wrap x9), .int .u32 (IntKind.u32.wrap r117.1), .int .u64 r119.1, .int .u64 r121.1] fun w123 =>
  KeepOn D3 w2.drew w123 ∧
  LoadA w123 ⟨b115, 0, none⟩ [.int .i64, .int .i64, .int .i64, .int .u32, .int .u64, .int .u64] fun (x124 : Int × Int × Int × Int × Int × Int × Unit) =>
  CallV Tryz.prog 86 #[.agg #[.int .i64 x124.1, .int .i64 x124.2.1, .int .i64 x124.2.2.1, .int .u32 x124.2.2.2.1, .int .u64 x124.2.2.2.2.1, .int .u64 x124.2.2.2.2.2.1]] w123 [.one .bool] fun (r125 : Bool × Unit) w126 =>
  cond (!r125.1)
  (StoreV w126 ⟨b1, 0, none⟩ [.int .i64 0, .int .i64 0, .int .i64 0, .int .u32 0, .int .u64 0, .int .u64 0] fun w127 =>
  LoadA w127 ⟨b1, 0, none⟩ [.int .i64, .int .i64, .int .i64, .int .u32, .int .u64, .int .u64] fun (x128 : Int × Int × Int × Int × Int × Int × Unit) =>
  K ((x128.1, x128.2.1, x128.2.2.1, x128.2.2.2.1, x128.2.2.2.2.1, x128.2.2.2.2.2.1, ()), false, ()) w127)
  (DrawV fun D129 =>
  (D129 b115 ∧ LoadA w126.drew ⟨b115, 0, none⟩ [.int .i64, .int .i64, .int .i64, .int .u32, .int .u64, .int .u64] fun (x130 : Int × Int × Int × Int × Int × Int × Unit) =>
  (D129 b115 ∧ LoadA w126.drew ⟨b115, 0, none⟩ [.int .i64, .int .i64, .int .i64, .int .u32, .int .u64, .int .u64] fun (x131 : Int × Int × Int × Int × Int × Int × Unit) =>
  ((0 : Int) ≤ (48 : Int) ∧ (48 : Int) ≤ ((c0 : Nat) : Int)) ∧
  SubK a0 0 c0 1 fun a132 =>
  CallV Tryz.prog 160 #[.agg #[.int .i64 x130.1, .int .i64 x130.2.1, .int .i64 x130.2.2.1, .int .u32 x130.2.2.2.1, .int .u64 x130.2.2.2.2.1, .int .u64 x130.2.2.2.2.2.1]] w126.drew [.one .sl] fun (r133 : SlV × Unit) w134 =>
  KeepOn D129 w126.drew w134 ∧
  CallV Tryz.prog 160 #[.agg #[.int .i64 x131.1, .int .i64 x131.2.1, .int .i64 x131.2.2.1, .int .u32 x131.2.2.2.1, .int .u64 x131.2.2.2.2.1, .int .u64 x131.2.2.2.2.2.1]] w134 [.one .sl] fun (r135 : SlV × Unit) w136 =>
  KeepOn D129 w126.drew w136 ∧
  CallV Tryz.prog 161 #[.slice r135.1.a r135.1.n r135.1.c] w136 [.one .sl] fun (r137 : SlV × Unit) w138 =>
  KeepOn D129 w126.drew w138 ∧
  AppS w138 r137.1.a r137.1.n 1 fun ns143 =>
  AppV w138 5 1 1 r133.1.a r133.1.n r133.1.c ns143 r137.1.n fun a139 n140 c141 w142 =>
  KeepOn D129 w126.drew w142 ∧
  CallV Tryz.prog 25 #[.slice a139 n140 c141, .slice a132 (48 - 0) (c0 - 0)] w142 [.one .bool] fun (r144 : Bool × Unit) w145 =>
  KeepOn D129 w126.drew w145 ∧
  cond (!r144.1)
  (StoreV w145 ⟨b1, 0, none⟩ [.int .i64 0, .int .i64 0, .int .i64 0, .int .u32 0, .int .u64 0, .int .u64 0] fun w146 =>
  LoadA w146 ⟨b1, 0, none⟩ [.int .i64, .int .i64, .int .i64, .int .u32, .int .u64, .int .u64] fun (x147 : Int × Int × Int × Int × Int × Int × Unit) =>
  K ((x147.1, x147.2.1, x147.2.2.1, x147.2.2.2.1, x147.2.2.2.2.1, x147.2.2.2.2.2.1, ()), false, ()) w146)
  (LoadA w145 ⟨b115, 0, none⟩ [.int .i64, .int .i64, .int .i64, .int .u32, .int .u64, .int .u64] fun (x148 : Int × Int × Int × Int × Int × Int × Unit) =>
  StoreV w145 ⟨b1, 0, none⟩ [.int .i64 x148.1, .int .i64 x148.2.1, .int .i64 x148.2.2.1, .int .u32 x148.2.2.2.1, .int .u64 x148.2.2.2.2.1, .int .u64 x148.2.2.2.2.2.1] fun w149 =>
  LoadA w149 ⟨b1, 0, none⟩ [.int .i64, .int .i64, .int .i64, .int .u32, .int .u64, .int .u64] fun (x150 : Int × Int × Int × Int × Int × Int × Unit) =>
  K ((x150.1, x150.2.1, x150.2.2.1, x150.2.2.2.1, x150.2.2.2.2.1, x150.2.2.2.2.2.1, ()), true, ()) w149)))))))))
theorem ref14_Read.vc (a0 : Option Addr) (n0 c0 : Nat) (w : World) (K : (Int × Int × Int × Int × Int × Int × Unit) × Bool × Unit → World → Prop) (h : ref14_Read.P a0 n0 c0 w K) : CallV Tryz.prog 112 #[.slice a0 n0 c0] w [.agg [.int .i64, .int .i64, .int .i64, .int .u32, .int .u64, .int .u64], .one .bool] K := by
  refine vcFun.of (A := ref14_Read.A) (wr := false) okf_ok follows h Tryz.func112 ?_
  kernel_rfl
def head_End.A : Ann := .no
def head_End.P (p0_0 p0_1 p0_2 p0_3 p0_4 p0_5 : Int) (a1 : Option Addr) (n1 c1 : Nat) (w : World) (K : SlV × Int × Unit → World → Prop) : Prop :=
  NewV #[.int .i64 p0_0, .int .i64 p0_1, .int .i64 p0_2, .int .u32 p0_3, .int .u64 p0_4, .int .u64 p0_5] 46 w fun b1 w2 =>
  LoadA w2 ⟨b1, 0, none⟩ [.int .i64, .int .i64, .int .i64, .int .u32, .int .u64, .int .u64] fun (x3 : Int × Int × Int × Int × Int × Int × Unit) =>
  CallV Tryz.prog 178 #[.agg #[.int .i64 x3.1, .int .i64 x3.2.1, .int .i64 x3.2.2.1, .int .u32 x3.2.2.2.1, .int .u64 x3.2.2.2.2.1, .int .u64 x3.2.2.2.2.2.1]] w2 [.one .sl, .one (.int .i64)] fun (r4 : SlV × Int × Unit) w5 =>
  cond (r4.2.1 != 0)
  (K ((⟨none, 0, 0⟩ : SlV), r4.2.1, ()) w5)
  (cond (((n1 : Nat) : Int) == 0)
  (CallV Tryz.prog 126 #[.int .u8 255, .int .i64 32] w5 [.one .sl] fun (r6 : SlV × Unit) w7 =>
  cond (((r6.1.n : Nat) : Int) != 32)
  (K ((⟨none, 0, 0⟩ : SlV), (2 : Int), ()) w7)
  (CallV Tryz.prog 151 #[.slice r4.1.a r4.1.n r4.1.c] w7 [.one .sl] fun (r8 : SlV × Unit) w9 =>
  AppS w9 r8.1.a r8.1.n 1 fun ns14 =>
  AppV w9 5 1 1 r4.1.a r4.1.n r4.1.c ns14 r8.1.n fun a10 n11 c12 w13 =>
  AppS w13 r6.1.a r6.1.n 1 fun ns19 =>
  AppV w13 5 1 1 a10 n11 c12 ns19 r6.1.n fun a15 n16 c17 w18 =>
  CallV Tryz.prog 126 #[.int .u8 255, .int .i64 8] w18 [.one .sl] fun (r20 : SlV × Unit) w21 =>
  AppS w21 r20.1.a r20.1.n 1 fun ns26 =>
  AppV w21 5 1 1 a15 n16 c17 ns26 r20.1.n fun a22 n23 c24 w25 =>
  K ((⟨a22, n23, c24⟩ : SlV), (0 : Int), ()) w25))
  (cond (((n1 : Nat) : Int) != 32)
  (K ((⟨none, 0, 0⟩ : SlV), (2 : Int), ()) w5)
  (CallV Tryz.prog 151 #[.slice r4.1.a r4.1.n r4.1.c] w5 [.one .sl] fun (r27 : SlV × Unit) w28 =>
  AppS w28 r27.1.a r27.1.n 1 fun ns33 =>
  AppV w28 5 1 1 r4.1.a r4.1.n r4.1.c ns33 r27.1.n fun a29 n30 c31 w32 =>
  AppS w32 a1 n1 1 fun ns38 =>
  AppV w32 5 1 1 a29 n30 c31 ns38 n1 fun a34 n35 c36 w37 =>
  CallV Tryz.prog 126 #[.int .u8 255, .int .i64 8] w37 [.one .sl] fun (r39 : SlV × Unit) w40 =>
  AppS w40 r39.1.a r39.1.n 1 fun ns45 =>
  AppV w40 5 1 1 a34 n35 c36 ns45 r39.1.n fun a41 n42 c43 w44 =>
  K ((⟨a41, n42, c43⟩ : SlV), (0 : Int), ()) w44)))
theorem head_End.vc (p0_0 p0_1 p0_2 p0_3 p0_4 p0_5 : Int) (a1 : Option Addr) (n1 c1 : Nat) (w : World) (K : SlV × Int × Unit → World → Prop) (h : head_End.P p0_0 p0_1 p0_2 p0_3 p0_4 p0_5 a1 n1 c1 w K) : CallV Tryz.prog 163 #[.agg #[.int .i64 p0_0, .int .i64 p0_1, .int .i64 p0_2, .int .u32 p0_3, .int .u64 p0_4, .int .u64 p0_5], .slice a1 n1 c1] w [.one .sl, .one (.int .i64)] K := by
  refine vcFun.of (A := head_End.A) (wr := false) okf_ok follows h Tryz.func163 ?_
  kernel_rfl
def ref14_End.A : Ann := .two .no (.two (.draw (.take 0 (.take 2 (.eff 1 (.eff 3 (.eff 4 (.eff 5 (.take 6 (.done))))))))) .no)
def ref14_End.P (p0_0 p0_1 p0_2 p0_3 p0_4 p0_5 : Int) (a1 : Option Addr) (n1 c1 : Nat) (w : World) (K : SlV × Unit → World → Prop) : Prop :=
  NewV #[.int .i64 p0_0, .int .i64 p0_1, .int .i64 p0_2, .int .u32 p0_3, .int .u64 p0_4, .int .u64 p0_5] 46 w fun b1 w2 =>
  DrawV fun D3 =>
  (D3 b1 ∧ LoadA w2.drew ⟨b1, 0, none⟩ [.int .i64, .int .i64, .int .i64, .int .u32, .int .u64, .int .u64] fun (x4 : Int × Int × Int × Int × Int × Int × Unit) =>
  (D3 b1 ∧ LoadA w2.drew ⟨b1, 0, none⟩ [.int .i64, .int .i64, .int .i64, .int .u32, .int .u64, .int .u64] fun (x5 : Int × Int × Int × Int × Int × Int × Unit) =>
  CallV Tryz.prog 160 #[.agg #[.int .i64 x4.1, .int .i64 x4.2.1, .int .i64 x4.2.2.1, .int .u32 x4.2.2.2.1, .int .u64 x4.2.2.2.2.1, .int .u64 x4.2.2.2.2.2.1]] w2.drew [.one .sl] fun (r6 : SlV × Unit) w7 =>
  KeepOn D3 w2.drew w7 ∧
  CallV Tryz.prog 160 #[.agg #[.int .i64 x5.1, .int .i64 x5.2.1, .int .i64 x5.2.2.1, .int .u32 x5.2.2.2.1, .int .u64 x5.2.2.2.2.1, .int .u64 x5.2.2.2.2.2.1]] w7 [.one .sl] fun (r8 : SlV × Unit) w9 =>
  KeepOn D3 w2.drew w9 ∧
  CallV Tryz.prog 161 #[.slice r8.1.a r8.1.n r8.1.c] w9 [.one .sl] fun (r10 : SlV × Unit) w11 =>
  KeepOn D3 w2.drew w11 ∧
  AppS w11 r10.1.a r10.1.n 1 fun ns16 =>
  AppV w11 5 1 1 r6.1.a r6.1.n r6.1.c ns16 r10.1.n fun a12 n13 c14 w15 =>
  KeepOn D3 w2.drew w15 ∧
  cond (((n1 : Nat) : Int) == 0)
  (CallV Tryz.prog 122 #[.int .u8 255, .int .i64 32] w15 [.one .sl] fun (r17 : SlV × Unit) w18 =>
  AppS w18 r17.1.a r17.1.n 1 fun ns23 =>
  AppV w18 5 1 1 a12 n13 c14 ns23 r17.1.n fun a19 n20 c21 w22 =>
  CallV Tryz.prog 122 #[.int .u8 255, .int .i64 8] w22 [.one .sl] fun (r24 : SlV × Unit) w25 =>
  AppS w25 r24.1.a r24.1.n 1 fun ns30 =>
  AppV w25 5 1 1 a19 n20 c21 ns30 r24.1.n fun a26 n27 c28 w29 =>
  K ((⟨a26, n27, c28⟩ : SlV), ()) w29)
  (AppS w15 a1 n1 1 fun ns35 =>
  AppV w15 5 1 1 a12 n13 c14 ns35 n1 fun a31 n32 c33 w34 =>
  CallV Tryz.prog 122 #[.int .u8 255, .int .i64 8] w34 [.one .sl] fun (r36 : SlV × Unit) w37 =>
  AppS w37 r36.1.a r36.1.n 1 fun ns42 =>
  AppV w37 5 1 1 a31 n32 c33 ns42 r36.1.n fun a38 n39 c40 w41 =>
  K ((⟨a38, n39, c40⟩ : SlV), ()) w41)))
theorem ref14_End.vc (p0_0 p0_1 p0_2 p0_3 p0_4 p0_5 : Int) (a1 : Option Addr) (n1 c1 : Nat) (w : World) (K : SlV × Unit → World → Prop) (h : ref14_End.P p0_0 p0_1 p0_2 p0_3 p0_4 p0_5 a1 n1 c1 w K) : CallV Tryz.prog 140 #[.agg #[.int .i64 p0_0, .int .i64 p0_1, .int .i64 p0_2, .int .u32 p0_3, .int .u64 p0_4, .int .u64 p0_5], .slice a1 n1 c1] w [.one .sl] K := by
  refine vcFun.of (A := ref14_End.A) (wr := false) okf_ok follows h Tryz.func140 ?_
  kernel_rfl
end Go.Proofs.YtlpeoaphdmfjdaaGreat.Vc
/-! The contracts of layer 14 (head): a head's bytes. -/
namespace Go.Proofs.YtlpeoaphdmfjdaaGreat.Vc
open Go Go.Eng Go.RowKit
theorem appL {w : World} {a a2 : Option Addr} {n c m c2 : Nat} {xs ys : List Int} {B : Nat} {K : Option Addr → Nat → Nat → World → Prop} (ho : Own w B 5 1 a n c (xs.map (Value.int .u8))) (hy : Ints w .u8 a2 m c2 ys) (hB : B ≤ w.heap.size) (hn : n + m ≤ 100000000)
    (hk : ∀ a' c' w', Own w' B 5 1 a' (n + m) c' ((xs ++ ys).map (Value.int .u8)) → Below B w w' → K a' (n + m) c' w') :
    AppS w a2 m 1 fun ns => AppV w 5 1 1 a n c ns m K := by
  refine AppS.of (news := ys.map (Value.int .u8)) (by rw [List.length_map, hy.len]; omega) hy.rd ?_
  refine AppV.own ho hB (by rw [List.length_map, hy.len]; omega) (oneAll.ints _ _) (by omega) (by omega) fun a' c' w' h1 h2 _ _ => ?_
  refine hk a' c' w' ?_ h2
  rw [List.map_append]
  exact h1
structure Hd where
  k : Int
  n : Int
  c : Int
  l : Int
  e : Int
  t : Int
abbrev Hd.vs (h : Hd) : List Value := [.int .i64 h.k, .int .i64 h.n, .int .i64 h.c, .int .u32 h.l, .int .u64 h.e, .int .u64 h.t]
abbrev Hd.val (h : Hd) : Value := .agg #[.int .i64 h.k, .int .i64 h.n, .int .i64 h.c, .int .u32 h.l, .int .u64 h.e, .int .u64 h.t]
abbrev Hd.tup (h : Hd) : Int × Int × Int × Int × Int × Int × Unit := (h.k, h.n, h.c, h.l, h.e, h.t, ())
def Hd.rng (h : Hd) : Prop := (0 ≤ h.l ∧ h.l < 4294967296) ∧ (0 ≤ h.e ∧ h.e < 18446744073709551616) ∧ (0 ≤ h.t ∧ h.t < 18446744073709551616)
def HRight (h : Hd) : Prop := (1 ≤ h.k ∧ h.k ≤ 4) ∧ (0 ≤ h.n ∧ h.n ≤ 255) ∧ (0 ≤ h.c ∧ h.c ≤ 255)
instance (h : Hd) : Decidable (HRight h) := by unfold HRight; infer_instance
def big (n : Int) (k : Nat) : List Int := (leL n k).reverse
def hdL (h : Hd) : List Int := [h.k, h.n, h.c, 0] ++ big h.l 4 ++ big h.e 8 ++ big h.t 8
theorem big_length (n : Int) (k : Nat) : (big n k).length = k := by simp [big, leL_length]
theorem hdL_length (h : Hd) : (hdL h).length = 24 := by simp [hdL, big_length]
theorem newH {w : World} {h : Hd} {K : Nat → World → Prop} (hk : ∀ b w1, Ext w w1 → Box w1 w.heap.size b 46 h.vs → K b w1) : NewV #[.int .i64 h.k, .int .i64 h.n, .int .i64 h.c, .int .u32 h.l, .int .u64 h.e, .int .u64 h.t] 46 w K := newBox hk
theorem ldH {w : World} {h : Hd} {B b : Nat} {e : TypeId} (hb : Box w B b e h.vs) {K : Int × Int × Int × Int × Int × Int × Unit → Prop} (hk : K h.tup) : LoadA w ⟨b, 0, none⟩ [.int .i64, .int .i64, .int .i64, .int .u32, .int .u64, .int .u64] K := hb.lda (l := [.int .i64, .int .i64, .int .i64, .int .u32, .int .u64, .int .u64]) h.tup rfl hk
theorem Own.list {w : World} {xs : List Int} {n : Nat} (hn : n = xs.length) (h9 : n ≤ 9223372036854775807) : Own (w.alloc (.cells (xs.map (Value.int .u8)).toArray 5)) w.heap.size 5 1 (some ⟨w.heap.size, 0, none⟩) n n (xs.map (Value.int .u8)) := by
  have := Own.new (w := w) (B := w.heap.size) (e := 5) (sz := 1) (n := n) (c := n) (cs := xs.map (Value.int .u8)) (Nat.le_refl _) (by simp [hn]) (Nat.le_refl _) h9 (oneAll.ints _ _)
  rwa [List.take_of_length_le (by simp [hn])] at this
theorem wrap_u8 {x : Int} (h : 0 ≤ x ∧ x ≤ 255) : IntKind.u8.wrap x = x := by rw [u8_wrap]; omega
theorem HRight_c {w : World} {h : Hd} : CallV Tryz.prog 86 #[h.val] w [.one .bool] fun r w' => r.1 = decide (HRight h) ∧ Ext w w' := by
  refine ref14_Right.vc _ _ _ _ _ _ _ _ ?_
  unfold ref14_Right.P
  refine newH fun b1 w1 e1 hb => ?_
  have no : ¬ HRight h → (false = decide (HRight h) ∧ Ext w w1) := fun hr => ⟨(decide_eq_false hr).symm, e1⟩
  refine hb.ld (i := 0) (h := .int .i64) (x := h.k) rfl (cond_d (fun c1 => ?_) (fun hc => no (fun hr => by unfold HRight at hr; omega)))
  refine hb.ld (i := 0) (h := .int .i64) (x := h.k) rfl (cond_d (fun c2 => ?_) (fun hc => no (fun hr => by unfold HRight at hr; omega)))
  refine hb.ld (i := 1) (h := .int .i64) (x := h.n) rfl (cond_d (fun c3 => ?_) (fun hc => no (fun hr => by unfold HRight at hr; omega)))
  refine hb.ld (i := 1) (h := .int .i64) (x := h.n) rfl (cond_d (fun c4 => ?_) (fun hc => no (fun hr => by unfold HRight at hr; omega)))
  refine hb.ld (i := 2) (h := .int .i64) (x := h.c) rfl (cond_d (fun c5 => ?_) (fun hc => no (fun hr => by unfold HRight at hr; omega)))
  refine hb.ld (i := 2) (h := .int .i64) (x := h.c) rfl ?_
  refine ⟨?_, e1⟩
  apply decide_eq_decide.2
  unfold HRight
  omega
theorem c4 : cl8 4 = 4 := by decide
theorem c8 : cl8 8 = 8 := by decide
theorem Bytes_c {w : World} {h : Hd} (hg : h.rng) : CallV Tryz.prog 178 #[h.val] w [.one .sl, .one (.int .i64)] fun r w' => Ext w w' ∧ (HRight h → Res w w' r.1 (hdL h) ∧ r.2.1 = (0 : Int)) ∧ (¬ HRight h → r.1 = (⟨none, 0, 0⟩ : SlV) ∧ r.2.1 = (2 : Int)) := by
  unfold Hd.rng at hg
  refine head_Bytes.vc _ _ _ _ _ _ _ _ ?_
  unfold head_Bytes.P
  refine newH fun b1 w1 e1 hb => ?_
  have no : ∀ {w' : World}, ¬ HRight h → Ext w w' → (Ext w w' ∧ (HRight h → Res w w' (⟨none, 0, 0⟩ : SlV) (hdL h) ∧ (2 : Int) = (0 : Int)) ∧ (¬ HRight h → (⟨none, 0, 0⟩ : SlV) = (⟨none, 0, 0⟩ : SlV) ∧ (2 : Int) = (2 : Int))) := fun hr he => ⟨he, fun h => absurd h hr, fun _ => ⟨rfl, rfl⟩⟩
  refine hb.ld (i := 0) (h := .int .i64) (x := h.k) rfl ?_
  refine hb.ld (i := 1) (h := .int .i64) (x := h.n) rfl ?_
  refine hb.ld (i := 2) (h := .int .i64) (x := h.c) rfl ?_
  refine Loop1 (fun (y : Int × Unit) w' => ∃ i : Nat, y.1 = (i : Int) ∧ i ≤ 3 ∧ (∀ j, j < i → 0 ≤ [h.k, h.n, h.c].getD j 0 ∧ [h.k, h.n, h.c].getD j 0 ≤ 255) ∧ w' = w1) (fun (y : Int × Unit) _ => (3 - y.1).toNat) ⟨0, rfl, by omega, fun j hj => absurd hj (by omega), rfl⟩ ?_
  rintro ⟨(z : Int), ⟨⟩⟩ w' ⟨i, hz, h3, hr, rfl⟩
  dsimp only at hz ⊢
  subst hz
  refine cond_d (fun hlt => ?_) (fun hge => ?_)
  · refine ⟨⟨by omega, hlt⟩, [h.k, h.n, h.c].getD i 0, ?_, ?_⟩
    · rw [Int.toNat_natCast]
      match i, hlt with
      | 0, _ => rfl
      | 1, _ => rfl
      | 2, _ => rfl
      | n + 3, hh => exact absurd hh (by omega)
    · have bad : ¬ (0 ≤ [h.k, h.n, h.c].getD i 0 ∧ [h.k, h.n, h.c].getD i 0 ≤ 255) → ¬ HRight h := fun hb hrr => hb (by
        unfold HRight at hrr
        match i, hlt with
        | 0, _ => show 0 ≤ h.k ∧ h.k ≤ 255; omega
        | 1, _ => exact hrr.2.1
        | 2, _ => exact hrr.2.2
        | n + 3, hh => exact absurd hh (by omega))
      refine cond_d (fun hc => no (bad (by omega)) e1) (fun hc => cond_d (fun hc' => no (bad (by omega)) e1) (fun hc' => ?_))
      refine ⟨Rng.i64 (by omega) (by omega), ⟨i + 1, by push_cast; rfl, by omega, fun j hj => ?_, rfl⟩, by omega⟩
      by_cases hji : j = i
      · subst hji; omega
      · exact hr j (by omega)
  · have : i = 3 := by omega
    subst this
    have k0 : 0 ≤ h.k ∧ h.k ≤ 255 := hr 0 (by omega)
    have k1 : 0 ≤ h.n ∧ h.n ≤ 255 := hr 1 (by omega)
    have k2 : 0 ≤ h.c ∧ h.c ≤ 255 := hr 2 (by omega)
    refine hb.ld (i := 0) (h := .int .i64) (x := h.k) rfl (cond_d (fun hc => no (fun hr => by unfold HRight at hr; omega) e1) (fun c1 => ?_))
    refine hb.ld (i := 0) (h := .int .i64) (x := h.k) rfl (cond_d (fun hc => no (fun hr => by unfold HRight at hr; omega) e1) (fun c2 => ?_))
    have hR : HRight h := ⟨by omega, k1, k2⟩
    refine hb.ld (i := 0) (h := .int .i64) (x := h.k) rfl ?_
    refine hb.ld (i := 1) (h := .int .i64) (x := h.n) rfl ?_
    refine hb.ld (i := 2) (h := .int .i64) (x := h.c) rfl ?_
    rw [wrap_u8 k0, wrap_u8 k1, wrap_u8 k2]
    rintro b2 w2 rfl rfl
    have ho := Own.list (w := w') (xs := [h.k, h.n, h.c, 0]) (n := 4) rfl (by omega)
    have x2 : Ext w' (w'.alloc (.cells #[.int .u8 h.k, .int .u8 h.n, .int .u8 h.c, .int .u8 0] 5)) := Ext.alloc _ _
    generalize hw2 : w'.alloc (.cells #[.int .u8 h.k, .int .u8 h.n, .int .u8 h.c, .int .u8 0] 5) = w2 at x2 ⊢
    have ho2 : Own w2 w'.heap.size 5 1 (some ⟨w'.heap.size, 0, none⟩) 4 4 ([h.k, h.n, h.c, 0].map (Value.int .u8)) := by rw [← hw2]; exact ho
    refine (hb.ext x2).ld (i := 3) (h := .int .u32) (x := h.l) rfl ?_
    rw [show IntKind.u64.wrap h.l = h.l from u64_id (by omega) (by omega)]
    refine (Big_c (by omega)).mono ?_
    rintro ⟨(s3 : SlV), ⟨⟩⟩ w3 h3
    dsimp only at h3 ⊢
    rw [c4] at h3
    have l3 := h3.ints.len
    rw [List.length_reverse, leL_length] at l3
    have x3 := x2.trans h3.ext
    refine appL (ho2.ext h3.ext) h3.ints x3.size (by omega) fun a4 c4' w4 o4 b4 => ?_
    have x4 : Ext w' w4 := Below.trans x3 b4
    refine (hb.ext x4).ld (i := 4) (h := .int .u64) (x := h.e) rfl ?_
    refine (Big_c (by omega)).mono ?_
    rintro ⟨(s5 : SlV), ⟨⟩⟩ w5 h5
    dsimp only at h5 ⊢
    rw [c8] at h5
    have l5 := h5.ints.len
    rw [List.length_reverse, leL_length] at l5
    have x5 := x4.trans h5.ext
    refine appL (o4.ext h5.ext) h5.ints x5.size (by omega) fun a6 c6' w6 o6 b6 => ?_
    have x6 : Ext w' w6 := Below.trans x5 b6
    refine (hb.ext x6).ld (i := 5) (h := .int .u64) (x := h.t) rfl ?_
    refine (Big_c (by omega)).mono ?_
    rintro ⟨(s7 : SlV), ⟨⟩⟩ w7 h7
    dsimp only at h7 ⊢
    rw [c8] at h7
    have l7 := h7.ints.len
    rw [List.length_reverse, leL_length] at l7
    have x7 := x6.trans h7.ext
    refine appL (o6.ext h7.ext) h7.ints x7.size (by omega) fun a8 c8' w8 o8 b8 => ?_
    have x8 : Ext w' w8 := Below.trans x7 b8
    exact ⟨e1.trans x8, fun _ => ⟨⟨e1.trans x8, o8.mono e1.size⟩, rfl⟩, fun hn => absurd hR hn⟩
theorem rBytes_c {w : World} {h : Hd} (hg : h.rng) (hR : HRight h) : CallV Tryz.prog 160 #[h.val] w [.one .sl] fun r w' => Res w w' r.1 (hdL h) := by
  unfold Hd.rng at hg
  have hR' := hR
  unfold HRight at hR'
  refine ref14_Bytes.vc _ _ _ _ _ _ _ _ ?_
  unfold ref14_Bytes.P
  refine newH fun b1 w1 e1 hb => ?_
  refine DrawV.old w1 fun D hD hkeep => ?_
  have hD1 := hD _ hb.lt
  have hd := hb.ext (Ext.drew w1)
  refine ⟨hD1, hd.ld (i := 0) (h := .int .i64) (x := h.k) rfl ⟨hD1, hd.ld (i := 1) (h := .int .i64) (x := h.n) rfl ⟨hD1, hd.ld (i := 2) (h := .int .i64) (x := h.c) rfl ⟨hD1, hd.ld (i := 3) (h := .int .u32) (x := h.l) rfl ?_⟩⟩⟩⟩
  rw [show IntKind.u64.wrap h.l = h.l from u64_id (by omega) (by omega), wrap_u8 (by omega : 0 ≤ h.k ∧ h.k ≤ 255), wrap_u8 hR'.2.1, wrap_u8 hR'.2.2]
  have tail : ∀ (a : Option Addr) (c : Nat) (w4 : World), Ext w1 w4 → Own w4 w1.heap.size 5 1 a (4 + 4) c (([h.k, h.n, h.c, 0] ++ big h.l 4).map (Value.int .u8)) → LoadS w4 ⟨b1, 4, none⟩ (.int .u64) fun (x17 : Int) =>
      CallV Tryz.prog 173 #[.int .u64 x17, .int .i64 8] w4 [.one .sl] fun (r18 : SlV × Unit) w19 =>
      AppS w19 r18.1.a r18.1.n 1 fun ns24 =>
      AppV w19 5 1 1 a (4 + 4) c ns24 r18.1.n fun a20 n21 c22 w23 =>
      LoadS w23 ⟨b1, 5, none⟩ (.int .u64) fun (x25 : Int) =>
      CallV Tryz.prog 173 #[.int .u64 x25, .int .i64 8] w23 [.one .sl] fun (r26 : SlV × Unit) w27 =>
      AppS w27 r26.1.a r26.1.n 1 fun ns32 =>
      AppV w27 5 1 1 a20 n21 c22 ns32 r26.1.n fun a28 n29 c30 w31 => Res w w31 (⟨a28, n29, c30⟩ : SlV) (hdL h) := by
    intro a c w4 x4 o4
    refine (hb.ext x4).ld (i := 4) (h := .int .u64) (x := h.e) rfl ?_
    refine (rBig_c (by omega) (by omega)).mono ?_
    rintro ⟨(s5 : SlV), ⟨⟩⟩ w5 h5
    dsimp only at h5 ⊢
    rw [c8] at h5
    have l5 := h5.ints.len
    rw [List.length_reverse, leL_length] at l5
    have x5 := x4.trans h5.ext
    refine appL (o4.ext h5.ext) h5.ints x5.size (by omega) fun a6 c6' w6 o6 b6 => ?_
    have x6 : Ext w1 w6 := Below.trans x5 b6
    refine (hb.ext x6).ld (i := 5) (h := .int .u64) (x := h.t) rfl ?_
    refine (rBig_c (by omega) (by omega)).mono ?_
    rintro ⟨(s7 : SlV), ⟨⟩⟩ w7 h7
    dsimp only at h7 ⊢
    rw [c8] at h7
    have l7 := h7.ints.len
    rw [List.length_reverse, leL_length] at l7
    have x7 := x6.trans h7.ext
    refine appL (o6.ext h7.ext) h7.ints x7.size (by omega) fun a8 c8' w8 o8 b8 => ?_
    have x8 : Ext w1 w8 := Below.trans x7 b8
    exact ⟨e1.trans x8, o8.mono e1.size⟩
  constructor
  · rintro b2 w2 rfl rfl
    have ho := Own.list (w := w1.drew) (xs := [h.k, h.n, h.c, 0]) (n := 4) rfl (by omega)
    have x2 : Ext w1 (w1.drew.alloc (.cells #[.int .u8 h.k, .int .u8 h.n, .int .u8 h.c, .int .u8 0] 5)) := (Ext.drew w1).trans (Ext.alloc _ _)
    refine ⟨hkeep _ x2, ?_⟩
    refine (rBig_c (by omega) (by omega)).mono ?_
    rintro ⟨⟨sa, sn, sc⟩, ⟨⟩⟩ w3 h3
    dsimp only at h3 ⊢
    rw [c4] at h3
    have l3 := h3.ints.len
    rw [List.length_reverse, leL_length] at l3
    dsimp only at l3
    subst l3
    have x3 := x2.trans h3.ext
    refine ⟨hkeep _ x3, ?_⟩
    refine appL (ho.ext h3.ext) h3.ints x3.size (by omega) fun a4 c4' w4 o4 b4 => ?_
    have x4 : Ext w1 w4 := Below.trans x3 b4
    refine ⟨hkeep _ x4, ?_⟩
    exact tail a4 c4' w4 x4 o4
  · refine (rBig_c (by omega) (by omega)).mono ?_
    rintro ⟨⟨sa, sn, sc⟩, ⟨⟩⟩ w3 h3
    dsimp only at h3 ⊢
    rw [c4] at h3
    have l3 := h3.ints.len
    rw [List.length_reverse, leL_length] at l3
    dsimp only at l3
    subst l3
    have x3 := (Ext.drew w1).trans h3.ext
    refine ⟨hkeep _ x3, ?_⟩
    rintro b2 w2 rfl rfl
    have ho := Own.list (w := w3) (xs := [h.k, h.n, h.c, 0]) (n := 4) rfl (by omega)
    have x2 : Ext w3 (w3.alloc (.cells #[.int .u8 h.k, .int .u8 h.n, .int .u8 h.c, .int .u8 0] 5)) := Ext.alloc _ _
    refine ⟨hkeep _ (x3.trans x2), ?_⟩
    refine appL ho (h3.ints.ext x2) x2.size (by omega) fun a4 c4' w4 o4 b4 => ?_
    have x4 : Ext w1 w4 := x3.trans (Below.trans x2 b4)
    refine ⟨hkeep _ x4, ?_⟩
    exact tail a4 c4' w4 x4 (o4.mono x3.size)
end Go.Proofs.YtlpeoaphdmfjdaaGreat.Vc
/-! The law HeadBytes of layer 14: each call gives true, and what it read stays. -/
namespace Go.Proofs.YtlpeoaphdmfjdaaGreat.Vc
open Go Go.Eng Go.RowKit
theorem MarkLen_c {w : World} {n : Int} (h : 88 ≤ n ∧ n ≤ 4184) : CallV Tryz.prog 141 #[.int .i64 n] w [.one .sl] fun r w' => Res w w' r.1 (List.replicate (n - 8).toNat 255 ++ List.replicate 8 0) := by
  refine head_Mark.vc _ _ _ ?_
  unfold head_Mark.P
  refine cond_d (fun h => by omega) (fun _ => cond_d (fun h => by omega) (fun _ => ⟨Rng.i64 (by omega) (by omega), ?_⟩))
  refine Fill_c.mono ?_
  rintro ⟨(s1 : SlV), ⟨⟩⟩ w1 h1
  refine Fill_c.mono ?_
  rintro ⟨(s2 : SlV), ⟨⟩⟩ w2 h2
  dsimp only at h1 h2 ⊢
  generalize hL : (65536 : Int) = L at h1 h2
  rw [show max 0 (min L (n - 8)) = n - 8 by omega] at h1
  rw [show (max 0 (min L 8)).toNat = 8 by omega] at h2
  have l1 := h1.ints.len
  have l2 := h2.ints.len
  rw [List.length_replicate] at l1 l2
  refine appL (h1.own.ext h2.ext) h2.ints (Nat.le_trans h1.ext.size h2.ext.size) (by omega) fun a' c' w' o b => ?_
  exact ⟨Below.trans (h1.ext.trans h2.ext) b, o⟩
end Go.Proofs.YtlpeoaphdmfjdaaGreat.Vc
/-! The contracts of layer 14 (head): an end's bytes, and is it committed. -/
namespace Go.Proofs.YtlpeoaphdmfjdaaGreat.Vc
open Go Go.Eng Go.RowKit
theorem appLB {w : World} {a a2 : Option Addr} {n c m c2 : Nat} {xs ys : List Int} {B : Nat} {K : Option Addr → Nat → Nat → World → Prop} (ho : Own w B 5 1 a n c (xs.map (Value.int .u8))) (hy : Ints w .u8 a2 m c2 ys) (hB : B ≤ w.heap.size) (hn : n + m ≤ 100000000)
    (hk : ∀ a' c' w', Own w' B 5 1 a' (n + m) c' ((xs ++ ys).map (Value.int .u8)) → Below B w w' → But a w w' → K a' (n + m) c' w') :
    AppS w a2 m 1 fun ns => AppV w 5 1 1 a n c ns m K := by
  refine AppS.of (news := ys.map (Value.int .u8)) (by rw [List.length_map, hy.len]; omega) hy.rd ?_
  refine AppV.own ho hB (by rw [List.length_map, hy.len]; omega) (oneAll.ints _ _) (by omega) (by omega) fun a' c' w' h1 h2 h3 _ => ?_
  refine hk a' c' w' ?_ h2 h3
  rw [List.map_append]
  exact h1
theorem intsU_but {w w' : World} {a a2 : Option Addr} {n c : Nat} {xs : List Int} (h : Ints w .u8 a n c xs) (x : But a2 w w') (hne : ∀ p q, a = some p → a2 = some q → p.block ≠ q.block) : Ints w' .u8 a n c xs := by
  refine ⟨h.len, h.cap, h.lim, ?_⟩
  rcases h.rd with h1 | ⟨p, h1, h2⟩
  · exact .inl h1
  · refine .inr ⟨p, h1, ?_⟩
    cases hx : xs.map (Value.int .u8) with
    | nil => intro j v hv; simp at hv
    | cons v vs =>
      rw [hx] at h2
      exact cells_same (x _ (cells_lt h2) (fun q hq => hne p q h1 hq)) h2
theorem Res.apart {w0 w1 w2 : World} {s t : SlV} {xs ys : List Int} (h : Res w0 w1 s xs) (k : Res w1 w2 t ys) : ∀ p q, t.a = some p → s.a = some q → p.block ≠ q.block := by
  intro p q hp hq
  rcases h.own.at_ with ⟨h1, _⟩ | ⟨b, cs, h1, _, h3, _⟩
  · rw [h1] at hq; cases hq
  · rcases k.own.at_ with ⟨k1, _⟩ | ⟨b', cs', k1, k2, _⟩
    · rw [k1] at hp; cases hp
    · rw [k1] at hp; rw [h1] at hq
      have e1 := Option.some.inj hp
      have e2 := Option.some.inj hq
      subst e1; subst e2
      have hlt : b < w1.heap.size := (Array.getElem?_eq_some_iff.1 h3).1
      show b' ≠ b
      omega
def tagL (tg : List Int) : List Int := if tg.length = 0 then List.replicate 32 255 else tg
def endL (h : Hd) (tg : List Int) : List Int := ((hdL h ++ invL (hdL h)) ++ tagL tg) ++ List.replicate 8 255
def ERight (h : Hd) (n : Nat) : Prop := HRight h ∧ (n = 0 ∨ n = 32)
instance (h : Hd) (n : Nat) : Decidable (ERight h n) := by unfold ERight; infer_instance
theorem invL_length (xs : List Int) : (invL xs).length = xs.length := by simp [invL]
theorem fill32 : (max 0 (min (65536 : Int) 32)).toNat = 32 := by generalize hL : (65536 : Int) = L; omega
theorem fill8 : (max 0 (min (65536 : Int) 8)).toNat = 8 := by generalize hL : (65536 : Int) = L; omega
theorem End_c {w : World} {h : Hd} {a : Option Addr} {n c : Nat} {tg : List Int} (hg : h.rng) (ht : Ints w .u8 a n c tg) :
    CallV Tryz.prog 163 #[h.val, .slice a n c] w [.one .sl, .one (.int .i64)] fun r w' => Ext w w' ∧ (ERight h n → Res w w' r.1 (endL h tg) ∧ r.2.1 = (0 : Int)) ∧ (¬ ERight h n → r.1 = (⟨none, 0, 0⟩ : SlV) ∧ r.2.1 = (2 : Int)) := by
  refine head_End.vc _ _ _ _ _ _ _ _ _ _ _ ?_
  unfold head_End.P
  have lt := ht.len
  refine newH fun b1 w1 e1 hb => ?_
  refine ldH hb ?_
  refine (Bytes_c (h := h) hg).mono ?_
  rintro ⟨⟨sa, sn, sc⟩, (e2 : Int), ⟨⟩⟩ w2 ⟨x2, h2, h2'⟩
  dsimp only at h2 h2' ⊢
  have E2 := e1.trans x2
  have no : ∀ {w' : World}, ¬ ERight h n → Ext w w' → (Ext w w' ∧ (ERight h n → Res w w' (⟨none, 0, 0⟩ : SlV) (endL h tg) ∧ (2 : Int) = (0 : Int)) ∧ (¬ ERight h n → (⟨none, 0, 0⟩ : SlV) = (⟨none, 0, 0⟩ : SlV) ∧ (2 : Int) = (2 : Int))) := fun hr he => ⟨he, fun h => absurd h hr, fun _ => ⟨rfl, rfl⟩⟩
  by_cases hR : ¬ HRight h
  · obtain ⟨_, k2⟩ := h2' hR
    refine cond_t (by rw [k2]; rfl) ?_
    have := no (w' := w2) (fun hh => hR hh.1) E2
    rw [k2]
    exact this
  have hR := Decidable.not_not.1 hR
  obtain ⟨k1, k2⟩ := h2 hR
  have l1 := k1.ints.len
  rw [hdL_length] at l1
  dsimp only at l1
  subst l1
  refine cond_f (by rw [k2]; rfl) ?_
  have fin : ∀ {w' : World} {a' : Option Addr} {m c' : Nat}, Ext w w' → Own w' w1.heap.size 5 1 a' m c' ((endL h tg).map (Value.int .u8)) → ERight h n →
      (Ext w w' ∧ (ERight h n → Res w w' (⟨a', m, c'⟩ : SlV) (endL h tg) ∧ (0 : Int) = (0 : Int)) ∧ (¬ ERight h n → (⟨a', m, c'⟩ : SlV) = (⟨none, 0, 0⟩ : SlV) ∧ (0 : Int) = (2 : Int))) := fun e o hr =>
    ⟨e, fun _ => ⟨⟨e, o.mono e1.size⟩, rfl⟩, fun hn => absurd hr hn⟩
  refine cond_eq (fun h0 => ?_) (fun h0 => ?_)
  · refine Fill_c.mono ?_
    rintro ⟨⟨ta, tn, tc⟩, ⟨⟩⟩ w3 h3
    dsimp only at h3 ⊢
    rw [fill32] at h3
    have l3 := h3.ints.len
    rw [List.length_replicate] at l3
    dsimp only at l3
    subst l3
    refine cond_ne (fun hh => absurd rfl hh) (fun _ => ?_)
    refine (Invert_c (k1.ints.ext h3.ext) (by dsimp only; omega)).mono ?_
    rintro ⟨⟨va, vn, vc⟩, ⟨⟩⟩ w4 h4
    dsimp only at h4 ⊢
    have l4 := h4.ints.len
    rw [invL_length, hdL_length] at l4
    dsimp only at l4
    subst l4
    have x4 := h3.ext.trans h4.ext
    have X4 : Ext w1 w4 := x2.trans x4
    refine appLB (k1.own.ext x4) h4.ints X4.size (by omega) fun a5 c5 w5 o5 b5 but5 => ?_
    have X5 : Ext w1 w5 := Below.trans X4 b5
    have i5 := intsU_but (h3.ints.ext h4.ext) but5 (Res.apart k1 h3)
    refine appL o5 i5 X5.size (by omega) fun a6 c6 w6 o6 b6 => ?_
    have X6 : Ext w1 w6 := Below.trans X5 b6
    refine Fill_c.mono ?_
    rintro ⟨⟨ua, un, uc⟩, ⟨⟩⟩ w7 h7
    dsimp only at h7 ⊢
    rw [fill8] at h7
    have l7 := h7.ints.len
    rw [List.length_replicate] at l7
    dsimp only at l7
    subst l7
    have X7 := X6.trans h7.ext
    refine appL (o6.ext h7.ext) h7.ints X7.size (by omega) fun a8 c8 w8 o8 b8 => ?_
    have X8 : Ext w1 w8 := Below.trans X7 b8
    have ht0 : tagL tg = List.replicate 32 255 := by unfold tagL; rw [if_pos (by omega)]
    refine fin (e1.trans X8) ?_ ⟨hR, .inl (by omega)⟩
    unfold endL
    rw [ht0]
    exact o8
  · refine cond_ne (fun hh => no (fun hr => by unfold ERight at hr; omega) E2) (fun h32 => ?_)
    refine (Invert_c k1.ints (by dsimp only; omega)).mono ?_
    rintro ⟨⟨va, vn, vc⟩, ⟨⟩⟩ w4 h4
    dsimp only at h4 ⊢
    have l4 := h4.ints.len
    rw [invL_length, hdL_length] at l4
    dsimp only at l4
    subst l4
    have X4 : Ext w1 w4 := x2.trans h4.ext
    refine appL (k1.own.ext h4.ext) h4.ints X4.size (by omega) fun a5 c5 w5 o5 b5 => ?_
    have X5 : Ext w1 w5 := Below.trans X4 b5
    refine appL o5 (ht.ext (e1.trans X5)) X5.size (by omega) fun a6 c6 w6 o6 b6 => ?_
    have X6 : Ext w1 w6 := Below.trans X5 b6
    refine Fill_c.mono ?_
    rintro ⟨⟨ua, un, uc⟩, ⟨⟩⟩ w7 h7
    dsimp only at h7 ⊢
    rw [fill8] at h7
    have l7 := h7.ints.len
    rw [List.length_replicate] at l7
    dsimp only at l7
    subst l7
    have X7 := X6.trans h7.ext
    refine appL (o6.ext h7.ext) h7.ints X7.size (by omega) fun a8 c8 w8 o8 b8 => ?_
    have X8 : Ext w1 w8 := Below.trans X7 b8
    have ht0 : tagL tg = tg := by unfold tagL; rw [if_neg (by omega)]
    refine fin (e1.trans X8) ?_ ⟨hR, .inr (by omega)⟩
    unfold endL
    rw [ht0]
    exact o8
theorem rEnd_c {w : World} {h : Hd} {a : Option Addr} {n c : Nat} {tg : List Int} (hg : h.rng) (ht : Ints w .u8 a n c tg) (hE : ERight h n) :
    CallV Tryz.prog 140 #[h.val, .slice a n c] w [.one .sl] fun r w' => Res w w' r.1 (endL h tg) := by
  have hR := hE.1
  have hE' := hE.2
  refine ref14_End.vc _ _ _ _ _ _ _ _ _ _ _ ?_
  unfold ref14_End.P
  have lt := ht.len
  refine newH fun b1 w1 e1 hb => ?_
  refine DrawV.old w1 fun D hD hkeep => ?_
  have hD1 := hD _ hb.lt
  have hd := hb.ext (Ext.drew w1)
  refine ⟨hD1, ldH hd ⟨hD1, ldH hd ?_⟩⟩
  refine (rBytes_c (h := h) hg hR).mono ?_
  rintro ⟨⟨sa, sn, sc⟩, ⟨⟩⟩ w2 h2
  have x2 := (Ext.drew w1).trans h2.ext
  refine ⟨hkeep _ x2, ?_⟩
  refine (rBytes_c (h := h) hg hR).mono ?_
  rintro ⟨(s3 : SlV), ⟨⟩⟩ w3 h3
  dsimp only at h2 h3 ⊢
  have l2 := h2.ints.len
  rw [hdL_length] at l2
  dsimp only at l2
  subst l2
  have l3 := h3.ints.len
  rw [hdL_length] at l3
  have x3 := x2.trans h3.ext
  refine ⟨hkeep _ x3, ?_⟩
  refine (rInvert_c h3.ints (by omega)).mono ?_
  rintro ⟨⟨va, vn, vc⟩, ⟨⟩⟩ w4 h4
  dsimp only at h4 ⊢
  have l4 := h4.ints.len
  rw [invL_length, hdL_length] at l4
  dsimp only at l4
  subst l4
  have x4 := x3.trans h4.ext
  refine ⟨hkeep _ x4, ?_⟩
  have o4 := (h2.own.ext (h3.ext.trans h4.ext)).mono (Ext.drew w1).size
  refine appL o4 h4.ints x4.size (by omega) fun a5 c5 w5 o5 b5 => ?_
  have X5 : Ext w1 w5 := Below.trans x4 b5
  refine ⟨hkeep _ X5, ?_⟩
  refine cond_eq (fun h0 => ?_) (fun h0 => ?_)
  · refine rFill_c.mono ?_
    rintro ⟨⟨ta, tn, tc⟩, ⟨⟩⟩ w6 h6
    dsimp only at h6 ⊢
    rw [fill32] at h6
    have l6 := h6.ints.len
    rw [List.length_replicate] at l6
    dsimp only at l6
    subst l6
    have X6 := X5.trans h6.ext
    refine appL (o5.ext h6.ext) h6.ints X6.size (by omega) fun a7 c7 w7 o7 b7 => ?_
    have X7 : Ext w1 w7 := Below.trans X6 b7
    refine rFill_c.mono ?_
    rintro ⟨⟨ua, un, uc⟩, ⟨⟩⟩ w8 h8
    dsimp only at h8 ⊢
    rw [fill8] at h8
    have l8 := h8.ints.len
    rw [List.length_replicate] at l8
    dsimp only at l8
    subst l8
    have X8 := X7.trans h8.ext
    refine appL (o7.ext h8.ext) h8.ints X8.size (by omega) fun a9 c9 w9 o9 b9 => ?_
    have ht0 : tagL tg = List.replicate 32 255 := by unfold tagL; rw [if_pos (by omega)]
    refine ⟨e1.trans (Below.trans X8 b9), ?_⟩
    unfold endL
    rw [ht0]
    exact o9.mono e1.size
  · refine appL o5 (ht.ext (e1.trans X5)) X5.size (by omega) fun a7 c7 w7 o7 b7 => ?_
    have X7 : Ext w1 w7 := Below.trans X5 b7
    refine rFill_c.mono ?_
    rintro ⟨⟨ua, un, uc⟩, ⟨⟩⟩ w8 h8
    dsimp only at h8 ⊢
    rw [fill8] at h8
    have l8 := h8.ints.len
    rw [List.length_replicate] at l8
    dsimp only at l8
    subst l8
    have X8 := X7.trans h8.ext
    refine appL (o7.ext h8.ext) h8.ints X8.size (by omega) fun a9 c9 w9 o9 b9 => ?_
    have ht0 : tagL tg = tg := by unfold tagL; rw [if_neg (by omega)]
    refine ⟨e1.trans (Below.trans X8 b9), ?_⟩
    unfold endL
    rw [ht0]
    exact o9.mono e1.size
def comm (xs : List Int) : Bool := decide (xs.length = 88 ∧ xs.drop 80 = List.replicate 8 0)
theorem Committed_c {w : World} {a : Option Addr} {n c : Nat} {xs : List Int} (hx : Ints w .u8 a n c xs) (bx : Byt xs) :
    CallV Tryz.prog 177 #[.slice a n c] w [.one .bool] fun r w' => r.1 = comm xs ∧ Ext w w' := by
  refine head_Committed.vc _ _ _ _ _ ?_
  unfold head_Committed.P
  have lx := hx.len
  refine DrawV.old w fun D hD hkeep => ?_
  refine cond_eq (fun h88 => ?_) (fun h88 => ⟨(decide_eq_false (fun hh => h88 (by omega))).symm, Ext.drew w⟩)
  refine ⟨by omega, ?_⟩
  intro a2 ha2
  have hs := (hx.ext (Ext.drew w)).sub (l := 80) (hh := n) (m := c) (by omega) (Nat.le_refl _) hx.cap ha2
  rw [List.take_of_length_le (by rw [List.length_drop]; omega)] at hs
  refine Fill_c.mono ?_
  rintro ⟨(s3 : SlV), ⟨⟩⟩ w3 h3
  dsimp only at h3 ⊢
  rw [fill8] at h3
  have x3 := (Ext.drew w).trans h3.ext
  refine ⟨hkeep _ x3, ?_⟩
  refine (Same_c (hs.ext h3.ext) h3.ints (bx.drop 80) (Byt.replicate (by omega) (by omega) _)).mono ?_
  rintro ⟨(r4 : Bool), ⟨⟩⟩ w4 ⟨h4, e4⟩
  refine ⟨hkeep _ (x3.trans e4), ?_, x3.trans e4⟩
  dsimp only at h4 ⊢
  rw [h4]
  unfold comm
  exact decide_eq_decide.2 ⟨fun h => ⟨by omega, h⟩, fun h => h.2⟩
theorem rCommitted_c {w : World} {a : Option Addr} {n c : Nat} {xs : List Int} (hx : Ints w .u8 a n c xs) (hn : n = 88) :
    CallV Tryz.prog 113 #[.slice a n c] w [.one .bool] fun r w' => r.1 = comm xs ∧ Ext w w' := by
  refine ref14_Committed.vc _ _ _ _ _ ?_
  unfold ref14_Committed.P
  have lx := hx.len
  refine DrawV.old w fun D hD hkeep => ?_
  refine ⟨by omega, ?_⟩
  intro a2 ha2
  have hs := (hx.ext (Ext.drew w)).sub (l := 80) (hh := n) (m := c) (by omega) (Nat.le_refl _) hx.cap ha2
  rw [List.take_of_length_le (by rw [List.length_drop]; omega)] at hs
  refine rFill_c.mono ?_
  rintro ⟨(s3 : SlV), ⟨⟩⟩ w3 h3
  dsimp only at h3 ⊢
  rw [fill8] at h3
  have x3 := (Ext.drew w).trans h3.ext
  refine ⟨hkeep _ x3, ?_⟩
  refine (SameBytes_c (hs.ext h3.ext) h3.ints).mono ?_
  rintro ⟨(r4 : Bool), ⟨⟩⟩ w4 ⟨h4, e4⟩
  refine ⟨hkeep _ (x3.trans e4), ?_, x3.trans e4⟩
  dsimp only at h4 ⊢
  rw [h4]
  unfold comm
  exact decide_eq_decide.2 ⟨fun h => ⟨by omega, h⟩, fun h => h.2⟩
end Go.Proofs.YtlpeoaphdmfjdaaGreat.Vc
/-! Plain laws for layer 14 (head): numbers of bytes, back as bytes. -/
namespace Go.Proofs.YtlpeoaphdmfjdaaGreat.Vc
open Go Go.Eng Go.RowKit
theorem leL_cons (n : Int) (h : 0 ≤ n) (k : Nat) : leL n (k + 1) = n % 256 :: leL (n / 256) k := by
  refine List.ext_getElem (by simp [leL_length]) fun i h1 h2 => ?_
  rw [leL_get]
  cases i with
  | zero => simp
  | succ i =>
    rw [List.getElem_cons_succ, leL_get, Int.pow_succ, Int.mul_comm, ← Int.ediv_ediv_of_nonneg (by omega)]
theorem leL_leN : ∀ {xs : List Int}, Byt xs → leL (leN xs) xs.length = xs
  | [], _ => rfl
  | x :: xs, hb => by
    have hx := hb x (List.mem_cons_self ..)
    have hb' : Byt xs := fun y hy => hb y (List.mem_cons_of_mem _ hy)
    have bd := leN_bd hb'
    have bd2 := leN_bd hb
    have e : leN (x :: xs) = x + 256 * leN xs := rfl
    rw [List.length_cons, leL_cons _ bd2.1, e, show (x + 256 * leN xs) % 256 = x by omega, show (x + 256 * leN xs) / 256 = leN xs by omega, leL_leN hb']
theorem big_numB {xs : List Int} (hb : Byt xs) (h8 : xs.length ≤ 8) : big (numB xs) xs.length = xs := by
  unfold big numB
  rw [List.take_of_length_le (by rw [List.length_reverse]; exact h8)]
  have := leL_leN hb.reverse
  rw [List.length_reverse] at this
  rw [this, List.reverse_reverse]
theorem numB_bd {xs : List Int} (hb : Byt xs) {k : Nat} (h : xs.length = k) (h8 : k ≤ 8) : 0 ≤ numB xs ∧ numB xs < 256 ^ k := by
  unfold numB
  rw [List.take_of_length_le (by rw [List.length_reverse]; omega)]
  have := leN_bd hb.reverse
  rw [List.length_reverse, h] at this
  exact this
def part (xs : List Int) (i j : Nat) : List Int := (xs.drop i).take (j - i)
theorem part_length {xs : List Int} {i j : Nat} (h : j ≤ xs.length) (hi : i ≤ j) : (part xs i j).length = j - i := by unfold part; simp; omega
theorem part_byt {xs : List Int} (hb : Byt xs) (i j : Nat) : Byt (part xs i j) := (hb.drop i).take _
def hdOf (xs : List Int) : Hd := ⟨xs.getD 0 0, xs.getD 1 0, xs.getD 2 0, numB (part xs 4 8), numB (part xs 8 16), numB (part xs 16 24)⟩
def okR (xs : List Int) : Prop := (1 ≤ xs.getD 0 0 ∧ xs.getD 0 0 ≤ 4) ∧ xs.getD 3 0 = 0 ∧ invL (part xs 0 24) = part xs 24 48
instance (xs : List Int) : Decidable (okR xs) := by unfold okR; infer_instance
theorem part_split (xs : List Int) {i j k : Nat} (h1 : i ≤ j) (h2 : j ≤ k) : part xs i j ++ part xs j k = part xs i k := by
  unfold part
  rw [show k - i = (j - i) + (k - j) by omega, List.take_add, List.drop_drop, show i + (j - i) = j by omega]
theorem part4 {xs : List Int} (h : 4 ≤ xs.length) : part xs 0 4 = [xs.getD 0 0, xs.getD 1 0, xs.getD 2 0, xs.getD 3 0] := by
  unfold part
  match xs, h with
  | a :: b :: c :: d :: t, _ => rfl
theorem hdL_of {xs : List Int} (hb : Byt xs) (hl : 24 ≤ xs.length) : hdL (hdOf xs) = [xs.getD 0 0, xs.getD 1 0, xs.getD 2 0, 0] ++ part xs 4 8 ++ part xs 8 16 ++ part xs 16 24 := by
  unfold hdL hdOf
  have a := big_numB (part_byt hb 4 8) (by rw [part_length (by omega) (by omega)]; omega)
  have b := big_numB (part_byt hb 8 16) (by rw [part_length (by omega) (by omega)]; omega)
  have c := big_numB (part_byt hb 16 24) (by rw [part_length (by omega) (by omega)]; omega)
  rw [part_length (by omega) (by omega)] at a b c
  dsimp only
  rw [show (4 : Nat) = 8 - 4 from rfl, a, show (8 : Nat) = 16 - 8 from rfl, b]
  rw [show (16 - 8 : Nat) = 24 - 16 from rfl, c]
theorem hdL_eq {xs : List Int} (hb : Byt xs) (hl : 24 ≤ xs.length) : hdL (hdOf xs) = part xs 0 24 ↔ xs.getD 3 0 = 0 := by
  rw [hdL_of hb hl, ← part_split xs (show 0 ≤ 16 by omega) (show 16 ≤ 24 by omega), ← part_split xs (show 0 ≤ 8 by omega) (show 8 ≤ 16 by omega), ← part_split xs (show 0 ≤ 4 by omega) (show 4 ≤ 8 by omega), part4 (by omega)]
  constructor
  · intro h
    have := congrArg (fun l => l.getD 3 0) h
    simpa using this.symm
  · intro h
    rw [h]
theorem hdOf_rng {xs : List Int} (hb : Byt xs) (hl : 24 ≤ xs.length) : (hdOf xs).rng := by
  have a := numB_bd (part_byt hb 4 8) (part_length (by omega) (by omega)) (by omega)
  have b := numB_bd (part_byt hb 8 16) (part_length (by omega) (by omega)) (by omega)
  have c := numB_bd (part_byt hb 16 24) (part_length (by omega) (by omega)) (by omega)
  exact ⟨a, b, c⟩
theorem hdOf_right {xs : List Int} (hb : Byt xs) : HRight (hdOf xs) ↔ 1 ≤ xs.getD 0 0 ∧ xs.getD 0 0 ≤ 4 := by
  have h1 := hb.getD 1
  have h2 := hb.getD 2
  unfold HRight hdOf
  dsimp only
  omega
theorem okR_iff {xs : List Int} (hb : Byt xs) (hl : xs.length = 88) : okR xs ↔ HRight (hdOf xs) ∧ hdL (hdOf xs) ++ invL (hdL (hdOf xs)) = part xs 0 48 := by
  rw [hdOf_right hb, ← part_split xs (show 0 ≤ 24 by omega) (show 24 ≤ 48 by omega)]
  have e := hdL_eq hb (by omega)
  constructor
  · rintro ⟨h1, h2, h3⟩
    have := e.2 h2
    exact ⟨h1, by rw [this, h3]⟩
  · rintro ⟨h1, h2⟩
    have hlen : (hdL (hdOf xs)).length = (part xs 0 24).length := by rw [hdL_length, part_length (by omega) (by omega)]
    obtain ⟨a, b⟩ := List.append_inj h2 hlen
    exact ⟨h1, e.1 a, by rw [← a]; exact b⟩
theorem part_hdL (h : Hd) (hg : h.rng) (rest : List Int) : hdOf (hdL h ++ rest) = h := by
  unfold Hd.rng at hg
  have p1 : part (hdL h ++ rest) 4 8 = big h.l 4 := by
    unfold part hdL
    rw [List.append_assoc, List.append_assoc, List.append_assoc, List.drop_left' (by rfl), List.take_left' (by rw [big_length])]
  have p2 : part (hdL h ++ rest) 8 16 = big h.e 8 := by
    unfold part hdL
    rw [List.append_assoc, List.append_assoc, List.drop_left' (by rw [List.length_append, big_length]; rfl), List.take_left' (by rw [big_length])]
  have p3 : part (hdL h ++ rest) 16 24 = big h.t 8 := by
    unfold part hdL
    rw [List.append_assoc, List.drop_left' (by rw [List.length_append, List.length_append, big_length, big_length]; rfl), List.take_left' (by rw [big_length])]
  have nb : ∀ (n : Int) (k : Nat), 0 ≤ n → n < 256 ^ k → k ≤ 8 → numB (big n k) = n := fun n k h0 h1 h8 => by
    unfold numB big
    rw [List.reverse_reverse, List.take_of_length_le (by rw [leL_length]; exact h8), leN_leL n h0]
    exact Int.emod_eq_of_lt h0 h1
  unfold hdOf
  rw [p1, p2, p3, nb _ _ hg.1.1 hg.1.2 (by omega), nb _ _ hg.2.1.1 hg.2.1.2 (by omega), nb _ _ hg.2.2.1 hg.2.2.2 (by omega)]
  rfl
end Go.Proofs.YtlpeoaphdmfjdaaGreat.Vc
/-! Parts of plans, cut out by wip/tools/vccut.py. -/
namespace Go.Proofs.YtlpeoaphdmfjdaaGreat.Vc
open Go Go.Eng
def head_Read.T (c0 : Nat) (a0 : Option Addr) (a6 : Option Addr) (w26 : World) (b1 : Nat) (K : (Int × Int × Int × Int × Int × Int × Unit) × SlV × Int × Unit → World → Prop) (b24 : Nat) (a7 : Option Addr) : Prop :=
DrawV fun D27 =>
  ((0 : Int) ≤ (24 : Int) ∧ (24 : Int) ≤ (48 : Int) ∧ (48 : Int) ≤ ((c0 : Nat) : Int)) ∧
  SubK a0 24 c0 1 fun a28 =>
  CallV Tryz.prog 151 #[.slice a6 (24 - 0) (c0 - 0)] w26.drew [.one .sl] fun (r29 : SlV × Unit) w30 =>
  KeepOn D27 w26.drew w30 ∧
  CallV Tryz.prog 181 #[.slice r29.1.a r29.1.n r29.1.c, .slice a28 (48 - 24) (c0 - 24)] w30 [.one .bool] fun (r31 : Bool × Unit) w32 =>
  KeepOn D27 w26.drew w32 ∧
  cond (!r31.1)
  (StoreV w32 ⟨b1, 0, none⟩ [.int .i64 0, .int .i64 0, .int .i64 0, .int .u32 0, .int .u64 0, .int .u64 0] fun w33 =>
  LoadA w33 ⟨b1, 0, none⟩ [.int .i64, .int .i64, .int .i64, .int .u32, .int .u64, .int .u64] fun (x34 : Int × Int × Int × Int × Int × Int × Unit) =>
  K ((x34.1, x34.2.1, x34.2.2.1, x34.2.2.2.1, x34.2.2.2.2.1, x34.2.2.2.2.2.1, ()), (⟨none, 0, 0⟩ : SlV), (1 : Int), ()) w33)
  ((0 ≤ (3 : Int) ∧ 3 < ((24 - 0 : Nat) : Int)) ∧ ∃ q35 : Addr, a6 = some q35 ∧
  (D27 (q35.add (3 * 1)).block ∧ LoadS w26.drew (q35.add (3 * 1)) (.int .u8) fun (x36 : Int) =>
  cond (x36 != 0)
  (StoreV w32 ⟨b1, 0, none⟩ [.int .i64 0, .int .i64 0, .int .i64 0, .int .u32 0, .int .u64 0, .int .u64 0] fun w37 =>
  LoadA w37 ⟨b1, 0, none⟩ [.int .i64, .int .i64, .int .i64, .int .u32, .int .u64, .int .u64] fun (x38 : Int × Int × Int × Int × Int × Int × Unit) =>
  K ((x38.1, x38.2.1, x38.2.2.1, x38.2.2.2.1, x38.2.2.2.2.1, x38.2.2.2.2.2.1, ()), (⟨none, 0, 0⟩ : SlV), (1 : Int), ()) w37)
  ((D27 b24 ∧ LoadS w26.drew ⟨b24, 0, none⟩ (.int .i64) fun (x39 : Int) =>
  cond (decide (x39 < 1))
  (StoreV w32 ⟨b1, 0, none⟩ [.int .i64 0, .int .i64 0, .int .i64 0, .int .u32 0, .int .u64 0, .int .u64 0] fun w40 =>
  LoadA w40 ⟨b1, 0, none⟩ [.int .i64, .int .i64, .int .i64, .int .u32, .int .u64, .int .u64] fun (x41 : Int × Int × Int × Int × Int × Int × Unit) =>
  K ((x41.1, x41.2.1, x41.2.2.1, x41.2.2.2.1, x41.2.2.2.2.1, x41.2.2.2.2.2.1, ()), (⟨none, 0, 0⟩ : SlV), (1 : Int), ()) w40)
  ((D27 b24 ∧ LoadS w26.drew ⟨b24, 0, none⟩ (.int .i64) fun (x42 : Int) =>
  cond (decide (x42 > 4))
  (StoreV w32 ⟨b1, 0, none⟩ [.int .i64 0, .int .i64 0, .int .i64 0, .int .u32 0, .int .u64 0, .int .u64 0] fun w43 =>
  LoadA w43 ⟨b1, 0, none⟩ [.int .i64, .int .i64, .int .i64, .int .u32, .int .u64, .int .u64] fun (x44 : Int × Int × Int × Int × Int × Int × Unit) =>
  K ((x44.1, x44.2.1, x44.2.2.1, x44.2.2.2.1, x44.2.2.2.2.1, x44.2.2.2.2.2.1, ()), (⟨none, 0, 0⟩ : SlV), (1 : Int), ()) w43)
  (DrawV fun D45 =>
  (D45 b24 ∧ LoadA w32.drew ⟨b24, 0, none⟩ [.int .i64, .int .i64, .int .i64, .int .u32, .int .u64, .int .u64] fun (x46 : Int × Int × Int × Int × Int × Int × Unit) =>
  NewV #[] 5 w32.drew fun b47 w48 =>
  KeepOn D45 w32.drew w48 ∧
  AppS w48 a7 (80 - 48) 1 fun ns53 =>
  AppV w48 5 1 1 (some ⟨b47, 0, none⟩) 0 0 ns53 (80 - 48) fun a49 n50 c51 w52 =>
  KeepOn D45 w32.drew w52 ∧
  StoreV w52 ⟨b1, 0, none⟩ [.int .i64 x46.1, .int .i64 x46.2.1, .int .i64 x46.2.2.1, .int .u32 x46.2.2.2.1, .int .u64 x46.2.2.2.2.1, .int .u64 x46.2.2.2.2.2.1] fun w54 =>
  KeepOn D45 w32.drew w54 ∧
  LoadA w54 ⟨b1, 0, none⟩ [.int .i64, .int .i64, .int .i64, .int .u32, .int .u64, .int .u64] fun (x55 : Int × Int × Int × Int × Int × Int × Unit) =>
  K ((x55.1, x55.2.1, x55.2.2.1, x55.2.2.2.1, x55.2.2.2.2.1, x55.2.2.2.2.2.1, ()), (⟨a49, n50, c51⟩ : SlV), (0 : Int), ()) w54))))))))
end Go.Proofs.YtlpeoaphdmfjdaaGreat.Vc
/-! The contracts of layer 14 (head): what an end tells. -/
namespace Go.Proofs.YtlpeoaphdmfjdaaGreat.Vc
open Go Go.Eng Go.RowKit
theorem DrawV.but {body : (Nat → Prop) → Prop} (w : World) (b : Nat) (h : ∀ D : Nat → Prop, (∀ k, k < w.heap.size → k ≠ b → D k) → (∀ w', (∀ k, k < w.heap.size → k ≠ b → w'.heap[k]? = w.heap[k]?) → KeepOn D w.drew w') → body D) : DrawV body :=
  ⟨fun k => k < w.heap.size ∧ k ≠ b, h _ (fun _ h h' => ⟨h, h'⟩) fun w' e k hk => e k hk.1 hk.2⟩
theorem newU' {w : World} {K : Nat → World → Prop} (h : ∀ b w1, Ext w w1 → Own w1 w.heap.size 5 1 (some ⟨b, 0, none⟩) 0 0 [] → K b w1) : NewV #[] 5 w K := by
  rintro b w1 rfl rfl
  exact h _ _ (Ext.alloc _ _) (Own.zeros (w := w) (B := w.heap.size) (e := 5) (n := 0) (c := 0) (z := .int .u8 0) (Nat.le_refl _) (Nat.zero_le _) (by omega) rfl)
abbrev zeroH : Hd := ⟨0, 0, 0, 0, 0, 0⟩
def RPost (w : World) (xs : List Int) (r : (Int × Int × Int × Int × Int × Int × Unit) × SlV × Int × Unit) (w' : World) : Prop :=
  Ext w w' ∧ (xs.length ≠ 88 → r.1 = zeroH.tup ∧ r.2.1 = (⟨none, 0, 0⟩ : SlV) ∧ r.2.2.1 = 2) ∧ (xs.length = 88 → okR xs → r.1 = (hdOf xs).tup ∧ Res w w' r.2.1 (part xs 48 80) ∧ r.2.2.1 = 0) ∧
    (xs.length = 88 → ¬ okR xs → r.1 = zeroH.tup ∧ r.2.1 = (⟨none, 0, 0⟩ : SlV) ∧ r.2.2.1 = 1)
theorem readTail {w w26 : World} {xs : List Int} {a0 a6 a7 : Option Addr} {c0 b1 b24 : Nat} {c6 c7 : Nat} (x26 : Ext w w26) (hb1 : Box w26 w.heap.size b1 46 zeroH.vs) (hb24 : Box w26 w.heap.size b24 46 (hdOf xs).vs) (hne : b1 ≠ b24)
    (hx : Ints w .u8 a0 88 c0 xs) (bx : Byt xs) (h6 : Ints w .u8 a6 24 (c0 - 0) (part xs 0 24)) (h7 : Ints w .u8 a7 (80 - 48) c7 (part xs 48 80)) : head_Read.T c0 a0 a6 w26 b1 (RPost w xs) b24 a7 := by
  have hl := hx.len
  have hcap := hx.cap
  unfold head_Read.T
  refine DrawV.old w26 fun D hD hkeep => ?_
  have x26' := x26.trans (Ext.drew w26)
  refine ⟨by omega, ?_⟩
  intro a28 ha28
  have h28 := (hx.ext x26').sub (l := 24) (hh := 48) (m := c0) (by omega) (by omega) (by omega) ha28
  refine (Invert_c (h6.ext x26') (by omega)).mono ?_
  rintro ⟨(s1 : SlV), ⟨⟩⟩ w1 h1
  dsimp only at h1 ⊢
  have x1 := (Ext.drew w26).trans h1.ext
  refine ⟨hkeep _ x1, ?_⟩
  refine (Same_c h1.ints (h28.ext h1.ext) (invL_byt _) ((bx.drop 24).take _)).mono ?_
  rintro ⟨(r2 : Bool), ⟨⟩⟩ w2 ⟨h2, e2⟩
  dsimp only at h2 ⊢
  have x2 := x1.trans e2
  have X2 := x26.trans x2
  refine ⟨hkeep _ x2, ?_⟩
  have b1' := hb1.ext x2
  have fail : ¬ okR xs → StoreV w2 ⟨b1, 0, none⟩ [.int .i64 0, .int .i64 0, .int .i64 0, .int .u32 0, .int .u64 0, .int .u64 0] fun w33 =>
      LoadA w33 ⟨b1, 0, none⟩ [.int .i64, .int .i64, .int .i64, .int .u32, .int .u64, .int .u64] fun (x34 : Int × Int × Int × Int × Int × Int × Unit) =>
      RPost w xs ((x34.1, x34.2.1, x34.2.2.1, x34.2.2.2.1, x34.2.2.2.2.1, x34.2.2.2.2.2.1, ()), (⟨none, 0, 0⟩ : SlV), (1 : Int), ()) w33 := fun hno => by
    refine b1'.store 0 (by simp) fun w3 hb3 bel3 _ _ => ?_
    refine ldH (h := zeroH) hb3 ?_
    exact ⟨Below.trans X2 bel3, fun h => absurd hl h, fun _ h => absurd h hno, fun _ _ => ⟨rfl, rfl, rfl⟩⟩
  refine cond_of (fun hc => fail (fun hok => by
    have := hok.2.2
    unfold part at this
    simp at hc
    rw [h2] at hc
    simp at hc
    exact hc this)) (fun hc => ?_)
  have hsame : invL (part xs 0 24) = part xs 24 48 := by simp at hc; rw [h2] at hc; simpa [part] using hc
  have h3 : (part xs 0 24).getD 3 0 = xs.getD 3 0 := by
    unfold part
    rw [List.drop_zero, List.getD_eq_getElem?_getD, List.getElem?_take, if_pos (by omega), ← List.getD_eq_getElem?_getD]
  refine (h6.ext x26).idxD (Ext.drew w26) (i := 3) (by omega) (by omega) hD ?_
  rw [show (3 : Int).toNat = 3 from rfl, h3]
  refine cond_ne (fun hz => fail (fun hok => hz hok.2.1)) (fun hz => ?_)
  have hD24 := hD _ hb24.lt
  have d24 := hb24.ext (Ext.drew w26)
  refine ⟨hD24, d24.ld (i := 0) (h := .int .i64) (x := xs.getD 0 0) rfl ?_⟩
  refine cond_d (fun h1 => fail (fun hok => by have := hok.1; omega)) (fun k1 => ?_)
  refine ⟨hD24, d24.ld (i := 0) (h := .int .i64) (x := xs.getD 0 0) rfl ?_⟩
  refine cond_d (fun h1 => fail (fun hok => by have := hok.1; omega)) (fun k2 => ?_)
  have hok : okR xs := ⟨by omega, hz, hsame⟩
  refine DrawV.but w2 b1 fun D2 hD2 hkeep2 => ?_
  have e24 := hb24.ext x2
  refine ⟨hD2 _ e24.lt (fun h => hne h.symm), ldH (h := hdOf xs) (e24.ext (Ext.drew w2)) ?_⟩
  refine newU' fun b5 w5 e5 o5 => ?_
  have keepB : ∀ {w' : World}, Ext w2 w' → KeepOn D2 w2.drew w' := fun e => hkeep2 _ fun k hk _ => e.block k hk
  have x5 := (Ext.drew w2).trans e5
  refine ⟨keepB x5, ?_⟩
  refine appL (xs := []) (o5.mono (Ext.drew w2).size) (h7.ext (X2.trans x5)) x5.size (by omega) fun a6' c6' w6 o6 b6 => ?_
  have x6 : Ext w2 w6 := Below.trans x5 b6
  refine ⟨keepB x6, ?_⟩
  have b1'' := b1'.ext x6
  refine b1''.store 0 (by simp) fun w7 hb7 bel7 oth7 _ => ?_
  refine ⟨hkeep2 _ fun k hk hkb => by rw [oth7 k hkb]; exact x6.block k hk, ?_⟩
  refine ldH (h := hdOf xs) hb7 ?_
  refine ⟨Below.trans (X2.trans x6) bel7, fun h => absurd hl h, fun _ _ => ⟨rfl, ⟨Below.trans (X2.trans x6) bel7, ?_⟩, rfl⟩, fun _ h => absurd hok h⟩
  rw [Nat.zero_add, List.nil_append] at *
  refine (o6.other fun p hp => oth7 _ ?_).mono X2.size
  rcases o6.at_ with ⟨h1, _⟩ | ⟨b, cs, h1, h2, _⟩
  · rw [h1] at hp; cases hp
  · rw [h1] at hp
    have := Option.some.inj hp
    subst this
    have := b1'.lt
    show b ≠ b1
    omega
end Go.Proofs.YtlpeoaphdmfjdaaGreat.Vc
/-! The contract of head.Read. -/
namespace Go.Proofs.YtlpeoaphdmfjdaaGreat.Vc
open Go Go.Eng Go.RowKit
theorem sub_part {w : World} {a : Option Addr} {n c : Nat} {xs : List Int} (h : Ints w .u8 a n c xs) {i j m : Nat} (h1 : i ≤ j) (h2 : j ≤ n) (h3 : j ≤ m) {a' : Option Addr} (ha : a' = if m = i then a else a.map (·.add (i * 1))) : Ints w .u8 a' (j - i) (m - i) (part xs i j) := h.sub h1 h2 h3 ha
theorem part_part {xs : List Int} {i j k : Nat} (h : j ≤ k) : part (part xs 0 k) i j = part xs i j := by
  unfold part
  rw [List.drop_zero, Nat.sub_zero, List.drop_take, List.take_take, Nat.min_eq_left (by omega)]
theorem Read_c {w : World} {a0 : Option Addr} {n0 c0 : Nat} {xs : List Int} (hx : Ints w .u8 a0 n0 c0 xs) (bx : Byt xs) :
    CallV Tryz.prog 176 #[.slice a0 n0 c0] w [.agg [.int .i64, .int .i64, .int .i64, .int .u32, .int .u64, .int .u64], .one .sl, .one (.int .i64)] fun r w' => RPost w xs r w' := by
  refine head_Read.vc _ _ _ _ _ ?_
  unfold head_Read.P
  have lx := hx.len
  have hcap := hx.cap
  refine newH (h := zeroH) fun b1 w2 e2 hb1 => ?_
  refine cond_ne (fun hne => ?_) (fun heq => ?_)
  · refine hb1.store 0 (by simp) fun w3 hb3 bel3 _ _ => ?_
    refine ldH (h := zeroH) hb3 ?_
    exact ⟨Below.trans e2 bel3, fun _ => ⟨rfl, rfl, rfl⟩, fun h => absurd (by omega) hne, fun h => absurd (by omega) hne⟩
  have h88 : n0 = 88 := by omega
  subst h88
  refine DrawV.old w2 fun D5 hD5 hkeep5 => ?_
  have x5 := e2.trans (Ext.drew w2)
  refine ⟨by omega, ?_⟩
  intro a6 ha6
  refine ⟨by omega, ?_⟩
  intro a7 ha7
  have h6 := sub_part hx (i := 0) (j := 24) (m := c0) (by omega) (by omega) (by omega) ha6
  have h7 := sub_part hx (i := 48) (j := 80) (m := c0) (by omega) (by omega) (by omega) ha7
  refine DrawV.old w2.drew fun D hD hkeep => ?_
  have x8 := x5.trans (Ext.drew w2.drew)
  have b0 := bx.getD 0
  have b1' := bx.getD 1
  have b2 := bx.getD 2
  have g : ∀ k, k < 24 → (part xs 0 24).getD k 0 = xs.getD k 0 := fun k hk => by
    unfold part
    rw [List.drop_zero, List.getD_eq_getElem?_getD, List.getElem?_take, if_pos (by omega), ← List.getD_eq_getElem?_getD]
  refine (h6.ext x5).idxD (Ext.drew w2.drew) (i := 0) (by omega) (by omega) hD ?_
  refine (h6.ext x5).idxD (Ext.drew w2.drew) (i := 1) (by omega) (by omega) hD ?_
  refine (h6.ext x5).idxD (Ext.drew w2.drew) (i := 2) (by omega) (by omega) hD ?_
  rw [show (0 : Int).toNat = 0 from rfl, show (1 : Int).toNat = 1 from rfl, show (2 : Int).toNat = 2 from rfl, g 0 (by omega), g 1 (by omega), g 2 (by omega)]
  rw [i64_id (by omega : -9223372036854775808 ≤ xs.getD 0 0) (by omega), i64_id (by omega : -9223372036854775808 ≤ xs.getD 1 0) (by omega), i64_id (by omega : -9223372036854775808 ≤ xs.getD 2 0) (by omega)]
  refine ⟨by omega, ?_⟩
  intro a15 ha15
  refine ⟨by omega, ?_⟩
  intro a16 ha16
  refine ⟨by omega, ?_⟩
  intro a17 ha17
  have h15 := sub_part h6 (i := 4) (j := 8) (m := c0 - 0) (by omega) (by omega) (by omega) ha15
  have h16 := sub_part h6 (i := 8) (j := 16) (m := c0 - 0) (by omega) (by omega) (by omega) ha16
  have h17 := sub_part h6 (i := 16) (j := 24) (m := c0 - 0) (by omega) (by omega) (by omega) ha17
  rw [part_part (by omega)] at h15 h16 h17
  generalize hW : w2.drew.drew = W at *
  have keepW : ∀ {w' : World}, Ext W w' → KeepOn D W w' := fun e => by
    have := hkeep _ ((Ext.drew w2.drew).trans (by rw [hW]; exact e))
    exact this
  have nbl := numB_bd (part_byt bx 4 8) (part_length (by omega) (by omega)) (by omega)
  have hu : IntKind.u32.wrap (numB (part xs 4 8)) = numB (part xs 4 8) := by rw [u32_wrap]; exact Int.emod_eq_of_lt nbl.1 (by have := nbl.2; simpa using this)
  have hb1W := hb1.ext ((Ext.drew w2).trans (by rw [← hW]; exact Ext.drew w2.drew) : Ext w2 W)
  have done : ∀ {w25 : World} {b24 : Nat}, Ext W w25 → Box w25 W.heap.size b24 46 zeroH.vs → StoreV w25 ⟨b24, 0, none⟩ (hdOf xs).vs fun w26 => KeepOn D W w26 ∧ head_Read.T c0 a0 a6 w26 b1 (RPost w xs) b24 a7 := fun {w25 b24} e25 hb24 => by
    refine hb24.store 0 (by simp) fun w26 hb26 bel26 _ _ => ?_
    have X26 : Ext W w26 := Below.trans e25 bel26
    refine ⟨keepW X26, ?_⟩
    refine readTail (c6 := 0) (x8.trans X26) (hb1W.ext X26) ⟨Nat.le_trans x8.size hb26.base, hb26.heap⟩ (fun h => ?_) hx bx h6 h7
    have := hb1W.lt
    have := hb24.base
    omega
  have N15 : ∀ {w' : World}, Ext W w' → CallV Tryz.prog 180 #[.slice a15 (8 - 4) (c0 - 0 - 4)] w' [.one (.int .u64)] fun r w2 => r.1 = numB (part xs 4 8) ∧ w2 = w' := fun e => Num_c (h15.ext (x8.trans e)) (part_byt bx 4 8)
  have N16 : ∀ {w' : World}, Ext W w' → CallV Tryz.prog 180 #[.slice a16 (16 - 8) (c0 - 0 - 8)] w' [.one (.int .u64)] fun r w2 => r.1 = numB (part xs 8 16) ∧ w2 = w' := fun e => Num_c (h16.ext (x8.trans e)) (part_byt bx 8 16)
  have N17 : ∀ {w' : World}, Ext W w' → CallV Tryz.prog 180 #[.slice a17 (24 - 16) (c0 - 0 - 16)] w' [.one (.int .u64)] fun r w2 => r.1 = numB (part xs 16 24) ∧ w2 = w' := fun e => Num_c (h17.ext (x8.trans e)) (part_byt bx 16 24)
  have kW := keepW (Ext.refl W)
  refine ⟨?_, ?_⟩
  · refine (N15 (Ext.refl _)).mono ?_
    rintro ⟨(r1 : Int), ⟨⟩⟩ w' ⟨q1, rfl⟩
    dsimp only at q1 ⊢
    subst q1
    rw [hu]
    refine ⟨kW, ?_, ?_⟩
    · refine (N16 (Ext.refl _)).mono ?_
      rintro ⟨(r2 : Int), ⟨⟩⟩ w' ⟨q2, rfl⟩
      dsimp only at q2 ⊢
      subst q2
      refine ⟨kW, ?_, ?_⟩
      · refine (N17 (Ext.refl _)).mono ?_
        rintro ⟨(r3 : Int), ⟨⟩⟩ w' ⟨q3, rfl⟩
        dsimp only at q3 ⊢
        subst q3
        exact ⟨kW, newH (h := zeroH) fun b24 w25 e25 hb24 => ⟨keepW e25, done e25 hb24⟩⟩
      · refine newH (h := zeroH) fun b24 w25 e25 hb24 => ⟨keepW e25, ?_⟩
        refine (N17 e25).mono ?_
        rintro ⟨(r3 : Int), ⟨⟩⟩ w' ⟨q3, rfl⟩
        dsimp only at q3 ⊢
        subst q3
        exact ⟨keepW e25, done e25 hb24⟩
    · refine newH (h := zeroH) fun b24 w25 e25 hb24 => ⟨keepW e25, ?_⟩
      refine (N16 e25).mono ?_
      rintro ⟨(r2 : Int), ⟨⟩⟩ w' ⟨q2, rfl⟩
      dsimp only at q2 ⊢
      subst q2
      refine ⟨keepW e25, ?_⟩
      refine (N17 e25).mono ?_
      rintro ⟨(r3 : Int), ⟨⟩⟩ w' ⟨q3, rfl⟩
      dsimp only at q3 ⊢
      subst q3
      exact ⟨keepW e25, done e25 hb24⟩
  · refine newH (h := zeroH) fun b24 w25 e25 hb24 => ⟨keepW e25, ?_⟩
    refine (N15 e25).mono ?_
    rintro ⟨(r1 : Int), ⟨⟩⟩ w' ⟨q1, rfl⟩
    dsimp only at q1 ⊢
    subst q1
    rw [hu]
    refine ⟨keepW e25, ?_⟩
    refine (N16 e25).mono ?_
    rintro ⟨(r2 : Int), ⟨⟩⟩ w' ⟨q2, rfl⟩
    dsimp only at q2 ⊢
    subst q2
    refine ⟨keepW e25, ?_⟩
    refine (N17 e25).mono ?_
    rintro ⟨(r3 : Int), ⟨⟩⟩ w' ⟨q3, rfl⟩
    dsimp only at q3 ⊢
    subst q3
    exact ⟨keepW e25, done e25 hb24⟩
end Go.Proofs.YtlpeoaphdmfjdaaGreat.Vc
/-! Heads are the same where all their numbers are. -/
namespace Go.Proofs.YtlpeoaphdmfjdaaGreat.Vc
open Go Go.Eng Go.RowKit
set_option maxRecDepth 100000 in
theorem eqH (a1 a2 a3 a4 a5 a6 b1 b2 b3 b4 b5 b6 : Int) (w : World) : (Op.equalIn 10000 46 (.agg #[.int .i64 a1, .int .i64 a2, .int .i64 a3, .int .u32 a4, .int .u64 a5, .int .u64 a6]) (.agg #[.int .i64 b1, .int .i64 b2, .int .i64 b3, .int .u32 b4, .int .u64 b5, .int .u64 b6])).run Tryz.prog w =
    .ok (a1 == b1 && (a2 == b2 && (a3 == b3 && (a4 == b4 && (a5 == b5 && a6 == b6))))) w := by
  have u1 := Tryz.underlying3
  have u2 := Tryz.underlying43
  have u3 := Tryz.underlying44
  have v1 := Tryz.isAgg3
  have v2 := Tryz.isAgg43
  have v3 := Tryz.isAgg44
  have z1 := Tryz.sizeOf3
  have z2 := Tryz.sizeOf43
  have z3 := Tryz.sizeOf44
  have hS : Tryz.prog.underlying 46 = some (.struct (Tryz.prog.fieldsOf 46)) := by kernel_rfl
  rw [show (10000 : Nat) = 9999 + 1 from rfl, run_equalIn_agg w 9999 46 _ _ hS (by kernel_rfl)]
  simp only [Program.fieldsOf, Tryz.underlying46]
  go_simp
  repeat' split
  all_goals simp_all
open Classical in
theorem eqHd {g h : Hd} {K : Bool → Prop} (hk : K (decide (g = h))) : AggEq Tryz.prog 46 #[.int .i64 g.k, .int .i64 g.n, .int .i64 g.c, .int .u32 g.l, .int .u64 g.e, .int .u64 g.t] #[.int .i64 h.k, .int .i64 h.n, .int .i64 h.c, .int .u32 h.l, .int .u64 h.e, .int .u64 h.t] K := by
  refine ⟨_, fun w => eqH _ _ _ _ _ _ _ _ _ _ _ _ w, by kernel_rfl, ?_⟩
  have : (g.k == h.k && (g.n == h.n && (g.c == h.c && (g.l == h.l && (g.e == h.e && g.t == h.t))))) = decide (g = h) := by
    obtain ⟨a1, a2, a3, a4, a5, a6⟩ := g
    obtain ⟨b1, b2, b3, b4, b5, b6⟩ := h
    apply Bool.eq_iff_iff.2
    simp
  rw [this]
  exact hk
end Go.Proofs.YtlpeoaphdmfjdaaGreat.Vc
/-! The law HeadEnds of layer 14: each call gives true, and what it read stays. -/
namespace Go.Proofs.YtlpeoaphdmfjdaaGreat.Vc
open Go Go.Eng Go.RowKit
theorem tagL_length {tg : List Int} (hl : tg.length = 0 ∨ tg.length = 32) : (tagL tg).length = 32 := by
  unfold tagL
  split
  · simp
  · omega
theorem endL_length (h : Hd) {tg : List Int} (hl : tg.length = 0 ∨ tg.length = 32) : (endL h tg).length = 88 := by
  unfold endL
  rw [List.length_append, List.length_append, List.length_append, invL_length, hdL_length, tagL_length hl, List.length_replicate]
theorem big_byt (n : Int) (k : Nat) : Byt (big n k) := (leL_byt n k).reverse
theorem hdL_byt {h : Hd} (hR : HRight h) : Byt (hdL h) := by
  unfold HRight at hR
  unfold hdL
  refine (((Byt.cons (by omega) (Byt.cons (by omega) (Byt.cons (by omega) (Byt.cons (by omega) Byt.nil)))).append (big_byt _ _)).append (big_byt _ _)).append (big_byt _ _)
theorem endL_byt {h : Hd} (hg : h.rng) (hR : HRight h) {tg : List Int} (bt : Byt tg) : Byt (endL h tg) := by
  unfold endL
  refine (((hdL_byt hR).append (invL_byt _)).append ?_).append (Byt.replicate (by omega) (by omega) _)
  unfold tagL
  split
  · exact Byt.replicate (by omega) (by omega) _
  · exact bt
theorem endL_hd (h : Hd) (hg : h.rng) (tg : List Int) : hdOf (endL h tg) = h := by
  unfold endL
  rw [List.append_assoc, List.append_assoc]
  exact part_hdL h hg _
theorem endL_ok (h : Hd) {tg : List Int} (hl : tg.length = 0 ∨ tg.length = 32) (hg : h.rng) (hR : HRight h) : okR (endL h tg) := by
  refine ⟨hR.1, rfl, ?_⟩
  have p1 : part (endL h tg) 0 24 = hdL h := by
    unfold part endL
    rw [List.drop_zero, List.append_assoc, List.append_assoc, List.take_left' (by rw [hdL_length])]
  have p2 : part (endL h tg) 24 48 = invL (hdL h) := by
    unfold part endL
    rw [List.append_assoc, List.append_assoc, List.drop_left' (by rw [hdL_length]), List.take_left' (by rw [invL_length, hdL_length])]
  rw [p1, p2]
end Go.Proofs.YtlpeoaphdmfjdaaGreat.Vc
/-! The plans of functions as plain statements, printed by wip/tools/vcgen.py; the kernel holds each to the code. -/
namespace Go.Proofs.YtlpeoaphdmfjdaaGreat.Vc
open Go Go.Eng
def page_Make.A : Ann := .no
def page_Make.P (p0_0 p0_1 p0_2 p0_3 p0_4 p0_5 p1_0 p1_1 p1_2 p1_3 p1_4 p1_5 : Int) (a2 : Option Addr) (n2 c2 : Nat) (a3 : Option Addr) (n3 c3 : Nat) (w : World) (K : SlV × Int × Unit → World → Prop) : Prop :=
  NewV #[.int .i64 p0_0, .int .i64 p0_1, .int .i64 p0_2, .int .i64 p0_3, .int .i64 p0_4, .int .i64 p0_5] 23 w fun b1 w2 =>
  NewV #[.int .i64 p1_0, .int .i64 p1_1, .int .i64 p1_2, .int .u32 p1_3, .int .u64 p1_4, .int .u64 p1_5] 46 w2 fun b3 w4 =>
  LoadA w4 ⟨b1, 0, none⟩ [.int .i64, .int .i64, .int .i64, .int .i64, .int .i64, .int .i64] fun (x5 : Int × Int × Int × Int × Int × Int × Unit) =>
  CallV Tryz.prog 55 #[.agg #[.int .i64 x5.1, .int .i64 x5.2.1, .int .i64 x5.2.2.1, .int .i64 x5.2.2.2.1, .int .i64 x5.2.2.2.2.1, .int .i64 x5.2.2.2.2.2.1]] w4 [.one (.int .i64)] fun (r6 : Int × Unit) w7 =>
  cond (r6.1 != 0)
  (K ((⟨none, 0, 0⟩ : SlV), (2 : Int), ()) w7)
  (cond (((n2 : Nat) : Int) == 0)
  (LoadS w7 ⟨b1, 2, none⟩ (.int .i64) fun (x8 : Int) =>
  CallV Tryz.prog 126 #[.int .u8 255, .int .i64 x8] w7 [.one .sl] fun (r9 : SlV × Unit) w10 =>
  LoadS w10 ⟨b1, 2, none⟩ (.int .i64) fun (x11 : Int) =>
  cond (((r9.1.n : Nat) : Int) != x11)
  (K ((⟨none, 0, 0⟩ : SlV), (2 : Int), ()) w10)
  (LoadA w10 ⟨b3, 0, none⟩ [.int .i64, .int .i64, .int .i64, .int .u32, .int .u64, .int .u64] fun (x12 : Int × Int × Int × Int × Int × Int × Unit) =>
  CallV Tryz.prog 163 #[.agg #[.int .i64 x12.1, .int .i64 x12.2.1, .int .i64 x12.2.2.1, .int .u32 x12.2.2.2.1, .int .u64 x12.2.2.2.2.1, .int .u64 x12.2.2.2.2.2.1], .slice a3 n3 c3] w10 [.one .sl, .one (.int .i64)] fun (r13 : SlV × Int × Unit) w14 =>
  cond (r13.2.1 != 0)
  (K ((⟨none, 0, 0⟩ : SlV), r13.2.1, ()) w14)
  (NewV #[] 5 w14 fun b15 w16 =>
  AppS w16 r9.1.a r9.1.n 1 fun ns21 =>
  AppV w16 5 1 1 (some ⟨b15, 0, none⟩) 0 0 ns21 r9.1.n fun a17 n18 c19 w20 =>
  AppS w20 r13.1.a r13.1.n 1 fun ns26 =>
  AppV w20 5 1 1 a17 n18 c19 ns26 r13.1.n fun a22 n23 c24 w25 =>
  K ((⟨a22, n23, c24⟩ : SlV), (0 : Int), ()) w25)))
  (LoadS w7 ⟨b1, 2, none⟩ (.int .i64) fun (x27 : Int) =>
  cond (((n2 : Nat) : Int) != x27)
  (K ((⟨none, 0, 0⟩ : SlV), (2 : Int), ()) w7)
  (LoadA w7 ⟨b3, 0, none⟩ [.int .i64, .int .i64, .int .i64, .int .u32, .int .u64, .int .u64] fun (x28 : Int × Int × Int × Int × Int × Int × Unit) =>
  CallV Tryz.prog 163 #[.agg #[.int .i64 x28.1, .int .i64 x28.2.1, .int .i64 x28.2.2.1, .int .u32 x28.2.2.2.1, .int .u64 x28.2.2.2.2.1, .int .u64 x28.2.2.2.2.2.1], .slice a3 n3 c3] w7 [.one .sl, .one (.int .i64)] fun (r29 : SlV × Int × Unit) w30 =>
  cond (r29.2.1 != 0)
  (K ((⟨none, 0, 0⟩ : SlV), r29.2.1, ()) w30)
  (NewV #[] 5 w30 fun b31 w32 =>
  AppS w32 a2 n2 1 fun ns37 =>
  AppV w32 5 1 1 (some ⟨b31, 0, none⟩) 0 0 ns37 n2 fun a33 n34 c35 w36 =>
  AppS w36 r29.1.a r29.1.n 1 fun ns42 =>
  AppV w36 5 1 1 a33 n34 c35 ns42 r29.1.n fun a38 n39 c40 w41 =>
  K ((⟨a38, n39, c40⟩ : SlV), (0 : Int), ()) w41))))
theorem page_Make.vc (p0_0 p0_1 p0_2 p0_3 p0_4 p0_5 p1_0 p1_1 p1_2 p1_3 p1_4 p1_5 : Int) (a2 : Option Addr) (n2 c2 : Nat) (a3 : Option Addr) (n3 c3 : Nat) (w : World) (K : SlV × Int × Unit → World → Prop) (h : page_Make.P p0_0 p0_1 p0_2 p0_3 p0_4 p0_5 p1_0 p1_1 p1_2 p1_3 p1_4 p1_5 a2 n2 c2 a3 n3 c3 w K) : CallV Tryz.prog 127 #[.agg #[.int .i64 p0_0, .int .i64 p0_1, .int .i64 p0_2, .int .i64 p0_3, .int .i64 p0_4, .int .i64 p0_5], .agg #[.int .i64 p1_0, .int .i64 p1_1, .int .i64 p1_2, .int .u32 p1_3, .int .u64 p1_4, .int .u64 p1_5], .slice a2 n2 c2, .slice a3 n3 c3] w [.one .sl, .one (.int .i64)] K := by
  refine vcFun.of (A := page_Make.A) (wr := false) okf_ok follows h Tryz.func127 ?_
  kernel_rfl
def page_Commit.A : Ann := .no
def page_Commit.P (p0_0 p0_1 p0_2 p0_3 p0_4 p0_5 : Int) (w : World) (K : SlV × Int × Unit → World → Prop) : Prop :=
  NewV #[.int .i64 p0_0, .int .i64 p0_1, .int .i64 p0_2, .int .i64 p0_3, .int .i64 p0_4, .int .i64 p0_5] 23 w fun b1 w2 =>
  LoadA w2 ⟨b1, 0, none⟩ [.int .i64, .int .i64, .int .i64, .int .i64, .int .i64, .int .i64] fun (x3 : Int × Int × Int × Int × Int × Int × Unit) =>
  CallV Tryz.prog 55 #[.agg #[.int .i64 x3.1, .int .i64 x3.2.1, .int .i64 x3.2.2.1, .int .i64 x3.2.2.2.1, .int .i64 x3.2.2.2.2.1, .int .i64 x3.2.2.2.2.2.1]] w2 [.one (.int .i64)] fun (r4 : Int × Unit) w5 =>
  cond (r4.1 != 0)
  (K ((⟨none, 0, 0⟩ : SlV), (2 : Int), ()) w5)
  (LoadA w5 ⟨b1, 0, none⟩ [.int .i64, .int .i64, .int .i64, .int .i64, .int .i64, .int .i64] fun (x6 : Int × Int × Int × Int × Int × Int × Unit) =>
  CallV Tryz.prog 57 #[.agg #[.int .i64 x6.1, .int .i64 x6.2.1, .int .i64 x6.2.2.1, .int .i64 x6.2.2.2.1, .int .i64 x6.2.2.2.2.1, .int .i64 x6.2.2.2.2.2.1]] w5 [.one (.int .i64)] fun (r7 : Int × Unit) w8 =>
  CallV Tryz.prog 141 #[.int .i64 r7.1] w8 [.one .sl] fun (r9 : SlV × Unit) w10 =>
  K (r9.1, (0 : Int), ()) w10)
theorem page_Commit.vc (p0_0 p0_1 p0_2 p0_3 p0_4 p0_5 : Int) (w : World) (K : SlV × Int × Unit → World → Prop) (h : page_Commit.P p0_0 p0_1 p0_2 p0_3 p0_4 p0_5 w K) : CallV Tryz.prog 91 #[.agg #[.int .i64 p0_0, .int .i64 p0_1, .int .i64 p0_2, .int .i64 p0_3, .int .i64 p0_4, .int .i64 p0_5]] w [.one .sl, .one (.int .i64)] K := by
  refine vcFun.of (A := page_Commit.A) (wr := false) okf_ok follows h Tryz.func91 ?_
  kernel_rfl
def page_cut.A : Ann := .two .no (.two (.draw (.take 0 (.take 1 (.take 2 (.take 3 (.take 4 (.take 5 (.take 6 (.take 7 (.take 8 (.eff 9 (.done)))))))))))) .no)
def page_cut.P (p0_0 p0_1 p0_2 p0_3 p0_4 p0_5 : Int) (a1 : Option Addr) (n1 c1 : Nat) (w : World) (K : (SlV × SlV × Unit) × Unit → World → Prop) : Prop :=
  NewV #[.int .i64 p0_0, .int .i64 p0_1, .int .i64 p0_2, .int .i64 p0_3, .int .i64 p0_4, .int .i64 p0_5] 23 w fun b1 w2 =>
  NewV #[.slice none 0 0, .slice none 0 0] 227 w2 fun b3 w4 =>
  DrawV fun D5 =>
  (D5 b1 ∧ LoadS w4.drew ⟨b1, 2, none⟩ (.int .i64) fun (x6 : Int) =>
  ((0 : Int) ≤ x6 ∧ x6 ≤ ((c1 : Nat) : Int)) ∧
  SubK a1 0 c1 1 fun a7 =>
  (D5 b1 ∧ LoadS w4.drew ⟨b1, 2, none⟩ (.int .i64) fun (x8 : Int) =>
  ((0 : Int) ≤ x8 ∧ x8 ≤ ((n1 : Nat) : Int)) ∧
  SubK a1 x8.toNat c1 1 fun a9 =>
  StoreV w4.drew ⟨b3, 0, none⟩ [.slice a7 (x6.toNat - 0) (c1 - 0), .slice a9 (n1 - x8.toNat) (c1 - x8.toNat)] fun w10 =>
  KeepOn D5 w4.drew w10 ∧
  LoadA w10 ⟨b3, 0, none⟩ [.sl, .sl] fun (x11 : SlV × SlV × Unit) =>
  K ((x11.1, x11.2.1, ()), ()) w10))
theorem page_cut.vc (p0_0 p0_1 p0_2 p0_3 p0_4 p0_5 : Int) (a1 : Option Addr) (n1 c1 : Nat) (w : World) (K : (SlV × SlV × Unit) × Unit → World → Prop) (h : page_cut.P p0_0 p0_1 p0_2 p0_3 p0_4 p0_5 a1 n1 c1 w K) : CallV Tryz.prog 175 #[.agg #[.int .i64 p0_0, .int .i64 p0_1, .int .i64 p0_2, .int .i64 p0_3, .int .i64 p0_4, .int .i64 p0_5], .slice a1 n1 c1] w [.agg [.sl, .sl]] K := by
  refine vcFun.of (A := page_cut.A) (wr := false) okf_ok follows h Tryz.func175 ?_
  kernel_rfl
def page_Read.A : Ann := .two .no (.two .no (.two .no (.two .no (.two .no (.two (.draw (.take 0 (.take 2 (.take 3 (.take 5 (.take 6 (.take 7 (.eff 1 (.eff 4 (.eff 8 (.take 9 (.eff 10 (.take 11 (.done)))))))))))))) .no)))))
def page_Read.P (p0_0 p0_1 p0_2 p0_3 p0_4 p0_5 : Int) (a1 : Option Addr) (n1 c1 : Nat) (w : World) (K : (Int × Int × Int × Int × Int × Int × SlV × SlV × Bool × Unit) × Int × Unit → World → Prop) : Prop :=
  NewV #[.int .i64 p0_0, .int .i64 p0_1, .int .i64 p0_2, .int .i64 p0_3, .int .i64 p0_4, .int .i64 p0_5] 23 w fun b1 w2 =>
  NewV #[.int .i64 0, .int .i64 0, .int .i64 0, .int .u32 0, .int .u64 0, .int .u64 0, .slice none 0 0, .slice none 0 0, .bool false] 220 w2 fun b3 w4 =>
  LoadA w4 ⟨b1, 0, none⟩ [.int .i64, .int .i64, .int .i64, .int .i64, .int .i64, .int .i64] fun (x5 : Int × Int × Int × Int × Int × Int × Unit) =>
  CallV Tryz.prog 55 #[.agg #[.int .i64 x5.1, .int .i64 x5.2.1, .int .i64 x5.2.2.1, .int .i64 x5.2.2.2.1, .int .i64 x5.2.2.2.2.1, .int .i64 x5.2.2.2.2.2.1]] w4 [.one (.int .i64)] fun (r6 : Int × Unit) w7 =>
  cond (r6.1 != 0)
  (StoreV w7 ⟨b3, 0, none⟩ [.int .i64 0, .int .i64 0, .int .i64 0, .int .u32 0, .int .u64 0, .int .u64 0, .slice none 0 0, .slice none 0 0, .bool false] fun w8 =>
  LoadA w8 ⟨b3, 0, none⟩ [.int .i64, .int .i64, .int .i64, .int .u32, .int .u64, .int .u64, .sl, .sl, .bool] fun (x9 : Int × Int × Int × Int × Int × Int × SlV × SlV × Bool × Unit) =>
  K ((x9.1, x9.2.1, x9.2.2.1, x9.2.2.2.1, x9.2.2.2.2.1, x9.2.2.2.2.2.1, x9.2.2.2.2.2.2.1, x9.2.2.2.2.2.2.2.1, x9.2.2.2.2.2.2.2.2.1, ()), (2 : Int), ()) w8)
  (LoadA w7 ⟨b1, 0, none⟩ [.int .i64, .int .i64, .int .i64, .int .i64, .int .i64, .int .i64] fun (x10 : Int × Int × Int × Int × Int × Int × Unit) =>
  CallV Tryz.prog 57 #[.agg #[.int .i64 x10.1, .int .i64 x10.2.1, .int .i64 x10.2.2.1, .int .i64 x10.2.2.2.1, .int .i64 x10.2.2.2.2.1, .int .i64 x10.2.2.2.2.2.1]] w7 [.one (.int .i64)] fun (r11 : Int × Unit) w12 =>
  cond (((n1 : Nat) : Int) != r11.1)
  (StoreV w12 ⟨b3, 0, none⟩ [.int .i64 0, .int .i64 0, .int .i64 0, .int .u32 0, .int .u64 0, .int .u64 0, .slice none 0 0, .slice none 0 0, .bool false] fun w13 =>
  LoadA w13 ⟨b3, 0, none⟩ [.int .i64, .int .i64, .int .i64, .int .u32, .int .u64, .int .u64, .sl, .sl, .bool] fun (x14 : Int × Int × Int × Int × Int × Int × SlV × SlV × Bool × Unit) =>
  K ((x14.1, x14.2.1, x14.2.2.1, x14.2.2.2.1, x14.2.2.2.2.1, x14.2.2.2.2.2.1, x14.2.2.2.2.2.2.1, x14.2.2.2.2.2.2.2.1, x14.2.2.2.2.2.2.2.2.1, ()), (2 : Int), ()) w13)
  (LoadA w12 ⟨b1, 0, none⟩ [.int .i64, .int .i64, .int .i64, .int .i64, .int .i64, .int .i64] fun (x15 : Int × Int × Int × Int × Int × Int × Unit) =>
  CallV Tryz.prog 175 #[.agg #[.int .i64 x15.1, .int .i64 x15.2.1, .int .i64 x15.2.2.1, .int .i64 x15.2.2.2.1, .int .i64 x15.2.2.2.2.1, .int .i64 x15.2.2.2.2.2.1], .slice a1 n1 c1] w12 [.agg [.sl, .sl]] fun (r16 : (SlV × SlV × Unit) × Unit) w17 =>
  NewV #[.slice none 0 0, .slice none 0 0] 227 w17 fun b18 w19 =>
  StoreV w19 ⟨b18, 0, none⟩ [.slice r16.1.1.a r16.1.1.n r16.1.1.c, .slice r16.1.2.1.a r16.1.2.1.n r16.1.2.1.c] fun w20 =>
  (0 ≤ (1 : Int) ∧ 1 < (2 : Int)) ∧
  LoadS w20 ⟨b18, 1, none⟩ .sl fun (x21 : SlV) =>
  CallV Tryz.prog 176 #[.slice x21.a x21.n x21.c] w20 [.agg [.int .i64, .int .i64, .int .i64, .int .u32, .int .u64, .int .u64], .one .sl, .one (.int .i64)] fun (r22 : (Int × Int × Int × Int × Int × Int × Unit) × SlV × Int × Unit) w23 =>
  NewV #[.int .i64 0, .int .i64 0, .int .i64 0, .int .u32 0, .int .u64 0, .int .u64 0] 46 w23 fun b24 w25 =>
  StoreV w25 ⟨b24, 0, none⟩ [.int .i64 r22.1.1, .int .i64 r22.1.2.1, .int .i64 r22.1.2.2.1, .int .u32 r22.1.2.2.2.1, .int .u64 r22.1.2.2.2.2.1, .int .u64 r22.1.2.2.2.2.2.1] fun w26 =>
  cond (r22.2.2.1 != 0)
  (StoreV w26 ⟨b3, 0, none⟩ [.int .i64 0, .int .i64 0, .int .i64 0, .int .u32 0, .int .u64 0, .int .u64 0, .slice none 0 0, .slice none 0 0, .bool false] fun w27 =>
  LoadA w27 ⟨b3, 0, none⟩ [.int .i64, .int .i64, .int .i64, .int .u32, .int .u64, .int .u64, .sl, .sl, .bool] fun (x28 : Int × Int × Int × Int × Int × Int × SlV × SlV × Bool × Unit) =>
  K ((x28.1, x28.2.1, x28.2.2.1, x28.2.2.2.1, x28.2.2.2.2.1, x28.2.2.2.2.2.1, x28.2.2.2.2.2.2.1, x28.2.2.2.2.2.2.2.1, x28.2.2.2.2.2.2.2.2.1, ()), r22.2.2.1, ()) w27)
  (DrawV fun D29 =>
  (D29 b24 ∧ LoadA w26.drew ⟨b24, 0, none⟩ [.int .i64, .int .i64, .int .i64, .int .u32, .int .u64, .int .u64] fun (x30 : Int × Int × Int × Int × Int × Int × Unit) =>
  (0 ≤ (0 : Int) ∧ 0 < (2 : Int)) ∧
  (D29 b18 ∧ LoadS w26.drew ⟨b18, 0, none⟩ .sl fun (x31 : SlV) =>
  (0 ≤ (1 : Int) ∧ 1 < (2 : Int)) ∧
  (D29 b18 ∧ LoadS w26.drew ⟨b18, 1, none⟩ .sl fun (x32 : SlV) =>
  NewV #[] 5 w26.drew fun b33 w34 =>
  KeepOn D29 w26.drew w34 ∧
  AppS w34 x31.a x31.n 1 fun ns39 =>
  AppV w34 5 1 1 (some ⟨b33, 0, none⟩) 0 0 ns39 x31.n fun a35 n36 c37 w38 =>
  KeepOn D29 w26.drew w38 ∧
  CallV Tryz.prog 177 #[.slice x32.a x32.n x32.c] w38 [.one .bool] fun (r40 : Bool × Unit) w41 =>
  KeepOn D29 w26.drew w41 ∧
  StoreV w41 ⟨b3, 0, none⟩ [.int .i64 x30.1, .int .i64 x30.2.1, .int .i64 x30.2.2.1, .int .u32 x30.2.2.2.1, .int .u64 x30.2.2.2.2.1, .int .u64 x30.2.2.2.2.2.1, .slice a35 n36 c37, .slice r22.2.1.a r22.2.1.n r22.2.1.c, .bool r40.1] fun w42 =>
  KeepOn D29 w26.drew w42 ∧
  LoadA w42 ⟨b3, 0, none⟩ [.int .i64, .int .i64, .int .i64, .int .u32, .int .u64, .int .u64, .sl, .sl, .bool] fun (x43 : Int × Int × Int × Int × Int × Int × SlV × SlV × Bool × Unit) =>
  K ((x43.1, x43.2.1, x43.2.2.1, x43.2.2.2.1, x43.2.2.2.2.1, x43.2.2.2.2.2.1, x43.2.2.2.2.2.2.1, x43.2.2.2.2.2.2.2.1, x43.2.2.2.2.2.2.2.2.1, ()), (0 : Int), ()) w42))))))
theorem page_Read.vc (p0_0 p0_1 p0_2 p0_3 p0_4 p0_5 : Int) (a1 : Option Addr) (n1 c1 : Nat) (w : World) (K : (Int × Int × Int × Int × Int × Int × SlV × SlV × Bool × Unit) × Int × Unit → World → Prop) (h : page_Read.P p0_0 p0_1 p0_2 p0_3 p0_4 p0_5 a1 n1 c1 w K) : CallV Tryz.prog 162 #[.agg #[.int .i64 p0_0, .int .i64 p0_1, .int .i64 p0_2, .int .i64 p0_3, .int .i64 p0_4, .int .i64 p0_5], .slice a1 n1 c1] w [.agg [.int .i64, .int .i64, .int .i64, .int .u32, .int .u64, .int .u64, .sl, .sl, .bool], .one (.int .i64)] K := by
  refine vcFun.of (A := page_Read.A) (wr := false) okf_ok follows h Tryz.func162 ?_
  kernel_rfl
def ref15_Make.A : Ann := .two .no (.two .no (.two (.draw (.take 1 (.take 3 (.take 4 (.eff 0 (.eff 2 (.eff 5 (.eff 6 (.take 7 (.done)))))))))) .no))
def ref15_Make.P (p0_0 p0_1 p0_2 p0_3 p0_4 p0_5 p1_0 p1_1 p1_2 p1_3 p1_4 p1_5 : Int) (a2 : Option Addr) (n2 c2 : Nat) (a3 : Option Addr) (n3 c3 : Nat) (w : World) (K : SlV × Unit → World → Prop) : Prop :=
  NewV #[.int .i64 p0_0, .int .i64 p0_1, .int .i64 p0_2, .int .i64 p0_3, .int .i64 p0_4, .int .i64 p0_5] 23 w fun b1 w2 =>
  NewV #[.int .i64 p1_0, .int .i64 p1_1, .int .i64 p1_2, .int .u32 p1_3, .int .u64 p1_4, .int .u64 p1_5] 46 w2 fun b3 w4 =>
  cond (((n2 : Nat) : Int) == 0)
  (LoadS w4 ⟨b1, 2, none⟩ (.int .i64) fun (x5 : Int) =>
  CallV Tryz.prog 122 #[.int .u8 255, .int .i64 x5] w4 [.one .sl] fun (r6 : SlV × Unit) w7 =>
  DrawV fun D8 =>
  (D8 b3 ∧ LoadA w7.drew ⟨b3, 0, none⟩ [.int .i64, .int .i64, .int .i64, .int .u32, .int .u64, .int .u64] fun (x9 : Int × Int × Int × Int × Int × Int × Unit) =>
  NewV #[] 5 w7.drew fun b10 w11 =>
  KeepOn D8 w7.drew w11 ∧
  AppS w11 r6.1.a r6.1.n 1 fun ns16 =>
  AppV w11 5 1 1 (some ⟨b10, 0, none⟩) 0 0 ns16 r6.1.n fun a12 n13 c14 w15 =>
  KeepOn D8 w7.drew w15 ∧
  CallV Tryz.prog 140 #[.agg #[.int .i64 x9.1, .int .i64 x9.2.1, .int .i64 x9.2.2.1, .int .u32 x9.2.2.2.1, .int .u64 x9.2.2.2.2.1, .int .u64 x9.2.2.2.2.2.1], .slice a3 n3 c3] w15 [.one .sl] fun (r17 : SlV × Unit) w18 =>
  KeepOn D8 w7.drew w18 ∧
  AppS w18 r17.1.a r17.1.n 1 fun ns23 =>
  AppV w18 5 1 1 a12 n13 c14 ns23 r17.1.n fun a19 n20 c21 w22 =>
  KeepOn D8 w7.drew w22 ∧
  K ((⟨a19, n20, c21⟩ : SlV), ()) w22))
  (DrawV fun D24 =>
  (D24 b3 ∧ LoadA w4.drew ⟨b3, 0, none⟩ [.int .i64, .int .i64, .int .i64, .int .u32, .int .u64, .int .u64] fun (x25 : Int × Int × Int × Int × Int × Int × Unit) =>
  NewV #[] 5 w4.drew fun b26 w27 =>
  KeepOn D24 w4.drew w27 ∧
  AppS w27 a2 n2 1 fun ns32 =>
  AppV w27 5 1 1 (some ⟨b26, 0, none⟩) 0 0 ns32 n2 fun a28 n29 c30 w31 =>
  KeepOn D24 w4.drew w31 ∧
  CallV Tryz.prog 140 #[.agg #[.int .i64 x25.1, .int .i64 x25.2.1, .int .i64 x25.2.2.1, .int .u32 x25.2.2.2.1, .int .u64 x25.2.2.2.2.1, .int .u64 x25.2.2.2.2.2.1], .slice a3 n3 c3] w31 [.one .sl] fun (r33 : SlV × Unit) w34 =>
  KeepOn D24 w4.drew w34 ∧
  AppS w34 r33.1.a r33.1.n 1 fun ns39 =>
  AppV w34 5 1 1 a28 n29 c30 ns39 r33.1.n fun a35 n36 c37 w38 =>
  KeepOn D24 w4.drew w38 ∧
  K ((⟨a35, n36, c37⟩ : SlV), ()) w38))
theorem ref15_Make.vc (p0_0 p0_1 p0_2 p0_3 p0_4 p0_5 p1_0 p1_1 p1_2 p1_3 p1_4 p1_5 : Int) (a2 : Option Addr) (n2 c2 : Nat) (a3 : Option Addr) (n3 c3 : Nat) (w : World) (K : SlV × Unit → World → Prop) (h : ref15_Make.P p0_0 p0_1 p0_2 p0_3 p0_4 p0_5 p1_0 p1_1 p1_2 p1_3 p1_4 p1_5 a2 n2 c2 a3 n3 c3 w K) : CallV Tryz.prog 88 #[.agg #[.int .i64 p0_0, .int .i64 p0_1, .int .i64 p0_2, .int .i64 p0_3, .int .i64 p0_4, .int .i64 p0_5], .agg #[.int .i64 p1_0, .int .i64 p1_1, .int .i64 p1_2, .int .u32 p1_3, .int .u64 p1_4, .int .u64 p1_5], .slice a2 n2 c2, .slice a3 n3 c3] w [.one .sl] K := by
  refine vcFun.of (A := ref15_Make.A) (wr := false) okf_ok follows h Tryz.func88 ?_
  kernel_rfl
def ref15_Commit.A : Ann := .no
def ref15_Commit.P (p0_0 p0_1 p0_2 p0_3 p0_4 p0_5 : Int) (w : World) (K : SlV × Unit → World → Prop) : Prop :=
  NewV #[.int .i64 p0_0, .int .i64 p0_1, .int .i64 p0_2, .int .i64 p0_3, .int .i64 p0_4, .int .i64 p0_5] 23 w fun b1 w2 =>
  LoadS w2 ⟨b1, 2, none⟩ (.int .i64) fun (x3 : Int) =>
  Rng .i64 (x3 + 80) ∧
  CallV Tryz.prog 122 #[.int .u8 255, .int .i64 (x3 + 80)] w2 [.one .sl] fun (r4 : SlV × Unit) w5 =>
  CallV Tryz.prog 122 #[.int .u8 0, .int .i64 8] w5 [.one .sl] fun (r6 : SlV × Unit) w7 =>
  AppS w7 r6.1.a r6.1.n 1 fun ns12 =>
  AppV w7 5 1 1 r4.1.a r4.1.n r4.1.c ns12 r6.1.n fun a8 n9 c10 w11 =>
  K ((⟨a8, n9, c10⟩ : SlV), ()) w11
theorem ref15_Commit.vc (p0_0 p0_1 p0_2 p0_3 p0_4 p0_5 : Int) (w : World) (K : SlV × Unit → World → Prop) (h : ref15_Commit.P p0_0 p0_1 p0_2 p0_3 p0_4 p0_5 w K) : CallV Tryz.prog 95 #[.agg #[.int .i64 p0_0, .int .i64 p0_1, .int .i64 p0_2, .int .i64 p0_3, .int .i64 p0_4, .int .i64 p0_5]] w [.one .sl] K := by
  refine vcFun.of (A := ref15_Commit.A) (wr := false) okf_ok follows h Tryz.func95 ?_
  kernel_rfl
def ref15_Read.A : Ann := .two .no (.two .no (.two .no (.two .no (.two (.draw (.take 0 (.take 1 (.take 2 (.take 3 (.take 4 (.take 5 (.take 6 (.take 7 (.eff 8 (.take 9 (.eff 10 (.done))))))))))))) .no))))
def ref15_Read.P (p0_0 p0_1 p0_2 p0_3 p0_4 p0_5 : Int) (a1 : Option Addr) (n1 c1 : Nat) (w : World) (K : (Int × Int × Int × Int × Int × Int × SlV × SlV × Bool × Bool × Unit) × Unit → World → Prop) : Prop :=
  NewV #[.int .i64 p0_0, .int .i64 p0_1, .int .i64 p0_2, .int .i64 p0_3, .int .i64 p0_4, .int .i64 p0_5] 23 w fun b1 w2 =>
  NewV #[.int .i64 0, .int .i64 0, .int .i64 0, .int .u32 0, .int .u64 0, .int .u64 0, .slice none 0 0, .slice none 0 0, .bool false, .bool false] 57 w2 fun b3 w4 =>
  LoadS w4 ⟨b1, 2, none⟩ (.int .i64) fun (x5 : Int) =>
  ((0 : Int) ≤ x5 ∧ x5 ≤ ((n1 : Nat) : Int)) ∧
  SubK a1 x5.toNat c1 1 fun a6 =>
  CallV Tryz.prog 112 #[.slice a6 (n1 - x5.toNat) (c1 - x5.toNat)] w4 [.agg [.int .i64, .int .i64, .int .i64, .int .u32, .int .u64, .int .u64], .one .bool] fun (r7 : (Int × Int × Int × Int × Int × Int × Unit) × Bool × Unit) w8 =>
  NewV #[.int .i64 0, .int .i64 0, .int .i64 0, .int .u32 0, .int .u64 0, .int .u64 0] 46 w8 fun b9 w10 =>
  StoreV w10 ⟨b9, 0, none⟩ [.int .i64 r7.1.1, .int .i64 r7.1.2.1, .int .i64 r7.1.2.2.1, .int .u32 r7.1.2.2.2.1, .int .u64 r7.1.2.2.2.2.1, .int .u64 r7.1.2.2.2.2.2.1] fun w11 =>
  cond (!r7.2.1)
  (StoreV w11 ⟨b3, 0, none⟩ [.int .i64 0, .int .i64 0, .int .i64 0, .int .u32 0, .int .u64 0, .int .u64 0, .slice none 0 0, .slice none 0 0, .bool false, .bool false] fun w12 =>
  LoadA w12 ⟨b3, 0, none⟩ [.int .i64, .int .i64, .int .i64, .int .u32, .int .u64, .int .u64, .sl, .sl, .bool, .bool] fun (x13 : Int × Int × Int × Int × Int × Int × SlV × SlV × Bool × Bool × Unit) =>
  K ((x13.1, x13.2.1, x13.2.2.1, x13.2.2.2.1, x13.2.2.2.2.1, x13.2.2.2.2.2.1, x13.2.2.2.2.2.2.1, x13.2.2.2.2.2.2.2.1, x13.2.2.2.2.2.2.2.2.1, x13.2.2.2.2.2.2.2.2.2.1, ()), ()) w12)
  (DrawV fun D14 =>
  (D14 b9 ∧ LoadA w11.drew ⟨b9, 0, none⟩ [.int .i64, .int .i64, .int .i64, .int .u32, .int .u64, .int .u64] fun (x15 : Int × Int × Int × Int × Int × Int × Unit) =>
  (D14 b1 ∧ LoadS w11.drew ⟨b1, 2, none⟩ (.int .i64) fun (x16 : Int) =>
  ((0 : Int) ≤ x16 ∧ x16 ≤ ((c1 : Nat) : Int)) ∧
  SubK a1 0 c1 1 fun a17 =>
  ((0 : Int) ≤ (48 : Int) ∧ (48 : Int) ≤ (80 : Int) ∧ (80 : Int) ≤ ((c1 - x5.toNat : Nat) : Int)) ∧
  SubK a6 48 (c1 - x5.toNat) 1 fun a18 =>
  CallV Tryz.prog 113 #[.slice a6 (n1 - x5.toNat) (c1 - x5.toNat)] w11.drew [.one .bool] fun (r19 : Bool × Unit) w20 =>
  KeepOn D14 w11.drew w20 ∧
  StoreV w20 ⟨b3, 0, none⟩ [.int .i64 x15.1, .int .i64 x15.2.1, .int .i64 x15.2.2.1, .int .u32 x15.2.2.2.1, .int .u64 x15.2.2.2.2.1, .int .u64 x15.2.2.2.2.2.1, .slice a17 (x16.toNat - 0) (c1 - 0), .slice a18 (80 - 48) ((c1 - x5.toNat) - 48), .bool r19.1, .bool true] fun w21 =>
  KeepOn D14 w11.drew w21 ∧
  LoadA w21 ⟨b3, 0, none⟩ [.int .i64, .int .i64, .int .i64, .int .u32, .int .u64, .int .u64, .sl, .sl, .bool, .bool] fun (x22 : Int × Int × Int × Int × Int × Int × SlV × SlV × Bool × Bool × Unit) =>
  K ((x22.1, x22.2.1, x22.2.2.1, x22.2.2.2.1, x22.2.2.2.2.1, x22.2.2.2.2.2.1, x22.2.2.2.2.2.2.1, x22.2.2.2.2.2.2.2.1, x22.2.2.2.2.2.2.2.2.1, x22.2.2.2.2.2.2.2.2.2.1, ()), ()) w21)))
theorem ref15_Read.vc (p0_0 p0_1 p0_2 p0_3 p0_4 p0_5 : Int) (a1 : Option Addr) (n1 c1 : Nat) (w : World) (K : (Int × Int × Int × Int × Int × Int × SlV × SlV × Bool × Bool × Unit) × Unit → World → Prop) (h : ref15_Read.P p0_0 p0_1 p0_2 p0_3 p0_4 p0_5 a1 n1 c1 w K) : CallV Tryz.prog 51 #[.agg #[.int .i64 p0_0, .int .i64 p0_1, .int .i64 p0_2, .int .i64 p0_3, .int .i64 p0_4, .int .i64 p0_5], .slice a1 n1 c1] w [.agg [.int .i64, .int .i64, .int .i64, .int .u32, .int .u64, .int .u64, .sl, .sl, .bool, .bool]] K := by
  refine vcFun.of (A := ref15_Read.A) (wr := false) okf_ok follows h Tryz.func51 ?_
  kernel_rfl
end Go.Proofs.YtlpeoaphdmfjdaaGreat.Vc
/-! The contracts of layer 15 (page): pages that are made. -/
namespace Go.Proofs.YtlpeoaphdmfjdaaGreat.Vc
open Go Go.Eng Go.RowKit
def payL (g : Geo) (pl : List Int) : List Int := if pl.length = 0 then List.replicate g.s.toNat 255 else pl
def mkL (g : Geo) (h : Hd) (pl tg : List Int) : List Int := payL g pl ++ endL h tg
def comL (g : Geo) : List Int := List.replicate (g.s + 80).toNat 255 ++ List.replicate 8 0
def PRight (g : Geo) (h : Hd) (n m : Nat) : Prop := Right g ∧ ERight h m ∧ (n = 0 ∨ (n : Int) = g.s)
instance (g : Geo) (h : Hd) (n m : Nat) : Decidable (PRight g h n m) := by unfold PRight; infer_instance
theorem Make_c {w : World} {g : Geo} {h : Hd} {a a2 : Option Addr} {n c m c2 : Nat} {xs ts : List Int} (hg : h.rng) (hx : Ints w .u8 a n c xs) (ht : Ints w .u8 a2 m c2 ts) :
    CallV Tryz.prog 127 #[g.val, h.val, .slice a n c, .slice a2 m c2] w [.one .sl, .one (.int .i64)] fun r w' => Ext w w' ∧ (PRight g h n m → Res w w' r.1 (mkL g h xs ts) ∧ r.2.1 = (0 : Int)) ∧ (¬ PRight g h n m → r.1 = (⟨none, 0, 0⟩ : SlV) ∧ r.2.1 = (2 : Int)) := by
  apply page_Make.vc
  unfold page_Make.P
  have S := Sep.start NoB w
  have no : ∀ {w' : World}, ¬ PRight g h n m → Ext w w' → (Ext w w' ∧ (PRight g h n m → Res w w' (⟨none, 0, 0⟩ : SlV) (mkL g h xs ts) ∧ (2 : Int) = (0 : Int)) ∧ (¬ PRight g h n m → (⟨none, 0, 0⟩ : SlV) = (⟨none, 0, 0⟩ : SlV) ∧ (2 : Int) = (2 : Int))) := fun hr he => ⟨he, fun h => absurd h hr, fun _ => ⟨rfl, rfl⟩⟩
  have lx := hx.len
  have lt := ht.len
  (repeat ((first | refine S.newB fun _ _ S f _ => ?_ | refine S.la0 rfl ?_ | refine S.la1 rfl ?_ | refine S.la2 rfl ?_ | refine S.la3 rfl ?_ | refine S.la4 rfl ?_ | refine S.la5 rfl ?_ | refine S.ld0 rfl rfl ?_ | refine S.ld1 rfl rfl ?_ | refine S.ld2 rfl rfl ?_ | refine S.ld3 rfl rfl ?_ | refine S.ld4 rfl rfl ?_ | refine S.ld5 rfl rfl ?_ | refine S.st0 (by rfl) fun _ S f => ?_ | refine S.st1 (by rfl) fun _ S f => ?_ | refine S.st2 (by rfl) fun _ S f => ?_ | refine S.st3 (by rfl) fun _ S f => ?_ | refine S.st4 (by rfl) fun _ S f => ?_ | refine S.st5 (by rfl) fun _ S f => ?_ | refine S.su0 (by rfl) fun _ S f => ?_ | refine S.su1 (by rfl) fun _ S f => ?_ | refine S.su2 (by rfl) fun _ S f => ?_ | refine S.su3 (by rfl) fun _ S f => ?_ | refine S.su4 (by rfl) fun _ S f => ?_ | refine S.su5 (by rfl) fun _ S f => ?_ | refine ⟨by decide, ?_⟩); try dsimp only [List.set_cons_zero, List.set_cons_succ, cond_true, cond_false, Bool.not_true, Bool.not_false]))
  refine (Check_c (g := g)).mono ?_
  rintro ⟨(r : Int), ⟨⟩⟩ w2 ⟨h2, e2⟩
  dsimp only at h2 ⊢
  have S := S.stepE e2
  subst h2
  by_cases hR : Right g
  · refine cond_f (by unfold chkE; rw [if_pos hR]; rfl) ?_
    have hs := hR.sec
    refine cond_eq (fun h0 => ?_) (fun h0 => ?_)
    · (repeat ((first | refine S.newB fun _ _ S f _ => ?_ | refine S.la0 rfl ?_ | refine S.la1 rfl ?_ | refine S.la2 rfl ?_ | refine S.la3 rfl ?_ | refine S.la4 rfl ?_ | refine S.la5 rfl ?_ | refine S.ld0 rfl rfl ?_ | refine S.ld1 rfl rfl ?_ | refine S.ld2 rfl rfl ?_ | refine S.ld3 rfl rfl ?_ | refine S.ld4 rfl rfl ?_ | refine S.ld5 rfl rfl ?_ | refine S.st0 (by rfl) fun _ S f => ?_ | refine S.st1 (by rfl) fun _ S f => ?_ | refine S.st2 (by rfl) fun _ S f => ?_ | refine S.st3 (by rfl) fun _ S f => ?_ | refine S.st4 (by rfl) fun _ S f => ?_ | refine S.st5 (by rfl) fun _ S f => ?_ | refine S.su0 (by rfl) fun _ S f => ?_ | refine S.su1 (by rfl) fun _ S f => ?_ | refine S.su2 (by rfl) fun _ S f => ?_ | refine S.su3 (by rfl) fun _ S f => ?_ | refine S.su4 (by rfl) fun _ S f => ?_ | refine S.su5 (by rfl) fun _ S f => ?_ | refine ⟨by decide, ?_⟩); try dsimp only [List.set_cons_zero, List.set_cons_succ, cond_true, cond_false, Bool.not_true, Bool.not_false]))
      refine Fill_c.mono ?_
      rintro ⟨⟨sa, sn, sc⟩, ⟨⟩⟩ w3 h3
      dsimp only at h3 ⊢
      have l3 := h3.ints.len
      rw [List.length_replicate, fill_sec hs] at l3
      have S := S.res h3
      rw [fill_sec hs] at S
      dsimp only at l3 S
      subst l3
      (repeat ((first | refine S.newB fun _ _ S f _ => ?_ | refine S.la0 rfl ?_ | refine S.la1 rfl ?_ | refine S.la2 rfl ?_ | refine S.la3 rfl ?_ | refine S.la4 rfl ?_ | refine S.la5 rfl ?_ | refine S.ld0 rfl rfl ?_ | refine S.ld1 rfl rfl ?_ | refine S.ld2 rfl rfl ?_ | refine S.ld3 rfl rfl ?_ | refine S.ld4 rfl rfl ?_ | refine S.ld5 rfl rfl ?_ | refine S.st0 (by rfl) fun _ S f => ?_ | refine S.st1 (by rfl) fun _ S f => ?_ | refine S.st2 (by rfl) fun _ S f => ?_ | refine S.st3 (by rfl) fun _ S f => ?_ | refine S.st4 (by rfl) fun _ S f => ?_ | refine S.st5 (by rfl) fun _ S f => ?_ | refine S.su0 (by rfl) fun _ S f => ?_ | refine S.su1 (by rfl) fun _ S f => ?_ | refine S.su2 (by rfl) fun _ S f => ?_ | refine S.su3 (by rfl) fun _ S f => ?_ | refine S.su4 (by rfl) fun _ S f => ?_ | refine S.su5 (by rfl) fun _ S f => ?_ | refine ⟨by decide, ?_⟩); try dsimp only [List.set_cons_zero, List.set_cons_succ, cond_true, cond_false, Bool.not_true, Bool.not_false]))
      refine cond_ne (fun h => absurd (by omega) h) fun _ => ?_
      (repeat ((first | refine S.newB fun _ _ S f _ => ?_ | refine S.la0 rfl ?_ | refine S.la1 rfl ?_ | refine S.la2 rfl ?_ | refine S.la3 rfl ?_ | refine S.la4 rfl ?_ | refine S.la5 rfl ?_ | refine S.ld0 rfl rfl ?_ | refine S.ld1 rfl rfl ?_ | refine S.ld2 rfl rfl ?_ | refine S.ld3 rfl rfl ?_ | refine S.ld4 rfl rfl ?_ | refine S.ld5 rfl rfl ?_ | refine S.st0 (by rfl) fun _ S f => ?_ | refine S.st1 (by rfl) fun _ S f => ?_ | refine S.st2 (by rfl) fun _ S f => ?_ | refine S.st3 (by rfl) fun _ S f => ?_ | refine S.st4 (by rfl) fun _ S f => ?_ | refine S.st5 (by rfl) fun _ S f => ?_ | refine S.su0 (by rfl) fun _ S f => ?_ | refine S.su1 (by rfl) fun _ S f => ?_ | refine S.su2 (by rfl) fun _ S f => ?_ | refine S.su3 (by rfl) fun _ S f => ?_ | refine S.su4 (by rfl) fun _ S f => ?_ | refine S.su5 (by rfl) fun _ S f => ?_ | refine ⟨by decide, ?_⟩); try dsimp only [List.set_cons_zero, List.set_cons_succ, cond_true, cond_false, Bool.not_true, Bool.not_false]))
      refine (End_c hg (ht.ext S.ext)).mono ?_
      rintro ⟨⟨ea, en, ec⟩, (e4 : Int), ⟨⟩⟩ w4 ⟨x4, h4, h4'⟩
      dsimp only at h4 h4' ⊢
      by_cases hE : ERight h m
      · obtain ⟨k1, k2⟩ := h4 hE
        refine cond_f (by rw [k2]; rfl) ?_
        have l4 := k1.ints.len
        have l4' : (endL h ts).length = 88 := endL_length h (by have := hE.2; omega)
        have S := S.res ⟨x4, k1.own⟩
        dsimp only at S l4
        (repeat ((first | refine S.newB fun _ _ S f _ => ?_ | refine S.la0 rfl ?_ | refine S.la1 rfl ?_ | refine S.la2 rfl ?_ | refine S.la3 rfl ?_ | refine S.la4 rfl ?_ | refine S.la5 rfl ?_ | refine S.ld0 rfl rfl ?_ | refine S.ld1 rfl rfl ?_ | refine S.ld2 rfl rfl ?_ | refine S.ld3 rfl rfl ?_ | refine S.ld4 rfl rfl ?_ | refine S.ld5 rfl rfl ?_ | refine S.st0 (by rfl) fun _ S f => ?_ | refine S.st1 (by rfl) fun _ S f => ?_ | refine S.st2 (by rfl) fun _ S f => ?_ | refine S.st3 (by rfl) fun _ S f => ?_ | refine S.st4 (by rfl) fun _ S f => ?_ | refine S.st5 (by rfl) fun _ S f => ?_ | refine S.su0 (by rfl) fun _ S f => ?_ | refine S.su1 (by rfl) fun _ S f => ?_ | refine S.su2 (by rfl) fun _ S f => ?_ | refine S.su3 (by rfl) fun _ S f => ?_ | refine S.su4 (by rfl) fun _ S f => ?_ | refine S.su5 (by rfl) fun _ S f => ?_ | refine ⟨by decide, ?_⟩); try dsimp only [List.set_cons_zero, List.set_cons_succ, cond_true, cond_false, Bool.not_true, Bool.not_false]))
        have S := S.asOwn (sz := 1) (n := 0) rfl (by omega) oneAll.nil
        refine S.ab0 (xs := []) S.in2 (by omega) fun a5 c5 w5 S f5 => ?_
        refine S.ab0 S.in1 (by omega) fun a6 c6 w6 S f6 => ?_
        have R := S.out
        have hp : [] ++ List.replicate g.s.toNat 255 ++ endL h ts = mkL g h xs ts := by unfold mkL payL; rw [if_pos (by omega)]; rfl
        rw [hp] at R
        refine ⟨S.ext, fun _ => ⟨R, rfl⟩, fun hn => absurd ⟨hR, hE, .inl (by omega)⟩ hn⟩
      · obtain ⟨k1, k2⟩ := h4' hE
        rw [k2]
        exact cond_t rfl (no (fun hp => hE hp.2.1) (S.ext.trans x4))
    · (repeat ((first | refine S.newB fun _ _ S f _ => ?_ | refine S.la0 rfl ?_ | refine S.la1 rfl ?_ | refine S.la2 rfl ?_ | refine S.la3 rfl ?_ | refine S.la4 rfl ?_ | refine S.la5 rfl ?_ | refine S.ld0 rfl rfl ?_ | refine S.ld1 rfl rfl ?_ | refine S.ld2 rfl rfl ?_ | refine S.ld3 rfl rfl ?_ | refine S.ld4 rfl rfl ?_ | refine S.ld5 rfl rfl ?_ | refine S.st0 (by rfl) fun _ S f => ?_ | refine S.st1 (by rfl) fun _ S f => ?_ | refine S.st2 (by rfl) fun _ S f => ?_ | refine S.st3 (by rfl) fun _ S f => ?_ | refine S.st4 (by rfl) fun _ S f => ?_ | refine S.st5 (by rfl) fun _ S f => ?_ | refine S.su0 (by rfl) fun _ S f => ?_ | refine S.su1 (by rfl) fun _ S f => ?_ | refine S.su2 (by rfl) fun _ S f => ?_ | refine S.su3 (by rfl) fun _ S f => ?_ | refine S.su4 (by rfl) fun _ S f => ?_ | refine S.su5 (by rfl) fun _ S f => ?_ | refine ⟨by decide, ?_⟩); try dsimp only [List.set_cons_zero, List.set_cons_succ, cond_true, cond_false, Bool.not_true, Bool.not_false]))
      refine cond_ne (fun hne => no (fun hp => by have := hp.2.2; omega) S.ext) fun heq => ?_
      (repeat ((first | refine S.newB fun _ _ S f _ => ?_ | refine S.la0 rfl ?_ | refine S.la1 rfl ?_ | refine S.la2 rfl ?_ | refine S.la3 rfl ?_ | refine S.la4 rfl ?_ | refine S.la5 rfl ?_ | refine S.ld0 rfl rfl ?_ | refine S.ld1 rfl rfl ?_ | refine S.ld2 rfl rfl ?_ | refine S.ld3 rfl rfl ?_ | refine S.ld4 rfl rfl ?_ | refine S.ld5 rfl rfl ?_ | refine S.st0 (by rfl) fun _ S f => ?_ | refine S.st1 (by rfl) fun _ S f => ?_ | refine S.st2 (by rfl) fun _ S f => ?_ | refine S.st3 (by rfl) fun _ S f => ?_ | refine S.st4 (by rfl) fun _ S f => ?_ | refine S.st5 (by rfl) fun _ S f => ?_ | refine S.su0 (by rfl) fun _ S f => ?_ | refine S.su1 (by rfl) fun _ S f => ?_ | refine S.su2 (by rfl) fun _ S f => ?_ | refine S.su3 (by rfl) fun _ S f => ?_ | refine S.su4 (by rfl) fun _ S f => ?_ | refine S.su5 (by rfl) fun _ S f => ?_ | refine ⟨by decide, ?_⟩); try dsimp only [List.set_cons_zero, List.set_cons_succ, cond_true, cond_false, Bool.not_true, Bool.not_false]))
      refine (End_c hg (ht.ext S.ext)).mono ?_
      rintro ⟨⟨ea, en, ec⟩, (e4 : Int), ⟨⟩⟩ w4 ⟨x4, h4, h4'⟩
      dsimp only at h4 h4' ⊢
      by_cases hE : ERight h m
      · obtain ⟨k1, k2⟩ := h4 hE
        refine cond_f (by rw [k2]; rfl) ?_
        have l4 := k1.ints.len
        have l4' : (endL h ts).length = 88 := endL_length h (by have := hE.2; omega)
        have S := S.res ⟨x4, k1.own⟩
        dsimp only at S l4
        (repeat ((first | refine S.newB fun _ _ S f _ => ?_ | refine S.la0 rfl ?_ | refine S.la1 rfl ?_ | refine S.la2 rfl ?_ | refine S.la3 rfl ?_ | refine S.la4 rfl ?_ | refine S.la5 rfl ?_ | refine S.ld0 rfl rfl ?_ | refine S.ld1 rfl rfl ?_ | refine S.ld2 rfl rfl ?_ | refine S.ld3 rfl rfl ?_ | refine S.ld4 rfl rfl ?_ | refine S.ld5 rfl rfl ?_ | refine S.st0 (by rfl) fun _ S f => ?_ | refine S.st1 (by rfl) fun _ S f => ?_ | refine S.st2 (by rfl) fun _ S f => ?_ | refine S.st3 (by rfl) fun _ S f => ?_ | refine S.st4 (by rfl) fun _ S f => ?_ | refine S.st5 (by rfl) fun _ S f => ?_ | refine S.su0 (by rfl) fun _ S f => ?_ | refine S.su1 (by rfl) fun _ S f => ?_ | refine S.su2 (by rfl) fun _ S f => ?_ | refine S.su3 (by rfl) fun _ S f => ?_ | refine S.su4 (by rfl) fun _ S f => ?_ | refine S.su5 (by rfl) fun _ S f => ?_ | refine ⟨by decide, ?_⟩); try dsimp only [List.set_cons_zero, List.set_cons_succ, cond_true, cond_false, Bool.not_true, Bool.not_false]))
        have S := S.asOwn (sz := 1) (n := 0) rfl (by omega) oneAll.nil
        refine S.ab0 (xs := []) (hx.ext S.ext) (by omega) fun a5 c5 w5 S f5 => ?_
        refine S.ab0 S.in1 (by omega) fun a6 c6 w6 S f6 => ?_
        have R := S.out
        have hp : [] ++ xs ++ endL h ts = mkL g h xs ts := by unfold mkL payL; rw [if_neg (by omega)]; rfl
        rw [hp] at R
        refine ⟨S.ext, fun _ => ⟨R, rfl⟩, fun hn => absurd ⟨hR, hE, .inr (by omega)⟩ hn⟩
      · obtain ⟨k1, k2⟩ := h4' hE
        rw [k2]
        exact cond_t rfl (no (fun hp => hE hp.2.1) (S.ext.trans x4))
  · refine cond_t (by unfold chkE; rw [if_neg hR]; rfl) ?_
    exact no (fun hp => hR hp.1) S.ext
end Go.Proofs.YtlpeoaphdmfjdaaGreat.Vc
