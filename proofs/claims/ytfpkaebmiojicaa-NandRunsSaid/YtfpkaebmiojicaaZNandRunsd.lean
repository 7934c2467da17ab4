/- Texts in one: The contracts of layer 13 (nand): a block, erased. The contracts of layer 13 (nand): a new array. The plans of functions as plain statements, printed by wip/tools/vcgen.py; the kernel holds each to the code. The plans of functions as plain statements, printed by wip/tools/vcgen.py; the kernel holds each to the code. The laws GeometryChecks, GeometryIndexes and GeometryQuotas of layer 11: each call gives true, and what it read stays. The contracts of layer 13: the document's array. The contracts of layer 13: the document's array, its blocks. The contracts of layer 13: the document's array, bytes cut into pages, blank blocks. The contracts of layer 13: the document's array, new, and all its bytes. The contracts of layer 13: the document's array, a block erased, or scrubbed. The contracts of layer 13: the document's array, a block scrubbed. The contracts of layer 13: the document's array, a page programmed. The contracts of layer 13: the document's array, a byte changed. -/
import Derived.Test.YtfpkaebmiojicaaZNandRunsc

/-! The contracts of layer 13 (nand): a block, erased. -/
namespace Go.Proofs.Ytfpkaebmiojicaa.Vc
open Go Go.Eng Go.RowKit
set_option linter.unusedVariables false
set_option linter.unusedSimpArgs false

theorem Erase13_c {F : Nat → Prop} {w : World} {p : Nat} {y : Lay} {C : CD} {L : List TOp} {n : Int} (hC : COk C) (hF : fds y.F = C.pl) (S : Sep F w w (ChipP p y C L)) :
    CallV Try.prog 80 #[.pointer (some ⟨p, 0, none⟩), .int .i64 n] w [.one (.int .i64)] fun r w' =>
      r.1 = (eraC C n).2 ∧ OpR F w w' p y (eraC C n).1 L (if mayC C n = 0 then [(2, n, 0, [], (codeC C).1)] else []) [] := by
  apply nand_Chip_Erase.vc
  unfold nand_Chip_Erase.P
  refine (may_c (n := n) hC S).mono ?_
  rintro ⟨(e : Int), ⟨⟩⟩ w1 ⟨h1, rfl⟩
  dsimp only at h1 ⊢
  subst h1
  refine cond_ne (fun h => ?_) fun hmay => ?_
  · unfold eraC
    rw [if_neg h, if_neg h]
    exact ⟨rfl, .none S⟩
  obtain ⟨hoff, hn⟩ := may_zero hmay
  obtain ⟨blk, hP⟩ := chip_adr hC S
  obtain ⟨l1, l1', l2, l2', l3, l4, l5, l6⟩ := chip_len hC S
  obtain ⟨⟨n1, n2⟩, ⟨n3, n4⟩, ⟨n5, n6⟩, n7, n8⟩ := hC.num
  have hb := (hC.blk hn).2
  have hbs := (hC.blk hn).1
  have m2 : bszC C ≤ 20 * 216 := Nat.mul_le_mul (by omega) (by omega)
  have m5 : 0 < bszC C := Nat.mul_pos (by omega) (by omega)
  refine (block_c (n := n) hC hn hP (by omega) S).mono ?_
  rintro ⟨⟨ra, rn, rc⟩, ⟨⟩⟩ w2 ⟨h2, x2⟩
  cases h2
  dsimp only
  have S := S.stepE x2
  refine S.newB fun b5 w3 S f3 _ => ?_
  refine S.st0 (by rfl) fun w4 S f4 => ?_
  simp only [Addr.add_lit, Nat.zero_add]
  have he : (0 : Int) ≤ n ∧ n < (y.E.n : Int) := by rw [l5]; omega
  refine S.ld1 (j := 11) rfl rfl ((S.ints 6 rfl).idx he.1 he.2 ?_)
  rw [erL_get hC hn]
  have her := hb.er
  have hops := hC.ops
  refine ⟨Rng.i64 (by omega) (by omega), ?_⟩
  refine S.put (i := 6) rfl he.1 he.2 (v := .int .i64 ((blkC C n).er + 1)) rfl fun w5 S f5 => ?_
  dsimp only [List.set_cons_succ, List.set_cons_zero] at S
  rw [iv_set] at S
  refine S.ld0 rfl rfl ?_
  dsimp only
  obtain ⟨pre, post, g1, g2, g3⟩ := imgC_blk hC hn
  have hall := hb.all
  have hla : (allC C n).length = bszC C := hall.1
  rw [g1] at S
  have hne : allC C n ≠ [] := fun h => by rw [h] at hla; have : 0 = bszC C := hla; omega
  have S := S.nilD
  obtain ⟨blk2, tl, ha2, S2, back⟩ := int_focus (k := .u8) (S.sel [3, 2, 6, 6, 6, 0, 0, 0, 0, 0, 0] rfl) hne
  rw [hP] at ha2
  cases ha2
  have hol : n.toNat * bszC C = (pre.map (Value.int .u8)).length := by rw [List.length_map, g2]
  have hI : Ints w5 .u8 (some ⟨blk, n.toNat * bszC C, none⟩) (bszC C) (bszC C) (allC C n) := S2.intsM 0 rfl hol hla.symm (Nat.le_refl _) (by omega)
  refine Sep.call [BoxA p 131 (chipV y C), BoxA blk 5 (pre.map (Value.int .u8) ++ ((allC C n).map (Value.int .u8) ++ (post.map (Value.int .u8) ++ tl))), RdT LF y.F, OwnA 106 5 y.T.a C.ops y.T.c (L.flatMap TOp.vs), RdL (L.map (·.d)), RdL [noD]] (Ts := _) (S2.sel [1, 0, 0, 0, 0, 0, 0, 0, 0, 0, 0] rfl)
    (fun F S => done_c (dd := noD) (whole := List.replicate (bszC C) 255) (torn := fun f => eraL (allC C n) f.2.2.1) hF hC.mfit hC.ops hoff hol (by decide) hla.symm (by rw [List.length_replicate, hla]) (fun f => by unfold eraL; rw [turn_len]) (by kernel_rfl) (by kernel_rfl)
      (fun w' x' => Erase2_c (s := ⟨some ⟨blk, n.toNat * bszC C, none⟩, bszC C, bszC C⟩) ((S2.sel [6] rfl).stepE x') (hI.ext x') hall.2 (by dsimp only; omega))
      (fun w' f s x' hat hm => Erase1_c (f := f) (m := s) (s := ⟨some ⟨blk, n.toNat * bszC C, none⟩, bszC C, bszC C⟩) ((S2.sel [6] rfl).stepE x') (hI.ext x') hm hall.2 (atF_byt hC hat) (by dsimp only; omega)) S) ?_
  rintro F2 bk ⟨(e : Int), ⟨⟩⟩ w12 ⟨h12, ta, tc, oo, hoo, S3⟩
  dsimp only at h12 ⊢
  subst h12
  have S4 := bk _ _ S3
  have hnew : newX C (List.replicate (bszC C) 255) (fun f => eraL (allC C n) f.2.2.1) = if (codeC C).1 = 0 then List.replicate (bszC C) 255 else eraL (allC C n) (codeC C).2.1 := by
    unfold newX codeC
    cases atF C.pl (C.ops : Int) with
    | none => rfl
    | some f =>
      dsimp only
      rw [if_neg]
      split <;> omega
  rw [hnew] at S4
  have hlq : (if (codeC C).1 = 0 then List.replicate (bszC C) 255 else eraL (allC C n) (codeC C).2.1).length = (allC C n).length := by
    split
    · rw [List.length_replicate, hla]
    · unfold eraL; rw [turn_len]
  have S5 := (back _ _ _ _ _ hlq (S4.sel [1, 0, 0, 0, 0, 2, 2, 2, 2] rfl)).sel [1, 0, 3, 3, 3, 3, 0, 0, 0] rfl
  unfold eraC
  rw [if_pos hmay, if_pos hmay]
  have e6 : (L ++ [oo]).map (·.d) = L.map (·.d) ++ [oo.d] := List.map_append
  have e5 : erL (eraX C n) = (erL C).set n.toNat ((blkC C n).er + 1) := by
    have : ∀ x : BD, x.er = (blkC C n).er + 1 → (C.bs.set n.toNat x).map (·.er) = (erL C).set n.toNat ((blkC C n).er + 1) := fun x hx => by rw [List.map_set, hx]; rfl
    refine this _ ?_
    split <;> rfl
  refine cond_eq (fun hc0 => ?_) (fun hc0 => ?_)
  case refine_2 =>
    have hc0 : ¬ (codeC C).1 = 0 := hc0
    rw [if_neg hc0] at S5 hlq
    have hX : (eraX C n).bs = C.bs.set n.toNat { blkC C n with pg := cutL (eraL (blkC C n).pg.flatten (codeC C).2.1) C.g.p.toNat, er := (blkC C n).er + 1 } := by unfold eraX; rw [if_neg hc0]
    have e1 : imgC (eraX C n) = pre ++ (eraL (allC C n) (codeC C).2.1 ++ post) := by
      rw [g3 _ (eraX C n) hX]
      have := (cutL_flat (all := eraL (allC C n) (codeC C).2.1) (p := C.g.p.toNat) (z := szP C.g) (by omega) (by rw [hlq]; exact hla)).1
      dsimp only
      rw [this]
    have e2 : usL (eraX C n) = usL C := by unfold usL; rw [hX]; exact fl_same hbs rfl
    have e3 : laL (eraX C n) = laL C := by unfold laL; rw [hX]; exact map_set_same hbs rfl
    have e4 : scL (eraX C n) = scL C := by unfold scL; rw [hX]; exact map_set_same hbs rfl
    refine ⟨rfl, ta, tc, L ++ [oo], by rw [List.map_append, List.map_singleton, hoo], ?_⟩
    refine chip_mk (y := upT y ta tc) (C := eraX C n) (L := L ++ [oo]) (Rs := []) ?_ e1 e2 e3 e4 e5
    rw [e6]
    exact S5
  have hc0 : (codeC C).1 = 0 := hc0
  rw [if_pos hc0] at S5
  have hX : (eraX C n).bs = C.bs.set n.toNat { blankB C.g with er := (blkC C n).er + 1 } := by unfold eraX; rw [if_pos hc0]
  have e1 : imgC (eraX C n) = pre ++ (List.replicate (bszC C) 255 ++ post) := by
    rw [g3 _ (eraX C n) hX]
    have : (blankB C.g).pg.flatten = List.replicate (bszC C) 255 := by unfold blankB; exact List.flatten_replicate_replicate
    dsimp only
    rw [this]
  obtain ⟨pre2, post2, u1, u2, u3⟩ : ∃ pre2 post2, usL C = pre2 ++ ((blkC C n).us ++ post2) ∧ pre2.length = n.toNat * C.g.p.toNat ∧ usL (eraX C n) = pre2 ++ (List.replicate C.g.p.toNat 0 ++ post2) := by
    refine ⟨(C.bs.take n.toNat).flatMap (fun x : BD => x.us), (C.bs.drop (n.toNat + 1)).flatMap (fun x : BD => x.us), fl_split (f := fun x : BD => x.us) hbs, fl_take (fun x hx => (hC.bo x hx).ul) (by rw [hC.bl]; omega), ?_⟩
    unfold usL
    rw [hX]
    exact fl_set (f := fun x : BD => x.us) hbs
  have hneP := S5.neO 0 2 (by decide) rfl rfl
  have k0 : C.g.p.toNat * n.toNat + C.g.p.toNat ≤ C.g.p.toNat * C.g.b.toNat := by
    have : C.g.p.toNat * (n.toNat + 1) ≤ C.g.p.toNat * C.g.b.toNat := Nat.mul_le_mul_left _ (by omega)
    rwa [Nat.mul_add, Nat.mul_one] at this
  have c1 : C.g.p.toNat * n.toNat = n.toNat * C.g.p.toNat := Nat.mul_comm _ _
  have c2 : C.g.p.toNat * C.g.b.toNat = C.g.b.toNat * C.g.p.toNat := Nat.mul_comm _ _
  have i3 : C.g.b.toNat * C.g.p.toNat ≤ 16 * 20 := Nat.mul_le_mul (by omega) (by omega)
  have v1 : n * C.g.p = ((n.toNat * C.g.p.toNat : Nat) : Int) := by push_cast; rw [Int.toNat_of_nonneg hn.1, Int.toNat_of_nonneg (show 0 ≤ C.g.p by omega)]
  have v2 : (n + 1) * C.g.p = ((n.toNat * C.g.p.toNat + C.g.p.toNat : Nat) : Int) := by rw [Int.add_mul, Int.one_mul, v1]; push_cast; rw [Int.toNat_of_nonneg (show 0 ≤ C.g.p by omega)]
  refine S5.regX (fun k => ∃ q : Addr, y.U.a = some q ∧ k = q.block) fun D hD hkeep S6 T => ?_
  have hDp : D p := hD _ S6.bl0 (fun ⟨q, hq, h⟩ => hneP q hq h)
  refine ⟨hDp, S6.ld0 (j := 8) rfl rfl ⟨hDp, S6.ld0 (j := 1) rfl rfl ⟨by rw [v1]; exact Rng.i64 (by omega) (by omega), Rng.i64 (by omega) (by omega), hDp, S6.ld0 (j := 1) rfl rfl ⟨by rw [v2]; exact Rng.i64 (by omega) (by omega), ⟨by rw [v1]; omega, by rw [v1, v2]; omega, by rw [v2]; dsimp only; omega⟩, ?_⟩⟩⟩⟩
  intro a20 ha20
  rw [v1] at ha20 ⊢
  rw [v2, Int.toNat_natCast, Int.toNat_natCast]
  dsimp only at ha20 ⊢
  rw [Int.toNat_natCast, if_neg (by omega)] at ha20
  rw [u1] at S6
  have hneU : (blkC C n).us ≠ [] := fun h => by have := hb.ul; rw [h] at this; have : 0 = C.g.p.toNat := this; omega
  obtain ⟨ublk, utl, hU, S7, uback⟩ := int_focus (k := .i64) (S6.sel [2, 0, 0, 0, 0, 0, 0, 0, 0] rfl) hneU
  rw [hU] at ha20
  have ea : a20 = some ⟨ublk, n.toNat * C.g.p.toNat, none⟩ := by
    rw [ha20]
    show some ((⟨ublk, 0, none⟩ : Addr).add (n.toNat * C.g.p.toNat * 1)) = _
    simp [Addr.add_lit]
  rw [ea]
  refine S7.clM 0 rfl (by rw [List.length_map, u2]) (by rw [List.length_map, hb.ul]; omega) rfl fun w21 S8 f21 => ⟨hkeep _ (f21.mono fun k hk => ⟨_, hU, hk⟩), ?_⟩
  have S8 := S8.sel [0, 0, 0, 0, 0, 0, 0, 0, 0] rfl
  have hrep : List.replicate (n.toNat * C.g.p.toNat + C.g.p.toNat - n.toNat * C.g.p.toNat) (Value.int .i64 0) = (List.replicate C.g.p.toNat (0 : Int)).map (Value.int .i64) := by rw [List.map_replicate, Nat.add_sub_cancel_left]
  rw [hrep] at S8
  have S9 := (uback _ _ _ _ _ (by rw [List.length_replicate, hb.ul]) S8).sel [1, 1, 0, 0, 0, 0, 0, 0, 0] rfl
  rw [← u3] at S9
  have ha : (0 : Int) ≤ n ∧ n < (y.A.n : Int) := by rw [l3]; omega
  have hs : (0 : Int) ≤ n ∧ n < (y.S.n : Int) := by rw [l4]; omega
  have fin : ∀ {w' : World}, Sep F w1 w' [BoxA p 131 (chipV (upT y ta tc) { C with off := (codeC C).2.2, ops := C.ops + 1 }), OwnA 5 1 y.P.a y.P.n y.P.c (bv8 (pre ++ (List.replicate (bszC C) 255 ++ post))), OwnA 3 1 y.U.a y.U.n y.U.c (iv (usL (eraX C n))), OwnA 3 1 y.A.a y.A.n y.A.c (iv ((laL C).set n.toNat (-1))),
      OwnA 3 1 y.S.a y.S.n y.S.c (iv ((scL C).set n.toNat 0)), OwnA 3 1 y.E.a y.E.n y.E.c (iv ((erL C).set n.toNat ((blkC C n).er + 1))), RdT LF y.F, OwnA 106 5 ta (C.ops + 1) tc ((L ++ [oo]).flatMap TOp.vs), RdL (L.map (·.d) ++ [oo.d])] →
      (codeC C).1 = (eraX C n, (codeC C).1).2 ∧ OpR F w1 w' p y (eraX C n, (codeC C).1).1 L [(2, n, 0, [], (codeC C).1)] [] := fun S => by
    have e3 : laL (eraX C n) = (laL C).set n.toNat (-1) := by unfold laL; rw [hX, List.map_set]; rfl
    have e4 : scL (eraX C n) = (scL C).set n.toNat 0 := by unfold scL; rw [hX, List.map_set]; rfl
    refine ⟨rfl, ta, tc, L ++ [oo], by rw [List.map_append, List.map_singleton, hoo], ?_⟩
    refine chip_mk (y := upT y ta tc) (C := eraX C n) (L := L ++ [oo]) (Rs := []) ?_ e1 rfl e3 e4 e5
    rw [e6]
    exact S
  refine S9.regX (fun k => (∃ q : Addr, y.A.a = some q ∧ k = q.block) ∨ ∃ q : Addr, y.S.a = some q ∧ k = q.block) fun D2 hD2 hkeep2 S10 T2 => ?_
  have hk0 := hkeep2 _ (Fr.refl _ _)
  refine ⟨?_, ?_⟩
  · refine S10.ld0 (j := 9) rfl rfl ⟨hk0, S10.ld0 (j := 10) rfl rfl ⟨hk0, ?_⟩⟩
    refine S10.put (i := 3) rfl ha.1 ha.2 (v := .int .i64 (-1)) rfl fun w26 S11 f26 => ⟨hkeep2 _ (f26.mono fun k hk => .inl hk), ?_⟩
    dsimp only [List.set_cons_succ, List.set_cons_zero] at S11
    rw [iv_set] at S11
    refine S11.put (i := 4) rfl hs.1 hs.2 (v := .int .i64 0) rfl fun w28 S12 f28 => ⟨hkeep2 _ ((f26.mono fun k hk => .inl hk).trans (f28.mono fun k hk => .inr hk)), ?_⟩
    dsimp only [List.set_cons_succ, List.set_cons_zero] at S12
    rw [iv_set] at S12
    exact fin S12
  · refine S10.ld0 (j := 10) rfl rfl ⟨hk0, S10.ld0 (j := 9) rfl rfl ⟨hk0, ?_⟩⟩
    refine S10.put (i := 3) rfl ha.1 ha.2 (v := .int .i64 (-1)) rfl fun w26 S11 f26 => ⟨hkeep2 _ (f26.mono fun k hk => .inl hk), ?_⟩
    dsimp only [List.set_cons_succ, List.set_cons_zero] at S11
    rw [iv_set] at S11
    refine S11.put (i := 4) rfl hs.1 hs.2 (v := .int .i64 0) rfl fun w28 S12 f28 => ⟨hkeep2 _ ((f26.mono fun k hk => .inl hk).trans (f28.mono fun k hk => .inr hk)), ?_⟩
    dsimp only [List.set_cons_succ, List.set_cons_zero] at S12
    rw [iv_set] at S12
    exact fin S12
theorem eraX_ok {C : CD} (hC : COk C) {n : Int} (hr : mayC C n = 0) (ho : C.ops < 1000000) : COk (eraX C n) := by
  obtain ⟨hoff, hn⟩ := may_zero hr
  obtain ⟨⟨n1, n2⟩, ⟨n3, n4⟩, -⟩ := hC.num
  have hb := (hC.blk hn).2
  have hall := hb.all
  have her := hb.er
  have hbl := blankB_ok C.g hC.g (C.ops + 1)
  unfold eraX
  by_cases hc : (codeC C).1 = 0
  · rw [if_pos hc]
    exact hC.upd (by omega) (by omega) ⟨hbl.pl, hbl.pb, hbl.ul, hbl.ub, hbl.la, by dsimp only; omega, by dsimp only; omega⟩
  · rw [if_neg hc]
    have hlen : (eraL (blkC C n).pg.flatten (codeC C).2.1).length = C.g.p.toNat * szP C.g := by unfold eraL; rw [turn_len]; exact hall.1
    exact hC.upd (by omega) (by omega) ⟨(cutL_flat (by omega) hlen).2.1, fun q hq => ⟨(cutL_flat (by omega) hlen).2.2 q hq, cutL_byt (turn_byt hall.2 _ _) q hq⟩, hb.ul, hb.ub, hb.la, by dsimp only; omega, by dsimp only; omega⟩

end Go.Proofs.Ytfpkaebmiojicaa.Vc

/-! The contracts of layer 13 (nand): a new array. -/
namespace Go.Proofs.Ytfpkaebmiojicaa.Vc
open Go Go.Eng Go.RowKit
set_option linter.unusedVariables false
set_option linter.unusedSimpArgs false

theorem CopyR.part {w w' : World} {y : SlP TF.T} {l : List FD} (h : CopyR w w' y l) : Sep NoB w w' [RdT LF y] :=
  (Sep.start NoB w).push (F := fun k => w.heap.size ≤ k ∧ k < w'.heap.size) (.of h.ext) (LF.rd_mono (fun k h1 h2 => ⟨h1, h2⟩) h.rd) fun k hk => hk
theorem flat_rep {α β : Type} (n : Nat) (x : α) (f : α → List β) : (List.replicate n x).flatMap f = (List.replicate n (f x)).flatten := by
  induction n with
  | zero => rfl
  | succ n ih => rw [List.replicate_succ, List.flatMap_cons, ih, List.replicate_succ, List.flatten_cons]
theorem newC_img (g : Geo) (pl : List FD) : imgC (newC g pl) = List.replicate (g.b.toNat * (g.p.toNat * szP g)) 255 := by
  unfold imgC newC blankB
  dsimp only
  rw [flat_rep, List.flatten_replicate_replicate, List.flatten_replicate_replicate]
theorem newC_us (g : Geo) (pl : List FD) : usL (newC g pl) = List.replicate (g.b.toNat * g.p.toNat) 0 := by
  unfold usL newC blankB
  dsimp only
  rw [flat_rep, List.flatten_replicate_replicate]
theorem newC_la (g : Geo) (pl : List FD) : laL (newC g pl) = List.replicate g.b.toNat (-1) := by unfold laL newC blankB; exact List.map_replicate
theorem newC_sc (g : Geo) (pl : List FD) : scL (newC g pl) = List.replicate g.b.toNat 0 := by unfold scL newC blankB; exact List.map_replicate
theorem newC_er (g : Geo) (pl : List FD) : erL (newC g pl) = List.replicate g.b.toNat 0 := by unfold erL newC blankB; exact List.map_replicate
/-- The cells of an array that is made. -/
abbrev newV (g : Geo) (P U A S E : SlV) (f : SlP TF.T) : List Value := [.int .i64 g.b, .int .i64 g.p, .int .i64 g.s, .int .i64 g.sp, .int .i64 g.wr, .int .i64 g.ro, .int .i64 (g.s + 88), .slice P.a P.n P.c, .slice U.a U.n U.c, .slice A.a A.n A.c, .slice S.a S.n S.c, .slice E.a E.n E.c, .slice f.a f.n f.c, .bool false, .slice none 0 0]
abbrev nilS : SlV := ⟨none, 0, 0⟩
abbrev boxS (b n : Nat) : SlV := ⟨some ⟨b, 0, none⟩, n, n⟩
theorem rep_iv (n : Nat) (v : Int) : (List.replicate n [Value.int .i64 v]).flatten = iv (List.replicate n v) := by rw [rep_flat, iv, List.map_replicate]
theorem rep_bv (n : Nat) (v : Int) : (List.replicate n [Value.int .u8 v]).flatten = bv8 (List.replicate n v) := by rw [rep_flat, bv8, List.map_replicate]

theorem New13_c {w : World} {g : Geo} {x : SlP TF.T} {G : Nat → Prop} (hx : LF.rd w G x) (hm : mFit (fds x)) :
    CallV Try.prog 43 #[g.val, .slice x.a x.n x.c] w [.one .ptr, .one (.int .i64)] fun r w' => Ext w w' ∧ (¬ (Right g ∧ FRight (fds x)) → r.1 = none ∧ r.2.1 = (2 : Int)) ∧
      (Right g ∧ FRight (fds x) → r.2.1 = (0 : Int) ∧ ∃ (p : Nat) (y : Lay), r.1 = some (⟨p, 0, none⟩ : Addr) ∧ fds y.F = fds x ∧ Sep NoB w w' (ChipP p y (newC g (fds x)) [])) := by
  apply nand_New.vc
  unfold nand_New.P
  have no : ∀ {w' : World}, ¬ (Right g ∧ FRight (fds x)) → Ext w w' → (Ext w w' ∧ (¬ (Right g ∧ FRight (fds x)) → (none : Option Addr) = none ∧ (2 : Int) = (2 : Int)) ∧
      (Right g ∧ FRight (fds x) → (2 : Int) = (0 : Int) ∧ ∃ (p : Nat) (y : Lay), (none : Option Addr) = some (⟨p, 0, none⟩ : Addr) ∧ fds y.F = fds x ∧ Sep NoB w w' (ChipP p y (newC g (fds x)) []))) := fun h e => ⟨e, fun _ => ⟨rfl, rfl⟩, fun k => absurd k h⟩
  have S := Sep.start NoB w
  refine S.newB fun b1 w1 S f1 _ => ?_
  (repeat ((first | refine S.newB fun _ _ S f _ => ?_ | refine S.la0 rfl ?_ | refine S.la1 rfl ?_ | refine S.la2 rfl ?_ | refine S.la3 rfl ?_ | refine S.la4 rfl ?_ | refine S.la5 rfl ?_ | refine S.ld0 rfl rfl ?_ | refine S.ld1 rfl rfl ?_ | refine S.ld2 rfl rfl ?_ | refine S.ld3 rfl rfl ?_ | refine S.ld4 rfl rfl ?_ | refine S.ld5 rfl rfl ?_ | refine S.st0 (by rfl) fun _ S f => ?_ | refine S.st1 (by rfl) fun _ S f => ?_ | refine S.st2 (by rfl) fun _ S f => ?_ | refine S.st3 (by rfl) fun _ S f => ?_ | refine S.st4 (by rfl) fun _ S f => ?_ | refine S.st5 (by rfl) fun _ S f => ?_ | refine S.su0 (by rfl) fun _ S f => ?_ | refine S.su1 (by rfl) fun _ S f => ?_ | refine S.su2 (by rfl) fun _ S f => ?_ | refine S.su3 (by rfl) fun _ S f => ?_ | refine S.su4 (by rfl) fun _ S f => ?_ | refine S.su5 (by rfl) fun _ S f => ?_ | refine ⟨by decide, ?_⟩); try dsimp only [List.set_cons_zero, List.set_cons_succ, cond_true, cond_false, Bool.not_true, Bool.not_false]))
  refine (Check_c (g := g)).mono ?_
  rintro ⟨(r : Int), ⟨⟩⟩ w2 ⟨h2, e2⟩
  dsimp only at h2 ⊢
  subst h2
  have S := S.stepE e2
  by_cases hR : Right g
  case neg => exact cond_t (by unfold chkE; rw [if_neg hR]; rfl) (no (fun h => hR h.1) S.ext)
  refine cond_f (by unfold chkE; rw [if_pos hR]; rfl) ?_
  refine (FCheck_c (Ty.rd_ext S.ext _ hx)).mono ?_
  rintro ⟨(r : Int), ⟨⟩⟩ w3 ⟨h3, e3⟩
  dsimp only at h3 ⊢
  subst h3
  have S := S.stepE e3
  by_cases hF : FRight (fds x)
  case neg => exact cond_t (by rw [if_neg hF]; rfl) (no (fun h => hF h.2) S.ext)
  refine cond_f (by rw [if_pos hF]; rfl) ?_
  have hxn : x.n ≤ 1000 := by have := hF.2; rw [LF_len hx] at this; omega
  refine S.reg fun D hD hkeep S T => ?_
  refine ⟨hD _ S.bl0, S.la0 rfl ⟨hD _ S.bl0, S.la0 rfl ?_⟩⟩
  refine (PageSize_c (g := g)).mono ?_
  rintro ⟨(sz : Int), ⟨⟩⟩ w4 ⟨h4, e4⟩
  dsimp only at h4 ⊢
  rw [if_pos hR] at h4
  subst h4
  have T := T.stepE e4
  refine ⟨hkeep _ T.fr, ?_⟩
  refine (Copy_c (Ty.rd_ext (S.ext.trans T.ext) _ hx) hm hxn).mono ?_
  rintro ⟨_, ⟨⟩⟩ w5 ⟨yf, hyf, hcp⟩
  dsimp only at hyf
  subst hyf
  have T := T.frame0 hcp.part
  dsimp only [List.cons_append, List.nil_append] at T
  refine ⟨hkeep _ T.fr, T.newB fun b15 w6 T f6 _ => ⟨hkeep _ T.fr, ?_⟩⟩
  have S := S.frame0 T
  dsimp only [List.cons_append, List.nil_append] at S
  clear T hkeep hD
  have hK := hR.1
  unfold Kept at hK
  have hnat : ∃ B P Z : Nat, g.b = (B : Int) ∧ g.p = (P : Int) ∧ g.s + 88 = (Z : Int) ∧ g.b.toNat = B ∧ g.p.toNat = P ∧ szP g = Z ∧ B ≤ 64 ∧ P ≤ 32 ∧ Z ≤ 4184 := ⟨g.b.toNat, g.p.toNat, (g.s + 88).toNat, by omega, by omega, by omega, rfl, rfl, rfl, by omega, by omega, by omega⟩
  obtain ⟨B, P, Z, hB, hP, hZ, hB', hP', hZ', bB, bP, bZ⟩ := hnat
  have m1 : B * P ≤ 64 * 32 := Nat.mul_le_mul bB bP
  have m2 : B * P * Z ≤ 64 * 32 * 4184 := Nat.mul_le_mul m1 bZ
  have v1 : g.b * g.p = ((B * P : Nat) : Int) := by rw [hB, hP]; push_cast; rfl
  have v2 : (g.b * g.p) * (g.s + 88) = ((B * P * Z : Nat) : Int) := by rw [v1, hZ]; push_cast; rfl
  have hne := S.ne 0 2 (by decide) rfl rfl
  refine S.regX (fun k => k = b15) fun D hD hkeep S T => ?_
  refine ⟨hD _ S.bl2 (fun h => hne h.symm), S.ld2 (j := 0) rfl rfl ⟨hD _ S.bl2 (fun h => hne h.symm), S.ld2 (j := 1) rfl rfl ⟨by rw [v1]; exact Rng.i64 (by omega) (by omega), S.ld0 (j := 6) rfl rfl ⟨hkeep _ (Fr.refl _ _), by rw [v2]; exact Rng.i64 (by omega) (by omega), ⟨by rw [v2]; omega, Int.le_refl _, by rw [v2]; omega, by rw [v2]; omega⟩, ?_⟩⟩⟩⟩
  rw [v2, Int.toNat_natCast]
  refine S.newB fun b21 w7 S f7 _ => ⟨hkeep _ f7.any, ?_⟩
  refine S.su1 (j := 7) (by rfl) fun w8 S f8 => ⟨hkeep _ (f7.any.trans f8), ?_⟩
  clear hkeep hD T
  rw [rep_bv] at S
  have S := S.asOwn (sz := 1) (n := B * P * Z) (by rw [List.length_map, List.length_replicate, Nat.mul_one]) (by omega) (oneAll.ints _ _)
  refine S.ld1 (j := 7) rfl rfl ?_
  dsimp only
  refine Loop1 (fun (v : Int × Unit) w' => ∃ (i : Nat) (xs : List Int), v.1 = (i : Int) ∧ i ≤ B * P * Z ∧ xs.length = B * P * Z ∧ (∀ j, j < i → xs[j]? = some 255) ∧ Sep NoB w w' [OwnA 5 1 (some ⟨b21, 0, none⟩) (B * P * Z) (B * P * Z) (bv8 xs), BoxA b15 131 (newV g (boxS b21 (B * P * Z)) nilS nilS nilS nilS yf), RdT LF yf, BoxA b1 23 g.vs])
    (fun (v : Int × Unit) _ => (((B * P * Z : Nat) : Int) - v.1).toNat) ⟨0, _, rfl, by omega, by rw [List.length_replicate], fun j hj => by omega, S⟩ ?_
  rintro ⟨(z : Int), ⟨⟩⟩ w9 ⟨i, xs, hz, hi, hl, hxs, S⟩
  dsimp only at hz ⊢
  subst hz
  refine cond_d (fun hlt => ?_) (fun hge => ?_)
  · refine S.ld1 (j := 7) rfl rfl ?_
    refine S.put (i := 0) rfl (by omega) hlt (v := .int .u8 255) rfl fun w10 S f10 => ?_
    refine ⟨Rng.i64 (by omega) (by omega), ⟨i + 1, xs.set i 255, by push_cast; rfl, by omega, by rw [List.length_set]; exact hl, fun j hj => ?_, ?_⟩, by omega⟩
    · rw [List.getElem?_set]
      split
      · rw [if_pos (by omega)]
      · exact hxs j (by omega)
    · rw [Int.toNat_natCast] at S
      rw [bv8, List.map_set]
      exact S
  have hxe : xs = List.replicate (B * P * Z) 255 := List.ext_getElem? fun j => by
    by_cases hj : j < B * P * Z
    · rw [hxs j (by omega), List.getElem?_replicate, if_pos hj]
    · rw [List.getElem?_eq_none (by omega), List.getElem?_eq_none (by rw [List.length_replicate]; omega)]
  subst hxe
  clear hxs hl hi hge
  refine S.ld3 (j := 0) rfl rfl (S.ld3 (j := 1) rfl rfl ⟨by rw [v1]; exact Rng.i64 (by omega) (by omega), ⟨by rw [v1]; omega, Int.le_refl _, by rw [v1]; omega, by rw [v1]; omega⟩, ?_⟩)
  rw [v1, Int.toNat_natCast]
  refine S.newB fun b33 w11 S f11 _ => ?_
  refine S.su2 (j := 8) (by rfl) fun w12 S f12 => ?_
  rw [rep_iv] at S
  have S := S.asOwn (sz := 1) (n := B * P) (by rw [List.length_map, List.length_replicate, Nat.mul_one]) (by omega) (oneAll.ints _ _)
  refine ⟨fun (_ : Unit) w' => ∃ b39 b41, Sep NoB w w' [BoxA b15 131 (newV g (boxS b21 (B * P * Z)) (boxS b33 (B * P)) nilS (boxS b39 B) (boxS b41 B) yf), OwnA 5 1 (some ⟨b21, 0, none⟩) (B * P * Z) (B * P * Z) (bv8 (List.replicate (B * P * Z) 255)), OwnA 3 1 (some ⟨b33, 0, none⟩) (B * P) (B * P) (iv (List.replicate (B * P) 0)),
    OwnA 3 1 (some ⟨b39, 0, none⟩) B B (iv (List.replicate B 0)), OwnA 3 1 (some ⟨b41, 0, none⟩) B B (iv (List.replicate B 0)), RdT LF yf, BoxA b1 23 g.vs], ?_, ?_⟩
  case refine_2 =>
    have hne := S.ne 2 4 (by decide) rfl rfl
    refine S.regX (fun k => k = b15) fun D hD hkeep S T => ?_
    have hb1 : D b1 := hD _ S.bl4 (fun h => hne h.symm)
    refine ⟨hb1, S.ld4 (j := 0) rfl rfl ⟨hb1, S.ld4 (j := 0) rfl rfl ?_⟩⟩
    rw [hB, Int.toNat_natCast]
    have hbd : (0 : Int) ≤ (B : Int) ∧ (B : Int) ≤ (B : Int) ∧ (B : Int) ≤ 9223372036854775807 ∧ 8 * (B : Int) ≤ 140737488355328 := ⟨by omega, by omega, by omega, by omega⟩
    have fin : ∀ {w' : World} {ba bb : Nat}, Sep NoB w w' [BoxA ba 3 (List.replicate B [Value.int .i64 0]).flatten, BoxA bb 3 (List.replicate B [Value.int .i64 0]).flatten, OwnA 3 1 (some ⟨b33, 0, none⟩) (B * P) (B * P) (iv (List.replicate (B * P) 0)), OwnA 5 1 (some ⟨b21, 0, none⟩) (B * P * Z) (B * P * Z) (bv8 (List.replicate (B * P * Z) 255)),
        BoxA b15 131 (newV g (boxS b21 (B * P * Z)) (boxS b33 (B * P)) nilS (boxS ba B) (boxS bb B) yf), RdT LF yf, BoxA b1 23 g.vs] →
        ∃ b39 b41, Sep NoB w w' [BoxA b15 131 (newV g (boxS b21 (B * P * Z)) (boxS b33 (B * P)) nilS (boxS b39 B) (boxS b41 B) yf), OwnA 5 1 (some ⟨b21, 0, none⟩) (B * P * Z) (B * P * Z) (bv8 (List.replicate (B * P * Z) 255)), OwnA 3 1 (some ⟨b33, 0, none⟩) (B * P) (B * P) (iv (List.replicate (B * P) 0)),
          OwnA 3 1 (some ⟨b39, 0, none⟩) B B (iv (List.replicate B 0)), OwnA 3 1 (some ⟨b41, 0, none⟩) B B (iv (List.replicate B 0)), RdT LF yf, BoxA b1 23 g.vs] := fun {w' ba bb} S => by
      rw [rep_iv] at S
      have S := S.asOwn (sz := 1) (n := B) (by rw [List.length_map, List.length_replicate, Nat.mul_one]) (by omega) (oneAll.ints _ _)
      have S := (S.sel [1, 0, 0, 0, 0, 0, 0] rfl).asOwn (sz := 1) (n := B) (by rw [List.length_map, List.length_replicate, Nat.mul_one]) (by omega) (oneAll.ints _ _)
      exact ⟨ba, bb, S.sel [4, 3, 2, 1, 0, 0, 0] rfl⟩
    refine ⟨⟨hbd, S.newB fun b55 w14 S f14 _ => ⟨hkeep _ f14.any, ⟨hbd, S.newB fun b57 w15 S f15 _ => ?_⟩, ?_⟩⟩, hbd, S.newB fun b65 w14 S f14 _ => ⟨hkeep _ f14.any, hbd, S.newB fun b67 w15 S f15 _ => ?_⟩⟩
    · have h15 := (f14.trans f15).any (E := fun k => k = b15)
      refine ⟨hkeep _ h15, S.su4 (j := 10) (by rfl) fun w16 S f16 => ⟨hkeep _ (h15.trans f16), S.su4 (j := 11) (by rfl) fun w17 S f17 => ⟨hkeep _ ((h15.trans f16).trans f17), fin (ba := b55) (bb := b57) (S.sel [1, 0, 0, 0, 0, 0, 0] rfl)⟩⟩⟩
    · have h14 := f14.any (E := fun k => k = b15)
      refine S.su3 (j := 10) (by rfl) fun w16 S f16 => ⟨hkeep _ (h14.trans f16), hbd, S.newB fun b62 w17 S f17 _ => ?_⟩
      have h17 := (h14.trans f16).trans f17.any
      exact ⟨hkeep _ h17, S.su4 (j := 11) (by rfl) fun w18 S f18 => ⟨hkeep _ (h17.trans f18), fin (ba := b55) (bb := b62) (S.sel [1, 0, 0, 0, 0, 0, 0] rfl)⟩⟩
    · have h15 := (f14.trans f15).any (E := fun k => k = b15)
      refine ⟨hkeep _ h15, S.su4 (j := 10) (by rfl) fun w16 S f16 => ⟨hkeep _ (h15.trans f16), S.su4 (j := 11) (by rfl) fun w17 S f17 => ⟨hkeep _ ((h15.trans f16).trans f17), fin (ba := b67) (bb := b65) (S.sel [0, 0, 0, 0, 0, 0, 0] rfl)⟩⟩⟩
  rintro ⟨⟩ w13 ⟨b39, b41, S⟩
  refine S.ld6 (j := 0) rfl rfl ?_
  rw [hB]
  have S := S.nilOwn 3 1
  refine Loop1 (fun (v : Int × Unit) w' => ∃ (i : Nat) (a : Option Addr) (c : Nat), v.1 = (i : Int) ∧ i ≤ B ∧ Sep NoB w w' [OwnA 3 1 a i c (iv (List.replicate i (-1))), BoxA b15 131 (newV g (boxS b21 (B * P * Z)) (boxS b33 (B * P)) ⟨a, i, c⟩ (boxS b39 B) (boxS b41 B) yf), OwnA 5 1 (some ⟨b21, 0, none⟩) (B * P * Z) (B * P * Z) (bv8 (List.replicate (B * P * Z) 255)),
      OwnA 3 1 (some ⟨b33, 0, none⟩) (B * P) (B * P) (iv (List.replicate (B * P) 0)), OwnA 3 1 (some ⟨b39, 0, none⟩) B B (iv (List.replicate B 0)), OwnA 3 1 (some ⟨b41, 0, none⟩) B B (iv (List.replicate B 0)), RdT LF yf, BoxA b1 23 g.vs])
    (fun (v : Int × Unit) _ => ((B : Int) - v.1).toNat) ⟨0, none, 0, rfl, by omega, S⟩ ?_
  rintro ⟨(z : Int), ⟨⟩⟩ w14 ⟨i, a, c, hz, hi, S⟩
  dsimp only at hz ⊢
  subst hz
  refine cond_d (fun hlt => ?_) (fun hge => ?_)
  · refine S.ld1 (j := 9) rfl rfl ?_
    refine S.newB fun b44 w15 S f15 _ => ?_
    dsimp only
    refine AppS.of (news := [.int .i64 (-1)]) rfl (.inr ⟨_, rfl, S.cells 0 rfl⟩) ?_
    refine S.ap1 (by rfl) (fun u hu => by rw [List.mem_singleton.1 hu]; rfl) (by omega) (by omega) fun a46 c48 w16 S f16 => ?_
    refine S.su2 (j := 9) (by rfl) fun w17 S f17 => ?_
    refine ⟨Rng.i64 (by omega) (by omega), ⟨i + 1, a46, c48, by push_cast; rfl, by omega, ?_⟩, by omega⟩
    have e : iv (List.replicate (i + 1) (-1)) = iv (List.replicate i (-1)) ++ [Value.int .i64 (-1)] := by rw [List.replicate_succ', iv, List.map_append]; rfl
    rw [e]
    exact S.tail
  have hiB : i = B := by omega
  subst hiB
  refine ⟨S.ext, fun h => absurd ⟨hR, hF⟩ h, fun _ => ⟨rfl, b15, ⟨boxS b21 (i * P * Z), boxS b33 (i * P), ⟨a, i, c⟩, boxS b39 i, boxS b41 i, yf, nilS⟩, rfl, hcp.dat, ?_⟩⟩
  have S := (S.nilOwn 106 5).nilL
  have S := S.sel [3, 3, 3, 2, 2, 2, 2, 1, 0] rfl
  refine chip_mk (y := ⟨boxS b21 (i * P * Z), boxS b33 (i * P), ⟨a, i, c⟩, boxS b39 i, boxS b41 i, yf, nilS⟩) (C := newC g (fds x)) (L := []) (Rs := []) S ?_ ?_ ?_ ?_ ?_
  · rw [newC_img, hB', hP', hZ', Nat.mul_assoc]
  · rw [newC_us, hB', hP']
  · rw [newC_la, hB']
  · rw [newC_sc, hB']
  · rw [newC_er, hB']

end Go.Proofs.Ytfpkaebmiojicaa.Vc

/-! The plans of functions as plain statements, printed by wip/tools/vcgen.py; the kernel holds each to the code. -/
namespace Go.Proofs.Ytfpkaebmiojicaa.Vc
open Go Go.Eng
set_option linter.unusedVariables false

/-! ### nepenthe/nepentheref13.blank: function 77 -/
-- loop 0 carries 4: .one (.int .i64)
def ref13_blank.A : Ann := .two .no (.two .no (.two (.two .no (.one (.loop [4, 6, 7, 8, 9, 10, 11, 12, 13, 14, 15, 16, 17, 18, 19, 20, 21, 22, 23, 24, 25] [(4, .one (.int .i64))] (.two .no (.two (.one (.join [12, 13, 14, 15, 16, 17, 18, 19, 20] [] (.draw (.take 0 (.take 2 (.take 3 (.take 4 (.both 1 (.eff 5 (.eff 6 (.eff 7 (.take 8 (.eff 9 (.done)))))) 5 (.both 1 (.eff 6 (.eff 7 (.take 8 (.eff 9 (.done))))) 6 (.eff 1 (.eff 7 (.take 8 (.eff 9 (.done)))))))))))) .no)) .no))))) .no))
def ref13_blank.P (p0_0 : Int) (p0_1 : Int) (p0_2 : Int) (p0_3 : Int) (p0_4 : Int) (p0_5 : Int) (w : World) (K : (SlV × SlV × Int × Bool × Int × Unit) × Unit → World → Prop) : Prop :=
  NewV #[.int .i64 p0_0, .int .i64 p0_1, .int .i64 p0_2, .int .i64 p0_3, .int .i64 p0_4, .int .i64 p0_5] 23 w fun b1 w2 =>
  NewV #[.slice none 0 0, .slice none 0 0, .int .i64 0, .bool false, .int .i64 0] 98 w2 fun b3 w4 =>
  NewV #[.slice none 0 0, .slice none 0 0, .int .i64 0, .bool false, .int .i64 0] 98 w4 fun b5 w6 =>
  StoreV w6 ⟨b5, 0, none⟩ [.slice none 0 0, .slice none 0 0, .int .i64 (-1), .bool false, .int .i64 0] fun w7 =>
  LoopV [.one (.int .i64)] ((0 : Int), ()) w7 fun (z8 : Int × Unit) w9 (K10 : Int × Unit → World → Prop) =>
  LoadS w9 ⟨b1, 1, none⟩ (.int .i64) fun (x11 : Int) =>
  cond (decide (z8.1 < x11))
  (JoinV [] (fun (v13 : Unit) w14 =>
  LoadS w14 ⟨b5, 1, none⟩ .sl fun (x15 : SlV) =>
  NewV #[.int .i64 0] 3 w14 fun b16 w17 =>
  AppS w17 (some ⟨b16, 0, none⟩) 1 1 fun ns22 =>
  AppV w17 3 1 8 x15.a x15.n x15.c ns22 1 fun a18 n19 c20 w21 =>
  StoreV w21 ⟨b5, 1, none⟩ [.slice a18 n19 c20] fun w23 =>
  Rng .i64 (z8.1 + 1) ∧
  K10 (z8.1 + 1, ()) w23) fun (J12 : Unit → World → Prop) =>
  DrawV fun D24 =>
  (D24 b1 ∧ LoadS w9.drew ⟨b1, 2, none⟩ (.int .i64) fun (x25 : Int) =>
  Rng .i64 (x25 + 88) ∧
  ((LoadS w9.drew ⟨b5, 0, none⟩ .sl fun (x26 : SlV) =>
  KeepOn D24 w9.drew w9.drew ∧
  CallV Try.prog 26 #[.int .u8 255, .int .i64 (x25 + 88)] w9.drew [.one .sl] fun (r27 : SlV × Unit) w28 =>
  KeepOn D24 w9.drew w28 ∧
  NewV #[.slice r27.1.a r27.1.n r27.1.c] 28 w28 fun b29 w30 =>
  KeepOn D24 w9.drew w30 ∧
  AppS w30 (some ⟨b29, 0, none⟩) 1 1 fun ns35 =>
  AppV w30 28 1 24 x26.a x26.n x26.c ns35 1 fun a31 n32 c33 w34 =>
  KeepOn D24 w9.drew w34 ∧
  StoreV w34 ⟨b5, 0, none⟩ [.slice a31 n32 c33] fun w36 =>
  KeepOn D24 w9.drew w36 ∧
  J12 (()) w36) ∧
  (CallV Try.prog 26 #[.int .u8 255, .int .i64 (x25 + 88)] w9.drew [.one .sl] fun (r37 : SlV × Unit) w38 =>
  KeepOn D24 w9.drew w38 ∧
  ((LoadS w38 ⟨b5, 0, none⟩ .sl fun (x39 : SlV) =>
  KeepOn D24 w9.drew w38 ∧
  NewV #[.slice r37.1.a r37.1.n r37.1.c] 28 w38 fun b40 w41 =>
  KeepOn D24 w9.drew w41 ∧
  AppS w41 (some ⟨b40, 0, none⟩) 1 1 fun ns46 =>
  AppV w41 28 1 24 x39.a x39.n x39.c ns46 1 fun a42 n43 c44 w45 =>
  KeepOn D24 w9.drew w45 ∧
  StoreV w45 ⟨b5, 0, none⟩ [.slice a42 n43 c44] fun w47 =>
  KeepOn D24 w9.drew w47 ∧
  J12 (()) w47) ∧
  (NewV #[.slice r37.1.a r37.1.n r37.1.c] 28 w38 fun b48 w49 =>
  KeepOn D24 w9.drew w49 ∧
  LoadS w49 ⟨b5, 0, none⟩ .sl fun (x50 : SlV) =>
  KeepOn D24 w9.drew w49 ∧
  AppS w49 (some ⟨b48, 0, none⟩) 1 1 fun ns55 =>
  AppV w49 28 1 24 x50.a x50.n x50.c ns55 1 fun a51 n52 c53 w54 =>
  KeepOn D24 w9.drew w54 ∧
  StoreV w54 ⟨b5, 0, none⟩ [.slice a51 n52 c53] fun w56 =>
  KeepOn D24 w9.drew w56 ∧
  J12 (()) w56))))))
  (LoadA w9 ⟨b5, 0, none⟩ [.sl, .sl, .int .i64, .bool, .int .i64] fun (x57 : SlV × SlV × Int × Bool × Int × Unit) =>
  StoreV w9 ⟨b3, 0, none⟩ [.slice x57.1.a x57.1.n x57.1.c, .slice x57.2.1.a x57.2.1.n x57.2.1.c, .int .i64 x57.2.2.1, .bool x57.2.2.2.1, .int .i64 x57.2.2.2.2.1] fun w58 =>
  LoadA w58 ⟨b3, 0, none⟩ [.sl, .sl, .int .i64, .bool, .int .i64] fun (x59 : SlV × SlV × Int × Bool × Int × Unit) =>
  K ((x59.1, x59.2.1, x59.2.2.1, x59.2.2.2.1, x59.2.2.2.2.1, ()), ()) w58)
theorem ref13_blank.vc (p0_0 : Int) (p0_1 : Int) (p0_2 : Int) (p0_3 : Int) (p0_4 : Int) (p0_5 : Int) (w : World) (K : (SlV × SlV × Int × Bool × Int × Unit) × Unit → World → Prop) (h : ref13_blank.P p0_0 p0_1 p0_2 p0_3 p0_4 p0_5 w K) : CallV Try.prog 77 #[.agg #[.int .i64 p0_0, .int .i64 p0_1, .int .i64 p0_2, .int .i64 p0_3, .int .i64 p0_4, .int .i64 p0_5]] w [.agg [.sl, .sl, .int .i64, .bool, .int .i64]] K := by
  have e : vcFun Try.prog okf false Try.f77 ref13_blank.A #[.agg #[.int .i64 p0_0, .int .i64 p0_1, .int .i64 p0_2, .int .i64 p0_3, .int .i64 p0_4, .int .i64 p0_5]] w [.agg [.sl, .sl, .int .i64, .bool, .int .i64]] K = ref13_blank.P p0_0 p0_1 p0_2 p0_3 p0_4 p0_5 w K := by kernel_rfl
  exact vcFun.calls okf_ok follows Try.func77 (e.symm ▸ h)

/-! ### nepenthe/nepentheref13.New: function 44 -/
-- loop 0 carries 6: .one (.int .i64)
def ref13_New.A : Ann := .two .no (.two .no (.two (.two .no (.one (.loop [6, 10, 11, 12, 13, 14, 15, 16, 17, 18, 19, 20, 21, 22] [(6, .one (.int .i64))] (.two .no (.two (.one (.draw (.take 0 (.take 2 (.both 1 (.eff 3 (.eff 4 (.eff 5 (.take 6 (.eff 7 (.done)))))) 3 (.both 1 (.eff 4 (.eff 5 (.take 6 (.eff 7 (.done))))) 4 (.eff 1 (.eff 5 (.take 6 (.eff 7 (.done))))))))))) .no))))) .no))
def ref13_New.P (p0_0 : Int) (p0_1 : Int) (p0_2 : Int) (p0_3 : Int) (p0_4 : Int) (p0_5 : Int) (a1 : Option Addr) (n1 c1 : Nat) (w : World) (K : (Int × Int × Int × Int × Int × Int × SlV × SlV × Bool × Int × Unit) × Unit → World → Prop) : Prop :=
  NewV #[.int .i64 p0_0, .int .i64 p0_1, .int .i64 p0_2, .int .i64 p0_3, .int .i64 p0_4, .int .i64 p0_5] 23 w fun b1 w2 =>
  NewV #[.int .i64 0, .int .i64 0, .int .i64 0, .int .i64 0, .int .i64 0, .int .i64 0, .slice none 0 0, .slice none 0 0, .bool false, .int .i64 0] 88 w2 fun b3 w4 =>
  LoadA w4 ⟨b1, 0, none⟩ [.int .i64, .int .i64, .int .i64, .int .i64, .int .i64, .int .i64] fun (x5 : Int × Int × Int × Int × Int × Int × Unit) =>
  NewV #[.int .i64 0, .int .i64 0, .int .i64 0, .int .i64 0, .int .i64 0, .int .i64 0, .slice none 0 0, .slice none 0 0, .bool false, .int .i64 0] 88 w4 fun b6 w7 =>
  StoreV w7 ⟨b6, 0, none⟩ [.int .i64 x5.1, .int .i64 x5.2.1, .int .i64 x5.2.2.1, .int .i64 x5.2.2.2.1, .int .i64 x5.2.2.2.2.1, .int .i64 x5.2.2.2.2.2.1, .slice none 0 0, .slice a1 n1 c1, .bool false, .int .i64 0] fun w8 =>
  LoopV [.one (.int .i64)] ((0 : Int), ()) w8 fun (z9 : Int × Unit) w10 (K11 : Int × Unit → World → Prop) =>
  LoadS w10 ⟨b1, 0, none⟩ (.int .i64) fun (x12 : Int) =>
  cond (decide (z9.1 < x12))
  (DrawV fun D13 =>
  (D13 b1 ∧ LoadA w10.drew ⟨b1, 0, none⟩ [.int .i64, .int .i64, .int .i64, .int .i64, .int .i64, .int .i64] fun (x14 : Int × Int × Int × Int × Int × Int × Unit) =>
  ((LoadS w10.drew ⟨b6, 6, none⟩ .sl fun (x15 : SlV) =>
  KeepOn D13 w10.drew w10.drew ∧
  CallV Try.prog 77 #[.agg #[.int .i64 x14.1, .int .i64 x14.2.1, .int .i64 x14.2.2.1, .int .i64 x14.2.2.2.1, .int .i64 x14.2.2.2.2.1, .int .i64 x14.2.2.2.2.2.1]] w10.drew [.agg [.sl, .sl, .int .i64, .bool, .int .i64]] fun (r16 : (SlV × SlV × Int × Bool × Int × Unit) × Unit) w17 =>
  KeepOn D13 w10.drew w17 ∧
  NewV #[.slice r16.1.1.a r16.1.1.n r16.1.1.c, .slice r16.1.2.1.a r16.1.2.1.n r16.1.2.1.c, .int .i64 r16.1.2.2.1, .bool r16.1.2.2.2.1, .int .i64 r16.1.2.2.2.2.1] 98 w17 fun b18 w19 =>
  KeepOn D13 w10.drew w19 ∧
  AppS w19 (some ⟨b18, 0, none⟩) 1 5 fun ns24 =>
  AppV w19 98 5 72 x15.a x15.n x15.c ns24 1 fun a20 n21 c22 w23 =>
  KeepOn D13 w10.drew w23 ∧
  StoreV w23 ⟨b6, 6, none⟩ [.slice a20 n21 c22] fun w25 =>
  KeepOn D13 w10.drew w25 ∧
  Rng .i64 (z9.1 + 1) ∧
  K11 (z9.1 + 1, ()) w25) ∧
  (CallV Try.prog 77 #[.agg #[.int .i64 x14.1, .int .i64 x14.2.1, .int .i64 x14.2.2.1, .int .i64 x14.2.2.2.1, .int .i64 x14.2.2.2.2.1, .int .i64 x14.2.2.2.2.2.1]] w10.drew [.agg [.sl, .sl, .int .i64, .bool, .int .i64]] fun (r26 : (SlV × SlV × Int × Bool × Int × Unit) × Unit) w27 =>
  KeepOn D13 w10.drew w27 ∧
  ((LoadS w27 ⟨b6, 6, none⟩ .sl fun (x28 : SlV) =>
  KeepOn D13 w10.drew w27 ∧
  NewV #[.slice r26.1.1.a r26.1.1.n r26.1.1.c, .slice r26.1.2.1.a r26.1.2.1.n r26.1.2.1.c, .int .i64 r26.1.2.2.1, .bool r26.1.2.2.2.1, .int .i64 r26.1.2.2.2.2.1] 98 w27 fun b29 w30 =>
  KeepOn D13 w10.drew w30 ∧
  AppS w30 (some ⟨b29, 0, none⟩) 1 5 fun ns35 =>
  AppV w30 98 5 72 x28.a x28.n x28.c ns35 1 fun a31 n32 c33 w34 =>
  KeepOn D13 w10.drew w34 ∧
  StoreV w34 ⟨b6, 6, none⟩ [.slice a31 n32 c33] fun w36 =>
  KeepOn D13 w10.drew w36 ∧
  Rng .i64 (z9.1 + 1) ∧
  K11 (z9.1 + 1, ()) w36) ∧
  (NewV #[.slice r26.1.1.a r26.1.1.n r26.1.1.c, .slice r26.1.2.1.a r26.1.2.1.n r26.1.2.1.c, .int .i64 r26.1.2.2.1, .bool r26.1.2.2.2.1, .int .i64 r26.1.2.2.2.2.1] 98 w27 fun b37 w38 =>
  KeepOn D13 w10.drew w38 ∧
  LoadS w38 ⟨b6, 6, none⟩ .sl fun (x39 : SlV) =>
  KeepOn D13 w10.drew w38 ∧
  AppS w38 (some ⟨b37, 0, none⟩) 1 5 fun ns44 =>
  AppV w38 98 5 72 x39.a x39.n x39.c ns44 1 fun a40 n41 c42 w43 =>
  KeepOn D13 w10.drew w43 ∧
  StoreV w43 ⟨b6, 6, none⟩ [.slice a40 n41 c42] fun w45 =>
  KeepOn D13 w10.drew w45 ∧
  Rng .i64 (z9.1 + 1) ∧
  K11 (z9.1 + 1, ()) w45))))))
  (LoadA w10 ⟨b6, 0, none⟩ [.int .i64, .int .i64, .int .i64, .int .i64, .int .i64, .int .i64, .sl, .sl, .bool, .int .i64] fun (x46 : Int × Int × Int × Int × Int × Int × SlV × SlV × Bool × Int × Unit) =>
  StoreV w10 ⟨b3, 0, none⟩ [.int .i64 x46.1, .int .i64 x46.2.1, .int .i64 x46.2.2.1, .int .i64 x46.2.2.2.1, .int .i64 x46.2.2.2.2.1, .int .i64 x46.2.2.2.2.2.1, .slice x46.2.2.2.2.2.2.1.a x46.2.2.2.2.2.2.1.n x46.2.2.2.2.2.2.1.c, .slice x46.2.2.2.2.2.2.2.1.a x46.2.2.2.2.2.2.2.1.n x46.2.2.2.2.2.2.2.1.c, .bool x46.2.2.2.2.2.2.2.2.1, .int .i64 x46.2.2.2.2.2.2.2.2.2.1] fun w47 =>
  LoadA w47 ⟨b3, 0, none⟩ [.int .i64, .int .i64, .int .i64, .int .i64, .int .i64, .int .i64, .sl, .sl, .bool, .int .i64] fun (x48 : Int × Int × Int × Int × Int × Int × SlV × SlV × Bool × Int × Unit) =>
  K ((x48.1, x48.2.1, x48.2.2.1, x48.2.2.2.1, x48.2.2.2.2.1, x48.2.2.2.2.2.1, x48.2.2.2.2.2.2.1, x48.2.2.2.2.2.2.2.1, x48.2.2.2.2.2.2.2.2.1, x48.2.2.2.2.2.2.2.2.2.1, ()), ()) w47)
theorem ref13_New.vc (p0_0 : Int) (p0_1 : Int) (p0_2 : Int) (p0_3 : Int) (p0_4 : Int) (p0_5 : Int) (a1 : Option Addr) (n1 c1 : Nat) (w : World) (K : (Int × Int × Int × Int × Int × Int × SlV × SlV × Bool × Int × Unit) × Unit → World → Prop) (h : ref13_New.P p0_0 p0_1 p0_2 p0_3 p0_4 p0_5 a1 n1 c1 w K) : CallV Try.prog 44 #[.agg #[.int .i64 p0_0, .int .i64 p0_1, .int .i64 p0_2, .int .i64 p0_3, .int .i64 p0_4, .int .i64 p0_5], .slice a1 n1 c1] w [.agg [.int .i64, .int .i64, .int .i64, .int .i64, .int .i64, .int .i64, .sl, .sl, .bool, .int .i64]] K := by
  have e : vcFun Try.prog okf false Try.f44 ref13_New.A #[.agg #[.int .i64 p0_0, .int .i64 p0_1, .int .i64 p0_2, .int .i64 p0_3, .int .i64 p0_4, .int .i64 p0_5], .slice a1 n1 c1] w [.agg [.int .i64, .int .i64, .int .i64, .int .i64, .int .i64, .int .i64, .sl, .sl, .bool, .int .i64]] K = ref13_New.P p0_0 p0_1 p0_2 p0_3 p0_4 p0_5 a1 n1 c1 w K := by kernel_rfl
  exact vcFun.calls okf_ok follows Try.func44 (e.symm ▸ h)

/-! ### nepenthe/nepentheref13.Right: function 47 -/
def ref13_Right.A : Ann := .no
def ref13_Right.P (p0_0 : Int) (p0_1 : Int) (p0_2 : Int) (p0_3 : Int) (p0_4 : Int) (p0_5 : Int) (p1_0 : Int) (p1_1 : Int) (w : World) (K : Bool × Unit → World → Prop) : Prop :=
  NewV #[.int .i64 p0_0, .int .i64 p0_1, .int .i64 p0_2, .int .i64 p0_3, .int .i64 p0_4, .int .i64 p0_5] 23 w fun b1 w2 =>
  NewV #[.int .i64 p1_0, .int .i64 p1_1] 81 w2 fun b3 w4 =>
  LoadA w4 ⟨b1, 0, none⟩ [.int .i64, .int .i64, .int .i64, .int .i64, .int .i64, .int .i64] fun (x5 : Int × Int × Int × Int × Int × Int × Unit) =>
  CallV Try.prog 17 #[.agg #[.int .i64 x5.1, .int .i64 x5.2.1, .int .i64 x5.2.2.1, .int .i64 x5.2.2.2.1, .int .i64 x5.2.2.2.2.1, .int .i64 x5.2.2.2.2.2.1]] w4 [.one .bool] fun (r6 : Bool × Unit) w7 =>
  cond r6.1
  (LoadS w7 ⟨b3, 0, none⟩ (.int .i64) fun (x8 : Int) =>
  cond (decide (x8 ≥ 0))
  (LoadS w7 ⟨b3, 0, none⟩ (.int .i64) fun (x9 : Int) =>
  LoadS w7 ⟨b1, 0, none⟩ (.int .i64) fun (x10 : Int) =>
  cond (decide (x9 < x10))
  (LoadS w7 ⟨b3, 1, none⟩ (.int .i64) fun (x11 : Int) =>
  cond (decide (x11 ≥ 0))
  (LoadS w7 ⟨b3, 1, none⟩ (.int .i64) fun (x12 : Int) =>
  LoadS w7 ⟨b1, 1, none⟩ (.int .i64) fun (x13 : Int) =>
  K (decide (x12 < x13), ()) w7)
  (K (false, ()) w7))
  (K (false, ()) w7))
  (K (false, ()) w7))
  (K (false, ()) w7)
theorem ref13_Right.vc (p0_0 : Int) (p0_1 : Int) (p0_2 : Int) (p0_3 : Int) (p0_4 : Int) (p0_5 : Int) (p1_0 : Int) (p1_1 : Int) (w : World) (K : Bool × Unit → World → Prop) (h : ref13_Right.P p0_0 p0_1 p0_2 p0_3 p0_4 p0_5 p1_0 p1_1 w K) : CallV Try.prog 47 #[.agg #[.int .i64 p0_0, .int .i64 p0_1, .int .i64 p0_2, .int .i64 p0_3, .int .i64 p0_4, .int .i64 p0_5], .agg #[.int .i64 p1_0, .int .i64 p1_1]] w [.one .bool] K := by
  have e : vcFun Try.prog okf false Try.f47 ref13_Right.A #[.agg #[.int .i64 p0_0, .int .i64 p0_1, .int .i64 p0_2, .int .i64 p0_3, .int .i64 p0_4, .int .i64 p0_5], .agg #[.int .i64 p1_0, .int .i64 p1_1]] w [.one .bool] K = ref13_Right.P p0_0 p0_1 p0_2 p0_3 p0_4 p0_5 p1_0 p1_1 w K := by kernel_rfl
  exact vcFun.calls okf_ok follows Try.func47 (e.symm ▸ h)

/-! ### nepenthe/nepentheref13.with: function 109 -/
def ref13_with.A : Ann := .no
def ref13_with.P (p0_0 : Int) (p0_1 : Int) (p0_2 : Int) (p0_3 : Int) (p0_4 : Int) (p0_5 : Int) (a0_6 : Option Addr) (n0_6 c0_6 : Nat) (a0_7 : Option Addr) (n0_7 c0_7 : Nat) (p0_8 : Bool) (p0_9 : Int) (p1 : Int) (a2_0 : Option Addr) (n2_0 c2_0 : Nat) (a2_1 : Option Addr) (n2_1 c2_1 : Nat) (p2_2 : Int) (p2_3 : Bool) (p2_4 : Int) (w : World) (K : (Int × Int × Int × Int × Int × Int × SlV × SlV × Bool × Int × Unit) × Unit → World → Prop) : Prop :=
  NewV #[.int .i64 p0_0, .int .i64 p0_1, .int .i64 p0_2, .int .i64 p0_3, .int .i64 p0_4, .int .i64 p0_5, .slice a0_6 n0_6 c0_6, .slice a0_7 n0_7 c0_7, .bool p0_8, .int .i64 p0_9] 88 w fun b1 w2 =>
  NewV #[.slice a2_0 n2_0 c2_0, .slice a2_1 n2_1 c2_1, .int .i64 p2_2, .bool p2_3, .int .i64 p2_4] 98 w2 fun b3 w4 =>
  NewV #[.int .i64 0, .int .i64 0, .int .i64 0, .int .i64 0, .int .i64 0, .int .i64 0, .slice none 0 0, .slice none 0 0, .bool false, .int .i64 0] 88 w4 fun b5 w6 =>
  NewV #[] 98 w6 fun b7 w8 =>
  LoadS w8 ⟨b1, 6, none⟩ .sl fun (x9 : SlV) =>
  AppS w8 x9.a x9.n 5 fun ns14 =>
  AppV w8 98 5 72 (some ⟨b7, 0, none⟩) 0 0 ns14 x9.n fun a10 n11 c12 w13 =>
  LoadA w13 ⟨b3, 0, none⟩ [.sl, .sl, .int .i64, .bool, .int .i64] fun (x15 : SlV × SlV × Int × Bool × Int × Unit) =>
  (0 ≤ p1 ∧ p1 < ((n11 : Nat) : Int)) ∧ ∃ q16 : Addr, a10 = some q16 ∧
  StoreV w13 (q16.add (p1.toNat * 5)) [.slice x15.1.a x15.1.n x15.1.c, .slice x15.2.1.a x15.2.1.n x15.2.1.c, .int .i64 x15.2.2.1, .bool x15.2.2.2.1, .int .i64 x15.2.2.2.2.1] fun w17 =>
  StoreV w17 ⟨b1, 6, none⟩ [.slice a10 n11 c12] fun w18 =>
  LoadS w18 ⟨b1, 9, none⟩ (.int .i64) fun (x19 : Int) =>
  Rng .i64 (x19 + 1) ∧
  StoreV w18 ⟨b1, 9, none⟩ [.int .i64 (x19 + 1)] fun w20 =>
  LoadA w20 ⟨b1, 0, none⟩ [.int .i64, .int .i64, .int .i64, .int .i64, .int .i64, .int .i64, .sl, .sl, .bool, .int .i64] fun (x21 : Int × Int × Int × Int × Int × Int × SlV × SlV × Bool × Int × Unit) =>
  StoreV w20 ⟨b5, 0, none⟩ [.int .i64 x21.1, .int .i64 x21.2.1, .int .i64 x21.2.2.1, .int .i64 x21.2.2.2.1, .int .i64 x21.2.2.2.2.1, .int .i64 x21.2.2.2.2.2.1, .slice x21.2.2.2.2.2.2.1.a x21.2.2.2.2.2.2.1.n x21.2.2.2.2.2.2.1.c, .slice x21.2.2.2.2.2.2.2.1.a x21.2.2.2.2.2.2.2.1.n x21.2.2.2.2.2.2.2.1.c, .bool x21.2.2.2.2.2.2.2.2.1, .int .i64 x21.2.2.2.2.2.2.2.2.2.1] fun w22 =>
  LoadA w22 ⟨b5, 0, none⟩ [.int .i64, .int .i64, .int .i64, .int .i64, .int .i64, .int .i64, .sl, .sl, .bool, .int .i64] fun (x23 : Int × Int × Int × Int × Int × Int × SlV × SlV × Bool × Int × Unit) =>
  K ((x23.1, x23.2.1, x23.2.2.1, x23.2.2.2.1, x23.2.2.2.2.1, x23.2.2.2.2.2.1, x23.2.2.2.2.2.2.1, x23.2.2.2.2.2.2.2.1, x23.2.2.2.2.2.2.2.2.1, x23.2.2.2.2.2.2.2.2.2.1, ()), ()) w22
theorem ref13_with.vc (p0_0 : Int) (p0_1 : Int) (p0_2 : Int) (p0_3 : Int) (p0_4 : Int) (p0_5 : Int) (a0_6 : Option Addr) (n0_6 c0_6 : Nat) (a0_7 : Option Addr) (n0_7 c0_7 : Nat) (p0_8 : Bool) (p0_9 : Int) (p1 : Int) (a2_0 : Option Addr) (n2_0 c2_0 : Nat) (a2_1 : Option Addr) (n2_1 c2_1 : Nat) (p2_2 : Int) (p2_3 : Bool) (p2_4 : Int) (w : World) (K : (Int × Int × Int × Int × Int × Int × SlV × SlV × Bool × Int × Unit) × Unit → World → Prop) (h : ref13_with.P p0_0 p0_1 p0_2 p0_3 p0_4 p0_5 a0_6 n0_6 c0_6 a0_7 n0_7 c0_7 p0_8 p0_9 p1 a2_0 n2_0 c2_0 a2_1 n2_1 c2_1 p2_2 p2_3 p2_4 w K) : CallV Try.prog 109 #[.agg #[.int .i64 p0_0, .int .i64 p0_1, .int .i64 p0_2, .int .i64 p0_3, .int .i64 p0_4, .int .i64 p0_5, .slice a0_6 n0_6 c0_6, .slice a0_7 n0_7 c0_7, .bool p0_8, .int .i64 p0_9], .int .i64 p1, .agg #[.slice a2_0 n2_0 c2_0, .slice a2_1 n2_1 c2_1, .int .i64 p2_2, .bool p2_3, .int .i64 p2_4]] w [.agg [.int .i64, .int .i64, .int .i64, .int .i64, .int .i64, .int .i64, .sl, .sl, .bool, .int .i64]] K := by
  have e : vcFun Try.prog okf false Try.f109 ref13_with.A #[.agg #[.int .i64 p0_0, .int .i64 p0_1, .int .i64 p0_2, .int .i64 p0_3, .int .i64 p0_4, .int .i64 p0_5, .slice a0_6 n0_6 c0_6, .slice a0_7 n0_7 c0_7, .bool p0_8, .int .i64 p0_9], .int .i64 p1, .agg #[.slice a2_0 n2_0 c2_0, .slice a2_1 n2_1 c2_1, .int .i64 p2_2, .bool p2_3, .int .i64 p2_4]] w [.agg [.int .i64, .int .i64, .int .i64, .int .i64, .int .i64, .int .i64, .sl, .sl, .bool, .int .i64]] K = ref13_with.P p0_0 p0_1 p0_2 p0_3 p0_4 p0_5 a0_6 n0_6 c0_6 a0_7 n0_7 c0_7 p0_8 p0_9 p1 a2_0 n2_0 c2_0 a2_1 n2_1 c2_1 p2_2 p2_3 p2_4 w K := by kernel_rfl
  exact vcFun.calls okf_ok follows Try.func109 (e.symm ▸ h)

/-! ### nepenthe/nepentheref13.code: function 107 -/
def ref13_code.A : Ann := .two .no (.two .no (.two .no (.two (.two .no (.two (.two (.draw (.take 0 (.take 1 (.take 2 (.take 3 (.take 4 (.take 5 (.take 6 (.take 7 (.take 8 (.done))))))))))) .no) .no)) (.two (.draw (.take 0 (.take 1 (.take 2 (.take 3 (.take 4 (.take 5 (.take 6 (.take 7 (.take 8 (.done))))))))))) .no))))
def ref13_code.P (p0_0 : Int) (p0_1 : Int) (p0_2 : Int) (p0_3 : Int) (p0_4 : Int) (p0_5 : Int) (a0_6 : Option Addr) (n0_6 c0_6 : Nat) (a0_7 : Option Addr) (n0_7 c0_7 : Nat) (p0_8 : Bool) (p0_9 : Int) (w : World) (K : Int × SlV × Bool × Unit → World → Prop) : Prop :=
  NewV #[.int .i64 p0_0, .int .i64 p0_1, .int .i64 p0_2, .int .i64 p0_3, .int .i64 p0_4, .int .i64 p0_5, .slice a0_6 n0_6 c0_6, .slice a0_7 n0_7 c0_7, .bool p0_8, .int .i64 p0_9] 88 w fun b1 w2 =>
  LoadS w2 ⟨b1, 7, none⟩ .sl fun (x3 : SlV) =>
  LoadS w2 ⟨b1, 9, none⟩ (.int .i64) fun (x4 : Int) =>
  CallV Try.prog 50 #[.slice x3.a x3.n x3.c, .int .i64 x4] w2 [.one (.int .i64)] fun (r5 : Int × Unit) w6 =>
  cond (decide (r5.1 < 0))
  (K ((0 : Int), (⟨none, 0, 0⟩ : SlV), false, ()) w6)
  (LoadS w6 ⟨b1, 7, none⟩ .sl fun (x7 : SlV) =>
  (0 ≤ r5.1 ∧ r5.1 < ((x7.n : Nat) : Int)) ∧ ∃ q8 : Addr, x7.a = some q8 ∧
  LoadS w6 ((q8.add (r5.1.toNat * 3)).add 1) .bool fun (x9 : Bool) =>
  cond x9
  (DrawV fun D10 =>
  (D10 b1 ∧ LoadS w6.drew ⟨b1, 7, none⟩ .sl fun (x11 : SlV) =>
  (0 ≤ r5.1 ∧ r5.1 < ((x11.n : Nat) : Int)) ∧ ∃ q12 : Addr, x11.a = some q12 ∧
  (D10 ((q12.add (r5.1.toNat * 3)).add 2).block ∧ LoadS w6.drew ((q12.add (r5.1.toNat * 3)).add 2) .sl fun (x13 : SlV) =>
  K ((4 : Int), x13, true, ()) w6.drew)))
  (DrawV fun D14 =>
  (D14 b1 ∧ LoadS w6.drew ⟨b1, 7, none⟩ .sl fun (x15 : SlV) =>
  (0 ≤ r5.1 ∧ r5.1 < ((x15.n : Nat) : Int)) ∧ ∃ q16 : Addr, x15.a = some q16 ∧
  (D14 ((q16.add (r5.1.toNat * 3)).add 2).block ∧ LoadS w6.drew ((q16.add (r5.1.toNat * 3)).add 2) .sl fun (x17 : SlV) =>
  K ((5 : Int), x17, false, ()) w6.drew))))
theorem ref13_code.vc (p0_0 : Int) (p0_1 : Int) (p0_2 : Int) (p0_3 : Int) (p0_4 : Int) (p0_5 : Int) (a0_6 : Option Addr) (n0_6 c0_6 : Nat) (a0_7 : Option Addr) (n0_7 c0_7 : Nat) (p0_8 : Bool) (p0_9 : Int) (w : World) (K : Int × SlV × Bool × Unit → World → Prop) (h : ref13_code.P p0_0 p0_1 p0_2 p0_3 p0_4 p0_5 a0_6 n0_6 c0_6 a0_7 n0_7 c0_7 p0_8 p0_9 w K) : CallV Try.prog 107 #[.agg #[.int .i64 p0_0, .int .i64 p0_1, .int .i64 p0_2, .int .i64 p0_3, .int .i64 p0_4, .int .i64 p0_5, .slice a0_6 n0_6 c0_6, .slice a0_7 n0_7 c0_7, .bool p0_8, .int .i64 p0_9]] w [.one (.int .i64), .one .sl, .one .bool] K := by
  have e : vcFun Try.prog okf false Try.f107 ref13_code.A #[.agg #[.int .i64 p0_0, .int .i64 p0_1, .int .i64 p0_2, .int .i64 p0_3, .int .i64 p0_4, .int .i64 p0_5, .slice a0_6 n0_6 c0_6, .slice a0_7 n0_7 c0_7, .bool p0_8, .int .i64 p0_9]] w [.one (.int .i64), .one .sl, .one .bool] K = ref13_code.P p0_0 p0_1 p0_2 p0_3 p0_4 p0_5 a0_6 n0_6 c0_6 a0_7 n0_7 c0_7 p0_8 p0_9 w K := by kernel_rfl
  exact vcFun.calls okf_ok follows Try.func107 (e.symm ▸ h)

/-! ### nepenthe/nepentheref13.Program: function 78 -/
def ref13_Program.A : Ann := .two .no (.two .no (.two .no (.two .no (.two .no (.join [7, 50, 51, 52, 53, 54, 55, 56, 57, 58, 59, 60, 61, 62, 63, 64] [] .no (.two .no (.two .no (.two .no (.join [13, 80, 81, 82, 83, 84, 85, 86, 87] [(13, .one .sl)] .no .no)))))))))
def ref13_Program.P (p0_0 : Int) (p0_1 : Int) (p0_2 : Int) (p0_3 : Int) (p0_4 : Int) (p0_5 : Int) (a0_6 : Option Addr) (n0_6 c0_6 : Nat) (a0_7 : Option Addr) (n0_7 c0_7 : Nat) (p0_8 : Bool) (p0_9 : Int) (p1_0 : Int) (p1_1 : Int) (a2 : Option Addr) (n2 c2 : Nat) (w : World) (K : (Int × Int × Int × Int × Int × Int × SlV × SlV × Bool × Int × Unit) × Int × Unit → World → Prop) : Prop :=
  NewV #[.int .i64 p0_0, .int .i64 p0_1, .int .i64 p0_2, .int .i64 p0_3, .int .i64 p0_4, .int .i64 p0_5, .slice a0_6 n0_6 c0_6, .slice a0_7 n0_7 c0_7, .bool p0_8, .int .i64 p0_9] 88 w fun b1 w2 =>
  NewV #[.int .i64 p1_0, .int .i64 p1_1] 81 w2 fun b3 w4 =>
  NewV #[.int .i64 0, .int .i64 0, .int .i64 0, .int .i64 0, .int .i64 0, .int .i64 0, .slice none 0 0, .slice none 0 0, .bool false, .int .i64 0] 88 w4 fun b5 w6 =>
  LoadS w6 ⟨b1, 8, none⟩ .bool fun (x7 : Bool) =>
  cond x7
  (LoadA w6 ⟨b1, 0, none⟩ [.int .i64, .int .i64, .int .i64, .int .i64, .int .i64, .int .i64, .sl, .sl, .bool, .int .i64] fun (x8 : Int × Int × Int × Int × Int × Int × SlV × SlV × Bool × Int × Unit) =>
  StoreV w6 ⟨b5, 0, none⟩ [.int .i64 x8.1, .int .i64 x8.2.1, .int .i64 x8.2.2.1, .int .i64 x8.2.2.2.1, .int .i64 x8.2.2.2.2.1, .int .i64 x8.2.2.2.2.2.1, .slice x8.2.2.2.2.2.2.1.a x8.2.2.2.2.2.2.1.n x8.2.2.2.2.2.2.1.c, .slice x8.2.2.2.2.2.2.2.1.a x8.2.2.2.2.2.2.2.1.n x8.2.2.2.2.2.2.2.1.c, .bool x8.2.2.2.2.2.2.2.2.1, .int .i64 x8.2.2.2.2.2.2.2.2.2.1] fun w9 =>
  LoadA w9 ⟨b5, 0, none⟩ [.int .i64, .int .i64, .int .i64, .int .i64, .int .i64, .int .i64, .sl, .sl, .bool, .int .i64] fun (x10 : Int × Int × Int × Int × Int × Int × SlV × SlV × Bool × Int × Unit) =>
  K ((x10.1, x10.2.1, x10.2.2.1, x10.2.2.2.1, x10.2.2.2.2.1, x10.2.2.2.2.2.1, x10.2.2.2.2.2.2.1, x10.2.2.2.2.2.2.2.1, x10.2.2.2.2.2.2.2.2.1, x10.2.2.2.2.2.2.2.2.2.1, ()), (4 : Int), ()) w9)
  (LoadA w6 ⟨b1, 0, none⟩ [.int .i64, .int .i64, .int .i64, .int .i64, .int .i64, .int .i64] fun (x11 : Int × Int × Int × Int × Int × Int × Unit) =>
  LoadA w6 ⟨b3, 0, none⟩ [.int .i64, .int .i64] fun (x12 : Int × Int × Unit) =>
  CallV Try.prog 47 #[.agg #[.int .i64 x11.1, .int .i64 x11.2.1, .int .i64 x11.2.2.1, .int .i64 x11.2.2.2.1, .int .i64 x11.2.2.2.2.1, .int .i64 x11.2.2.2.2.2.1], .agg #[.int .i64 x12.1, .int .i64 x12.2.1]] w6 [.one .bool] fun (r13 : Bool × Unit) w14 =>
  cond (!r13.1)
  (LoadA w14 ⟨b1, 0, none⟩ [.int .i64, .int .i64, .int .i64, .int .i64, .int .i64, .int .i64, .sl, .sl, .bool, .int .i64] fun (x15 : Int × Int × Int × Int × Int × Int × SlV × SlV × Bool × Int × Unit) =>
  StoreV w14 ⟨b5, 0, none⟩ [.int .i64 x15.1, .int .i64 x15.2.1, .int .i64 x15.2.2.1, .int .i64 x15.2.2.2.1, .int .i64 x15.2.2.2.2.1, .int .i64 x15.2.2.2.2.2.1, .slice x15.2.2.2.2.2.2.1.a x15.2.2.2.2.2.2.1.n x15.2.2.2.2.2.2.1.c, .slice x15.2.2.2.2.2.2.2.1.a x15.2.2.2.2.2.2.2.1.n x15.2.2.2.2.2.2.2.1.c, .bool x15.2.2.2.2.2.2.2.2.1, .int .i64 x15.2.2.2.2.2.2.2.2.2.1] fun w16 =>
  LoadA w16 ⟨b5, 0, none⟩ [.int .i64, .int .i64, .int .i64, .int .i64, .int .i64, .int .i64, .sl, .sl, .bool, .int .i64] fun (x17 : Int × Int × Int × Int × Int × Int × SlV × SlV × Bool × Int × Unit) =>
  K ((x17.1, x17.2.1, x17.2.2.1, x17.2.2.2.1, x17.2.2.2.2.1, x17.2.2.2.2.2.1, x17.2.2.2.2.2.2.1, x17.2.2.2.2.2.2.2.1, x17.2.2.2.2.2.2.2.2.1, x17.2.2.2.2.2.2.2.2.2.1, ()), (2 : Int), ()) w16)
  (LoadS w14 ⟨b1, 2, none⟩ (.int .i64) fun (x18 : Int) =>
  Rng .i64 (x18 + 88) ∧
  cond (((n2 : Nat) : Int) != (x18 + 88))
  (LoadA w14 ⟨b1, 0, none⟩ [.int .i64, .int .i64, .int .i64, .int .i64, .int .i64, .int .i64, .sl, .sl, .bool, .int .i64] fun (x19 : Int × Int × Int × Int × Int × Int × SlV × SlV × Bool × Int × Unit) =>
  StoreV w14 ⟨b5, 0, none⟩ [.int .i64 x19.1, .int .i64 x19.2.1, .int .i64 x19.2.2.1, .int .i64 x19.2.2.2.1, .int .i64 x19.2.2.2.2.1, .int .i64 x19.2.2.2.2.2.1, .slice x19.2.2.2.2.2.2.1.a x19.2.2.2.2.2.2.1.n x19.2.2.2.2.2.2.1.c, .slice x19.2.2.2.2.2.2.2.1.a x19.2.2.2.2.2.2.2.1.n x19.2.2.2.2.2.2.2.1.c, .bool x19.2.2.2.2.2.2.2.2.1, .int .i64 x19.2.2.2.2.2.2.2.2.2.1] fun w20 =>
  LoadA w20 ⟨b5, 0, none⟩ [.int .i64, .int .i64, .int .i64, .int .i64, .int .i64, .int .i64, .sl, .sl, .bool, .int .i64] fun (x21 : Int × Int × Int × Int × Int × Int × SlV × SlV × Bool × Int × Unit) =>
  K ((x21.1, x21.2.1, x21.2.2.1, x21.2.2.2.1, x21.2.2.2.2.1, x21.2.2.2.2.2.1, x21.2.2.2.2.2.2.1, x21.2.2.2.2.2.2.2.1, x21.2.2.2.2.2.2.2.2.1, x21.2.2.2.2.2.2.2.2.2.1, ()), (2 : Int), ()) w20)
  (LoadS w14 ⟨b1, 6, none⟩ .sl fun (x22 : SlV) =>
  LoadS w14 ⟨b3, 0, none⟩ (.int .i64) fun (x23 : Int) =>
  (0 ≤ x23 ∧ x23 < ((x22.n : Nat) : Int)) ∧ ∃ q24 : Addr, x22.a = some q24 ∧
  LoadA w14 (q24.add (x23.toNat * 5)) [.sl, .sl, .int .i64, .bool, .int .i64] fun (x25 : SlV × SlV × Int × Bool × Int × Unit) =>
  NewV #[.slice none 0 0, .slice none 0 0, .int .i64 0, .bool false, .int .i64 0] 98 w14 fun b26 w27 =>
  StoreV w27 ⟨b26, 0, none⟩ [.slice x25.1.a x25.1.n x25.1.c, .slice x25.2.1.a x25.2.1.n x25.2.1.c, .int .i64 x25.2.2.1, .bool x25.2.2.2.1, .int .i64 x25.2.2.2.2.1] fun w28 =>
  LoadS w28 ⟨b26, 3, none⟩ .bool fun (x29 : Bool) =>
  cond x29
  (LoadA w28 ⟨b1, 0, none⟩ [.int .i64, .int .i64, .int .i64, .int .i64, .int .i64, .int .i64, .sl, .sl, .bool, .int .i64] fun (x30 : Int × Int × Int × Int × Int × Int × SlV × SlV × Bool × Int × Unit) =>
  StoreV w28 ⟨b5, 0, none⟩ [.int .i64 x30.1, .int .i64 x30.2.1, .int .i64 x30.2.2.1, .int .i64 x30.2.2.2.1, .int .i64 x30.2.2.2.2.1, .int .i64 x30.2.2.2.2.2.1, .slice x30.2.2.2.2.2.2.1.a x30.2.2.2.2.2.2.1.n x30.2.2.2.2.2.2.1.c, .slice x30.2.2.2.2.2.2.2.1.a x30.2.2.2.2.2.2.2.1.n x30.2.2.2.2.2.2.2.1.c, .bool x30.2.2.2.2.2.2.2.2.1, .int .i64 x30.2.2.2.2.2.2.2.2.2.1] fun w31 =>
  LoadA w31 ⟨b5, 0, none⟩ [.int .i64, .int .i64, .int .i64, .int .i64, .int .i64, .int .i64, .sl, .sl, .bool, .int .i64] fun (x32 : Int × Int × Int × Int × Int × Int × SlV × SlV × Bool × Int × Unit) =>
  K ((x32.1, x32.2.1, x32.2.2.1, x32.2.2.2.1, x32.2.2.2.2.1, x32.2.2.2.2.2.1, x32.2.2.2.2.2.2.1, x32.2.2.2.2.2.2.2.1, x32.2.2.2.2.2.2.2.2.1, x32.2.2.2.2.2.2.2.2.2.1, ()), (7 : Int), ()) w31)
  (LoadS w28 ⟨b26, 1, none⟩ .sl fun (x33 : SlV) =>
  LoadS w28 ⟨b3, 1, none⟩ (.int .i64) fun (x34 : Int) =>
  (0 ≤ x34 ∧ x34 < ((x33.n : Nat) : Int)) ∧ ∃ q35 : Addr, x33.a = some q35 ∧
  LoadS w28 (q35.add (x34.toNat * 1)) (.int .i64) fun (x36 : Int) =>
  cond (decide (x36 ≥ 2))
  (LoadA w28 ⟨b1, 0, none⟩ [.int .i64, .int .i64, .int .i64, .int .i64, .int .i64, .int .i64, .sl, .sl, .bool, .int .i64] fun (x37 : Int × Int × Int × Int × Int × Int × SlV × SlV × Bool × Int × Unit) =>
  StoreV w28 ⟨b5, 0, none⟩ [.int .i64 x37.1, .int .i64 x37.2.1, .int .i64 x37.2.2.1, .int .i64 x37.2.2.2.1, .int .i64 x37.2.2.2.2.1, .int .i64 x37.2.2.2.2.2.1, .slice x37.2.2.2.2.2.2.1.a x37.2.2.2.2.2.2.1.n x37.2.2.2.2.2.2.1.c, .slice x37.2.2.2.2.2.2.2.1.a x37.2.2.2.2.2.2.2.1.n x37.2.2.2.2.2.2.2.1.c, .bool x37.2.2.2.2.2.2.2.2.1, .int .i64 x37.2.2.2.2.2.2.2.2.2.1] fun w38 =>
  LoadA w38 ⟨b5, 0, none⟩ [.int .i64, .int .i64, .int .i64, .int .i64, .int .i64, .int .i64, .sl, .sl, .bool, .int .i64] fun (x39 : Int × Int × Int × Int × Int × Int × SlV × SlV × Bool × Int × Unit) =>
  K ((x39.1, x39.2.1, x39.2.2.1, x39.2.2.2.1, x39.2.2.2.2.1, x39.2.2.2.2.2.1, x39.2.2.2.2.2.2.1, x39.2.2.2.2.2.2.2.1, x39.2.2.2.2.2.2.2.2.1, x39.2.2.2.2.2.2.2.2.2.1, ()), (7 : Int), ()) w38)
  (JoinV [] (fun (v41 : Unit) w42 =>
  LoadA w42 ⟨b1, 0, none⟩ [.int .i64, .int .i64, .int .i64, .int .i64, .int .i64, .int .i64, .sl, .sl, .bool, .int .i64] fun (x43 : Int × Int × Int × Int × Int × Int × SlV × SlV × Bool × Int × Unit) =>
  CallV Try.prog 107 #[.agg #[.int .i64 x43.1, .int .i64 x43.2.1, .int .i64 x43.2.2.1, .int .i64 x43.2.2.2.1, .int .i64 x43.2.2.2.2.1, .int .i64 x43.2.2.2.2.2.1, .slice x43.2.2.2.2.2.2.1.a x43.2.2.2.2.2.2.1.n x43.2.2.2.2.2.2.1.c, .slice x43.2.2.2.2.2.2.2.1.a x43.2.2.2.2.2.2.2.1.n x43.2.2.2.2.2.2.2.1.c, .bool x43.2.2.2.2.2.2.2.2.1, .int .i64 x43.2.2.2.2.2.2.2.2.2.1]] w42 [.one (.int .i64), .one .sl, .one .bool] fun (r44 : Int × SlV × Bool × Unit) w45 =>
  LoadS w45 ⟨b26, 0, none⟩ .sl fun (x46 : SlV) =>
  LoadS w45 ⟨b3, 1, none⟩ (.int .i64) fun (x47 : Int) =>
  (0 ≤ x47 ∧ x47 < ((x46.n : Nat) : Int)) ∧ ∃ q48 : Addr, x46.a = some q48 ∧
  LoadS w45 (q48.add (x47.toNat * 1)) .sl fun (x49 : SlV) =>
  CallV Try.prog 30 #[.slice x49.a x49.n x49.c, .slice a2 n2 c2] w45 [.one .sl] fun (r50 : SlV × Unit) w51 =>
  JoinV [.one .sl] (fun (v53 : SlV × Unit) w54 =>
  NewV #[] 28 w54 fun b55 w56 =>
  LoadS w56 ⟨b26, 0, none⟩ .sl fun (x57 : SlV) =>
  AppS w56 x57.a x57.n 1 fun ns62 =>
  AppV w56 28 1 24 (some ⟨b55, 0, none⟩) 0 0 ns62 x57.n fun a58 n59 c60 w61 =>
  StoreV w61 ⟨b26, 0, none⟩ [.slice a58 n59 c60] fun w63 =>
  NewV #[] 3 w63 fun b64 w65 =>
  LoadS w65 ⟨b26, 1, none⟩ .sl fun (x66 : SlV) =>
  AppS w65 x66.a x66.n 1 fun ns71 =>
  AppV w65 3 1 8 (some ⟨b64, 0, none⟩) 0 0 ns71 x66.n fun a67 n68 c69 w70 =>
  StoreV w70 ⟨b26, 1, none⟩ [.slice a67 n68 c69] fun w72 =>
  LoadS w72 ⟨b26, 0, none⟩ .sl fun (x73 : SlV) =>
  LoadS w72 ⟨b3, 1, none⟩ (.int .i64) fun (x74 : Int) =>
  (0 ≤ x74 ∧ x74 < ((x73.n : Nat) : Int)) ∧ ∃ q75 : Addr, x73.a = some q75 ∧
  StoreV w72 (q75.add (x74.toNat * 1)) [.slice v53.1.a v53.1.n v53.1.c] fun w76 =>
  LoadS w76 ⟨b26, 1, none⟩ .sl fun (x77 : SlV) =>
  LoadS w76 ⟨b3, 1, none⟩ (.int .i64) fun (x78 : Int) =>
  (0 ≤ x78 ∧ x78 < ((x77.n : Nat) : Int)) ∧ ∃ q79 : Addr, x77.a = some q79 ∧
  LoadS w76 (q79.add (x78.toNat * 1)) (.int .i64) fun (x80 : Int) =>
  Rng .i64 (x80 + 1) ∧
  (0 ≤ x78 ∧ x78 < ((x77.n : Nat) : Int)) ∧ ∃ q81 : Addr, x77.a = some q81 ∧
  StoreV w76 (q81.add (x78.toNat * 1)) [.int .i64 (x80 + 1)] fun w82 =>
  LoadS w82 ⟨b26, 2, none⟩ (.int .i64) fun (x83 : Int) =>
  LoadS w82 ⟨b3, 1, none⟩ (.int .i64) fun (x84 : Int) =>
  NameI (max x83 x84) fun z85 =>
  StoreV w82 ⟨b26, 2, none⟩ [.int .i64 z85] fun w86 =>
  LoadA w86 ⟨b1, 0, none⟩ [.int .i64, .int .i64, .int .i64, .int .i64, .int .i64, .int .i64, .sl, .sl, .bool, .int .i64] fun (x87 : Int × Int × Int × Int × Int × Int × SlV × SlV × Bool × Int × Unit) =>
  LoadS w86 ⟨b3, 0, none⟩ (.int .i64) fun (x88 : Int) =>
  LoadA w86 ⟨b26, 0, none⟩ [.sl, .sl, .int .i64, .bool, .int .i64] fun (x89 : SlV × SlV × Int × Bool × Int × Unit) =>
  CallV Try.prog 109 #[.agg #[.int .i64 x87.1, .int .i64 x87.2.1, .int .i64 x87.2.2.1, .int .i64 x87.2.2.2.1, .int .i64 x87.2.2.2.2.1, .int .i64 x87.2.2.2.2.2.1, .slice x87.2.2.2.2.2.2.1.a x87.2.2.2.2.2.2.1.n x87.2.2.2.2.2.2.1.c, .slice x87.2.2.2.2.2.2.2.1.a x87.2.2.2.2.2.2.2.1.n x87.2.2.2.2.2.2.2.1.c, .bool x87.2.2.2.2.2.2.2.2.1, .int .i64 x87.2.2.2.2.2.2.2.2.2.1], .int .i64 x88, .agg #[.slice x89.1.a x89.1.n x89.1.c, .slice x89.2.1.a x89.2.1.n x89.2.1.c, .int .i64 x89.2.2.1, .bool x89.2.2.2.1, .int .i64 x89.2.2.2.2.1]] w86 [.agg [.int .i64, .int .i64, .int .i64, .int .i64, .int .i64, .int .i64, .sl, .sl, .bool, .int .i64]] fun (r90 : (Int × Int × Int × Int × Int × Int × SlV × SlV × Bool × Int × Unit) × Unit) w91 =>
  StoreV w91 ⟨b1, 0, none⟩ [.int .i64 r90.1.1, .int .i64 r90.1.2.1, .int .i64 r90.1.2.2.1, .int .i64 r90.1.2.2.2.1, .int .i64 r90.1.2.2.2.2.1, .int .i64 r90.1.2.2.2.2.2.1, .slice r90.1.2.2.2.2.2.2.1.a r90.1.2.2.2.2.2.2.1.n r90.1.2.2.2.2.2.2.1.c, .slice r90.1.2.2.2.2.2.2.2.1.a r90.1.2.2.2.2.2.2.2.1.n r90.1.2.2.2.2.2.2.2.1.c, .bool r90.1.2.2.2.2.2.2.2.2.1, .int .i64 r90.1.2.2.2.2.2.2.2.2.2.1] fun w92 =>
  StoreV w92 ⟨b1, 8, none⟩ [.bool r44.2.2.1] fun w93 =>
  LoadA w93 ⟨b1, 0, none⟩ [.int .i64, .int .i64, .int .i64, .int .i64, .int .i64, .int .i64, .sl, .sl, .bool, .int .i64] fun (x94 : Int × Int × Int × Int × Int × Int × SlV × SlV × Bool × Int × Unit) =>
  StoreV w93 ⟨b5, 0, none⟩ [.int .i64 x94.1, .int .i64 x94.2.1, .int .i64 x94.2.2.1, .int .i64 x94.2.2.2.1, .int .i64 x94.2.2.2.2.1, .int .i64 x94.2.2.2.2.2.1, .slice x94.2.2.2.2.2.2.1.a x94.2.2.2.2.2.2.1.n x94.2.2.2.2.2.2.1.c, .slice x94.2.2.2.2.2.2.2.1.a x94.2.2.2.2.2.2.2.1.n x94.2.2.2.2.2.2.2.1.c, .bool x94.2.2.2.2.2.2.2.2.1, .int .i64 x94.2.2.2.2.2.2.2.2.2.1] fun w95 =>
  LoadA w95 ⟨b5, 0, none⟩ [.int .i64, .int .i64, .int .i64, .int .i64, .int .i64, .int .i64, .sl, .sl, .bool, .int .i64] fun (x96 : Int × Int × Int × Int × Int × Int × SlV × SlV × Bool × Int × Unit) =>
  K ((x96.1, x96.2.1, x96.2.2.1, x96.2.2.2.1, x96.2.2.2.2.1, x96.2.2.2.2.2.1, x96.2.2.2.2.2.2.1, x96.2.2.2.2.2.2.2.1, x96.2.2.2.2.2.2.2.2.1, x96.2.2.2.2.2.2.2.2.2.1, ()), r44.1, ()) w95) fun (J52 : SlV × Unit → World → Prop) =>
  cond (r44.1 != 0)
  (CallV Try.prog 108 #[.slice x49.a x49.n x49.c, .slice a2 n2 c2, .slice r44.2.1.a r44.2.1.n r44.2.1.c, .bool (!r44.2.2.1)] w51 [.one .sl] fun (r97 : SlV × Unit) w98 =>
  J52 (r97.1, ()) w98)
  (J52 (r50.1, ()) w51)) fun (J40 : Unit → World → Prop) =>
  LoadS w28 ⟨b26, 1, none⟩ .sl fun (x99 : SlV) =>
  LoadS w28 ⟨b3, 1, none⟩ (.int .i64) fun (x100 : Int) =>
  (0 ≤ x100 ∧ x100 < ((x99.n : Nat) : Int)) ∧ ∃ q101 : Addr, x99.a = some q101 ∧
  LoadS w28 (q101.add (x100.toNat * 1)) (.int .i64) fun (x102 : Int) =>
  cond (x102 == 0)
  (LoadS w28 ⟨b3, 1, none⟩ (.int .i64) fun (x103 : Int) =>
  LoadS w28 ⟨b26, 2, none⟩ (.int .i64) fun (x104 : Int) =>
  cond (decide (x103 ≤ x104))
  (LoadA w28 ⟨b1, 0, none⟩ [.int .i64, .int .i64, .int .i64, .int .i64, .int .i64, .int .i64, .sl, .sl, .bool, .int .i64] fun (x105 : Int × Int × Int × Int × Int × Int × SlV × SlV × Bool × Int × Unit) =>
  StoreV w28 ⟨b5, 0, none⟩ [.int .i64 x105.1, .int .i64 x105.2.1, .int .i64 x105.2.2.1, .int .i64 x105.2.2.2.1, .int .i64 x105.2.2.2.2.1, .int .i64 x105.2.2.2.2.2.1, .slice x105.2.2.2.2.2.2.1.a x105.2.2.2.2.2.2.1.n x105.2.2.2.2.2.2.1.c, .slice x105.2.2.2.2.2.2.2.1.a x105.2.2.2.2.2.2.2.1.n x105.2.2.2.2.2.2.2.1.c, .bool x105.2.2.2.2.2.2.2.2.1, .int .i64 x105.2.2.2.2.2.2.2.2.2.1] fun w106 =>
  LoadA w106 ⟨b5, 0, none⟩ [.int .i64, .int .i64, .int .i64, .int .i64, .int .i64, .int .i64, .sl, .sl, .bool, .int .i64] fun (x107 : Int × Int × Int × Int × Int × Int × SlV × SlV × Bool × Int × Unit) =>
  K ((x107.1, x107.2.1, x107.2.2.1, x107.2.2.2.1, x107.2.2.2.2.1, x107.2.2.2.2.2.1, x107.2.2.2.2.2.2.1, x107.2.2.2.2.2.2.2.1, x107.2.2.2.2.2.2.2.2.1, x107.2.2.2.2.2.2.2.2.2.1, ()), (6 : Int), ()) w106)
  (J40 (()) w28))
  (J40 (()) w28))))))
theorem ref13_Program.vc (p0_0 : Int) (p0_1 : Int) (p0_2 : Int) (p0_3 : Int) (p0_4 : Int) (p0_5 : Int) (a0_6 : Option Addr) (n0_6 c0_6 : Nat) (a0_7 : Option Addr) (n0_7 c0_7 : Nat) (p0_8 : Bool) (p0_9 : Int) (p1_0 : Int) (p1_1 : Int) (a2 : Option Addr) (n2 c2 : Nat) (w : World) (K : (Int × Int × Int × Int × Int × Int × SlV × SlV × Bool × Int × Unit) × Int × Unit → World → Prop) (h : ref13_Program.P p0_0 p0_1 p0_2 p0_3 p0_4 p0_5 a0_6 n0_6 c0_6 a0_7 n0_7 c0_7 p0_8 p0_9 p1_0 p1_1 a2 n2 c2 w K) : CallV Try.prog 78 #[.agg #[.int .i64 p0_0, .int .i64 p0_1, .int .i64 p0_2, .int .i64 p0_3, .int .i64 p0_4, .int .i64 p0_5, .slice a0_6 n0_6 c0_6, .slice a0_7 n0_7 c0_7, .bool p0_8, .int .i64 p0_9], .agg #[.int .i64 p1_0, .int .i64 p1_1], .slice a2 n2 c2] w [.agg [.int .i64, .int .i64, .int .i64, .int .i64, .int .i64, .int .i64, .sl, .sl, .bool, .int .i64], .one (.int .i64)] K := by
  have e : vcFun Try.prog okf false Try.f78 ref13_Program.A #[.agg #[.int .i64 p0_0, .int .i64 p0_1, .int .i64 p0_2, .int .i64 p0_3, .int .i64 p0_4, .int .i64 p0_5, .slice a0_6 n0_6 c0_6, .slice a0_7 n0_7 c0_7, .bool p0_8, .int .i64 p0_9], .agg #[.int .i64 p1_0, .int .i64 p1_1], .slice a2 n2 c2] w [.agg [.int .i64, .int .i64, .int .i64, .int .i64, .int .i64, .int .i64, .sl, .sl, .bool, .int .i64], .one (.int .i64)] K = ref13_Program.P p0_0 p0_1 p0_2 p0_3 p0_4 p0_5 a0_6 n0_6 c0_6 a0_7 n0_7 c0_7 p0_8 p0_9 p1_0 p1_1 a2 n2 c2 w K := by kernel_rfl
  exact vcFun.calls okf_ok follows Try.func78 (e.symm ▸ h)

/-! ### nepenthe/nepentheref13.joined: function 88 -/
-- loop 0 carries 3: .one .sl, 4: .one (.int .i64)
def ref13_joined.A : Ann := .two .no (.two .no (.two (.two .no (.one (.loop [3, 4, 6, 7, 8, 9, 10, 11, 12, 13, 14, 15, 16, 17, 18, 19] [(3, .one .sl), (4, .one (.int .i64))] .no))) .no))
def ref13_joined.P (a0_0 : Option Addr) (n0_0 c0_0 : Nat) (a0_1 : Option Addr) (n0_1 c0_1 : Nat) (p0_2 : Int) (p0_3 : Bool) (p0_4 : Int) (w : World) (K : SlV × Unit → World → Prop) : Prop :=
  NewV #[.slice a0_0 n0_0 c0_0, .slice a0_1 n0_1 c0_1, .int .i64 p0_2, .bool p0_3, .int .i64 p0_4] 98 w fun b1 w2 =>
  NewV #[] 5 w2 fun b3 w4 =>
  LoopV [.one .sl, .one (.int .i64)] ((⟨(some ⟨b3, 0, none⟩), 0, 0⟩ : SlV), (0 : Int), ()) w4 fun (z5 : SlV × Int × Unit) w6 (K7 : SlV × Int × Unit → World → Prop) =>
  LoadS w6 ⟨b1, 0, none⟩ .sl fun (x8 : SlV) =>
  cond (decide (z5.2.1 < ((x8.n : Nat) : Int)))
  (LoadS w6 ⟨b1, 0, none⟩ .sl fun (x9 : SlV) =>
  (0 ≤ z5.2.1 ∧ z5.2.1 < ((x9.n : Nat) : Int)) ∧ ∃ q10 : Addr, x9.a = some q10 ∧
  LoadS w6 (q10.add (z5.2.1.toNat * 1)) .sl fun (x11 : SlV) =>
  AppS w6 x11.a x11.n 1 fun ns16 =>
  AppV w6 5 1 1 z5.1.a z5.1.n z5.1.c ns16 x11.n fun a12 n13 c14 w15 =>
  Rng .i64 (z5.2.1 + 1) ∧
  K7 ((⟨a12, n13, c14⟩ : SlV), z5.2.1 + 1, ()) w15)
  (K (z5.1, ()) w6)
theorem ref13_joined.vc (a0_0 : Option Addr) (n0_0 c0_0 : Nat) (a0_1 : Option Addr) (n0_1 c0_1 : Nat) (p0_2 : Int) (p0_3 : Bool) (p0_4 : Int) (w : World) (K : SlV × Unit → World → Prop) (h : ref13_joined.P a0_0 n0_0 c0_0 a0_1 n0_1 c0_1 p0_2 p0_3 p0_4 w K) : CallV Try.prog 88 #[.agg #[.slice a0_0 n0_0 c0_0, .slice a0_1 n0_1 c0_1, .int .i64 p0_2, .bool p0_3, .int .i64 p0_4]] w [.one .sl] K := by
  have e : vcFun Try.prog okf false Try.f88 ref13_joined.A #[.agg #[.slice a0_0 n0_0 c0_0, .slice a0_1 n0_1 c0_1, .int .i64 p0_2, .bool p0_3, .int .i64 p0_4]] w [.one .sl] K = ref13_joined.P a0_0 n0_0 c0_0 a0_1 n0_1 c0_1 p0_2 p0_3 p0_4 w K := by kernel_rfl
  exact vcFun.calls okf_ok follows Try.func88 (e.symm ▸ h)

/-! ### nepenthe/nepentheref13.cut: function 110 -/
-- loop 0 carries 5: .one .sl, 7: .one (.int .i64)
def ref13_cut.A : Ann := .two .no (.two .no (.two .no (.two (.two .no (.one (.loop [5, 7, 13, 14, 15, 16, 17, 18, 19, 20, 21, 22, 23, 24, 25, 26, 27, 28, 29, 30] [(5, .one .sl), (7, .one (.int .i64))] .no))) .no)))
def ref13_cut.P (a0 : Option Addr) (n0 c0 : Nat) (p1 : Int) (w : World) (K : SlV × Unit → World → Prop) : Prop :=
  NewV #[] 28 w fun b1 w2 =>
  p1 ≠ (0 : Int) ∧ Rng .i64 (Int.tdiv ((n0 : Nat) : Int) p1) ∧
  LoopV [.one .sl, .one (.int .i64)] ((⟨(some ⟨b1, 0, none⟩), 0, 0⟩ : SlV), (0 : Int), ()) w2 fun (z3 : SlV × Int × Unit) w4 (K5 : SlV × Int × Unit → World → Prop) =>
  cond (decide (z3.2.1 < p1))
  (Rng .i64 (z3.2.1 * (Int.tdiv ((n0 : Nat) : Int) p1)) ∧
  Rng .i64 (z3.2.1 * (Int.tdiv ((n0 : Nat) : Int) p1)) ∧
  Rng .i64 ((z3.2.1 * (Int.tdiv ((n0 : Nat) : Int) p1)) + (Int.tdiv ((n0 : Nat) : Int) p1)) ∧
  ((0 : Int) ≤ (z3.2.1 * (Int.tdiv ((n0 : Nat) : Int) p1)) ∧ (z3.2.1 * (Int.tdiv ((n0 : Nat) : Int) p1)) ≤ ((z3.2.1 * (Int.tdiv ((n0 : Nat) : Int) p1)) + (Int.tdiv ((n0 : Nat) : Int) p1)) ∧ ((z3.2.1 * (Int.tdiv ((n0 : Nat) : Int) p1)) + (Int.tdiv ((n0 : Nat) : Int) p1)) ≤ ((c0 : Nat) : Int)) ∧
  SubK a0 ((z3.2.1 * (Int.tdiv ((n0 : Nat) : Int) p1)).toNat) c0 1 fun a6 =>
  NewV #[.slice a6 ((((z3.2.1 * (Int.tdiv ((n0 : Nat) : Int) p1)) + (Int.tdiv ((n0 : Nat) : Int) p1)).toNat) - ((z3.2.1 * (Int.tdiv ((n0 : Nat) : Int) p1)).toNat)) (c0 - ((z3.2.1 * (Int.tdiv ((n0 : Nat) : Int) p1)).toNat))] 28 w4 fun b7 w8 =>
  AppS w8 (some ⟨b7, 0, none⟩) 1 1 fun ns13 =>
  AppV w8 28 1 24 z3.1.a z3.1.n z3.1.c ns13 1 fun a9 n10 c11 w12 =>
  Rng .i64 (z3.2.1 + 1) ∧
  K5 ((⟨a9, n10, c11⟩ : SlV), z3.2.1 + 1, ()) w12)
  (K (z3.1, ()) w4)
theorem ref13_cut.vc (a0 : Option Addr) (n0 c0 : Nat) (p1 : Int) (w : World) (K : SlV × Unit → World → Prop) (h : ref13_cut.P a0 n0 c0 p1 w K) : CallV Try.prog 110 #[.slice a0 n0 c0, .int .i64 p1] w [.one .sl] K := by
  have e : vcFun Try.prog okf false Try.f110 ref13_cut.A #[.slice a0 n0 c0, .int .i64 p1] w [.one .sl] K = ref13_cut.P a0 n0 c0 p1 w K := by kernel_rfl
  exact vcFun.calls okf_ok follows Try.func110 (e.symm ▸ h)

/-! ### nepenthe/nepentheref13.Erase: function 79 -/
def ref13_Erase.A : Ann := .two .no (.two .no (.two .no (.two .no (.two .no (.two .no (.two (.draw (.take 2 (.take 4 (.take 5 (.take 6 (.eff 0 (.eff 1 (.eff 3 (.eff 7 (.take 8 (.eff 9 (.done)))))))))))) .no))))))
def ref13_Erase.P (p0_0 : Int) (p0_1 : Int) (p0_2 : Int) (p0_3 : Int) (p0_4 : Int) (p0_5 : Int) (a0_6 : Option Addr) (n0_6 c0_6 : Nat) (a0_7 : Option Addr) (n0_7 c0_7 : Nat) (p0_8 : Bool) (p0_9 : Int) (p1 : Int) (w : World) (K : (Int × Int × Int × Int × Int × Int × SlV × SlV × Bool × Int × Unit) × Int × Unit → World → Prop) : Prop :=
  NewV #[.int .i64 p0_0, .int .i64 p0_1, .int .i64 p0_2, .int .i64 p0_3, .int .i64 p0_4, .int .i64 p0_5, .slice a0_6 n0_6 c0_6, .slice a0_7 n0_7 c0_7, .bool p0_8, .int .i64 p0_9] 88 w fun b1 w2 =>
  NewV #[.int .i64 0, .int .i64 0, .int .i64 0, .int .i64 0, .int .i64 0, .int .i64 0, .slice none 0 0, .slice none 0 0, .bool false, .int .i64 0] 88 w2 fun b3 w4 =>
  LoadS w4 ⟨b1, 8, none⟩ .bool fun (x5 : Bool) =>
  cond x5
  (LoadA w4 ⟨b1, 0, none⟩ [.int .i64, .int .i64, .int .i64, .int .i64, .int .i64, .int .i64, .sl, .sl, .bool, .int .i64] fun (x6 : Int × Int × Int × Int × Int × Int × SlV × SlV × Bool × Int × Unit) =>
  StoreV w4 ⟨b3, 0, none⟩ [.int .i64 x6.1, .int .i64 x6.2.1, .int .i64 x6.2.2.1, .int .i64 x6.2.2.2.1, .int .i64 x6.2.2.2.2.1, .int .i64 x6.2.2.2.2.2.1, .slice x6.2.2.2.2.2.2.1.a x6.2.2.2.2.2.2.1.n x6.2.2.2.2.2.2.1.c, .slice x6.2.2.2.2.2.2.2.1.a x6.2.2.2.2.2.2.2.1.n x6.2.2.2.2.2.2.2.1.c, .bool x6.2.2.2.2.2.2.2.2.1, .int .i64 x6.2.2.2.2.2.2.2.2.2.1] fun w7 =>
  LoadA w7 ⟨b3, 0, none⟩ [.int .i64, .int .i64, .int .i64, .int .i64, .int .i64, .int .i64, .sl, .sl, .bool, .int .i64] fun (x8 : Int × Int × Int × Int × Int × Int × SlV × SlV × Bool × Int × Unit) =>
  K ((x8.1, x8.2.1, x8.2.2.1, x8.2.2.2.1, x8.2.2.2.2.1, x8.2.2.2.2.2.1, x8.2.2.2.2.2.2.1, x8.2.2.2.2.2.2.2.1, x8.2.2.2.2.2.2.2.2.1, x8.2.2.2.2.2.2.2.2.2.1, ()), (4 : Int), ()) w7)
  (cond (decide (p1 < 0))
  (LoadA w4 ⟨b1, 0, none⟩ [.int .i64, .int .i64, .int .i64, .int .i64, .int .i64, .int .i64, .sl, .sl, .bool, .int .i64] fun (x9 : Int × Int × Int × Int × Int × Int × SlV × SlV × Bool × Int × Unit) =>
  StoreV w4 ⟨b3, 0, none⟩ [.int .i64 x9.1, .int .i64 x9.2.1, .int .i64 x9.2.2.1, .int .i64 x9.2.2.2.1, .int .i64 x9.2.2.2.2.1, .int .i64 x9.2.2.2.2.2.1, .slice x9.2.2.2.2.2.2.1.a x9.2.2.2.2.2.2.1.n x9.2.2.2.2.2.2.1.c, .slice x9.2.2.2.2.2.2.2.1.a x9.2.2.2.2.2.2.2.1.n x9.2.2.2.2.2.2.2.1.c, .bool x9.2.2.2.2.2.2.2.2.1, .int .i64 x9.2.2.2.2.2.2.2.2.2.1] fun w10 =>
  LoadA w10 ⟨b3, 0, none⟩ [.int .i64, .int .i64, .int .i64, .int .i64, .int .i64, .int .i64, .sl, .sl, .bool, .int .i64] fun (x11 : Int × Int × Int × Int × Int × Int × SlV × SlV × Bool × Int × Unit) =>
  K ((x11.1, x11.2.1, x11.2.2.1, x11.2.2.2.1, x11.2.2.2.2.1, x11.2.2.2.2.2.1, x11.2.2.2.2.2.2.1, x11.2.2.2.2.2.2.2.1, x11.2.2.2.2.2.2.2.2.1, x11.2.2.2.2.2.2.2.2.2.1, ()), (2 : Int), ()) w10)
  (LoadS w4 ⟨b1, 6, none⟩ .sl fun (x12 : SlV) =>
  cond (decide (p1 ≥ ((x12.n : Nat) : Int)))
  (LoadA w4 ⟨b1, 0, none⟩ [.int .i64, .int .i64, .int .i64, .int .i64, .int .i64, .int .i64, .sl, .sl, .bool, .int .i64] fun (x13 : Int × Int × Int × Int × Int × Int × SlV × SlV × Bool × Int × Unit) =>
  StoreV w4 ⟨b3, 0, none⟩ [.int .i64 x13.1, .int .i64 x13.2.1, .int .i64 x13.2.2.1, .int .i64 x13.2.2.2.1, .int .i64 x13.2.2.2.2.1, .int .i64 x13.2.2.2.2.2.1, .slice x13.2.2.2.2.2.2.1.a x13.2.2.2.2.2.2.1.n x13.2.2.2.2.2.2.1.c, .slice x13.2.2.2.2.2.2.2.1.a x13.2.2.2.2.2.2.2.1.n x13.2.2.2.2.2.2.2.1.c, .bool x13.2.2.2.2.2.2.2.2.1, .int .i64 x13.2.2.2.2.2.2.2.2.2.1] fun w14 =>
  LoadA w14 ⟨b3, 0, none⟩ [.int .i64, .int .i64, .int .i64, .int .i64, .int .i64, .int .i64, .sl, .sl, .bool, .int .i64] fun (x15 : Int × Int × Int × Int × Int × Int × SlV × SlV × Bool × Int × Unit) =>
  K ((x15.1, x15.2.1, x15.2.2.1, x15.2.2.2.1, x15.2.2.2.2.1, x15.2.2.2.2.2.1, x15.2.2.2.2.2.2.1, x15.2.2.2.2.2.2.2.1, x15.2.2.2.2.2.2.2.2.1, x15.2.2.2.2.2.2.2.2.2.1, ()), (2 : Int), ()) w14)
  (LoadA w4 ⟨b1, 0, none⟩ [.int .i64, .int .i64, .int .i64, .int .i64, .int .i64, .int .i64, .sl, .sl, .bool, .int .i64] fun (x16 : Int × Int × Int × Int × Int × Int × SlV × SlV × Bool × Int × Unit) =>
  CallV Try.prog 107 #[.agg #[.int .i64 x16.1, .int .i64 x16.2.1, .int .i64 x16.2.2.1, .int .i64 x16.2.2.2.1, .int .i64 x16.2.2.2.2.1, .int .i64 x16.2.2.2.2.2.1, .slice x16.2.2.2.2.2.2.1.a x16.2.2.2.2.2.2.1.n x16.2.2.2.2.2.2.1.c, .slice x16.2.2.2.2.2.2.2.1.a x16.2.2.2.2.2.2.2.1.n x16.2.2.2.2.2.2.2.1.c, .bool x16.2.2.2.2.2.2.2.2.1, .int .i64 x16.2.2.2.2.2.2.2.2.2.1]] w4 [.one (.int .i64), .one .sl, .one .bool] fun (r17 : Int × SlV × Bool × Unit) w18 =>
  LoadS w18 ⟨b1, 6, none⟩ .sl fun (x19 : SlV) =>
  (0 ≤ p1 ∧ p1 < ((x19.n : Nat) : Int)) ∧ ∃ q20 : Addr, x19.a = some q20 ∧
  LoadA w18 (q20.add (p1.toNat * 5)) [.sl, .sl, .int .i64, .bool, .int .i64] fun (x21 : SlV × SlV × Int × Bool × Int × Unit) =>
  NewV #[.slice none 0 0, .slice none 0 0, .int .i64 0, .bool false, .int .i64 0] 98 w18 fun b22 w23 =>
  StoreV w23 ⟨b22, 0, none⟩ [.slice x21.1.a x21.1.n x21.1.c, .slice x21.2.1.a x21.2.1.n x21.2.1.c, .int .i64 x21.2.2.1, .bool x21.2.2.2.1, .int .i64 x21.2.2.2.2.1] fun w24 =>
  cond (r17.1 == 0)
  (LoadA w24 ⟨b1, 0, none⟩ [.int .i64, .int .i64, .int .i64, .int .i64, .int .i64, .int .i64] fun (x25 : Int × Int × Int × Int × Int × Int × Unit) =>
  CallV Try.prog 77 #[.agg #[.int .i64 x25.1, .int .i64 x25.2.1, .int .i64 x25.2.2.1, .int .i64 x25.2.2.2.1, .int .i64 x25.2.2.2.2.1, .int .i64 x25.2.2.2.2.2.1]] w24 [.agg [.sl, .sl, .int .i64, .bool, .int .i64]] fun (r26 : (SlV × SlV × Int × Bool × Int × Unit) × Unit) w27 =>
  NewV #[.slice none 0 0, .slice none 0 0, .int .i64 0, .bool false, .int .i64 0] 98 w27 fun b28 w29 =>
  StoreV w29 ⟨b28, 0, none⟩ [.slice r26.1.1.a r26.1.1.n r26.1.1.c, .slice r26.1.2.1.a r26.1.2.1.n r26.1.2.1.c, .int .i64 r26.1.2.2.1, .bool r26.1.2.2.2.1, .int .i64 r26.1.2.2.2.2.1] fun w30 =>
  LoadS w30 ⟨b22, 4, none⟩ (.int .i64) fun (x31 : Int) =>
  Rng .i64 (x31 + 1) ∧
  StoreV w30 ⟨b28, 4, none⟩ [.int .i64 (x31 + 1)] fun w32 =>
  LoadA w32 ⟨b1, 0, none⟩ [.int .i64, .int .i64, .int .i64, .int .i64, .int .i64, .int .i64, .sl, .sl, .bool, .int .i64] fun (x33 : Int × Int × Int × Int × Int × Int × SlV × SlV × Bool × Int × Unit) =>
  LoadA w32 ⟨b28, 0, none⟩ [.sl, .sl, .int .i64, .bool, .int .i64] fun (x34 : SlV × SlV × Int × Bool × Int × Unit) =>
  CallV Try.prog 109 #[.agg #[.int .i64 x33.1, .int .i64 x33.2.1, .int .i64 x33.2.2.1, .int .i64 x33.2.2.2.1, .int .i64 x33.2.2.2.2.1, .int .i64 x33.2.2.2.2.2.1, .slice x33.2.2.2.2.2.2.1.a x33.2.2.2.2.2.2.1.n x33.2.2.2.2.2.2.1.c, .slice x33.2.2.2.2.2.2.2.1.a x33.2.2.2.2.2.2.2.1.n x33.2.2.2.2.2.2.2.1.c, .bool x33.2.2.2.2.2.2.2.2.1, .int .i64 x33.2.2.2.2.2.2.2.2.2.1], .int .i64 p1, .agg #[.slice x34.1.a x34.1.n x34.1.c, .slice x34.2.1.a x34.2.1.n x34.2.1.c, .int .i64 x34.2.2.1, .bool x34.2.2.2.1, .int .i64 x34.2.2.2.2.1]] w32 [.agg [.int .i64, .int .i64, .int .i64, .int .i64, .int .i64, .int .i64, .sl, .sl, .bool, .int .i64]] fun (r35 : (Int × Int × Int × Int × Int × Int × SlV × SlV × Bool × Int × Unit) × Unit) w36 =>
  StoreV w36 ⟨b3, 0, none⟩ [.int .i64 r35.1.1, .int .i64 r35.1.2.1, .int .i64 r35.1.2.2.1, .int .i64 r35.1.2.2.2.1, .int .i64 r35.1.2.2.2.2.1, .int .i64 r35.1.2.2.2.2.2.1, .slice r35.1.2.2.2.2.2.2.1.a r35.1.2.2.2.2.2.2.1.n r35.1.2.2.2.2.2.2.1.c, .slice r35.1.2.2.2.2.2.2.2.1.a r35.1.2.2.2.2.2.2.2.1.n r35.1.2.2.2.2.2.2.2.1.c, .bool r35.1.2.2.2.2.2.2.2.2.1, .int .i64 r35.1.2.2.2.2.2.2.2.2.2.1] fun w37 =>
  LoadA w37 ⟨b3, 0, none⟩ [.int .i64, .int .i64, .int .i64, .int .i64, .int .i64, .int .i64, .sl, .sl, .bool, .int .i64] fun (x38 : Int × Int × Int × Int × Int × Int × SlV × SlV × Bool × Int × Unit) =>
  K ((x38.1, x38.2.1, x38.2.2.1, x38.2.2.2.1, x38.2.2.2.2.1, x38.2.2.2.2.2.1, x38.2.2.2.2.2.2.1, x38.2.2.2.2.2.2.2.1, x38.2.2.2.2.2.2.2.2.1, x38.2.2.2.2.2.2.2.2.2.1, ()), r17.1, ()) w37)
  (DrawV fun D39 =>
  (D39 b1 ∧ LoadS w24.drew ⟨b1, 1, none⟩ (.int .i64) fun (x40 : Int) =>
  LoadA w24.drew ⟨b22, 0, none⟩ [.sl, .sl, .int .i64, .bool, .int .i64] fun (x41 : SlV × SlV × Int × Bool × Int × Unit) =>
  KeepOn D39 w24.drew w24.drew ∧
  CallV Try.prog 88 #[.agg #[.slice x41.1.a x41.1.n x41.1.c, .slice x41.2.1.a x41.2.1.n x41.2.1.c, .int .i64 x41.2.2.1, .bool x41.2.2.2.1, .int .i64 x41.2.2.2.2.1]] w24.drew [.one .sl] fun (r42 : SlV × Unit) w43 =>
  KeepOn D39 w24.drew w43 ∧
  CallV Try.prog 111 #[.slice r42.1.a r42.1.n r42.1.c, .slice r17.2.1.a r17.2.1.n r17.2.1.c] w43 [.one .sl] fun (r44 : SlV × Unit) w45 =>
  KeepOn D39 w24.drew w45 ∧
  CallV Try.prog 110 #[.slice r44.1.a r44.1.n r44.1.c, .int .i64 x40] w45 [.one .sl] fun (r46 : SlV × Unit) w47 =>
  KeepOn D39 w24.drew w47 ∧
  StoreV w47 ⟨b22, 0, none⟩ [.slice r46.1.a r46.1.n r46.1.c] fun w48 =>
  KeepOn D39 w24.drew w48 ∧
  LoadS w48 ⟨b22, 4, none⟩ (.int .i64) fun (x49 : Int) =>
  Rng .i64 (x49 + 1) ∧
  StoreV w48 ⟨b22, 4, none⟩ [.int .i64 (x49 + 1)] fun w50 =>
  LoadA w50 ⟨b1, 0, none⟩ [.int .i64, .int .i64, .int .i64, .int .i64, .int .i64, .int .i64, .sl, .sl, .bool, .int .i64] fun (x51 : Int × Int × Int × Int × Int × Int × SlV × SlV × Bool × Int × Unit) =>
  LoadA w50 ⟨b22, 0, none⟩ [.sl, .sl, .int .i64, .bool, .int .i64] fun (x52 : SlV × SlV × Int × Bool × Int × Unit) =>
  CallV Try.prog 109 #[.agg #[.int .i64 x51.1, .int .i64 x51.2.1, .int .i64 x51.2.2.1, .int .i64 x51.2.2.2.1, .int .i64 x51.2.2.2.2.1, .int .i64 x51.2.2.2.2.2.1, .slice x51.2.2.2.2.2.2.1.a x51.2.2.2.2.2.2.1.n x51.2.2.2.2.2.2.1.c, .slice x51.2.2.2.2.2.2.2.1.a x51.2.2.2.2.2.2.2.1.n x51.2.2.2.2.2.2.2.1.c, .bool x51.2.2.2.2.2.2.2.2.1, .int .i64 x51.2.2.2.2.2.2.2.2.2.1], .int .i64 p1, .agg #[.slice x52.1.a x52.1.n x52.1.c, .slice x52.2.1.a x52.2.1.n x52.2.1.c, .int .i64 x52.2.2.1, .bool x52.2.2.2.1, .int .i64 x52.2.2.2.2.1]] w50 [.agg [.int .i64, .int .i64, .int .i64, .int .i64, .int .i64, .int .i64, .sl, .sl, .bool, .int .i64]] fun (r53 : (Int × Int × Int × Int × Int × Int × SlV × SlV × Bool × Int × Unit) × Unit) w54 =>
  StoreV w54 ⟨b1, 0, none⟩ [.int .i64 r53.1.1, .int .i64 r53.1.2.1, .int .i64 r53.1.2.2.1, .int .i64 r53.1.2.2.2.1, .int .i64 r53.1.2.2.2.2.1, .int .i64 r53.1.2.2.2.2.2.1, .slice r53.1.2.2.2.2.2.2.1.a r53.1.2.2.2.2.2.2.1.n r53.1.2.2.2.2.2.2.1.c, .slice r53.1.2.2.2.2.2.2.2.1.a r53.1.2.2.2.2.2.2.2.1.n r53.1.2.2.2.2.2.2.2.1.c, .bool r53.1.2.2.2.2.2.2.2.2.1, .int .i64 r53.1.2.2.2.2.2.2.2.2.2.1] fun w55 =>
  StoreV w55 ⟨b1, 8, none⟩ [.bool r17.2.2.1] fun w56 =>
  LoadA w56 ⟨b1, 0, none⟩ [.int .i64, .int .i64, .int .i64, .int .i64, .int .i64, .int .i64, .sl, .sl, .bool, .int .i64] fun (x57 : Int × Int × Int × Int × Int × Int × SlV × SlV × Bool × Int × Unit) =>
  StoreV w56 ⟨b3, 0, none⟩ [.int .i64 x57.1, .int .i64 x57.2.1, .int .i64 x57.2.2.1, .int .i64 x57.2.2.2.1, .int .i64 x57.2.2.2.2.1, .int .i64 x57.2.2.2.2.2.1, .slice x57.2.2.2.2.2.2.1.a x57.2.2.2.2.2.2.1.n x57.2.2.2.2.2.2.1.c, .slice x57.2.2.2.2.2.2.2.1.a x57.2.2.2.2.2.2.2.1.n x57.2.2.2.2.2.2.2.1.c, .bool x57.2.2.2.2.2.2.2.2.1, .int .i64 x57.2.2.2.2.2.2.2.2.2.1] fun w58 =>
  LoadA w58 ⟨b3, 0, none⟩ [.int .i64, .int .i64, .int .i64, .int .i64, .int .i64, .int .i64, .sl, .sl, .bool, .int .i64] fun (x59 : Int × Int × Int × Int × Int × Int × SlV × SlV × Bool × Int × Unit) =>
  K ((x59.1, x59.2.1, x59.2.2.1, x59.2.2.2.1, x59.2.2.2.2.1, x59.2.2.2.2.2.1, x59.2.2.2.2.2.2.1, x59.2.2.2.2.2.2.2.1, x59.2.2.2.2.2.2.2.2.1, x59.2.2.2.2.2.2.2.2.2.1, ()), r17.1, ()) w58)))))
theorem ref13_Erase.vc (p0_0 : Int) (p0_1 : Int) (p0_2 : Int) (p0_3 : Int) (p0_4 : Int) (p0_5 : Int) (a0_6 : Option Addr) (n0_6 c0_6 : Nat) (a0_7 : Option Addr) (n0_7 c0_7 : Nat) (p0_8 : Bool) (p0_9 : Int) (p1 : Int) (w : World) (K : (Int × Int × Int × Int × Int × Int × SlV × SlV × Bool × Int × Unit) × Int × Unit → World → Prop) (h : ref13_Erase.P p0_0 p0_1 p0_2 p0_3 p0_4 p0_5 a0_6 n0_6 c0_6 a0_7 n0_7 c0_7 p0_8 p0_9 p1 w K) : CallV Try.prog 79 #[.agg #[.int .i64 p0_0, .int .i64 p0_1, .int .i64 p0_2, .int .i64 p0_3, .int .i64 p0_4, .int .i64 p0_5, .slice a0_6 n0_6 c0_6, .slice a0_7 n0_7 c0_7, .bool p0_8, .int .i64 p0_9], .int .i64 p1] w [.agg [.int .i64, .int .i64, .int .i64, .int .i64, .int .i64, .int .i64, .sl, .sl, .bool, .int .i64], .one (.int .i64)] K := by
  have e : vcFun Try.prog okf false Try.f79 ref13_Erase.A #[.agg #[.int .i64 p0_0, .int .i64 p0_1, .int .i64 p0_2, .int .i64 p0_3, .int .i64 p0_4, .int .i64 p0_5, .slice a0_6 n0_6 c0_6, .slice a0_7 n0_7 c0_7, .bool p0_8, .int .i64 p0_9], .int .i64 p1] w [.agg [.int .i64, .int .i64, .int .i64, .int .i64, .int .i64, .int .i64, .sl, .sl, .bool, .int .i64], .one (.int .i64)] K = ref13_Erase.P p0_0 p0_1 p0_2 p0_3 p0_4 p0_5 a0_6 n0_6 c0_6 a0_7 n0_7 c0_7 p0_8 p0_9 p1 w K := by kernel_rfl
  exact vcFun.calls okf_ok follows Try.func79 (e.symm ▸ h)

/-! ### nepenthe/nepentheref13.Scrub: function 81 -/
-- loop 0 carries 11: .one .sl, 12: .one (.int .i64)
def ref13_Scrub.A : Ann := .two .no (.two .no (.two .no (.two .no (.two .no (.two .no (.two .no (.two .no (.two (.two .no (.one (.loop [11, 12, 41, 42, 43, 44, 45, 46, 47, 48, 49] [(11, .one .sl), (12, .one (.int .i64))] .no))) (.join [11, 50, 51, 52, 53, 54, 55] [(11, .one .sl)] .no .no)))))))))
def ref13_Scrub.P (p0_0 : Int) (p0_1 : Int) (p0_2 : Int) (p0_3 : Int) (p0_4 : Int) (p0_5 : Int) (a0_6 : Option Addr) (n0_6 c0_6 : Nat) (a0_7 : Option Addr) (n0_7 c0_7 : Nat) (p0_8 : Bool) (p0_9 : Int) (p1 : Int) (w : World) (K : (Int × Int × Int × Int × Int × Int × SlV × SlV × Bool × Int × Unit) × Int × Unit → World → Prop) : Prop :=
  NewV #[.int .i64 p0_0, .int .i64 p0_1, .int .i64 p0_2, .int .i64 p0_3, .int .i64 p0_4, .int .i64 p0_5, .slice a0_6 n0_6 c0_6, .slice a0_7 n0_7 c0_7, .bool p0_8, .int .i64 p0_9] 88 w fun b1 w2 =>
  NewV #[.int .i64 0, .int .i64 0, .int .i64 0, .int .i64 0, .int .i64 0, .int .i64 0, .slice none 0 0, .slice none 0 0, .bool false, .int .i64 0] 88 w2 fun b3 w4 =>
  LoadS w4 ⟨b1, 8, none⟩ .bool fun (x5 : Bool) =>
  cond x5
  (LoadA w4 ⟨b1, 0, none⟩ [.int .i64, .int .i64, .int .i64, .int .i64, .int .i64, .int .i64, .sl, .sl, .bool, .int .i64] fun (x6 : Int × Int × Int × Int × Int × Int × SlV × SlV × Bool × Int × Unit) =>
  StoreV w4 ⟨b3, 0, none⟩ [.int .i64 x6.1, .int .i64 x6.2.1, .int .i64 x6.2.2.1, .int .i64 x6.2.2.2.1, .int .i64 x6.2.2.2.2.1, .int .i64 x6.2.2.2.2.2.1, .slice x6.2.2.2.2.2.2.1.a x6.2.2.2.2.2.2.1.n x6.2.2.2.2.2.2.1.c, .slice x6.2.2.2.2.2.2.2.1.a x6.2.2.2.2.2.2.2.1.n x6.2.2.2.2.2.2.2.1.c, .bool x6.2.2.2.2.2.2.2.2.1, .int .i64 x6.2.2.2.2.2.2.2.2.2.1] fun w7 =>
  LoadA w7 ⟨b3, 0, none⟩ [.int .i64, .int .i64, .int .i64, .int .i64, .int .i64, .int .i64, .sl, .sl, .bool, .int .i64] fun (x8 : Int × Int × Int × Int × Int × Int × SlV × SlV × Bool × Int × Unit) =>
  K ((x8.1, x8.2.1, x8.2.2.1, x8.2.2.2.1, x8.2.2.2.2.1, x8.2.2.2.2.2.1, x8.2.2.2.2.2.2.1, x8.2.2.2.2.2.2.2.1, x8.2.2.2.2.2.2.2.2.1, x8.2.2.2.2.2.2.2.2.2.1, ()), (4 : Int), ()) w7)
  (cond (decide (p1 < 0))
  (LoadA w4 ⟨b1, 0, none⟩ [.int .i64, .int .i64, .int .i64, .int .i64, .int .i64, .int .i64, .sl, .sl, .bool, .int .i64] fun (x9 : Int × Int × Int × Int × Int × Int × SlV × SlV × Bool × Int × Unit) =>
  StoreV w4 ⟨b3, 0, none⟩ [.int .i64 x9.1, .int .i64 x9.2.1, .int .i64 x9.2.2.1, .int .i64 x9.2.2.2.1, .int .i64 x9.2.2.2.2.1, .int .i64 x9.2.2.2.2.2.1, .slice x9.2.2.2.2.2.2.1.a x9.2.2.2.2.2.2.1.n x9.2.2.2.2.2.2.1.c, .slice x9.2.2.2.2.2.2.2.1.a x9.2.2.2.2.2.2.2.1.n x9.2.2.2.2.2.2.2.1.c, .bool x9.2.2.2.2.2.2.2.2.1, .int .i64 x9.2.2.2.2.2.2.2.2.2.1] fun w10 =>
  LoadA w10 ⟨b3, 0, none⟩ [.int .i64, .int .i64, .int .i64, .int .i64, .int .i64, .int .i64, .sl, .sl, .bool, .int .i64] fun (x11 : Int × Int × Int × Int × Int × Int × SlV × SlV × Bool × Int × Unit) =>
  K ((x11.1, x11.2.1, x11.2.2.1, x11.2.2.2.1, x11.2.2.2.2.1, x11.2.2.2.2.2.1, x11.2.2.2.2.2.2.1, x11.2.2.2.2.2.2.2.1, x11.2.2.2.2.2.2.2.2.1, x11.2.2.2.2.2.2.2.2.2.1, ()), (2 : Int), ()) w10)
  (LoadS w4 ⟨b1, 6, none⟩ .sl fun (x12 : SlV) =>
  cond (decide (p1 ≥ ((x12.n : Nat) : Int)))
  (LoadA w4 ⟨b1, 0, none⟩ [.int .i64, .int .i64, .int .i64, .int .i64, .int .i64, .int .i64, .sl, .sl, .bool, .int .i64] fun (x13 : Int × Int × Int × Int × Int × Int × SlV × SlV × Bool × Int × Unit) =>
  StoreV w4 ⟨b3, 0, none⟩ [.int .i64 x13.1, .int .i64 x13.2.1, .int .i64 x13.2.2.1, .int .i64 x13.2.2.2.1, .int .i64 x13.2.2.2.2.1, .int .i64 x13.2.2.2.2.2.1, .slice x13.2.2.2.2.2.2.1.a x13.2.2.2.2.2.2.1.n x13.2.2.2.2.2.2.1.c, .slice x13.2.2.2.2.2.2.2.1.a x13.2.2.2.2.2.2.2.1.n x13.2.2.2.2.2.2.2.1.c, .bool x13.2.2.2.2.2.2.2.2.1, .int .i64 x13.2.2.2.2.2.2.2.2.2.1] fun w14 =>
  LoadA w14 ⟨b3, 0, none⟩ [.int .i64, .int .i64, .int .i64, .int .i64, .int .i64, .int .i64, .sl, .sl, .bool, .int .i64] fun (x15 : Int × Int × Int × Int × Int × Int × SlV × SlV × Bool × Int × Unit) =>
  K ((x15.1, x15.2.1, x15.2.2.1, x15.2.2.2.1, x15.2.2.2.2.1, x15.2.2.2.2.2.1, x15.2.2.2.2.2.2.1, x15.2.2.2.2.2.2.2.1, x15.2.2.2.2.2.2.2.2.1, x15.2.2.2.2.2.2.2.2.2.1, ()), (2 : Int), ()) w14)
  (LoadA w4 ⟨b1, 0, none⟩ [.int .i64, .int .i64, .int .i64, .int .i64, .int .i64, .int .i64, .sl, .sl, .bool, .int .i64] fun (x16 : Int × Int × Int × Int × Int × Int × SlV × SlV × Bool × Int × Unit) =>
  CallV Try.prog 107 #[.agg #[.int .i64 x16.1, .int .i64 x16.2.1, .int .i64 x16.2.2.1, .int .i64 x16.2.2.2.1, .int .i64 x16.2.2.2.2.1, .int .i64 x16.2.2.2.2.2.1, .slice x16.2.2.2.2.2.2.1.a x16.2.2.2.2.2.2.1.n x16.2.2.2.2.2.2.1.c, .slice x16.2.2.2.2.2.2.2.1.a x16.2.2.2.2.2.2.2.1.n x16.2.2.2.2.2.2.2.1.c, .bool x16.2.2.2.2.2.2.2.2.1, .int .i64 x16.2.2.2.2.2.2.2.2.2.1]] w4 [.one (.int .i64), .one .sl, .one .bool] fun (r17 : Int × SlV × Bool × Unit) w18 =>
  LoadS w18 ⟨b1, 6, none⟩ .sl fun (x19 : SlV) =>
  (0 ≤ p1 ∧ p1 < ((x19.n : Nat) : Int)) ∧ ∃ q20 : Addr, x19.a = some q20 ∧
  LoadA w18 (q20.add (p1.toNat * 5)) [.sl, .sl, .int .i64, .bool, .int .i64] fun (x21 : SlV × SlV × Int × Bool × Int × Unit) =>
  NewV #[.slice none 0 0, .slice none 0 0, .int .i64 0, .bool false, .int .i64 0] 98 w18 fun b22 w23 =>
  StoreV w23 ⟨b22, 0, none⟩ [.slice x21.1.a x21.1.n x21.1.c, .slice x21.2.1.a x21.2.1.n x21.2.1.c, .int .i64 x21.2.2.1, .bool x21.2.2.2.1, .int .i64 x21.2.2.2.2.1] fun w24 =>
  StoreV w24 ⟨b22, 3, none⟩ [.bool true] fun w25 =>
  LoadA w25 ⟨b22, 0, none⟩ [.sl, .sl, .int .i64, .bool, .int .i64] fun (x26 : SlV × SlV × Int × Bool × Int × Unit) =>
  CallV Try.prog 88 #[.agg #[.slice x26.1.a x26.1.n x26.1.c, .slice x26.2.1.a x26.2.1.n x26.2.1.c, .int .i64 x26.2.2.1, .bool x26.2.2.2.1, .int .i64 x26.2.2.2.2.1]] w25 [.one .sl] fun (r27 : SlV × Unit) w28 =>
  CallV Try.prog 26 #[.int .u8 0, .int .i64 0] w28 [.one .sl] fun (r29 : SlV × Unit) w30 =>
  LoopV [.one .sl, .one (.int .i64)] (r29.1, (0 : Int), ()) w30 fun (z31 : SlV × Int × Unit) w32 (K33 : SlV × Int × Unit → World → Prop) =>
  cond (decide (z31.2.1 < ((r27.1.n : Nat) : Int)))
  (NewV #[.int .u8 0] 5 w32 fun b34 w35 =>
  AppS w35 (some ⟨b34, 0, none⟩) 1 1 fun ns40 =>
  AppV w35 5 1 1 z31.1.a z31.1.n z31.1.c ns40 1 fun a36 n37 c38 w39 =>
  Rng .i64 (z31.2.1 + 1) ∧
  K33 ((⟨a36, n37, c38⟩ : SlV), z31.2.1 + 1, ()) w39)
  (JoinV [.one .sl] (fun (v42 : SlV × Unit) w43 =>
  LoadS w43 ⟨b1, 1, none⟩ (.int .i64) fun (x44 : Int) =>
  CallV Try.prog 110 #[.slice v42.1.a v42.1.n v42.1.c, .int .i64 x44] w43 [.one .sl] fun (r45 : SlV × Unit) w46 =>
  StoreV w46 ⟨b22, 0, none⟩ [.slice r45.1.a r45.1.n r45.1.c] fun w47 =>
  LoadA w47 ⟨b1, 0, none⟩ [.int .i64, .int .i64, .int .i64, .int .i64, .int .i64, .int .i64, .sl, .sl, .bool, .int .i64] fun (x48 : Int × Int × Int × Int × Int × Int × SlV × SlV × Bool × Int × Unit) =>
  LoadA w47 ⟨b22, 0, none⟩ [.sl, .sl, .int .i64, .bool, .int .i64] fun (x49 : SlV × SlV × Int × Bool × Int × Unit) =>
  CallV Try.prog 109 #[.agg #[.int .i64 x48.1, .int .i64 x48.2.1, .int .i64 x48.2.2.1, .int .i64 x48.2.2.2.1, .int .i64 x48.2.2.2.2.1, .int .i64 x48.2.2.2.2.2.1, .slice x48.2.2.2.2.2.2.1.a x48.2.2.2.2.2.2.1.n x48.2.2.2.2.2.2.1.c, .slice x48.2.2.2.2.2.2.2.1.a x48.2.2.2.2.2.2.2.1.n x48.2.2.2.2.2.2.2.1.c, .bool x48.2.2.2.2.2.2.2.2.1, .int .i64 x48.2.2.2.2.2.2.2.2.2.1], .int .i64 p1, .agg #[.slice x49.1.a x49.1.n x49.1.c, .slice x49.2.1.a x49.2.1.n x49.2.1.c, .int .i64 x49.2.2.1, .bool x49.2.2.2.1, .int .i64 x49.2.2.2.2.1]] w47 [.agg [.int .i64, .int .i64, .int .i64, .int .i64, .int .i64, .int .i64, .sl, .sl, .bool, .int .i64]] fun (r50 : (Int × Int × Int × Int × Int × Int × SlV × SlV × Bool × Int × Unit) × Unit) w51 =>
  StoreV w51 ⟨b1, 0, none⟩ [.int .i64 r50.1.1, .int .i64 r50.1.2.1, .int .i64 r50.1.2.2.1, .int .i64 r50.1.2.2.2.1, .int .i64 r50.1.2.2.2.2.1, .int .i64 r50.1.2.2.2.2.2.1, .slice r50.1.2.2.2.2.2.2.1.a r50.1.2.2.2.2.2.2.1.n r50.1.2.2.2.2.2.2.1.c, .slice r50.1.2.2.2.2.2.2.2.1.a r50.1.2.2.2.2.2.2.2.1.n r50.1.2.2.2.2.2.2.2.1.c, .bool r50.1.2.2.2.2.2.2.2.2.1, .int .i64 r50.1.2.2.2.2.2.2.2.2.2.1] fun w52 =>
  StoreV w52 ⟨b1, 8, none⟩ [.bool r17.2.2.1] fun w53 =>
  LoadA w53 ⟨b1, 0, none⟩ [.int .i64, .int .i64, .int .i64, .int .i64, .int .i64, .int .i64, .sl, .sl, .bool, .int .i64] fun (x54 : Int × Int × Int × Int × Int × Int × SlV × SlV × Bool × Int × Unit) =>
  StoreV w53 ⟨b3, 0, none⟩ [.int .i64 x54.1, .int .i64 x54.2.1, .int .i64 x54.2.2.1, .int .i64 x54.2.2.2.1, .int .i64 x54.2.2.2.2.1, .int .i64 x54.2.2.2.2.2.1, .slice x54.2.2.2.2.2.2.1.a x54.2.2.2.2.2.2.1.n x54.2.2.2.2.2.2.1.c, .slice x54.2.2.2.2.2.2.2.1.a x54.2.2.2.2.2.2.2.1.n x54.2.2.2.2.2.2.2.1.c, .bool x54.2.2.2.2.2.2.2.2.1, .int .i64 x54.2.2.2.2.2.2.2.2.2.1] fun w55 =>
  LoadA w55 ⟨b3, 0, none⟩ [.int .i64, .int .i64, .int .i64, .int .i64, .int .i64, .int .i64, .sl, .sl, .bool, .int .i64] fun (x56 : Int × Int × Int × Int × Int × Int × SlV × SlV × Bool × Int × Unit) =>
  K ((x56.1, x56.2.1, x56.2.2.1, x56.2.2.2.1, x56.2.2.2.2.1, x56.2.2.2.2.2.1, x56.2.2.2.2.2.2.1, x56.2.2.2.2.2.2.2.1, x56.2.2.2.2.2.2.2.2.1, x56.2.2.2.2.2.2.2.2.2.1, ()), r17.1, ()) w55) fun (J41 : SlV × Unit → World → Prop) =>
  cond (r17.1 != 0)
  (CallV Try.prog 108 #[.slice r27.1.a r27.1.n r27.1.c, .slice z31.1.a z31.1.n z31.1.c, .slice r17.2.1.a r17.2.1.n r17.2.1.c, .bool false] w32 [.one .sl] fun (r57 : SlV × Unit) w58 =>
  J41 (r57.1, ()) w58)
  (J41 (z31.1, ()) w32)))))
theorem ref13_Scrub.vc (p0_0 : Int) (p0_1 : Int) (p0_2 : Int) (p0_3 : Int) (p0_4 : Int) (p0_5 : Int) (a0_6 : Option Addr) (n0_6 c0_6 : Nat) (a0_7 : Option Addr) (n0_7 c0_7 : Nat) (p0_8 : Bool) (p0_9 : Int) (p1 : Int) (w : World) (K : (Int × Int × Int × Int × Int × Int × SlV × SlV × Bool × Int × Unit) × Int × Unit → World → Prop) (h : ref13_Scrub.P p0_0 p0_1 p0_2 p0_3 p0_4 p0_5 a0_6 n0_6 c0_6 a0_7 n0_7 c0_7 p0_8 p0_9 p1 w K) : CallV Try.prog 81 #[.agg #[.int .i64 p0_0, .int .i64 p0_1, .int .i64 p0_2, .int .i64 p0_3, .int .i64 p0_4, .int .i64 p0_5, .slice a0_6 n0_6 c0_6, .slice a0_7 n0_7 c0_7, .bool p0_8, .int .i64 p0_9], .int .i64 p1] w [.agg [.int .i64, .int .i64, .int .i64, .int .i64, .int .i64, .int .i64, .sl, .sl, .bool, .int .i64], .one (.int .i64)] K := by
  have e : vcFun Try.prog okf false Try.f81 ref13_Scrub.A #[.agg #[.int .i64 p0_0, .int .i64 p0_1, .int .i64 p0_2, .int .i64 p0_3, .int .i64 p0_4, .int .i64 p0_5, .slice a0_6 n0_6 c0_6, .slice a0_7 n0_7 c0_7, .bool p0_8, .int .i64 p0_9], .int .i64 p1] w [.agg [.int .i64, .int .i64, .int .i64, .int .i64, .int .i64, .int .i64, .sl, .sl, .bool, .int .i64], .one (.int .i64)] K = ref13_Scrub.P p0_0 p0_1 p0_2 p0_3 p0_4 p0_5 a0_6 n0_6 c0_6 a0_7 n0_7 c0_7 p0_8 p0_9 p1 w K := by kernel_rfl
  exact vcFun.calls okf_ok follows Try.func81 (e.symm ▸ h)

/-! ### nepenthe/nepentheref13.Image: function 56 -/
-- loop 0 carries 3: .one .sl, 4: .one (.int .i64)
def ref13_Image.A : Ann := .two .no (.two .no (.two (.two .no (.one (.loop [3, 4, 6, 7, 8, 9, 10, 11, 12, 13, 14, 15, 16, 17, 18, 19, 20] [(3, .one .sl), (4, .one (.int .i64))] .no))) .no))
def ref13_Image.P (p0_0 : Int) (p0_1 : Int) (p0_2 : Int) (p0_3 : Int) (p0_4 : Int) (p0_5 : Int) (a0_6 : Option Addr) (n0_6 c0_6 : Nat) (a0_7 : Option Addr) (n0_7 c0_7 : Nat) (p0_8 : Bool) (p0_9 : Int) (w : World) (K : SlV × Unit → World → Prop) : Prop :=
  NewV #[.int .i64 p0_0, .int .i64 p0_1, .int .i64 p0_2, .int .i64 p0_3, .int .i64 p0_4, .int .i64 p0_5, .slice a0_6 n0_6 c0_6, .slice a0_7 n0_7 c0_7, .bool p0_8, .int .i64 p0_9] 88 w fun b1 w2 =>
  NewV #[] 5 w2 fun b3 w4 =>
  LoopV [.one .sl, .one (.int .i64)] ((⟨(some ⟨b3, 0, none⟩), 0, 0⟩ : SlV), (0 : Int), ()) w4 fun (z5 : SlV × Int × Unit) w6 (K7 : SlV × Int × Unit → World → Prop) =>
  LoadS w6 ⟨b1, 6, none⟩ .sl fun (x8 : SlV) =>
  cond (decide (z5.2.1 < ((x8.n : Nat) : Int)))
  (LoadS w6 ⟨b1, 6, none⟩ .sl fun (x9 : SlV) =>
  (0 ≤ z5.2.1 ∧ z5.2.1 < ((x9.n : Nat) : Int)) ∧ ∃ q10 : Addr, x9.a = some q10 ∧
  LoadA w6 (q10.add (z5.2.1.toNat * 5)) [.sl, .sl, .int .i64, .bool, .int .i64] fun (x11 : SlV × SlV × Int × Bool × Int × Unit) =>
  CallV Try.prog 88 #[.agg #[.slice x11.1.a x11.1.n x11.1.c, .slice x11.2.1.a x11.2.1.n x11.2.1.c, .int .i64 x11.2.2.1, .bool x11.2.2.2.1, .int .i64 x11.2.2.2.2.1]] w6 [.one .sl] fun (r12 : SlV × Unit) w13 =>
  AppS w13 r12.1.a r12.1.n 1 fun ns18 =>
  AppV w13 5 1 1 z5.1.a z5.1.n z5.1.c ns18 r12.1.n fun a14 n15 c16 w17 =>
  Rng .i64 (z5.2.1 + 1) ∧
  K7 ((⟨a14, n15, c16⟩ : SlV), z5.2.1 + 1, ()) w17)
  (K (z5.1, ()) w6)
theorem ref13_Image.vc (p0_0 : Int) (p0_1 : Int) (p0_2 : Int) (p0_3 : Int) (p0_4 : Int) (p0_5 : Int) (a0_6 : Option Addr) (n0_6 c0_6 : Nat) (a0_7 : Option Addr) (n0_7 c0_7 : Nat) (p0_8 : Bool) (p0_9 : Int) (w : World) (K : SlV × Unit → World → Prop) (h : ref13_Image.P p0_0 p0_1 p0_2 p0_3 p0_4 p0_5 a0_6 n0_6 c0_6 a0_7 n0_7 c0_7 p0_8 p0_9 w K) : CallV Try.prog 56 #[.agg #[.int .i64 p0_0, .int .i64 p0_1, .int .i64 p0_2, .int .i64 p0_3, .int .i64 p0_4, .int .i64 p0_5, .slice a0_6 n0_6 c0_6, .slice a0_7 n0_7 c0_7, .bool p0_8, .int .i64 p0_9]] w [.one .sl] K := by
  have e : vcFun Try.prog okf false Try.f56 ref13_Image.A #[.agg #[.int .i64 p0_0, .int .i64 p0_1, .int .i64 p0_2, .int .i64 p0_3, .int .i64 p0_4, .int .i64 p0_5, .slice a0_6 n0_6 c0_6, .slice a0_7 n0_7 c0_7, .bool p0_8, .int .i64 p0_9]] w [.one .sl] K = ref13_Image.P p0_0 p0_1 p0_2 p0_3 p0_4 p0_5 a0_6 n0_6 c0_6 a0_7 n0_7 c0_7 p0_8 p0_9 w K := by kernel_rfl
  exact vcFun.calls okf_ok follows Try.func56 (e.symm ▸ h)

/-! ### nepenthe/nepentheref13.Poke: function 83 -/
def ref13_Poke.A : Ann := .no
def ref13_Poke.P (p0_0 : Int) (p0_1 : Int) (p0_2 : Int) (p0_3 : Int) (p0_4 : Int) (p0_5 : Int) (a0_6 : Option Addr) (n0_6 c0_6 : Nat) (a0_7 : Option Addr) (n0_7 c0_7 : Nat) (p0_8 : Bool) (p0_9 : Int) (p1_0 : Int) (p1_1 : Int) (p2 : Int) (p3 : Int) (w : World) (K : (Int × Int × Int × Int × Int × Int × SlV × SlV × Bool × Int × Unit) × Int × Unit → World → Prop) : Prop :=
  NewV #[.int .i64 p0_0, .int .i64 p0_1, .int .i64 p0_2, .int .i64 p0_3, .int .i64 p0_4, .int .i64 p0_5, .slice a0_6 n0_6 c0_6, .slice a0_7 n0_7 c0_7, .bool p0_8, .int .i64 p0_9] 88 w fun b1 w2 =>
  NewV #[.int .i64 p1_0, .int .i64 p1_1] 81 w2 fun b3 w4 =>
  NewV #[.int .i64 0, .int .i64 0, .int .i64 0, .int .i64 0, .int .i64 0, .int .i64 0, .slice none 0 0, .slice none 0 0, .bool false, .int .i64 0] 88 w4 fun b5 w6 =>
  LoadS w6 ⟨b1, 8, none⟩ .bool fun (x7 : Bool) =>
  cond (!x7)
  (LoadA w6 ⟨b1, 0, none⟩ [.int .i64, .int .i64, .int .i64, .int .i64, .int .i64, .int .i64, .sl, .sl, .bool, .int .i64] fun (x8 : Int × Int × Int × Int × Int × Int × SlV × SlV × Bool × Int × Unit) =>
  StoreV w6 ⟨b5, 0, none⟩ [.int .i64 x8.1, .int .i64 x8.2.1, .int .i64 x8.2.2.1, .int .i64 x8.2.2.2.1, .int .i64 x8.2.2.2.2.1, .int .i64 x8.2.2.2.2.2.1, .slice x8.2.2.2.2.2.2.1.a x8.2.2.2.2.2.2.1.n x8.2.2.2.2.2.2.1.c, .slice x8.2.2.2.2.2.2.2.1.a x8.2.2.2.2.2.2.2.1.n x8.2.2.2.2.2.2.2.1.c, .bool x8.2.2.2.2.2.2.2.2.1, .int .i64 x8.2.2.2.2.2.2.2.2.2.1] fun w9 =>
  LoadA w9 ⟨b5, 0, none⟩ [.int .i64, .int .i64, .int .i64, .int .i64, .int .i64, .int .i64, .sl, .sl, .bool, .int .i64] fun (x10 : Int × Int × Int × Int × Int × Int × SlV × SlV × Bool × Int × Unit) =>
  K ((x10.1, x10.2.1, x10.2.2.1, x10.2.2.2.1, x10.2.2.2.2.1, x10.2.2.2.2.2.1, x10.2.2.2.2.2.2.1, x10.2.2.2.2.2.2.2.1, x10.2.2.2.2.2.2.2.2.1, x10.2.2.2.2.2.2.2.2.2.1, ()), (4 : Int), ()) w9)
  (LoadA w6 ⟨b1, 0, none⟩ [.int .i64, .int .i64, .int .i64, .int .i64, .int .i64, .int .i64] fun (x11 : Int × Int × Int × Int × Int × Int × Unit) =>
  LoadA w6 ⟨b3, 0, none⟩ [.int .i64, .int .i64] fun (x12 : Int × Int × Unit) =>
  CallV Try.prog 47 #[.agg #[.int .i64 x11.1, .int .i64 x11.2.1, .int .i64 x11.2.2.1, .int .i64 x11.2.2.2.1, .int .i64 x11.2.2.2.2.1, .int .i64 x11.2.2.2.2.2.1], .agg #[.int .i64 x12.1, .int .i64 x12.2.1]] w6 [.one .bool] fun (r13 : Bool × Unit) w14 =>
  cond (!r13.1)
  (LoadA w14 ⟨b1, 0, none⟩ [.int .i64, .int .i64, .int .i64, .int .i64, .int .i64, .int .i64, .sl, .sl, .bool, .int .i64] fun (x15 : Int × Int × Int × Int × Int × Int × SlV × SlV × Bool × Int × Unit) =>
  StoreV w14 ⟨b5, 0, none⟩ [.int .i64 x15.1, .int .i64 x15.2.1, .int .i64 x15.2.2.1, .int .i64 x15.2.2.2.1, .int .i64 x15.2.2.2.2.1, .int .i64 x15.2.2.2.2.2.1, .slice x15.2.2.2.2.2.2.1.a x15.2.2.2.2.2.2.1.n x15.2.2.2.2.2.2.1.c, .slice x15.2.2.2.2.2.2.2.1.a x15.2.2.2.2.2.2.2.1.n x15.2.2.2.2.2.2.2.1.c, .bool x15.2.2.2.2.2.2.2.2.1, .int .i64 x15.2.2.2.2.2.2.2.2.2.1] fun w16 =>
  LoadA w16 ⟨b5, 0, none⟩ [.int .i64, .int .i64, .int .i64, .int .i64, .int .i64, .int .i64, .sl, .sl, .bool, .int .i64] fun (x17 : Int × Int × Int × Int × Int × Int × SlV × SlV × Bool × Int × Unit) =>
  K ((x17.1, x17.2.1, x17.2.2.1, x17.2.2.2.1, x17.2.2.2.2.1, x17.2.2.2.2.2.1, x17.2.2.2.2.2.2.1, x17.2.2.2.2.2.2.2.1, x17.2.2.2.2.2.2.2.2.1, x17.2.2.2.2.2.2.2.2.2.1, ()), (2 : Int), ()) w16)
  (cond (decide (p2 < 0))
  (LoadA w14 ⟨b1, 0, none⟩ [.int .i64, .int .i64, .int .i64, .int .i64, .int .i64, .int .i64, .sl, .sl, .bool, .int .i64] fun (x18 : Int × Int × Int × Int × Int × Int × SlV × SlV × Bool × Int × Unit) =>
  StoreV w14 ⟨b5, 0, none⟩ [.int .i64 x18.1, .int .i64 x18.2.1, .int .i64 x18.2.2.1, .int .i64 x18.2.2.2.1, .int .i64 x18.2.2.2.2.1, .int .i64 x18.2.2.2.2.2.1, .slice x18.2.2.2.2.2.2.1.a x18.2.2.2.2.2.2.1.n x18.2.2.2.2.2.2.1.c, .slice x18.2.2.2.2.2.2.2.1.a x18.2.2.2.2.2.2.2.1.n x18.2.2.2.2.2.2.2.1.c, .bool x18.2.2.2.2.2.2.2.2.1, .int .i64 x18.2.2.2.2.2.2.2.2.2.1] fun w19 =>
  LoadA w19 ⟨b5, 0, none⟩ [.int .i64, .int .i64, .int .i64, .int .i64, .int .i64, .int .i64, .sl, .sl, .bool, .int .i64] fun (x20 : Int × Int × Int × Int × Int × Int × SlV × SlV × Bool × Int × Unit) =>
  K ((x20.1, x20.2.1, x20.2.2.1, x20.2.2.2.1, x20.2.2.2.2.1, x20.2.2.2.2.2.1, x20.2.2.2.2.2.2.1, x20.2.2.2.2.2.2.2.1, x20.2.2.2.2.2.2.2.2.1, x20.2.2.2.2.2.2.2.2.2.1, ()), (2 : Int), ()) w19)
  (LoadS w14 ⟨b1, 2, none⟩ (.int .i64) fun (x21 : Int) =>
  Rng .i64 (x21 + 88) ∧
  cond (decide (p2 ≥ (x21 + 88)))
  (LoadA w14 ⟨b1, 0, none⟩ [.int .i64, .int .i64, .int .i64, .int .i64, .int .i64, .int .i64, .sl, .sl, .bool, .int .i64] fun (x22 : Int × Int × Int × Int × Int × Int × SlV × SlV × Bool × Int × Unit) =>
  StoreV w14 ⟨b5, 0, none⟩ [.int .i64 x22.1, .int .i64 x22.2.1, .int .i64 x22.2.2.1, .int .i64 x22.2.2.2.1, .int .i64 x22.2.2.2.2.1, .int .i64 x22.2.2.2.2.2.1, .slice x22.2.2.2.2.2.2.1.a x22.2.2.2.2.2.2.1.n x22.2.2.2.2.2.2.1.c, .slice x22.2.2.2.2.2.2.2.1.a x22.2.2.2.2.2.2.2.1.n x22.2.2.2.2.2.2.2.1.c, .bool x22.2.2.2.2.2.2.2.2.1, .int .i64 x22.2.2.2.2.2.2.2.2.2.1] fun w23 =>
  LoadA w23 ⟨b5, 0, none⟩ [.int .i64, .int .i64, .int .i64, .int .i64, .int .i64, .int .i64, .sl, .sl, .bool, .int .i64] fun (x24 : Int × Int × Int × Int × Int × Int × SlV × SlV × Bool × Int × Unit) =>
  K ((x24.1, x24.2.1, x24.2.2.1, x24.2.2.2.1, x24.2.2.2.2.1, x24.2.2.2.2.2.1, x24.2.2.2.2.2.2.1, x24.2.2.2.2.2.2.2.1, x24.2.2.2.2.2.2.2.2.1, x24.2.2.2.2.2.2.2.2.2.1, ()), (2 : Int), ()) w23)
  (LoadS w14 ⟨b1, 6, none⟩ .sl fun (x25 : SlV) =>
  LoadS w14 ⟨b3, 0, none⟩ (.int .i64) fun (x26 : Int) =>
  (0 ≤ x26 ∧ x26 < ((x25.n : Nat) : Int)) ∧ ∃ q27 : Addr, x25.a = some q27 ∧
  LoadA w14 (q27.add (x26.toNat * 5)) [.sl, .sl, .int .i64, .bool, .int .i64] fun (x28 : SlV × SlV × Int × Bool × Int × Unit) =>
  NewV #[.slice none 0 0, .slice none 0 0, .int .i64 0, .bool false, .int .i64 0] 98 w14 fun b29 w30 =>
  StoreV w30 ⟨b29, 0, none⟩ [.slice x28.1.a x28.1.n x28.1.c, .slice x28.2.1.a x28.2.1.n x28.2.1.c, .int .i64 x28.2.2.1, .bool x28.2.2.2.1, .int .i64 x28.2.2.2.2.1] fun w31 =>
  NewV #[] 28 w31 fun b32 w33 =>
  LoadS w33 ⟨b29, 0, none⟩ .sl fun (x34 : SlV) =>
  AppS w33 x34.a x34.n 1 fun ns39 =>
  AppV w33 28 1 24 (some ⟨b32, 0, none⟩) 0 0 ns39 x34.n fun a35 n36 c37 w38 =>
  StoreV w38 ⟨b29, 0, none⟩ [.slice a35 n36 c37] fun w40 =>
  NewV #[] 5 w40 fun b41 w42 =>
  LoadS w42 ⟨b29, 0, none⟩ .sl fun (x43 : SlV) =>
  LoadS w42 ⟨b3, 1, none⟩ (.int .i64) fun (x44 : Int) =>
  (0 ≤ x44 ∧ x44 < ((x43.n : Nat) : Int)) ∧ ∃ q45 : Addr, x43.a = some q45 ∧
  LoadS w42 (q45.add (x44.toNat * 1)) .sl fun (x46 : SlV) =>
  AppS w42 x46.a x46.n 1 fun ns51 =>
  AppV w42 5 1 1 (some ⟨b41, 0, none⟩) 0 0 ns51 x46.n fun a47 n48 c49 w50 =>
  (0 ≤ p2 ∧ p2 < ((n48 : Nat) : Int)) ∧ ∃ q52 : Addr, a47 = some q52 ∧
  StoreV w50 (q52.add (p2.toNat * 1)) [.int .u8 p3] fun w53 =>
  LoadS w53 ⟨b29, 0, none⟩ .sl fun (x54 : SlV) =>
  LoadS w53 ⟨b3, 1, none⟩ (.int .i64) fun (x55 : Int) =>
  (0 ≤ x55 ∧ x55 < ((x54.n : Nat) : Int)) ∧ ∃ q56 : Addr, x54.a = some q56 ∧
  StoreV w53 (q56.add (x55.toNat * 1)) [.slice a47 n48 c49] fun w57 =>
  NewV #[] 98 w57 fun b58 w59 =>
  LoadS w59 ⟨b1, 6, none⟩ .sl fun (x60 : SlV) =>
  AppS w59 x60.a x60.n 5 fun ns65 =>
  AppV w59 98 5 72 (some ⟨b58, 0, none⟩) 0 0 ns65 x60.n fun a61 n62 c63 w64 =>
  LoadS w64 ⟨b3, 0, none⟩ (.int .i64) fun (x66 : Int) =>
  LoadA w64 ⟨b29, 0, none⟩ [.sl, .sl, .int .i64, .bool, .int .i64] fun (x67 : SlV × SlV × Int × Bool × Int × Unit) =>
  (0 ≤ x66 ∧ x66 < ((n62 : Nat) : Int)) ∧ ∃ q68 : Addr, a61 = some q68 ∧
  StoreV w64 (q68.add (x66.toNat * 5)) [.slice x67.1.a x67.1.n x67.1.c, .slice x67.2.1.a x67.2.1.n x67.2.1.c, .int .i64 x67.2.2.1, .bool x67.2.2.2.1, .int .i64 x67.2.2.2.2.1] fun w69 =>
  StoreV w69 ⟨b1, 6, none⟩ [.slice a61 n62 c63] fun w70 =>
  LoadA w70 ⟨b1, 0, none⟩ [.int .i64, .int .i64, .int .i64, .int .i64, .int .i64, .int .i64, .sl, .sl, .bool, .int .i64] fun (x71 : Int × Int × Int × Int × Int × Int × SlV × SlV × Bool × Int × Unit) =>
  StoreV w70 ⟨b5, 0, none⟩ [.int .i64 x71.1, .int .i64 x71.2.1, .int .i64 x71.2.2.1, .int .i64 x71.2.2.2.1, .int .i64 x71.2.2.2.2.1, .int .i64 x71.2.2.2.2.2.1, .slice x71.2.2.2.2.2.2.1.a x71.2.2.2.2.2.2.1.n x71.2.2.2.2.2.2.1.c, .slice x71.2.2.2.2.2.2.2.1.a x71.2.2.2.2.2.2.2.1.n x71.2.2.2.2.2.2.2.1.c, .bool x71.2.2.2.2.2.2.2.2.1, .int .i64 x71.2.2.2.2.2.2.2.2.2.1] fun w72 =>
  LoadA w72 ⟨b5, 0, none⟩ [.int .i64, .int .i64, .int .i64, .int .i64, .int .i64, .int .i64, .sl, .sl, .bool, .int .i64] fun (x73 : Int × Int × Int × Int × Int × Int × SlV × SlV × Bool × Int × Unit) =>
  K ((x73.1, x73.2.1, x73.2.2.1, x73.2.2.2.1, x73.2.2.2.2.1, x73.2.2.2.2.2.1, x73.2.2.2.2.2.2.1, x73.2.2.2.2.2.2.2.1, x73.2.2.2.2.2.2.2.2.1, x73.2.2.2.2.2.2.2.2.2.1, ()), (0 : Int), ()) w72))))
theorem ref13_Poke.vc (p0_0 : Int) (p0_1 : Int) (p0_2 : Int) (p0_3 : Int) (p0_4 : Int) (p0_5 : Int) (a0_6 : Option Addr) (n0_6 c0_6 : Nat) (a0_7 : Option Addr) (n0_7 c0_7 : Nat) (p0_8 : Bool) (p0_9 : Int) (p1_0 : Int) (p1_1 : Int) (p2 : Int) (p3 : Int) (w : World) (K : (Int × Int × Int × Int × Int × Int × SlV × SlV × Bool × Int × Unit) × Int × Unit → World → Prop) (h : ref13_Poke.P p0_0 p0_1 p0_2 p0_3 p0_4 p0_5 a0_6 n0_6 c0_6 a0_7 n0_7 c0_7 p0_8 p0_9 p1_0 p1_1 p2 p3 w K) : CallV Try.prog 83 #[.agg #[.int .i64 p0_0, .int .i64 p0_1, .int .i64 p0_2, .int .i64 p0_3, .int .i64 p0_4, .int .i64 p0_5, .slice a0_6 n0_6 c0_6, .slice a0_7 n0_7 c0_7, .bool p0_8, .int .i64 p0_9], .agg #[.int .i64 p1_0, .int .i64 p1_1], .int .i64 p2, .int .u8 p3] w [.agg [.int .i64, .int .i64, .int .i64, .int .i64, .int .i64, .int .i64, .sl, .sl, .bool, .int .i64], .one (.int .i64)] K := by
  have e : vcFun Try.prog okf false Try.f83 ref13_Poke.A #[.agg #[.int .i64 p0_0, .int .i64 p0_1, .int .i64 p0_2, .int .i64 p0_3, .int .i64 p0_4, .int .i64 p0_5, .slice a0_6 n0_6 c0_6, .slice a0_7 n0_7 c0_7, .bool p0_8, .int .i64 p0_9], .agg #[.int .i64 p1_0, .int .i64 p1_1], .int .i64 p2, .int .u8 p3] w [.agg [.int .i64, .int .i64, .int .i64, .int .i64, .int .i64, .int .i64, .sl, .sl, .bool, .int .i64], .one (.int .i64)] K = ref13_Poke.P p0_0 p0_1 p0_2 p0_3 p0_4 p0_5 a0_6 n0_6 c0_6 a0_7 n0_7 c0_7 p0_8 p0_9 p1_0 p1_1 p2 p3 w K := by kernel_rfl
  exact vcFun.calls okf_ok follows Try.func83 (e.symm ▸ h)

/-! ### nepenthe/nepenthelaw13.light: function 41 -/
def law13_light.A : Ann := .no
def law13_light.P (p0_0 : Int) (p0_1 : Int) (p0_2 : Int) (p0_3 : Int) (p0_4 : Int) (p0_5 : Int) (w : World) (K : Bool × Unit → World → Prop) : Prop :=
  NewV #[.int .i64 p0_0, .int .i64 p0_1, .int .i64 p0_2, .int .i64 p0_3, .int .i64 p0_4, .int .i64 p0_5] 23 w fun b1 w2 =>
  LoadS w2 ⟨b1, 0, none⟩ (.int .i64) fun (x3 : Int) =>
  cond (decide (x3 ≤ 16))
  (LoadS w2 ⟨b1, 1, none⟩ (.int .i64) fun (x4 : Int) =>
  cond (decide (x4 ≤ 20))
  (LoadS w2 ⟨b1, 2, none⟩ (.int .i64) fun (x5 : Int) =>
  K (decide (x5 ≤ 128), ()) w2)
  (K (false, ()) w2))
  (K (false, ()) w2)
theorem law13_light.vc (p0_0 : Int) (p0_1 : Int) (p0_2 : Int) (p0_3 : Int) (p0_4 : Int) (p0_5 : Int) (w : World) (K : Bool × Unit → World → Prop) (h : law13_light.P p0_0 p0_1 p0_2 p0_3 p0_4 p0_5 w K) : CallV Try.prog 41 #[.agg #[.int .i64 p0_0, .int .i64 p0_1, .int .i64 p0_2, .int .i64 p0_3, .int .i64 p0_4, .int .i64 p0_5]] w [.one .bool] K := by
  have e : vcFun Try.prog okf false Try.f41 law13_light.A #[.agg #[.int .i64 p0_0, .int .i64 p0_1, .int .i64 p0_2, .int .i64 p0_3, .int .i64 p0_4, .int .i64 p0_5]] w [.one .bool] K = law13_light.P p0_0 p0_1 p0_2 p0_3 p0_4 p0_5 w K := by kernel_rfl
  exact vcFun.calls okf_ok follows Try.func41 (e.symm ▸ h)

/-! ### nepenthe/nepenthelaw13.awake: function 42 -/
def law13_awake.A : Ann := .no
def law13_awake.P  (w : World) (K : Bool × Unit → World → Prop) : Prop :=
  CallV Try.prog 43 #[.agg #[.int .i64 7, .int .i64 10, .int .i64 64, .int .i64 0, .int .i64 1, .int .i64 1], .slice none 0 0] w [.one .ptr, .one (.int .i64)] fun (r1 : (Option Addr) × Int × Unit) w2 =>
  ((0 : Int) ≤ (152 : Int) ∧ (152 : Int) ≤ (152 : Int) ∧ (152 : Int) ≤ 9223372036854775807 ∧ ((1 : Nat) : Int) * (152 : Int) ≤ 140737488355328) ∧
  NewV (List.replicate 152 [.int .u8 0]).flatten.toArray 5 w2 fun b3 w4 =>
  CallV Try.prog 74 #[.pointer r1.1, .agg #[.int .i64 1, .int .i64 2], .slice (some ⟨b3, 0, none⟩) 152 152] w4 [.one (.int .i64)] fun (r5 : Int × Unit) w6 =>
  CallV Try.prog 46 #[.pointer r1.1, .agg #[.int .i64 1, .int .i64 2]] w6 [.one .sl, .one (.int .i64)] fun (r7 : SlV × Int × Unit) w8 =>
  cond (r1.2.1 == 0)
  (cond (r5.1 == 0)
  (cond (r7.2.1 == 0)
  (cond (((r7.1.n : Nat) : Int) == 152)
  ((0 ≤ (0 : Int) ∧ 0 < ((r7.1.n : Nat) : Int)) ∧ ∃ q9 : Addr, r7.1.a = some q9 ∧
  LoadS w8 (q9.add (0 * 1)) (.int .u8) fun (x10 : Int) =>
  cond (x10 == 0)
  (CallV Try.prog 49 #[.pointer r1.1] w8 [.one (.int .i64)] fun (r11 : Int × Unit) w12 =>
  K ((r11.1 == 1), ()) w12)
  (K (false, ()) w8))
  (K (false, ()) w8))
  (K (false, ()) w8))
  (K (false, ()) w8))
  (K (false, ()) w8)
theorem law13_awake.vc  (w : World) (K : Bool × Unit → World → Prop) (h : law13_awake.P  w K) : CallV Try.prog 42 #[] w [.one .bool] K := by
  have e : vcFun Try.prog okf false Try.f42 law13_awake.A #[] w [.one .bool] K = law13_awake.P  w K := by kernel_rfl
  exact vcFun.calls okf_ok follows Try.func42 (e.symm ▸ h)

/-! ### nepenthe/nepenthelaw13.bytes: function 51 -/
-- loop 0 carries 5: .one .sl, 6: .one (.int .i64)
def law13_bytes.A : Ann := .two .no (.two .no (.two (.two .no (.one (.loop [5, 6, 8, 9, 10, 11, 12, 13, 14, 15, 16, 17, 18, 19, 20, 21] [(5, .one .sl), (6, .one (.int .i64))] .no))) .no))
def law13_bytes.P (p0 : Int) (p1 : Int) (w : World) (K : SlV × Unit → World → Prop) : Prop :=
  NewV #[] 5 w fun b1 w2 =>
  LoopV [.one .sl, .one (.int .i64)] ((⟨(some ⟨b1, 0, none⟩), 0, 0⟩ : SlV), (0 : Int), ()) w2 fun (z3 : SlV × Int × Unit) w4 (K5 : SlV × Int × Unit → World → Prop) =>
  cond (decide (z3.2.1 < p0))
  (NewV #[.int .u8 (Go.bits .or .u8 p1 (IntKind.u8.wrap ((IntKind.u8.wrap z3.2.1) * p1)))] 5 w4 fun b6 w7 =>
  AppS w7 (some ⟨b6, 0, none⟩) 1 1 fun ns12 =>
  AppV w7 5 1 1 z3.1.a z3.1.n z3.1.c ns12 1 fun a8 n9 c10 w11 =>
  Rng .i64 (z3.2.1 + 1) ∧
  K5 ((⟨a8, n9, c10⟩ : SlV), z3.2.1 + 1, ()) w11)
  (K (z3.1, ()) w4)
theorem law13_bytes.vc (p0 : Int) (p1 : Int) (w : World) (K : SlV × Unit → World → Prop) (h : law13_bytes.P p0 p1 w K) : CallV Try.prog 51 #[.int .i64 p0, .int .u8 p1] w [.one .sl] K := by
  have e : vcFun Try.prog okf false Try.f51 law13_bytes.A #[.int .i64 p0, .int .u8 p1] w [.one .sl] K = law13_bytes.P p0 p1 w K := by kernel_rfl
  exact vcFun.calls okf_ok follows Try.func51 (e.symm ▸ h)

/-! ### nepenthe/nepenthelaw13.step: function 45 -/
def law13_step.A : Ann := .two .no (.two .no (.join [8, 24, 25, 26, 27, 28] [(8, .one .sl)] .no (.two (.two .no (.one (.two .no (.two (.two .no (.two (.draw (.take 0 (.take 1 (.take 2 (.take 3 (.take 4 (.take 6 (.eff 5 (.take 7 (.eff 8 (.take 9 (.done)))))))))))) .no)) (.two .no (.two (.two .no (.two (.draw (.take 0 (.take 1 (.take 2 (.take 3 (.take 4 (.take 6 (.eff 5 (.take 7 (.eff 8 (.take 9 (.done)))))))))))) .no)) (.two .no (.two (.two .no (.two (.draw (.take 0 (.take 1 (.take 2 (.take 3 (.take 4 (.take 6 (.eff 5 (.take 7 (.eff 8 (.take 9 (.done)))))))))))) .no)) (.two .no (.two (.two .no (.two (.draw (.take 0 (.take 1 (.take 2 (.take 3 (.take 4 (.take 5 (.take 6 (.take 7 (.take 8 (.take 10 (.eff 9 (.take 11 (.eff 12 (.take 13 (.done)))))))))))))))) .no)) .no)))))))))) (.two (.draw (.take 0 (.take 1 (.take 3 (.take 4 (.take 5 (.eff 2 (.take 6 (.eff 7 (.take 8 (.done))))))))))) .no))))
def law13_step.P (p0 : Addr) (p1_0 : Int) (p1_1 : Int) (p1_2 : Int) (p1_3 : Int) (p1_4 : Int) (p1_5 : Int) (a1_6 : Option Addr) (n1_6 c1_6 : Nat) (a1_7 : Option Addr) (n1_7 c1_7 : Nat) (p1_8 : Bool) (p1_9 : Int) (p2_0 : Int) (p2_1 : Int) (p2_2 : Int) (p2_3 : Int) (p2_4 : Bool) (w : World) (K : (Int × Int × Int × Int × Int × Int × SlV × SlV × Bool × Int × Unit) × Bool × Unit → World → Prop) : Prop :=
  NewV #[.int .i64 p1_0, .int .i64 p1_1, .int .i64 p1_2, .int .i64 p1_3, .int .i64 p1_4, .int .i64 p1_5, .slice a1_6 n1_6 c1_6, .slice a1_7 n1_7 c1_7, .bool p1_8, .int .i64 p1_9] 88 w fun b1 w2 =>
  NewV #[.int .i64 p2_0, .int .i64 p2_1, .int .i64 p2_2, .int .u8 p2_3, .bool p2_4] 93 w2 fun b3 w4 =>
  NewV #[.int .i64 0, .int .i64 0, .int .i64 0, .int .i64 0, .int .i64 0, .int .i64 0, .slice none 0 0, .slice none 0 0, .bool false, .int .i64 0] 88 w4 fun b5 w6 =>
  LoadS w6 ⟨b1, 2, none⟩ (.int .i64) fun (x7 : Int) =>
  Rng .i64 (x7 + 88) ∧
  LoadS w6 ⟨b3, 3, none⟩ (.int .u8) fun (x8 : Int) =>
  CallV Try.prog 51 #[.int .i64 (x7 + 88), .int .u8 x8] w6 [.one .sl] fun (r9 : SlV × Unit) w10 =>
  JoinV [.one .sl] (fun (v12 : SlV × Unit) w13 =>
  LoadS w13 ⟨b3, 0, none⟩ (.int .i64) fun (x14 : Int) =>
  cond (x14 == 1)
  (LoadA w13 ⟨b1, 0, none⟩ [.int .i64, .int .i64, .int .i64, .int .i64, .int .i64, .int .i64, .sl, .sl, .bool, .int .i64] fun (x15 : Int × Int × Int × Int × Int × Int × SlV × SlV × Bool × Int × Unit) =>
  LoadA w13 ⟨b3, 1, none⟩ [.int .i64, .int .i64] fun (x16 : Int × Int × Unit) =>
  CallV Try.prog 78 #[.agg #[.int .i64 x15.1, .int .i64 x15.2.1, .int .i64 x15.2.2.1, .int .i64 x15.2.2.2.1, .int .i64 x15.2.2.2.2.1, .int .i64 x15.2.2.2.2.2.1, .slice x15.2.2.2.2.2.2.1.a x15.2.2.2.2.2.2.1.n x15.2.2.2.2.2.2.1.c, .slice x15.2.2.2.2.2.2.2.1.a x15.2.2.2.2.2.2.2.1.n x15.2.2.2.2.2.2.2.1.c, .bool x15.2.2.2.2.2.2.2.2.1, .int .i64 x15.2.2.2.2.2.2.2.2.2.1], .agg #[.int .i64 x16.1, .int .i64 x16.2.1], .slice v12.1.a v12.1.n v12.1.c] w13 [.agg [.int .i64, .int .i64, .int .i64, .int .i64, .int .i64, .int .i64, .sl, .sl, .bool, .int .i64], .one (.int .i64)] fun (r17 : (Int × Int × Int × Int × Int × Int × SlV × SlV × Bool × Int × Unit) × Int × Unit) w18 =>
  NewV #[.int .i64 0, .int .i64 0, .int .i64 0, .int .i64 0, .int .i64 0, .int .i64 0, .slice none 0 0, .slice none 0 0, .bool false, .int .i64 0] 88 w18 fun b19 w20 =>
  StoreV w20 ⟨b19, 0, none⟩ [.int .i64 r17.1.1, .int .i64 r17.1.2.1, .int .i64 r17.1.2.2.1, .int .i64 r17.1.2.2.2.1, .int .i64 r17.1.2.2.2.2.1, .int .i64 r17.1.2.2.2.2.2.1, .slice r17.1.2.2.2.2.2.2.1.a r17.1.2.2.2.2.2.2.1.n r17.1.2.2.2.2.2.2.1.c, .slice r17.1.2.2.2.2.2.2.2.1.a r17.1.2.2.2.2.2.2.2.1.n r17.1.2.2.2.2.2.2.2.1.c, .bool r17.1.2.2.2.2.2.2.2.2.1, .int .i64 r17.1.2.2.2.2.2.2.2.2.2.1] fun w21 =>
  DrawV fun D22 =>
  (D22 b19 ∧ LoadA w21.drew ⟨b19, 0, none⟩ [.int .i64, .int .i64, .int .i64, .int .i64, .int .i64, .int .i64, .sl, .sl, .bool, .int .i64] fun (x23 : Int × Int × Int × Int × Int × Int × SlV × SlV × Bool × Int × Unit) =>
  (D22 b3 ∧ LoadA w21.drew ⟨b3, 1, none⟩ [.int .i64, .int .i64] fun (x24 : Int × Int × Unit) =>
  CallV Try.prog 74 #[.pointer (some p0), .agg #[.int .i64 x24.1, .int .i64 x24.2.1], .slice v12.1.a v12.1.n v12.1.c] w21.drew [.one (.int .i64)] fun (r25 : Int × Unit) w26 =>
  KeepOn D22 w21.drew w26 ∧
  StoreV w26 ⟨b5, 0, none⟩ [.int .i64 x23.1, .int .i64 x23.2.1, .int .i64 x23.2.2.1, .int .i64 x23.2.2.2.1, .int .i64 x23.2.2.2.2.1, .int .i64 x23.2.2.2.2.2.1, .slice x23.2.2.2.2.2.2.1.a x23.2.2.2.2.2.2.1.n x23.2.2.2.2.2.2.1.c, .slice x23.2.2.2.2.2.2.2.1.a x23.2.2.2.2.2.2.2.1.n x23.2.2.2.2.2.2.2.1.c, .bool x23.2.2.2.2.2.2.2.2.1, .int .i64 x23.2.2.2.2.2.2.2.2.2.1] fun w27 =>
  KeepOn D22 w21.drew w27 ∧
  LoadA w27 ⟨b5, 0, none⟩ [.int .i64, .int .i64, .int .i64, .int .i64, .int .i64, .int .i64, .sl, .sl, .bool, .int .i64] fun (x28 : Int × Int × Int × Int × Int × Int × SlV × SlV × Bool × Int × Unit) =>
  K ((x28.1, x28.2.1, x28.2.2.1, x28.2.2.2.1, x28.2.2.2.2.1, x28.2.2.2.2.2.1, x28.2.2.2.2.2.2.1, x28.2.2.2.2.2.2.2.1, x28.2.2.2.2.2.2.2.2.1, x28.2.2.2.2.2.2.2.2.2.1, ()), (r25.1 == r17.2.1), ()) w27)))
  (cond (x14 == 2)
  (LoadA w13 ⟨b1, 0, none⟩ [.int .i64, .int .i64, .int .i64, .int .i64, .int .i64, .int .i64, .sl, .sl, .bool, .int .i64] fun (x29 : Int × Int × Int × Int × Int × Int × SlV × SlV × Bool × Int × Unit) =>
  LoadS w13 ⟨b3, 1, none⟩ (.int .i64) fun (x30 : Int) =>
  CallV Try.prog 79 #[.agg #[.int .i64 x29.1, .int .i64 x29.2.1, .int .i64 x29.2.2.1, .int .i64 x29.2.2.2.1, .int .i64 x29.2.2.2.2.1, .int .i64 x29.2.2.2.2.2.1, .slice x29.2.2.2.2.2.2.1.a x29.2.2.2.2.2.2.1.n x29.2.2.2.2.2.2.1.c, .slice x29.2.2.2.2.2.2.2.1.a x29.2.2.2.2.2.2.2.1.n x29.2.2.2.2.2.2.2.1.c, .bool x29.2.2.2.2.2.2.2.2.1, .int .i64 x29.2.2.2.2.2.2.2.2.2.1], .int .i64 x30] w13 [.agg [.int .i64, .int .i64, .int .i64, .int .i64, .int .i64, .int .i64, .sl, .sl, .bool, .int .i64], .one (.int .i64)] fun (r31 : (Int × Int × Int × Int × Int × Int × SlV × SlV × Bool × Int × Unit) × Int × Unit) w32 =>
  NewV #[.int .i64 0, .int .i64 0, .int .i64 0, .int .i64 0, .int .i64 0, .int .i64 0, .slice none 0 0, .slice none 0 0, .bool false, .int .i64 0] 88 w32 fun b33 w34 =>
  StoreV w34 ⟨b33, 0, none⟩ [.int .i64 r31.1.1, .int .i64 r31.1.2.1, .int .i64 r31.1.2.2.1, .int .i64 r31.1.2.2.2.1, .int .i64 r31.1.2.2.2.2.1, .int .i64 r31.1.2.2.2.2.2.1, .slice r31.1.2.2.2.2.2.2.1.a r31.1.2.2.2.2.2.2.1.n r31.1.2.2.2.2.2.2.1.c, .slice r31.1.2.2.2.2.2.2.2.1.a r31.1.2.2.2.2.2.2.2.1.n r31.1.2.2.2.2.2.2.2.1.c, .bool r31.1.2.2.2.2.2.2.2.2.1, .int .i64 r31.1.2.2.2.2.2.2.2.2.2.1] fun w35 =>
  DrawV fun D36 =>
  (D36 b33 ∧ LoadA w35.drew ⟨b33, 0, none⟩ [.int .i64, .int .i64, .int .i64, .int .i64, .int .i64, .int .i64, .sl, .sl, .bool, .int .i64] fun (x37 : Int × Int × Int × Int × Int × Int × SlV × SlV × Bool × Int × Unit) =>
  (D36 b3 ∧ LoadS w35.drew ⟨b3, 1, none⟩ (.int .i64) fun (x38 : Int) =>
  CallV Try.prog 80 #[.pointer (some p0), .int .i64 x38] w35.drew [.one (.int .i64)] fun (r39 : Int × Unit) w40 =>
  KeepOn D36 w35.drew w40 ∧
  StoreV w40 ⟨b5, 0, none⟩ [.int .i64 x37.1, .int .i64 x37.2.1, .int .i64 x37.2.2.1, .int .i64 x37.2.2.2.1, .int .i64 x37.2.2.2.2.1, .int .i64 x37.2.2.2.2.2.1, .slice x37.2.2.2.2.2.2.1.a x37.2.2.2.2.2.2.1.n x37.2.2.2.2.2.2.1.c, .slice x37.2.2.2.2.2.2.2.1.a x37.2.2.2.2.2.2.2.1.n x37.2.2.2.2.2.2.2.1.c, .bool x37.2.2.2.2.2.2.2.2.1, .int .i64 x37.2.2.2.2.2.2.2.2.2.1] fun w41 =>
  KeepOn D36 w35.drew w41 ∧
  LoadA w41 ⟨b5, 0, none⟩ [.int .i64, .int .i64, .int .i64, .int .i64, .int .i64, .int .i64, .sl, .sl, .bool, .int .i64] fun (x42 : Int × Int × Int × Int × Int × Int × SlV × SlV × Bool × Int × Unit) =>
  K ((x42.1, x42.2.1, x42.2.2.1, x42.2.2.2.1, x42.2.2.2.2.1, x42.2.2.2.2.2.1, x42.2.2.2.2.2.2.1, x42.2.2.2.2.2.2.2.1, x42.2.2.2.2.2.2.2.2.1, x42.2.2.2.2.2.2.2.2.2.1, ()), (r39.1 == r31.2.1), ()) w41)))
  (cond (x14 == 3)
  (LoadA w13 ⟨b1, 0, none⟩ [.int .i64, .int .i64, .int .i64, .int .i64, .int .i64, .int .i64, .sl, .sl, .bool, .int .i64] fun (x43 : Int × Int × Int × Int × Int × Int × SlV × SlV × Bool × Int × Unit) =>
  LoadS w13 ⟨b3, 1, none⟩ (.int .i64) fun (x44 : Int) =>
  CallV Try.prog 81 #[.agg #[.int .i64 x43.1, .int .i64 x43.2.1, .int .i64 x43.2.2.1, .int .i64 x43.2.2.2.1, .int .i64 x43.2.2.2.2.1, .int .i64 x43.2.2.2.2.2.1, .slice x43.2.2.2.2.2.2.1.a x43.2.2.2.2.2.2.1.n x43.2.2.2.2.2.2.1.c, .slice x43.2.2.2.2.2.2.2.1.a x43.2.2.2.2.2.2.2.1.n x43.2.2.2.2.2.2.2.1.c, .bool x43.2.2.2.2.2.2.2.2.1, .int .i64 x43.2.2.2.2.2.2.2.2.2.1], .int .i64 x44] w13 [.agg [.int .i64, .int .i64, .int .i64, .int .i64, .int .i64, .int .i64, .sl, .sl, .bool, .int .i64], .one (.int .i64)] fun (r45 : (Int × Int × Int × Int × Int × Int × SlV × SlV × Bool × Int × Unit) × Int × Unit) w46 =>
  NewV #[.int .i64 0, .int .i64 0, .int .i64 0, .int .i64 0, .int .i64 0, .int .i64 0, .slice none 0 0, .slice none 0 0, .bool false, .int .i64 0] 88 w46 fun b47 w48 =>
  StoreV w48 ⟨b47, 0, none⟩ [.int .i64 r45.1.1, .int .i64 r45.1.2.1, .int .i64 r45.1.2.2.1, .int .i64 r45.1.2.2.2.1, .int .i64 r45.1.2.2.2.2.1, .int .i64 r45.1.2.2.2.2.2.1, .slice r45.1.2.2.2.2.2.2.1.a r45.1.2.2.2.2.2.2.1.n r45.1.2.2.2.2.2.2.1.c, .slice r45.1.2.2.2.2.2.2.2.1.a r45.1.2.2.2.2.2.2.2.1.n r45.1.2.2.2.2.2.2.2.1.c, .bool r45.1.2.2.2.2.2.2.2.2.1, .int .i64 r45.1.2.2.2.2.2.2.2.2.2.1] fun w49 =>
  DrawV fun D50 =>
  (D50 b47 ∧ LoadA w49.drew ⟨b47, 0, none⟩ [.int .i64, .int .i64, .int .i64, .int .i64, .int .i64, .int .i64, .sl, .sl, .bool, .int .i64] fun (x51 : Int × Int × Int × Int × Int × Int × SlV × SlV × Bool × Int × Unit) =>
  (D50 b3 ∧ LoadS w49.drew ⟨b3, 1, none⟩ (.int .i64) fun (x52 : Int) =>
  CallV Try.prog 82 #[.pointer (some p0), .int .i64 x52] w49.drew [.one (.int .i64)] fun (r53 : Int × Unit) w54 =>
  KeepOn D50 w49.drew w54 ∧
  StoreV w54 ⟨b5, 0, none⟩ [.int .i64 x51.1, .int .i64 x51.2.1, .int .i64 x51.2.2.1, .int .i64 x51.2.2.2.1, .int .i64 x51.2.2.2.2.1, .int .i64 x51.2.2.2.2.2.1, .slice x51.2.2.2.2.2.2.1.a x51.2.2.2.2.2.2.1.n x51.2.2.2.2.2.2.1.c, .slice x51.2.2.2.2.2.2.2.1.a x51.2.2.2.2.2.2.2.1.n x51.2.2.2.2.2.2.2.1.c, .bool x51.2.2.2.2.2.2.2.2.1, .int .i64 x51.2.2.2.2.2.2.2.2.2.1] fun w55 =>
  KeepOn D50 w49.drew w55 ∧
  LoadA w55 ⟨b5, 0, none⟩ [.int .i64, .int .i64, .int .i64, .int .i64, .int .i64, .int .i64, .sl, .sl, .bool, .int .i64] fun (x56 : Int × Int × Int × Int × Int × Int × SlV × SlV × Bool × Int × Unit) =>
  K ((x56.1, x56.2.1, x56.2.2.1, x56.2.2.2.1, x56.2.2.2.2.1, x56.2.2.2.2.2.1, x56.2.2.2.2.2.2.1, x56.2.2.2.2.2.2.2.1, x56.2.2.2.2.2.2.2.2.1, x56.2.2.2.2.2.2.2.2.2.1, ()), (r53.1 == r45.2.1), ()) w55)))
  (cond (x14 == 4)
  (LoadA w13 ⟨b1, 0, none⟩ [.int .i64, .int .i64, .int .i64, .int .i64, .int .i64, .int .i64, .sl, .sl, .bool, .int .i64] fun (x57 : Int × Int × Int × Int × Int × Int × SlV × SlV × Bool × Int × Unit) =>
  LoadA w13 ⟨b3, 1, none⟩ [.int .i64, .int .i64] fun (x58 : Int × Int × Unit) =>
  LoadS w13 ⟨b3, 2, none⟩ (.int .i64) fun (x59 : Int) =>
  LoadS w13 ⟨b3, 3, none⟩ (.int .u8) fun (x60 : Int) =>
  CallV Try.prog 83 #[.agg #[.int .i64 x57.1, .int .i64 x57.2.1, .int .i64 x57.2.2.1, .int .i64 x57.2.2.2.1, .int .i64 x57.2.2.2.2.1, .int .i64 x57.2.2.2.2.2.1, .slice x57.2.2.2.2.2.2.1.a x57.2.2.2.2.2.2.1.n x57.2.2.2.2.2.2.1.c, .slice x57.2.2.2.2.2.2.2.1.a x57.2.2.2.2.2.2.2.1.n x57.2.2.2.2.2.2.2.1.c, .bool x57.2.2.2.2.2.2.2.2.1, .int .i64 x57.2.2.2.2.2.2.2.2.2.1], .agg #[.int .i64 x58.1, .int .i64 x58.2.1], .int .i64 x59, .int .u8 x60] w13 [.agg [.int .i64, .int .i64, .int .i64, .int .i64, .int .i64, .int .i64, .sl, .sl, .bool, .int .i64], .one (.int .i64)] fun (r61 : (Int × Int × Int × Int × Int × Int × SlV × SlV × Bool × Int × Unit) × Int × Unit) w62 =>
  NewV #[.int .i64 0, .int .i64 0, .int .i64 0, .int .i64 0, .int .i64 0, .int .i64 0, .slice none 0 0, .slice none 0 0, .bool false, .int .i64 0] 88 w62 fun b63 w64 =>
  StoreV w64 ⟨b63, 0, none⟩ [.int .i64 r61.1.1, .int .i64 r61.1.2.1, .int .i64 r61.1.2.2.1, .int .i64 r61.1.2.2.2.1, .int .i64 r61.1.2.2.2.2.1, .int .i64 r61.1.2.2.2.2.2.1, .slice r61.1.2.2.2.2.2.2.1.a r61.1.2.2.2.2.2.2.1.n r61.1.2.2.2.2.2.2.1.c, .slice r61.1.2.2.2.2.2.2.2.1.a r61.1.2.2.2.2.2.2.2.1.n r61.1.2.2.2.2.2.2.2.1.c, .bool r61.1.2.2.2.2.2.2.2.2.1, .int .i64 r61.1.2.2.2.2.2.2.2.2.2.1] fun w65 =>
  DrawV fun D66 =>
  (D66 b63 ∧ LoadA w65.drew ⟨b63, 0, none⟩ [.int .i64, .int .i64, .int .i64, .int .i64, .int .i64, .int .i64, .sl, .sl, .bool, .int .i64] fun (x67 : Int × Int × Int × Int × Int × Int × SlV × SlV × Bool × Int × Unit) =>
  (D66 b3 ∧ LoadA w65.drew ⟨b3, 1, none⟩ [.int .i64, .int .i64] fun (x68 : Int × Int × Unit) =>
  (D66 b3 ∧ LoadS w65.drew ⟨b3, 2, none⟩ (.int .i64) fun (x69 : Int) =>
  (D66 b3 ∧ LoadS w65.drew ⟨b3, 3, none⟩ (.int .u8) fun (x70 : Int) =>
  CallV Try.prog 84 #[.pointer (some p0), .agg #[.int .i64 x68.1, .int .i64 x68.2.1], .int .i64 x69, .int .u8 x70] w65.drew [.one (.int .i64)] fun (r71 : Int × Unit) w72 =>
  KeepOn D66 w65.drew w72 ∧
  StoreV w72 ⟨b5, 0, none⟩ [.int .i64 x67.1, .int .i64 x67.2.1, .int .i64 x67.2.2.1, .int .i64 x67.2.2.2.1, .int .i64 x67.2.2.2.2.1, .int .i64 x67.2.2.2.2.2.1, .slice x67.2.2.2.2.2.2.1.a x67.2.2.2.2.2.2.1.n x67.2.2.2.2.2.2.1.c, .slice x67.2.2.2.2.2.2.2.1.a x67.2.2.2.2.2.2.2.1.n x67.2.2.2.2.2.2.2.1.c, .bool x67.2.2.2.2.2.2.2.2.1, .int .i64 x67.2.2.2.2.2.2.2.2.2.1] fun w73 =>
  KeepOn D66 w65.drew w73 ∧
  LoadA w73 ⟨b5, 0, none⟩ [.int .i64, .int .i64, .int .i64, .int .i64, .int .i64, .int .i64, .sl, .sl, .bool, .int .i64] fun (x74 : Int × Int × Int × Int × Int × Int × SlV × SlV × Bool × Int × Unit) =>
  K ((x74.1, x74.2.1, x74.2.2.1, x74.2.2.2.1, x74.2.2.2.2.1, x74.2.2.2.2.2.1, x74.2.2.2.2.2.2.1, x74.2.2.2.2.2.2.2.1, x74.2.2.2.2.2.2.2.2.1, x74.2.2.2.2.2.2.2.2.2.1, ()), (r71.1 == r61.2.1), ()) w73)))))
  (cond (x14 == 5)
  (LoadS w13 ⟨b3, 4, none⟩ .bool fun (x75 : Bool) =>
  CallV Try.prog 85 #[.pointer (some p0), .bool x75] w13 [] fun (r76 : Unit) w77 =>
  LoadS w77 ⟨b3, 4, none⟩ .bool fun (x78 : Bool) =>
  StoreV w77 ⟨b1, 8, none⟩ [.bool (!x78)] fun w79 =>
  DrawV fun D80 =>
  (D80 b1 ∧ LoadA w79.drew ⟨b1, 0, none⟩ [.int .i64, .int .i64, .int .i64, .int .i64, .int .i64, .int .i64, .sl, .sl, .bool, .int .i64] fun (x81 : Int × Int × Int × Int × Int × Int × SlV × SlV × Bool × Int × Unit) =>
  (D80 b1 ∧ LoadS w79.drew ⟨b1, 8, none⟩ .bool fun (x82 : Bool) =>
  CallV Try.prog 54 #[.pointer (some p0)] w79.drew [.one .bool] fun (r83 : Bool × Unit) w84 =>
  KeepOn D80 w79.drew w84 ∧
  StoreV w84 ⟨b5, 0, none⟩ [.int .i64 x81.1, .int .i64 x81.2.1, .int .i64 x81.2.2.1, .int .i64 x81.2.2.2.1, .int .i64 x81.2.2.2.2.1, .int .i64 x81.2.2.2.2.2.1, .slice x81.2.2.2.2.2.2.1.a x81.2.2.2.2.2.2.1.n x81.2.2.2.2.2.2.1.c, .slice x81.2.2.2.2.2.2.2.1.a x81.2.2.2.2.2.2.2.1.n x81.2.2.2.2.2.2.2.1.c, .bool x81.2.2.2.2.2.2.2.2.1, .int .i64 x81.2.2.2.2.2.2.2.2.2.1] fun w85 =>
  KeepOn D80 w79.drew w85 ∧
  LoadA w85 ⟨b5, 0, none⟩ [.int .i64, .int .i64, .int .i64, .int .i64, .int .i64, .int .i64, .sl, .sl, .bool, .int .i64] fun (x86 : Int × Int × Int × Int × Int × Int × SlV × SlV × Bool × Int × Unit) =>
  K ((x86.1, x86.2.1, x86.2.2.1, x86.2.2.2.1, x86.2.2.2.2.1, x86.2.2.2.2.2.1, x86.2.2.2.2.2.2.1, x86.2.2.2.2.2.2.2.1, x86.2.2.2.2.2.2.2.2.1, x86.2.2.2.2.2.2.2.2.2.1, ()), (r83.1 == !x82), ()) w85)))
  (DrawV fun D87 =>
  (D87 b1 ∧ LoadA w13.drew ⟨b1, 0, none⟩ [.int .i64, .int .i64, .int .i64, .int .i64, .int .i64, .int .i64, .sl, .sl, .bool, .int .i64] fun (x88 : Int × Int × Int × Int × Int × Int × SlV × SlV × Bool × Int × Unit) =>
  (D87 b1 ∧ LoadS w13.drew ⟨b1, 8, none⟩ .bool fun (x89 : Bool) =>
  CallV Try.prog 54 #[.pointer (some p0)] w13.drew [.one .bool] fun (r90 : Bool × Unit) w91 =>
  KeepOn D87 w13.drew w91 ∧
  StoreV w91 ⟨b5, 0, none⟩ [.int .i64 x88.1, .int .i64 x88.2.1, .int .i64 x88.2.2.1, .int .i64 x88.2.2.2.1, .int .i64 x88.2.2.2.2.1, .int .i64 x88.2.2.2.2.2.1, .slice x88.2.2.2.2.2.2.1.a x88.2.2.2.2.2.2.1.n x88.2.2.2.2.2.2.1.c, .slice x88.2.2.2.2.2.2.2.1.a x88.2.2.2.2.2.2.2.1.n x88.2.2.2.2.2.2.2.1.c, .bool x88.2.2.2.2.2.2.2.2.1, .int .i64 x88.2.2.2.2.2.2.2.2.2.1] fun w92 =>
  KeepOn D87 w13.drew w92 ∧
  LoadA w92 ⟨b5, 0, none⟩ [.int .i64, .int .i64, .int .i64, .int .i64, .int .i64, .int .i64, .sl, .sl, .bool, .int .i64] fun (x93 : Int × Int × Int × Int × Int × Int × SlV × SlV × Bool × Int × Unit) =>
  K ((x93.1, x93.2.1, x93.2.2.1, x93.2.2.2.1, x93.2.2.2.2.1, x93.2.2.2.2.2.1, x93.2.2.2.2.2.2.1, x93.2.2.2.2.2.2.2.1, x93.2.2.2.2.2.2.2.2.1, x93.2.2.2.2.2.2.2.2.2.1, ()), (r90.1 == !x89), ()) w92)))))))) fun (J11 : SlV × Unit → World → Prop) =>
  LoadS w10 ⟨b3, 3, none⟩ (.int .u8) fun (x94 : Int) =>
  cond (x94 == 7)
  (((0 : Int) ≤ (1 : Int) ∧ (1 : Int) ≤ ((r9.1.n : Nat) : Int)) ∧
  SubK r9.1.a 1 r9.1.c 1 fun a95 =>
  J11 ((⟨a95, r9.1.n - 1, r9.1.c - 1⟩ : SlV), ()) w10)
  (J11 (r9.1, ()) w10)
theorem law13_step.vc (p0 : Addr) (p1_0 : Int) (p1_1 : Int) (p1_2 : Int) (p1_3 : Int) (p1_4 : Int) (p1_5 : Int) (a1_6 : Option Addr) (n1_6 c1_6 : Nat) (a1_7 : Option Addr) (n1_7 c1_7 : Nat) (p1_8 : Bool) (p1_9 : Int) (p2_0 : Int) (p2_1 : Int) (p2_2 : Int) (p2_3 : Int) (p2_4 : Bool) (w : World) (K : (Int × Int × Int × Int × Int × Int × SlV × SlV × Bool × Int × Unit) × Bool × Unit → World → Prop) (h : law13_step.P p0 p1_0 p1_1 p1_2 p1_3 p1_4 p1_5 a1_6 n1_6 c1_6 a1_7 n1_7 c1_7 p1_8 p1_9 p2_0 p2_1 p2_2 p2_3 p2_4 w K) : CallV Try.prog 45 #[.pointer (some p0), .agg #[.int .i64 p1_0, .int .i64 p1_1, .int .i64 p1_2, .int .i64 p1_3, .int .i64 p1_4, .int .i64 p1_5, .slice a1_6 n1_6 c1_6, .slice a1_7 n1_7 c1_7, .bool p1_8, .int .i64 p1_9], .agg #[.int .i64 p2_0, .int .i64 p2_1, .int .i64 p2_2, .int .u8 p2_3, .bool p2_4]] w [.agg [.int .i64, .int .i64, .int .i64, .int .i64, .int .i64, .int .i64, .sl, .sl, .bool, .int .i64], .one .bool] K := by
  have e : vcFun Try.prog okf false Try.f45 law13_step.A #[.pointer (some p0), .agg #[.int .i64 p1_0, .int .i64 p1_1, .int .i64 p1_2, .int .i64 p1_3, .int .i64 p1_4, .int .i64 p1_5, .slice a1_6 n1_6 c1_6, .slice a1_7 n1_7 c1_7, .bool p1_8, .int .i64 p1_9], .agg #[.int .i64 p2_0, .int .i64 p2_1, .int .i64 p2_2, .int .u8 p2_3, .bool p2_4]] w [.agg [.int .i64, .int .i64, .int .i64, .int .i64, .int .i64, .int .i64, .sl, .sl, .bool, .int .i64], .one .bool] K = law13_step.P p0 p1_0 p1_1 p1_2 p1_3 p1_4 p1_5 a1_6 n1_6 c1_6 a1_7 n1_7 c1_7 p1_8 p1_9 p2_0 p2_1 p2_2 p2_3 p2_4 w K := by kernel_rfl
  exact vcFun.calls okf_ok follows Try.func45 (e.symm ▸ h)

end Go.Proofs.Ytfpkaebmiojicaa.Vc

/-! The plans of functions as plain statements, printed by wip/tools/vcgen.py; the kernel holds each to the code. -/
namespace Go.Proofs.Ytfpkaebmiojicaa.Vc
open Go Go.Eng
set_option linter.unusedVariables false



end Go.Proofs.Ytfpkaebmiojicaa.Vc

/-! The laws GeometryChecks, GeometryIndexes and GeometryQuotas of layer 11: each call gives true, and what it read stays. -/
namespace Go.Proofs.Ytfpkaebmiojicaa.Vc
open Go Go.Eng Go.RowKit
set_option linter.unusedVariables false
set_option linter.unusedSimpArgs false

theorem Right_c {w : World} {g : Geo} : CallV Try.prog 17 #[g.val] w [.one .bool] fun r w' => r.1 = decide (Right g) ∧ Ext w w' := by
  refine ref11_Right.vc _ _ _ _ _ _ _ _ ?_
  unfold ref11_Right.P
  refine newG fun b1 w1 e1 hb => ?_
  have no : ∀ {w' : World}, ¬ Right g → Ext w w' → (false = decide (Right g) ∧ Ext w w') := fun hr he => ⟨(decide_eq_false hr).symm, he⟩
  refine hb.ld (i := 0) (h := .int .i64) (x := g.b) rfl ?_
  refine in11_c.mono ?_
  rintro ⟨(r1 : Bool), ⟨⟩⟩ w' ⟨h1, rfl⟩
  dsimp only at h1 ⊢
  subst h1
  refine cond_of (fun hc => no (fun hr => by unfold Right Kept at hr; simp at hc; omega) e1) (fun c1 => ?_)
  simp at c1
  refine hb.ld (i := 1) (h := .int .i64) (x := g.p) rfl ?_
  refine in11_c.mono ?_
  rintro ⟨(r1 : Bool), ⟨⟩⟩ w' ⟨h1, rfl⟩
  dsimp only at h1 ⊢
  subst h1
  refine cond_of (fun hc => no (fun hr => by unfold Right Kept at hr; simp at hc; omega) e1) (fun c2 => ?_)
  simp at c2
  refine hb.ld (i := 2) (h := .int .i64) (x := g.s) rfl ?_
  refine in11_c.mono ?_
  rintro ⟨(r1 : Bool), ⟨⟩⟩ w' ⟨h1, rfl⟩
  dsimp only at h1 ⊢
  subst h1
  refine cond_of (fun hc => no (fun hr => by unfold Right Kept at hr; simp at hc; omega) e1) (fun c3 => ?_)
  simp at c3
  refine hb.ld (i := 3) (h := .int .i64) (x := g.sp) rfl ?_
  refine in11_c.mono ?_
  rintro ⟨(r1 : Bool), ⟨⟩⟩ w' ⟨h1, rfl⟩
  dsimp only at h1 ⊢
  subst h1
  refine cond_of (fun hc => no (fun hr => by unfold Right Kept at hr; simp at hc; omega) e1) (fun c4 => ?_)
  simp at c4
  refine hb.ld (i := 4) (h := .int .i64) (x := g.wr) rfl ?_
  refine in11_c.mono ?_
  rintro ⟨(r1 : Bool), ⟨⟩⟩ w' ⟨h1, rfl⟩
  dsimp only at h1 ⊢
  subst h1
  refine cond_of (fun hc => no (fun hr => by unfold Right Kept at hr; simp at hc; omega) e1) (fun c5 => ?_)
  simp at c5
  refine hb.ld (i := 5) (h := .int .i64) (x := g.ro) rfl ?_
  refine in11_c.mono ?_
  rintro ⟨(r1 : Bool), ⟨⟩⟩ w' ⟨h1, rfl⟩
  dsimp only at h1 ⊢
  subst h1
  refine cond_of (fun hc => no (fun hr => by unfold Right Kept at hr; simp at hc; omega) e1) (fun c6 => ?_)
  simp at c6
  refine DrawV.old w' fun D hD hkeep => ?_
  have hD1 := hD _ hb.lt
  have hd := hb.ext (Ext.drew _)
  have e1' := e1.trans (Ext.drew w')
  refine ⟨hD1, hd.ld (i := 2) (h := .int .i64) (x := g.s) rfl ?_⟩
  have hm : Int.tmod g.s 16 = g.s % 16 := Int.tmod_eq_emod_of_nonneg (by omega)
  rw [hm]
  refine ⟨by omega, cond_eq (fun h16 => ?_) (fun h16 => no (fun hr => by unfold Right Kept at hr; omega) e1')⟩
  refine ⟨hD1, ldG hd ?_⟩
  refine ⟨hD1, hd.ld (i := 1) (h := .int .i64) (x := g.p) rfl ?_⟩
  refine (rChunks_c (g := g) (by omega)).mono ?_
  rintro ⟨(r2 : Int), ⟨⟩⟩ w2 ⟨h2, e2⟩
  have E2 := (Ext.drew w').trans e2
  refine ⟨hkeep _ E2, ?_⟩
  dsimp only at h2 ⊢
  subst h2
  have F2 := e1.trans E2
  refine cond_d (fun hle => ?_) (fun hle => no (fun hr => by unfold Right at hr; omega) F2)
  refine ⟨hD1, hd.ld (i := 0) (h := .int .i64) (x := g.b) rfl ?_⟩
  refine ⟨Rng.i64 (by omega) (by omega), ?_⟩
  refine ⟨hD1, hd.ld (i := 3) (h := .int .i64) (x := g.sp) rfl ?_⟩
  refine ⟨Rng.i64 (by omega) (by omega), ?_, F2⟩
  apply decide_eq_decide.2
  unfold Right Kept
  omega

abbrev TGeo : Ty := .cons (.int .i64) (.cons (.int .i64) (.cons (.int .i64) (.cons (.int .i64) (.cons (.int .i64) (.cons (.int .i64) .nil)))))
abbrev TPair : Ty := .cons (.int .i64) (.cons (.int .i64) .nil)
def geoT (x : TGeo.T) : Geo := ⟨x.1, x.2.1, x.2.2.1, x.2.2.2.1, x.2.2.2.2.1, x.2.2.2.2.2.1⟩
theorem geoT_val (x : TGeo.T) : (.agg (TGeo.vs x).toArray : Value) = (geoT x).val := rfl
theorem pairT_val (x : TPair.T) : (.agg (TPair.vs x).toArray : Value) = .agg #[.int .i64 x.1, .int .i64 x.2.1] := rfl
end Go.Proofs.Ytfpkaebmiojicaa.Vc

/-! The contracts of layer 13: the document's array. -/
namespace Go.Proofs.Ytfpkaebmiojicaa.Vc
open Go Go.Eng Go.RowKit
set_option linter.unusedVariables false
set_option linter.unusedSimpArgs false

abbrev TI : Ty := .sl (.int .i64)
abbrev TBd : Ty := .cons TBB (.cons TI (.cons (.int .i64) (.cons .bool (.cons (.int .i64) .nil))))
def bdOf (x : TBd.T) : BD := ⟨x.1.l.map (·.l), x.2.1.l, x.2.2.1, x.2.2.2.1, x.2.2.2.2.1⟩
abbrev bdV (x : TBd.T) : List Value := [.slice x.1.a x.1.n x.1.c, .slice x.2.1.a x.2.1.n x.2.1.c, .int .i64 x.2.2.1, .bool x.2.2.2.1, .int .i64 x.2.2.2.2.1]
abbrev bdT (x : TBd.T) : SlV × SlV × Int × Bool × Int × Unit := (⟨x.1.a, x.1.n, x.1.c⟩, ⟨x.2.1.a, x.2.1.n, x.2.1.c⟩, x.2.2.1, x.2.2.2.1, x.2.2.2.2.1, ())
abbrev bdVal (x : TBd.T) : Value := .agg #[.slice x.1.a x.1.n x.1.c, .slice x.2.1.a x.2.1.n x.2.1.c, .int .i64 x.2.2.1, .bool x.2.2.2.1, .int .i64 x.2.2.2.2.1]
abbrev chV (B : SlP TBd.T) (f : SlP TF.T) (C : CD) : List Value := [.int .i64 C.g.b, .int .i64 C.g.p, .int .i64 C.g.s, .int .i64 C.g.sp, .int .i64 C.g.wr, .int .i64 C.g.ro, .slice B.a B.n B.c, .slice f.a f.n f.c, .bool C.off, .int .i64 (C.ops : Int)]
abbrev chVal (B : SlP TBd.T) (f : SlP TF.T) (C : CD) : Value := .agg #[.int .i64 C.g.b, .int .i64 C.g.p, .int .i64 C.g.s, .int .i64 C.g.sp, .int .i64 C.g.wr, .int .i64 C.g.ro, .slice B.a B.n B.c, .slice f.a f.n f.c, .bool C.off, .int .i64 (C.ops : Int)]
abbrev chT (B : SlP TBd.T) (f : SlP TF.T) (C : CD) : Int × Int × Int × Int × Int × Int × SlV × SlV × Bool × Int × Unit := (C.g.b, C.g.p, C.g.s, C.g.sp, C.g.wr, C.g.ro, ⟨B.a, B.n, B.c⟩, ⟨f.a, f.n, f.c⟩, C.off, (C.ops : Int), ())
/-- A value that is the document's array. -/
structure RefR (H : Nat → Prop) (w : World) (B : SlP TBd.T) (f : SlP TF.T) (C : CD) : Prop where
  rb : (Ty.sl TBd).rd w H B
  db : B.l.map bdOf = C.bs
  rf : LF.rd w All f
  df : fds f = C.pl
theorem RefR.ext {H : Nat → Prop} {w w' : World} {B : SlP TBd.T} {f : SlP TF.T} {C : CD} (h : RefR H w B f C) (e : Ext w w') : RefR H w' B f C := ⟨Ty.rd_ext e _ h.rb, h.db, Ty.rd_ext e _ h.rf, h.df⟩
theorem RefR.len {H : Nat → Prop} {w : World} {B : SlP TBd.T} {f : SlP TF.T} {C : CD} (h : RefR H w B f C) : B.n = C.bs.length := by rw [← h.db, List.length_map]; exact h.rb.1.symm
theorem RefR.nth {H : Nat → Prop} {w : World} {B : SlP TBd.T} {f : SlP TF.T} {C : CD} (h : RefR H w B f C) {i : Int} (h0 : 0 ≤ i) (h1 : i < (B.n : Int)) :
    ∃ q x, B.a = some q ∧ CellsAt w (q.add (i.toNat * 5)) (bdV x) ∧ TBd.rd w All x ∧ B.l[i.toNat]? = some x ∧ bdOf x = blkC C i ∧ q.block < w.heap.size := by
  obtain ⟨q, x, hq, hx, hc, hr, -, hb⟩ := Ty.nth (e := TBd) ((Ty.sl TBd).rd_mono (G' := All) (fun _ _ _ => trivial) h.rb) h0 h1 (by decide)
  refine ⟨q, x, hq, hc, hr, hx, ?_, hb⟩
  show _ = C.bs.getD i.toNat default
  rw [getD_some (x := bdOf x)]
  rw [← h.db, List.getElem?_map, hx]; rfl
theorem own_rdT {w : World} {F : Nat → Prop} {t : Ty} {e : TypeId} {a : Option Addr} {n c : Nat} {L : List t.T} {S : Nat → Prop} (ho : Own w 0 e t.n a n c (L.flatMap t.vs)) (hp : 0 < t.n) (h : ∀ y ∈ L, t.rd w All y) : (Ty.sl t).rd w All ⟨a, n, c, L⟩ := by
  have hm := maxLen_eq
  refine ⟨?_, ho.cap, by have := ho.lim; show n ≤ maxLen; omega, .of ho.rd, h⟩
  have := ho.len
  rw [flatF_len (f := t.vs) (m := t.n) t.vs_length] at this
  exact Nat.eq_of_mul_eq_mul_right hp this

theorem rRight13_c {w : World} {g : Geo} {b p : Int} : CallV Try.prog 47 #[g.val, .agg #[.int .i64 b, .int .i64 p]] w [.one .bool] fun r w' => r.1 = decide (plOk g b p) ∧ Ext w w' := by
  apply ref13_Right.vc
  unfold ref13_Right.P
  have S := Sep.start NoB w
  refine S.newB fun b1 w1 S f1 _ => ?_
  refine S.newB fun b3 w3 S f3 _ => ?_
  (repeat ((first | refine S.newB fun _ _ S f _ => ?_ | refine S.la0 rfl ?_ | refine S.la1 rfl ?_ | refine S.la2 rfl ?_ | refine S.la3 rfl ?_ | refine S.la4 rfl ?_ | refine S.la5 rfl ?_ | refine S.ld0 rfl rfl ?_ | refine S.ld1 rfl rfl ?_ | refine S.ld2 rfl rfl ?_ | refine S.ld3 rfl rfl ?_ | refine S.ld4 rfl rfl ?_ | refine S.ld5 rfl rfl ?_ | refine S.st0 (by rfl) fun _ S f => ?_ | refine S.st1 (by rfl) fun _ S f => ?_ | refine S.st2 (by rfl) fun _ S f => ?_ | refine S.st3 (by rfl) fun _ S f => ?_ | refine S.st4 (by rfl) fun _ S f => ?_ | refine S.st5 (by rfl) fun _ S f => ?_ | refine S.su0 (by rfl) fun _ S f => ?_ | refine S.su1 (by rfl) fun _ S f => ?_ | refine S.su2 (by rfl) fun _ S f => ?_ | refine S.su3 (by rfl) fun _ S f => ?_ | refine S.su4 (by rfl) fun _ S f => ?_ | refine S.su5 (by rfl) fun _ S f => ?_ | refine ⟨by decide, ?_⟩); try dsimp only [List.set_cons_zero, List.set_cons_succ, cond_true, cond_false, Bool.not_true, Bool.not_false]))
  refine (Right_c (g := g)).mono ?_
  rintro ⟨(r : Bool), ⟨⟩⟩ w4 ⟨h4, x4⟩
  dsimp only at h4 ⊢
  subst h4
  have S := S.stepE x4
  by_cases hR : Right g
  case neg => exact cond_f (decide_eq_false hR) ⟨(decide_eq_false fun h => hR h.1).symm, S.ext⟩
  refine cond_t (decide_eq_true hR) (S.ld0 rfl rfl (cond_d (fun h1 => ?_) fun h1 => ⟨(decide_eq_false fun h => h1 h.2.1.1).symm, S.ext⟩))
  refine S.ld0 rfl rfl (S.ld1 rfl rfl (cond_d (fun h2 => ?_) fun h2 => ⟨(decide_eq_false fun h => h2 h.2.1.2).symm, S.ext⟩))
  refine S.ld0 rfl rfl (cond_d (fun h3 => ?_) fun h3 => ⟨(decide_eq_false fun h => h3 h.2.2.1).symm, S.ext⟩)
  refine S.ld0 rfl rfl (S.ld1 rfl rfl ⟨decide_eq_decide.2 ⟨fun h => ⟨hR, ⟨h1, h2⟩, h3, h⟩, fun h => h.2.2.2⟩, S.ext⟩)

section
variable {w : World} {B : SlP TBd.T} {f : SlP TF.T} {C : CD}
theorem code_c {H : Nat → Prop} (h : RefR H w B f C) (hC : COk C) : CallV Try.prog 107 #[chVal B f C] w [.one (.int .i64), .one .sl, .one .bool] fun r w' =>
    r.1 = (codeC C).1 ∧ r.2.2.1 = (codeC C).2.2 ∧ Ints w' .u8 r.2.1.a r.2.1.n r.2.1.c (codeC C).2.1 ∧ Ext w w' := by
  apply ref13_code.vc
  unfold ref13_code.P
  have S := Sep.start NoB w
  refine S.newB fun b1 w1 S f1 _ => ?_
  refine S.ld0 (j := 7) rfl rfl (S.ld0 (j := 9) rfl rfl ?_)
  have hrf := Ty.rd_ext S.ext _ h.rf
  refine (rAt_c (n := (C.ops : Int)) hrf).mono ?_
  rintro ⟨(r : Int), ⟨⟩⟩ w2 ⟨h2, rfl⟩
  rw [h.df] at h2
  dsimp only at h2 ⊢
  have hcode : ∀ F : FD, atF C.pl (C.ops : Int) = some F → codeC C = (if F.2.1 then 4 else 5, F.2.2.1, F.2.1) := fun F hF => by unfold codeC; rw [hF]
  cases hi : atI C.pl (C.ops : Int) with
  | none =>
    rw [hi] at h2
    have hF : atF C.pl (C.ops : Int) = none := by
      unfold atI at hi
      unfold atF
      rw [List.findIdx?_eq_none_iff] at hi
      rw [List.find?_eq_none]
      intro x hx
      simpa using hi x hx
    subst h2
    have hc : codeC C = (0, [], false) := by unfold codeC; rw [hF]
    rw [hc]
    exact cond_t rfl ⟨rfl, rfl, intsNil, S.ext⟩
  | some i =>
    rw [hi] at h2
    dsimp only at h2
    subst h2
    obtain ⟨hil, hF⟩ : i < f.n ∧ ∃ F, C.pl[i]? = some F ∧ atF C.pl (C.ops : Int) = some F := by
      unfold atI at hi
      rw [List.findIdx?_eq_some_iff_getElem] at hi
      obtain ⟨hl, hp, hlt⟩ := hi
      have hlen : C.pl.length = f.n := by rw [← h.df]; exact LF_len h.rf
      refine ⟨by omega, C.pl[i], List.getElem?_eq_getElem hl, ?_⟩
      unfold atF
      rw [List.find?_eq_some_iff_getElem]
      exact ⟨hp, i, hl, rfl, fun j hj => by simpa using hlt j hj⟩
    obtain ⟨F, hFi, hF⟩ := hF
    obtain ⟨q, x, hq, hx, hc, hr, -, hb⟩ := LF_nth hrf (i := (i : Int)) (by omega) (by omega)
    have hFx : F = (x.1, x.2.1, x.2.2.1.l, ()) := by
      have := LF_get hx
      rw [Int.toNat_natCast, h.df, hFi] at this
      exact Option.some.inj this
    have hIx : Ints w2 .u8 x.2.2.1.a x.2.2.1.n x.2.2.1.c x.2.2.1.l := Ty.ints hr.2.2.1
    rw [hcode F hF, hFx]
    refine cond_f (decide_eq_false (by omega)) (S.ld0 (j := 7) rfl rfl ⟨⟨by omega, by dsimp only; omega⟩, q, hq, ?_⟩)
    refine ldc (vs := [.int .i64 x.1, .bool x.2.1, .slice x.2.2.1.a x.2.2.1.n x.2.2.1.c]) hc 1 (h := .bool) rfl ?_
    refine cond_of (fun hx2 => ?_) (fun hx2 => ?_)
    · refine S.reg fun D hD hkeep S T => ?_
      refine ⟨hD _ S.bl0, S.ld0 (j := 7) rfl rfl ⟨⟨by omega, by dsimp only; omega⟩, q, hq, by rw [add_block, add_block]; exact hD _ hb, ldc (vs := [.int .i64 x.1, .bool x.2.1, .slice x.2.2.1.a x.2.2.1.n x.2.2.1.c]) ((Ext.drew w2).cells hc) 2 (h := .sl) (x := ⟨x.2.2.1.a, x.2.2.1.n, x.2.2.1.c⟩) rfl ?_⟩⟩
      exact ⟨by rw [hx2]; rfl, by rw [hx2], hIx.drew, S.ext⟩
    · refine S.reg fun D hD hkeep S T => ?_
      refine ⟨hD _ S.bl0, S.ld0 (j := 7) rfl rfl ⟨⟨by omega, by dsimp only; omega⟩, q, hq, by rw [add_block, add_block]; exact hD _ hb, ldc (vs := [.int .i64 x.1, .bool x.2.1, .slice x.2.2.1.a x.2.2.1.n x.2.2.1.c]) ((Ext.drew w2).cells hc) 2 (h := .sl) (x := ⟨x.2.2.1.a, x.2.2.1.n, x.2.2.1.c⟩) rfl ?_⟩⟩
      exact ⟨by rw [hx2]; rfl, by rw [hx2], hIx.drew, S.ext⟩
end

end Go.Proofs.Ytfpkaebmiojicaa.Vc

/-! The contracts of layer 13: the document's array, its blocks. -/
namespace Go.Proofs.Ytfpkaebmiojicaa.Vc
open Go Go.Eng Go.RowKit
set_option linter.unusedVariables false
set_option linter.unusedSimpArgs false

theorem vs_one_ty : ∀ (t : Ty) (x : t.T), oneAll (t.vs x)
  | .int k, x => fun u hu => by rw [List.mem_singleton.1 hu]; rfl
  | .bool, x => fun u hu => by rw [List.mem_singleton.1 hu]; rfl
  | .str, x => fun u hu => by rw [List.mem_singleton.1 hu]; rfl
  | .sl e, x => fun u hu => by rw [List.mem_singleton.1 hu]; rfl
  | .nil, x => fun u hu => (List.not_mem_nil hu).elim
  | .cons a r, x => fun u hu => (List.mem_append.1 hu).elim (vs_one_ty a x.1 u) (vs_one_ty r x.2 u)
theorem TBd_len : TBd.n = 5 := rfl
theorem own_rdF {w : World} {F G : Nat → Prop} {t : Ty} {e : TypeId} {a : Option Addr} {n c : Nat} {L : List t.T} (ho : (OwnA e t.n a n c (L.flatMap t.vs)).p w F) (hp : 0 < t.n) (hF : ∀ k, F k → G k) (h : ∀ y ∈ L, t.rd w G y) : (Ty.sl t).rd w G ⟨a, n, c, L⟩ := by
  have hm := maxLen_eq
  obtain ⟨ho, hq⟩ := ho
  refine ⟨?_, ho.cap, by have := ho.lim; show n ≤ maxLen; omega, ?_, h⟩
  · have := ho.len
    rw [flatF_len (f := t.vs) (m := t.n) t.vs_length] at this
    exact Nat.eq_of_mul_eq_mul_right hp this
  · rcases ho.rd with h | ⟨p, h1, h2⟩
    · exact .inl h
    · exact .inr ⟨p, h1, h2, fun _ => hF _ (hq p h1)⟩
theorem with_c {w : World} {B : SlP TBd.T} {f : SlP TF.T} {C : CD} {G : Nat → Prop} {n : Int} {x : TBd.T} (hB : (Ty.sl TBd).rd w G B) (hl : B.n ≤ 1000) (ho : C.ops ≤ 1000000) (hx : TBd.rd w G x) (hn : 0 ≤ n ∧ n < (B.n : Int)) :
    CallV Try.prog 109 #[chVal B f C, .int .i64 n, bdVal x] w [.agg [.int .i64, .int .i64, .int .i64, .int .i64, .int .i64, .int .i64, .sl, .sl, .bool, .int .i64]] fun r w' =>
      ∃ B' : SlP TBd.T, r.1 = chT B' f { C with ops := C.ops + 1 } ∧ (Ty.sl TBd).rd w' (fun k => G k ∨ w.heap.size ≤ k) B' ∧ B'.l = B.l.set n.toNat x ∧ Ext w w' := by
  apply ref13_with.vc
  unfold ref13_with.P
  have S := Sep.start NoB w
  refine S.newB fun b1 w1 S f1 _ => ?_
  refine S.newB fun b3 w3 S f3 _ => ?_
  refine S.newB fun b5 w5 S f5 _ => ?_
  refine S.newB fun b7 w7 S f7 _ => ?_
  have S := S.asOwn (sz := 5) (n := 0) rfl (by omega) oneAll.nil
  refine S.ld3 (j := 6) rfl rfl ?_
  dsimp only
  have hrb := Ty.rd_ext S.ext _ hB
  have hfl : (B.l.flatMap TBd.vs).length = B.n * 5 := by rw [flatF_len (f := TBd.vs) (m := 5) TBd.vs_length]; rw [show B.l.length = B.n from hB.1]
  refine AppS.of (news := B.l.flatMap TBd.vs) hfl hrb.2.2.2.1.rdc ?_
  refine S.ap0 hfl (flatF_one (vs_one_ty TBd) _) (by omega) (by omega) fun a c w8 S f8 => ?_
  rw [List.nil_append, Nat.zero_add] at S
  rw [Nat.zero_add]
  refine S.la2 rfl ?_
  refine ⟨hn, ?_⟩
  refine (S.putF (f := TBd.vs) (m := 5) TBd.vs_length (vs_one_ty TBd) (by decide) hn x fun w9 S f9 => ?_)
  refine S.su3 (j := 6) (by rfl) fun w10 S f10 => ?_
  refine S.ld3 (j := 9) rfl rfl ⟨Rng.i64 (by omega) (by omega), ?_⟩
  refine S.su3 (j := 9) (by rfl) fun w11 S f11 => ?_
  refine S.la3 rfl (S.st1 (by rfl) fun w12 S f12 => S.la1 rfl ?_)
  have hX := S.ext
  refine ⟨⟨a, B.n, c, B.l.set n.toNat x⟩, ?_, ?_, rfl, hX⟩
  · show (C.g.b, C.g.p, C.g.s, C.g.sp, C.g.wr, C.g.ro, (⟨a, B.n, c⟩ : SlV), (⟨f.a, f.n, f.c⟩ : SlV), C.off, (C.ops : Int) + 1, ()) = _
    have : (((C.ops + 1 : Nat)) : Int) = (C.ops : Int) + 1 := by push_cast; rfl
    unfold chT
    rw [this]
  · obtain ⟨F, h1, h2⟩ := S.get (i := 0) rfl
    refine own_rdF (t := TBd) h1 (by decide) (fun k hk => .inr ((h2 k hk).1.resolve_left fun x => x)) fun y hy => ?_
    rcases List.mem_or_eq_of_mem_set hy with h3 | h3
    · exact TBd.rd_mono (fun k hk _ => .inl hk) (Ty.rd_ext hX _ (hB.2.2.2.2 y h3))
    · rw [h3]; exact TBd.rd_mono (fun k hk _ => .inl hk) (Ty.rd_ext hX _ hx)

theorem joined_c {w : World} {x : TBd.T} {g : Geo} {m z : Nat} (hx : TBd.rd w All x) (hp : x.1.l.length ≤ 100) (hz : z ≤ 10000) (hl : ∀ q ∈ x.1.l, q.l.length = z) :
    CallV Try.prog 88 #[bdVal x] w [.one .sl] fun r w' => Res w w' r.1 ((x.1.l.map (·.l)).flatten) := by
  apply ref13_joined.vc
  unfold ref13_joined.P
  have hpn : x.1.l.length = x.1.n := hx.1.1
  have S := Sep.start NoB w
  refine S.newB fun b1 w1 S f1 _ => ?_
  refine S.newB fun b3 w3 S f3 _ => ?_
  have S := S.asOwn (sz := 1) (n := 0) rfl (by omega) oneAll.nil
  refine Loop1 (fun (v : SlV × Int × Unit) w' => ∃ i : Nat, v.2.1 = (i : Int) ∧ i ≤ x.1.n ∧ v.1.n = i * z ∧ Sep NoB w w' [OwnA 5 1 v.1.a v.1.n v.1.c ((((x.1.l.map (·.l)).take i).flatten).map (Value.int .u8)), BoxA b1 98 (bdV x)]) (fun (v : SlV × Int × Unit) _ => ((x.1.n : Int) - v.2.1).toNat) ⟨0, rfl, by omega, by simp, S⟩ ?_
  rintro ⟨⟨a, n, c⟩, (v : Int), ⟨⟩⟩ w4 ⟨i, hv, hi, hn, S⟩
  dsimp only at hv hn S ⊢
  subst hv
  subst hn
  refine S.ld1 (j := 0) rfl rfl ?_
  dsimp only
  refine cond_d (fun hlt => ?_) (fun hge => ?_)
  · refine S.ld1 (j := 0) rfl rfl ?_
    obtain ⟨q, y, hq, hy, hc, hr, -, -⟩ := TBB_nth (Ty.rd_ext S.ext _ hx.1) (Int.natCast_nonneg i) hlt
    refine ⟨⟨by omega, hlt⟩, q, hq, ldp0 hc (h := .sl) (x := ⟨y.a, y.n, y.c⟩) rfl ?_⟩
    have hI := Ty.ints hr
    have hyl := hI.len
    rw [Int.toNat_natCast] at hy
    have hyz := hl y (List.mem_of_getElem? hy)
    dsimp only
    have m1 : i * z ≤ 100 * 10000 := Nat.mul_le_mul (by omega) hz
    refine S.ab0 hI (by omega) fun a' c' w5 S f5 => ⟨Rng.i64 (by omega) (by omega), ⟨i + 1, by push_cast; rfl, by omega, by show i * z + y.n = _; rw [Nat.add_mul]; omega, ?_⟩, by omega⟩
    have e : ((x.1.l.map (·.l)).take (i + 1)).flatten = ((x.1.l.map (·.l)).take i).flatten ++ y.l := by
      have h1 : (x.1.l.map (·.l))[i]? = some y.l := by rw [List.getElem?_map, hy]; rfl
      rw [List.take_add_one, h1, List.flatten_append]
      simp
    rw [e]
    exact S
  · have : i = x.1.n := by omega
    subst this
    rw [List.take_of_length_le (by rw [List.length_map]; omega)] at S
    exact S.out

end Go.Proofs.Ytfpkaebmiojicaa.Vc

/-! The contracts of layer 13: the document's array, bytes cut into pages, blank blocks. -/
namespace Go.Proofs.Ytfpkaebmiojicaa.Vc
open Go Go.Eng Go.RowKit
set_option linter.unusedVariables false
set_option linter.unusedSimpArgs false

theorem ints_rd {w : World} {a : Option Addr} {n c : Nat} {xs : List Int} (h : Ints w .u8 a n c xs) (bx : Byt xs) : TB.rd w All ⟨a, n, c, xs⟩ := by
  have hm := maxLen_eq
  refine ⟨h.len, h.cap, by have := h.lim; show n ≤ maxLen; omega, ?_, fun y hy => rngU8 (bx y hy)⟩
  rw [show xs.flatMap (Ty.int .u8).vs = xs.map (Value.int .u8) from flat_ints .u8 _]
  exact .of h.rd
theorem own_TBB {w : World} {e : TypeId} {a : Option Addr} {n c : Nat} {L : List (SlP Int)} (ho : Own w 0 e 1 a n c (L.map slV)) (h : ∀ y ∈ L, TB.rd w All y) : TBB.rd w All ⟨a, n, c, L⟩ := by
  rw [← flat_sl] at ho
  exact own_rdT (t := TB) (F := All) (S := All) ho (by decide) h
theorem own_TI {w : World} {e : TypeId} {a : Option Addr} {n c : Nat} {xs : List Int} (ho : Own w 0 e 1 a n c (iv xs)) (h : ∀ y ∈ xs, Rng .i64 y) : TI.rd w All ⟨a, n, c, xs⟩ := by
  rw [iv, ← flat_ints] at ho
  exact own_rdT (t := .int .i64) (F := All) (S := All) ho (by decide) h

theorem TB_sub {w : World} {G : Nat → Prop} {a a' : Option Addr} {n c l hh m : Nat} {xs : List Int} (h : TB.rd w G ⟨a, n, c, xs⟩) (h1 : l ≤ hh) (h2 : hh ≤ n) (h3 : hh ≤ m) (ha : a' = if m = l then a else a.map (·.add (l * 1))) : TB.rd w G ⟨a', hh - l, m - l, (xs.drop l).take (hh - l)⟩ := by
  have hs := (Ty.ints h).sub h1 h2 h3 ha
  have hm := maxLen_eq
  refine ⟨hs.len, hs.cap, by have := hs.lim; show hh - l ≤ maxLen; omega, ?_, fun y hy => h.2.2.2.2 y (List.mem_of_mem_drop (List.mem_of_mem_take hy))⟩
  rw [show ((xs.drop l).take (hh - l)).flatMap (Ty.int .u8).vs = ((xs.drop l).take (hh - l)).map (Value.int .u8) from flat_ints .u8 _]
  rcases hs.rd with hn | ⟨p, hp, hc⟩
  · exact .inl hn
  · refine .inr ⟨p, hp, hc, fun hne => ?_⟩
    rcases h.2.2.2.1 with ⟨ha0, _⟩ | ⟨q, hq, _, hG⟩
    · have ha0 : a = none := ha0
      rw [ha0] at ha
      rw [hp] at ha
      split at ha <;> cases ha
    · have hq : a = some q := hq
      have : q.block = p.block := by
        rw [hq, hp] at ha
        split at ha
        · cases ha; rfl
        · cases ha; rw [add_block]
      rw [← this]
      refine hG fun he => hne ?_
      have he : xs.flatMap (Ty.int .u8).vs = [] := he
      have hxe : xs = [] := by
        cases xs with
        | nil => rfl
        | cons y ys => cases he
      rw [hxe]; simp
theorem res_rd {w w' : World} {s : SlV} {xs : List Int} (h : Res w w' s xs) (bx : Byt xs) : TB.rd w' (fun k => w.heap.size ≤ k) ⟨s.a, s.n, s.c, xs⟩ := by
  have hm := maxLen_eq
  have hi := h.ints
  refine ⟨hi.len, hi.cap, by have := hi.lim; show s.n ≤ maxLen; omega, ?_, fun y hy => rngU8 (bx y hy)⟩
  rw [show xs.flatMap (Ty.int .u8).vs = xs.map (Value.int .u8) from flat_ints .u8 _]
  exact Own_in h.own
theorem cut13_c {w : World} {G : Nat → Prop} {a : Option Addr} {n c P : Nat} {xs : List Int} (hx' : TB.rd w G ⟨a, n, c, xs⟩) (hP : 0 < P ∧ P ≤ 1000) (hn : n ≤ 1000000) :
    CallV Try.prog 110 #[.slice a n c, .int .i64 (P : Int)] w [.one .sl] fun r w' => ∃ L : List (SlP Int), TBB.rd w' (fun k => G k ∨ w.heap.size ≤ k) ⟨r.1.a, r.1.n, r.1.c, L⟩ ∧ L.map (·.l) = cutL xs P ∧ Ext w w' := by
  apply ref13_cut.vc
  unfold ref13_cut.P
  have hx : Ints w .u8 a n c xs := Ty.ints hx'
  have hl := hx.len
  have hcap := hx.cap
  have hdiv : Int.tdiv (n : Int) (P : Int) = ((n / P : Nat) : Int) := by rw [Int.tdiv_eq_ediv_of_nonneg (by omega)]; exact (Int.natCast_ediv n P).symm
  simp only [hdiv]
  have hzn : n / P ≤ n := Nat.div_le_self n P
  have hmul : P * (n / P) ≤ n := Nat.mul_div_le n P
  generalize hz : n / P = z at *
  have S := Sep.start NoB w
  refine S.newB fun b1 w1 S f1 _ => ?_
  have S := S.asOwn (sz := 1) (n := 0) rfl (by omega) oneAll.nil
  refine ⟨by omega, Rng.i64 (by omega) (by omega), ?_⟩
  refine Loop1 (fun (v : SlV × Int × Unit) w' => ∃ (i : Nat) (L : List (SlP Int)), v.2.1 = (i : Int) ∧ i ≤ P ∧ v.1.n = i ∧ L.map (·.l) = (cutL xs P).take i ∧ (∀ y ∈ L, TB.rd w G y) ∧ Sep NoB w w' [OwnA 28 1 v.1.a v.1.n v.1.c (L.map slV)]) (fun (v : SlV × Int × Unit) _ => ((P : Int) - v.2.1).toNat) ⟨0, [], rfl, by omega, rfl, rfl, fun y hy => (List.not_mem_nil hy).elim, S⟩ ?_
  rintro ⟨⟨va, vn, vc⟩, (v : Int), ⟨⟩⟩ w4 ⟨i, L, hv, hi, hvn, hL, hrd, S⟩
  dsimp only at hv hvn S ⊢
  subst hv
  subst hvn
  refine cond_d (fun hlt => ?_) (fun hge => ?_)
  · have m1 : (vn + 1) * z ≤ P * z := Nat.mul_le_mul_right _ (by omega)
    have m2 : (vn + 1) * z = vn * z + z := by rw [Nat.add_mul, Nat.one_mul]
    have v1 : (vn : Int) * (z : Int) = ((vn * z : Nat) : Int) := by push_cast; rfl
    have v2 : (vn : Int) * (z : Int) + (z : Int) = ((vn * z + z : Nat) : Int) := by push_cast; rfl
    refine ⟨by rw [v1]; exact Rng.i64 (by omega) (by omega), by rw [v1]; exact Rng.i64 (by omega) (by omega), by rw [v2]; exact Rng.i64 (by omega) (by omega), ⟨by rw [v1]; omega, by rw [v2, v1]; omega, by rw [v2]; omega⟩, ?_⟩
    intro a6 ha6
    rw [v1, Int.toNat_natCast] at ha6
    rw [v2, v1, Int.toNat_natCast, Int.toNat_natCast]
    have hsub := TB_sub hx' (l := vn * z) (hh := vn * z + z) (m := c) (by omega) (by omega) (by omega) ha6
    have hel : (xs.drop (vn * z)).take (vn * z + z - vn * z) = (xs.drop (vn * z)).take z := by rw [Nat.add_sub_cancel_left]
    rw [hel] at hsub
    refine S.newB fun b7 w5 S f5 _ => ?_
    refine AppS.of (news := [slV ⟨a6, vn * z + z - vn * z, c - vn * z, (xs.drop (vn * z)).take z⟩]) rfl (.inr ⟨_, rfl, S.cells 0 rfl⟩) ?_
    refine S.ap1 (by rfl) (fun u hu => by rw [List.mem_singleton.1 hu]; rfl) (by omega) (by omega) fun a9 c11 w6 S f6 => ?_
    refine ⟨Rng.i64 (by omega) (by omega), ⟨vn + 1, L ++ [⟨a6, vn * z + z - vn * z, c - vn * z, (xs.drop (vn * z)).take z⟩], by push_cast; rfl, by omega, rfl, ?_, fun y hy => ?_, by rw [List.map_append]; exact S.tail⟩, by omega⟩
    · rw [List.map_append, hL, List.take_add_one]
      have : (cutL xs P)[vn]? = some ((xs.drop (vn * z)).take z) := by unfold cutL; rw [List.getElem?_map, List.getElem?_range (by omega), hl, hz]; rfl
      rw [this]
      rfl
    · rcases List.mem_append.1 hy with h | h
      · exact hrd y h
      · rw [List.mem_singleton.1 h]
        exact hsub
  · have : vn = P := by omega
    subst this
    obtain ⟨F1, h1, h2⟩ := S.get (i := 0) rfl
    rw [← flat_sl] at h1
    refine ⟨L, own_rdF (t := TB) h1 (by decide) (fun k hk => .inr ((h2 k hk).1.resolve_left fun x => x)) fun y hy => TB.rd_mono (fun k hk _ => .inl hk) (Ty.rd_ext S.ext _ (hrd y hy)), ?_, S.ext⟩
    rw [hL, List.take_of_length_le (by simp [cutL])]

theorem blank_c {w : World} {g : Geo} (hR : Right g) : CallV Try.prog 77 #[g.val] w [.agg [.sl, .sl, .int .i64, .bool, .int .i64]] fun r w' => ∃ x : TBd.T, r.1 = bdT x ∧ Sep NoB w w' [RdT TBd x] ∧ bdOf x = blankB g := by
  apply ref13_blank.vc
  unfold ref13_blank.P
  have hs := hR.sec
  have hK := hR.1
  unfold Kept at hK
  have S := Sep.start NoB w
  refine S.newB fun b1 w1 S f1 _ => ?_
  refine S.newB fun b3 w3 S f3 _ => ?_
  refine S.newB fun b5 w5 S f5 _ => ?_
  refine S.st0 (by rfl) fun w6 S f6 => ?_
  have S := ((S.nilL.nilOwn 28 1).nilOwn 3 1).sel [3, 1, 1, 0, 0, 0] rfl
  obtain ⟨P, hP, hP'⟩ : ∃ P : Nat, g.p = (P : Int) ∧ g.p.toNat = P := ⟨g.p.toNat, by omega, rfl⟩
  refine Loop1 (fun (v : Int × Unit) w' => ∃ (i : Nat) (a1 a2 : Option Addr) (c1 c2 : Nat) (L : List (SlP Int)), v.1 = (i : Int) ∧ i ≤ P ∧ L.map (·.l) = List.replicate i (List.replicate (szP g) 255) ∧ Sep NoB w w' [BoxA b5 98 [.slice a1 i c1, .slice a2 i c2, .int .i64 (-1), .bool false, .int .i64 0], OwnA 28 1 a1 i c1 (L.map slV), RdL L, OwnA 3 1 a2 i c2 (iv (List.replicate i 0)),
      BoxA b3 98 [.slice none 0 0, .slice none 0 0, .int .i64 0, .bool false, .int .i64 0], BoxA b1 23 g.vs]) (fun (v : Int × Unit) _ => ((P : Int) - v.1).toNat) ⟨0, none, none, 0, 0, [], rfl, by omega, rfl, S⟩ ?_
  rintro ⟨(z : Int), ⟨⟩⟩ w7 ⟨i, a1, a2, c1, c2, L, hz, hi, hL, S⟩
  dsimp only at hz ⊢
  subst hz
  refine S.ld5 (j := 1) rfl rfl ?_
  rw [hP]
  refine cond_d (fun hlt => ?_) (fun hge => ?_)
  case refine_2 =>
    have : i = P := by omega
    subst this
    refine S.la0 rfl (S.st4 (by rfl) fun w8 S f8 => S.la4 rfl ?_)
    have hX := S.ext
    have r1 : Rng .i64 (-1) := Rng.i64 (by decide) (by decide)
    have r0 : Rng .i64 0 := Rng.i64 (by decide) (by decide)
    refine ⟨(⟨a1, i, c1, L⟩, ⟨a2, i, c2, List.replicate i 0⟩, -1, false, 0, ()), rfl, ?_, ?_⟩
    · have SA := (S.sel [1, 1, 1] rfl).conv2 (R' := RdT TBB ⟨a1, i, c1, L⟩) fun F1 F2 h1 h2 _ => by
        rw [← flat_sl] at h1
        exact own_rdF (t := TB) h1 (by decide) (fun k hk => .inl hk) fun y hy => TB.rd_mono (fun k hk _ => .inr hk) (h2 y hy)
      refine SA.conv2 (R' := RdT TBd (⟨a1, i, c1, L⟩, ⟨a2, i, c2, List.replicate i 0⟩, -1, false, 0, ())) fun F1 F2 h1 h2 _ => ⟨TBB.rd_mono (fun k hk _ => .inl hk) h1, ?_, r1, trivial, r0, trivial⟩
      rw [iv, ← flat_ints] at h2
      exact own_rdF (t := .int .i64) h2 (by decide) (fun k hk => .inr hk) fun y hy => by rw [(List.mem_replicate.1 hy).2]; exact r0
    · unfold bdOf blankB
      dsimp only
      rw [hL, hP']
  refine ⟨fun (_ : Unit) w' => ∃ (a1 : Option Addr) (c1 : Nat) (L : List (SlP Int)), L.map (·.l) = List.replicate (i + 1) (List.replicate (szP g) 255) ∧ Sep NoB w w' [BoxA b5 98 [.slice a1 (i + 1) c1, .slice a2 i c2, .int .i64 (-1), .bool false, .int .i64 0], OwnA 28 1 a1 (i + 1) c1 (L.map slV), RdL L, OwnA 3 1 a2 i c2 (iv (List.replicate i 0)),
      BoxA b3 98 [.slice none 0 0, .slice none 0 0, .int .i64 0, .bool false, .int .i64 0], BoxA b1 23 g.vs], ?_, ?_⟩
  · rintro ⟨⟩ w14 ⟨a1', c1', L', hL', S⟩
    refine S.ld0 (j := 1) rfl rfl ?_
    refine S.newB fun b16 w17 S f17 _ => ?_
    dsimp only
    refine AppS.of (news := [.int .i64 0]) rfl (.inr ⟨_, rfl, S.cells 0 rfl⟩) ?_
    refine S.ap4 (by rfl) (fun u hu => by rw [List.mem_singleton.1 hu]; rfl) (by omega) (by omega) fun a18 c20 w21 S f21 => ?_
    refine S.su1 (j := 1) (by rfl) fun w23 S f23 => ?_
    refine ⟨Rng.i64 (by omega) (by omega), ⟨i + 1, a1', a18, c1', c20, L', by push_cast; rfl, by omega, hL', ?_⟩, by omega⟩
    have e : iv (List.replicate (i + 1) 0) = iv (List.replicate i 0) ++ [Value.int .i64 0] := by rw [List.replicate_succ', iv, List.map_append]; rfl
    rw [e]
    exact S.tail
  · have hne := S.ne 0 5 (by decide) rfl rfl
    have hno := S.neO 5 1 (by decide) rfl rfl
    refine S.regX (fun k => k = b5 ∨ ∃ q : Addr, a1 = some q ∧ k = q.block) fun D hD hkeep S T => ?_
    have k0 := hkeep _ (Fr.refl _ _)
    refine ⟨hD _ S.bl5 (fun h => h.elim (fun h => hne h.symm) fun ⟨q, hq, h⟩ => hno q hq h), S.ld5 (j := 2) rfl rfl ⟨Rng.i64 (by omega) (by omega), ?_⟩⟩
    have hsz : (max 0 (min 65536 (g.s + 88))).toNat = szP g := by
      have : max 0 (min 65536 (g.s + 88)) = g.s + 88 := by omega
      rw [this]
    have fin : ∀ {w' : World} {bb : Nat} {a : Option Addr} {n c : Nat}, Sep NoB w7.drew w' [BoxA bb 28 [.slice a n c], OwnA 5 1 a n c ((List.replicate (szP g) 255).map (Value.int .u8))] →
        AppS w' (some ⟨bb, 0, none⟩) 1 1 fun ns => AppV w' 28 1 24 a1 i c1 ns 1 fun a31 n32 c33 w34 => KeepOn D w7.drew w34 ∧ StoreV w34 ⟨b5, 0, none⟩ [.slice a31 n32 c33] fun w36 => KeepOn D w7.drew w36 ∧
          ∃ (a1 : Option Addr) (c1 : Nat) (L : List (SlP Int)), L.map (·.l) = List.replicate (i + 1) (List.replicate (szP g) 255) ∧ Sep NoB w w36 [BoxA b5 98 [.slice a1 (i + 1) c1, .slice a2 i c2, .int .i64 (-1), .bool false, .int .i64 0], OwnA 28 1 a1 (i + 1) c1 (L.map slV), RdL L, OwnA 3 1 a2 i c2 (iv (List.replicate i 0)),
            BoxA b3 98 [.slice none 0 0, .slice none 0 0, .int .i64 0, .bool false, .int .i64 0], BoxA b1 23 g.vs] := by
      intro w' bb a n c T
      have S := S.frame0 T
      dsimp only [List.cons_append, List.nil_append] at S
      refine AppS.of (news := [slV ⟨a, n, c, List.replicate (szP g) 255⟩]) rfl (.inr ⟨_, rfl, S.cells 0 rfl⟩) ?_
      refine S.ap3 (by rfl) (fun u hu => by rw [List.mem_singleton.1 hu]; rfl) (by omega) (by omega) fun a13 c13 w13 S f13 => ?_
      have g13 : Fr (fun k => k = b5 ∨ ∃ q : Addr, a1 = some q ∧ k = q.block) w7.drew w13 := T.fr.any.trans (f13.mono fun k hk => .inr hk)
      refine ⟨hkeep _ g13, S.su2 (j := 0) (by rfl) fun w14 S f14 => ⟨hkeep _ (g13.trans (f14.mono fun k hk => .inl hk)), a13, c13, L ++ [⟨a, n, c, List.replicate (szP g) 255⟩], ?_, ?_⟩⟩
      · rw [List.map_append, hL, List.replicate_succ']; rfl
      · have S := ((S.sel [1, 3, 1, 1, 1, 1, 1] rfl).addL (Byt.replicate (by decide) (by decide) _)).sel [1, 1, 0, 0, 0, 0] rfl
        rw [List.map_append]
        exact S
    refine ⟨?_, ?_⟩
    · refine S.ld0 (j := 0) rfl rfl ⟨k0, ?_⟩
      refine (rFill_c (x := 255) (n := g.s + 88)).mono ?_
      rintro ⟨⟨ra, rn, rc⟩, ⟨⟩⟩ w8 h8
      rw [hsz] at h8
      have T := T.res h8
      dsimp only at T ⊢
      exact ⟨hkeep _ T.fr.any, T.newB fun b29 w9 T f9 _ => ⟨hkeep _ T.fr.any, fin T⟩⟩
    · refine (rFill_c (x := 255) (n := g.s + 88)).mono ?_
      rintro ⟨⟨ra, rn, rc⟩, ⟨⟩⟩ w8 h8
      rw [hsz] at h8
      have T := T.res h8
      dsimp only at T ⊢
      have k8 := hkeep _ T.fr.any
      refine ⟨k8, ?_, ?_⟩
      · refine (S.stepE T.ext).ld0 (j := 0) rfl rfl ⟨k8, ?_⟩
        exact T.newB fun b29 w9 T f9 _ => ⟨hkeep _ T.fr.any, fin T⟩
      · refine T.newB fun b29 w9 T f9 _ => ⟨hkeep _ T.fr.any, ?_⟩
        have k9 := hkeep _ T.fr.any
        refine (S.stepE T.ext).ld0 (j := 0) rfl rfl ⟨k9, ?_⟩
        dsimp only
        exact fin T

end Go.Proofs.Ytfpkaebmiojicaa.Vc

/-! The contracts of layer 13: the document's array, new, and all its bytes. -/
namespace Go.Proofs.Ytfpkaebmiojicaa.Vc
open Go Go.Eng Go.RowKit
set_option linter.unusedVariables false
set_option linter.unusedSimpArgs false

theorem bd_page_len {g : Geo} {m : Nat} {x : TBd.T} (h : BOk g m (bdOf x)) : ∀ q ∈ x.1.l, q.l.length = szP g := fun q hq => (h.pb q.l (List.mem_map.2 ⟨q, hq, rfl⟩)).1
theorem bd_len {g : Geo} {m : Nat} {x : TBd.T} (h : BOk g m (bdOf x)) : x.1.l.length = g.p.toNat := by
  have h2 : (x.1.l.map (·.l)).length = g.p.toNat := h.pl
  rwa [List.length_map] at h2
theorem rImage_c {H : Nat → Prop} {w : World} {B : SlP TBd.T} {f : SlP TF.T} {C : CD} (h : RefR H w B f C) (hC : COk C) :
    CallV Try.prog 56 #[chVal B f C] w [.one .sl] fun r w' => Res w w' r.1 (imgC C) := by
  apply ref13_Image.vc
  unfold ref13_Image.P
  obtain ⟨⟨n1, n2⟩, ⟨n3, n4⟩, ⟨n5, n6⟩, n7, n8⟩ := hC.num
  have hBn := h.len
  rw [hC.bl] at hBn
  have S := Sep.start NoB w
  refine S.newB fun b1 w1 S f1 _ => ?_
  refine S.newB fun b3 w3 S f3 _ => ?_
  have S := S.asOwn (sz := 1) (n := 0) rfl (by omega) oneAll.nil
  refine Loop1 (fun (v : SlV × Int × Unit) w' => ∃ i : Nat, v.2.1 = (i : Int) ∧ i ≤ B.n ∧ v.1.n = i * bszC C ∧ Sep NoB w w' [OwnA 5 1 v.1.a v.1.n v.1.c (((C.bs.take i).flatMap fun x => x.pg.flatten).map (Value.int .u8)), BoxA b1 88 (chV B f C)]) (fun (v : SlV × Int × Unit) _ => ((B.n : Int) - v.2.1).toNat) ⟨0, rfl, by omega, by simp, S⟩ ?_
  rintro ⟨⟨a, n, c⟩, (v : Int), ⟨⟩⟩ w4 ⟨i, hv, hi, hn, S⟩
  dsimp only at hv hn S ⊢
  subst hv
  subst hn
  refine S.ld1 (j := 6) rfl rfl ?_
  dsimp only
  refine cond_d (fun hlt => ?_) (fun hge => ?_)
  · refine S.ld1 (j := 6) rfl rfl ?_
    obtain ⟨q, x, hq, hc, hr, hx, hbd, -⟩ := (h.ext S.ext).nth (i := (i : Int)) (by omega) hlt
    have hb := (hC.blk (bl := (i : Int)) (by omega)).2
    have hbs := (hC.blk (bl := (i : Int)) (by omega)).1
    rw [← hbd] at hb hbs
    refine ⟨⟨by omega, hlt⟩, q, hq, bdT x, hc, ?_⟩
    refine (joined_c (g := C.g) (m := 0) (z := szP C.g) hr (by rw [bd_len hb]; omega) (by omega) (bd_page_len hb)).mono ?_
    rintro ⟨⟨ra, rn, rc⟩, ⟨⟩⟩ w5 h5
    have hlen := h5.ints.len
    have hall : ((x.1.l.map (·.l)).flatten).length = bszC C := hb.all.1
    rw [hall] at hlen
    dsimp only at hlen h5 ⊢
    have S := S.stepE h5.ext
    have m2 : bszC C ≤ 20 * 216 := Nat.mul_le_mul (by omega) (by omega)
    have m1 : i * bszC C ≤ 16 * (20 * 216) := Nat.mul_le_mul (by omega) m2
    refine S.ab0 h5.ints (by dsimp only; omega) fun a' c' w6 S f6 => ⟨Rng.i64 (by omega) (by omega), ⟨i + 1, by push_cast; rfl, by omega, by show i * bszC C + rn = _; rw [Nat.add_mul]; omega, ?_⟩, by omega⟩
    have e : ((C.bs.take (i + 1)).flatMap fun x => x.pg.flatten) = ((C.bs.take i).flatMap fun x => x.pg.flatten) ++ (x.1.l.map (·.l)).flatten := by
      rw [Int.toNat_natCast] at hbs
      rw [List.take_add_one, hbs, List.flatMap_append]
      simp [bdOf]
    rw [e]
    exact S
  · have hiB : i = B.n := by omega
    subst hiB
    rw [List.take_of_length_le (by rw [hC.bl]; omega)] at S
    exact S.out

/-- Values that are read. -/
def RdLT (t : Ty) (L : List t.T) : Asr := ⟨fun w F => ∀ x ∈ L, t.rd w F x, fun h k x hx => t.rd_kp (fun i hi _ => k i hi) (h x hx)⟩
theorem addT {t : Ty} {x : t.T} {L : List t.T} {E : Nat → Prop} {w0 w : World} {Rs : List Asr} (S : Sep E w0 w (RdT t x :: RdLT t L :: Rs)) : Sep E w0 w (RdLT t (L ++ [x]) :: Rs) :=
  S.conv2 fun F1 F2 h1 h2 _ y hy => by
    rcases List.mem_append.1 hy with h | h
    · exact t.rd_mono (fun k hk _ => .inr hk) (h2 y h)
    · rw [List.mem_singleton.1 h]; exact t.rd_mono (fun k hk _ => .inl hk) h1
theorem rNew13_c {w : World} {g : Geo} {f : SlP TF.T} (hR : Right g) (hf : LF.rd w All f) : CallV Try.prog 44 #[g.val, .slice f.a f.n f.c] w [.agg [.int .i64, .int .i64, .int .i64, .int .i64, .int .i64, .int .i64, .sl, .sl, .bool, .int .i64]] fun r w' =>
    ∃ B : SlP TBd.T, r.1 = chT B f (newC g (fds f)) ∧ RefR (fun k => w.heap.size ≤ k) w' B f (newC g (fds f)) ∧ Ext w w' := by
  apply ref13_New.vc
  unfold ref13_New.P
  have hK := hR.1
  unfold Kept at hK
  obtain ⟨N, hN, hN'⟩ : ∃ N : Nat, g.b = (N : Int) ∧ g.b.toNat = N := ⟨g.b.toNat, by omega, rfl⟩
  have S := Sep.start NoB w
  refine S.newB fun b1 w1 S f1 _ => ?_
  refine S.newB fun b3 w3 S f3 _ => ?_
  refine S.la1 rfl ?_
  refine S.newB fun b6 w6 S f6 _ => ?_
  refine S.st0 (by rfl) fun w7 S f7 => ?_
  have S : Sep NoB w w7 (RdLT TBd [] :: _) := S.push (F := NoB) (Fr.refl _ _) (fun x hx => (List.not_mem_nil hx).elim) fun _ x => x.elim
  have S := (S.nilOwn 98 5).sel [2, 0, 0, 0, 0] rfl
  refine Loop1 (fun (v : Int × Unit) w' => ∃ (i : Nat) (a : Option Addr) (c : Nat) (L : List TBd.T), v.1 = (i : Int) ∧ i ≤ N ∧ L.map bdOf = List.replicate i (blankB g) ∧ Sep NoB w w' [BoxA b6 88 [.int .i64 g.b, .int .i64 g.p, .int .i64 g.s, .int .i64 g.sp, .int .i64 g.wr, .int .i64 g.ro, .slice a i c, .slice f.a f.n f.c, .bool false, .int .i64 0],
      OwnA 98 5 a i c (L.flatMap TBd.vs), RdLT TBd L, BoxA b3 88 [.int .i64 0, .int .i64 0, .int .i64 0, .int .i64 0, .int .i64 0, .int .i64 0, .slice none 0 0, .slice none 0 0, .bool false, .int .i64 0], BoxA b1 23 g.vs]) (fun (v : Int × Unit) _ => ((N : Int) - v.1).toNat) ⟨0, none, 0, [], rfl, by omega, rfl, S⟩ ?_
  rintro ⟨(z : Int), ⟨⟩⟩ w8 ⟨i, a, c, L, hz, hi, hL, S⟩
  dsimp only at hz ⊢
  subst hz
  refine S.ld4 (j := 0) rfl rfl ?_
  refine cond_d (fun hlt => ?_) (fun hge => ?_)
  case refine_2 =>
    have hiN : i = N := by omega
    subst hiN
    refine S.la0 rfl (S.st3 (by rfl) fun w9 S f9 => S.la3 rfl ?_)
    have X := S.ext
    refine ⟨⟨a, i, c, L⟩, rfl, ⟨?_, ?_, Ty.rd_ext X _ hf, rfl⟩, X⟩
    · obtain ⟨F0, h0, h0'⟩ := S.get (i := 1) rfl
      refine own_rdF (t := TBd) h0 (by decide) (fun k hk => (h0' k hk).1.resolve_left fun x => x) fun y hy => ?_
      obtain ⟨F1, h1, h1'⟩ := S.get (i := 2) rfl
      exact TBd.rd_mono (fun k hk _ => (h1' k hk).1.resolve_left fun x => x) (h1 y hy)
    · show L.map bdOf = _
      rw [hL]
      unfold newC
      rw [hN']
  have hne := S.ne 0 4 (by decide) rfl rfl
  have hno := S.neO 4 1 (by decide) rfl rfl
  refine S.regX (fun k => k = b6 ∨ ∃ q : Addr, a = some q ∧ k = q.block) fun D hD hkeep S T => ?_
  have k0 := hkeep _ (Fr.refl _ _)
  have fin : ∀ {w' : World} {bb : Nat} {x : TBd.T}, bdOf x = blankB g → Sep NoB w8.drew w' [BoxA bb 98 (bdV x), RdT TBd x] →
      AppS w' (some ⟨bb, 0, none⟩) 1 5 fun ns => AppV w' 98 5 72 a i c ns 1 fun a20 n21 c22 w23 => KeepOn D w8.drew w23 ∧ StoreV w23 ⟨b6, 6, none⟩ [.slice a20 n21 c22] fun w25 => KeepOn D w8.drew w25 ∧ Rng .i64 ((i : Int) + 1) ∧
        (∃ (j : Nat) (a : Option Addr) (c : Nat) (L : List TBd.T), (i : Int) + 1 = (j : Int) ∧ j ≤ N ∧ L.map bdOf = List.replicate j (blankB g) ∧ Sep NoB w w25 [BoxA b6 88 [.int .i64 g.b, .int .i64 g.p, .int .i64 g.s, .int .i64 g.sp, .int .i64 g.wr, .int .i64 g.ro, .slice a j c, .slice f.a f.n f.c, .bool false, .int .i64 0],
          OwnA 98 5 a j c (L.flatMap TBd.vs), RdLT TBd L, BoxA b3 88 [.int .i64 0, .int .i64 0, .int .i64 0, .int .i64 0, .int .i64 0, .int .i64 0, .slice none 0 0, .slice none 0 0, .bool false, .int .i64 0], BoxA b1 23 g.vs]) ∧ ((N : Int) - ((i : Int) + 1)).toNat < ((N : Int) - (i : Int)).toNat := by
    intro w' bb x hbx T
    have S := S.frame0 T
    dsimp only [List.cons_append, List.nil_append] at S
    refine AppS.of (news := TBd.vs x) rfl (.inr ⟨_, rfl, S.cells 0 rfl⟩) ?_
    refine S.ap3 (by rfl) (vs_one_ty TBd x) (by omega) (by omega) fun a13 c13 w13 S f13 => ?_
    have g13 : Fr (fun k => k = b6 ∨ ∃ q : Addr, a = some q ∧ k = q.block) w8.drew w13 := T.fr.any.trans (f13.mono fun k hk => .inr hk)
    refine ⟨hkeep _ g13, S.su2 (j := 6) (by rfl) fun w14 S f14 => ⟨hkeep _ (g13.trans (f14.mono fun k hk => .inl hk)), Rng.i64 (by omega) (by omega), ⟨i + 1, a13, c13, L ++ [x], by push_cast; rfl, by omega, by rw [List.map_append, hL, List.replicate_succ', ← hbx]; rfl, ?_⟩, by omega⟩⟩
    have S := (addT (S.sel [1, 3, 1, 1, 1, 1] rfl)).sel [1, 1, 0, 0, 0] rfl
    rw [List.flatMap_append, List.flatMap_singleton]
    exact S
  refine ⟨hD _ S.bl4 (fun h => h.elim (fun h => hne h.symm) fun ⟨q, hq, h⟩ => hno q hq h), S.la4 rfl ⟨?_, ?_⟩⟩
  · refine S.ld0 (j := 6) rfl rfl ⟨k0, ?_⟩
    refine (blank_c (g := g) hR).mono ?_
    rintro ⟨_, ⟨⟩⟩ w9 ⟨x, hx, T9, hbx⟩
    dsimp only at hx
    subst hx
    have T := T.frame0 T9
    dsimp only [List.cons_append, List.nil_append] at T
    exact ⟨hkeep _ T.fr.any, T.newB fun b29 w10 T f10 _ => ⟨hkeep _ T.fr.any, fin hbx T⟩⟩
  · refine (blank_c (g := g) hR).mono ?_
    rintro ⟨_, ⟨⟩⟩ w9 ⟨x, hx, T9, hbx⟩
    dsimp only at hx
    subst hx
    have T := T.frame0 T9
    dsimp only [List.cons_append, List.nil_append] at T
    have k8 := hkeep _ T.fr.any
    refine ⟨k8, ?_, ?_⟩
    · refine (S.stepE T.ext).ld0 (j := 6) rfl rfl ⟨k8, ?_⟩
      exact T.newB fun b29 w10 T f10 _ => ⟨hkeep _ T.fr.any, fin hbx T⟩
    · refine T.newB fun b29 w10 T f10 _ => ⟨hkeep _ T.fr.any, ?_⟩
      have k9 := hkeep _ T.fr.any
      refine (S.stepE T.ext).ld0 (j := 6) rfl rfl ⟨k9, ?_⟩
      dsimp only
      exact fin hbx T

end Go.Proofs.Ytfpkaebmiojicaa.Vc

/-! The contracts of layer 13: the document's array, a block erased, or scrubbed. -/
namespace Go.Proofs.Ytfpkaebmiojicaa.Vc
open Go Go.Eng Go.RowKit
set_option linter.unusedVariables false
set_option linter.unusedSimpArgs false

/-- A part, and what boxes it does not lie in. -/
theorem _root_.Go.Eng.Sep.off {E : Nat → Prop} {w0 w : World} {Rs : List Asr} (S : Sep E w0 w Rs) (i : Nat) {R : Asr} (hi : Rs[i]? = some R) :
    ∃ F, R.p w F ∧ (∀ k, F k → (E k ∨ w0.heap.size ≤ k) ∧ k < w.heap.size) ∧ ∀ (j b : Nat) (e : TypeId) (vs : List Value), j ≠ i → Rs[j]? = some (BoxA b e vs) → ¬ F b := by
  obtain ⟨F, h, hF⟩ := S.ex
  obtain ⟨F1, F2, h1, h2, h3, h4, h5⟩ := StarP.perm (perm_front hi) h
  refine ⟨F1, h1, fun k hk => hF k (h4 k hk), fun j b e vs hj hjb hb => ?_⟩
  have : (Rs.eraseIdx i)[if j < i then j else j - 1]? = some (BoxA b e vs) := by
    split
    · rw [List.getElem?_eraseIdx_of_lt (by omega)]; exact hjb
    · rw [List.getElem?_eraseIdx_of_ge (by omega), show j - 1 + 1 = j by omega]; exact hjb
  obtain ⟨G, g1, g2⟩ := StarP.get this h2
  exact h3 b hb (g2 b g1.1)
theorem rd_keep {t : Ty} {w w' : World} {G X H : Nat → Prop} {x : t.T} (h : t.rd w G x) (f : Fr X w w') (hG : ∀ k, G k → H k) (hd : ∀ k, G k → k < w.heap.size → ¬ X k) : t.rd w' H x :=
  t.rd_mono (fun k hk _ => hG k hk) (t.rd_kp (fun k hk hl => f.block k hl (hd k hk hl)) h)

section
variable {H : Nat → Prop} {w : World} {B : SlP TBd.T} {f : SlP TF.T} {C : CD}
abbrev SH10 : List SS := [.int .i64, .int .i64, .int .i64, .int .i64, .int .i64, .int .i64, .sl, .sl, .bool, .int .i64]
theorem rErase13_c {n : Int} (hH : ∀ k, w.heap.size ≤ k → H k) (h : RefR H w B f C) (hC : COk C) (ho : C.ops < 1000000) :
    CallV Try.prog 79 #[chVal B f C, .int .i64 n] w [.agg SH10, .one (.int .i64)] fun r w' => ∃ B' : SlP TBd.T, r.1 = chT B' f (eraC C n).1 ∧ r.2.1 = (eraC C n).2 ∧ RefR H w' B' f (eraC C n).1 ∧ Ext w w' := by
  apply ref13_Erase.vc
  unfold ref13_Erase.P
  obtain ⟨⟨n1, n2⟩, ⟨n3, n4⟩, ⟨n5, n6⟩, n7, n8⟩ := hC.num
  have hBn := h.len
  rw [hC.bl] at hBn
  have S := Sep.start NoB w
  refine S.newB fun b1 w1 S f1 _ => ?_
  refine S.newB fun b3 w3 S f3 _ => ?_
  have no : ∀ {w' : World} {e : Int}, mayC C n = e → e ≠ 0 → Sep NoB w w' [BoxA b3 88 [.int .i64 0, .int .i64 0, .int .i64 0, .int .i64 0, .int .i64 0, .int .i64 0, .slice none 0 0, .slice none 0 0, .bool false, .int .i64 0], BoxA b1 88 (chV B f C)] →
      LoadA w' ⟨b1, 0, none⟩ SH10 fun x => StoreV w' ⟨b3, 0, none⟩ [.int .i64 x.1, .int .i64 x.2.1, .int .i64 x.2.2.1, .int .i64 x.2.2.2.1, .int .i64 x.2.2.2.2.1, .int .i64 x.2.2.2.2.2.1, .slice x.2.2.2.2.2.2.1.a x.2.2.2.2.2.2.1.n x.2.2.2.2.2.2.1.c, .slice x.2.2.2.2.2.2.2.1.a x.2.2.2.2.2.2.2.1.n x.2.2.2.2.2.2.2.1.c, .bool x.2.2.2.2.2.2.2.2.1, .int .i64 x.2.2.2.2.2.2.2.2.2.1] fun w9 =>
        LoadA w9 ⟨b3, 0, none⟩ SH10 fun x => ∃ B' : SlP TBd.T, (x.1, x.2.1, x.2.2.1, x.2.2.2.1, x.2.2.2.2.1, x.2.2.2.2.2.1, x.2.2.2.2.2.2.1, x.2.2.2.2.2.2.2.1, x.2.2.2.2.2.2.2.2.1, x.2.2.2.2.2.2.2.2.2.1, ()) = chT B' f (eraC C n).1 ∧ e = (eraC C n).2 ∧ RefR H w9 B' f (eraC C n).1 ∧ Ext w w9 := fun he h0 S => by
    refine S.la1 rfl (S.st0 (by rfl) fun w9 S f9 => S.la0 rfl ?_)
    have X := S.ext
    unfold eraC
    rw [if_neg (by rw [he]; exact h0)]
    exact ⟨B, rfl, he.symm, h.ext X, X⟩
  refine S.ld1 (j := 8) rfl rfl (cond_of (fun hoff => no (e := 4) (by unfold mayC; rw [if_pos hoff]) (by decide) S) fun hoff => ?_)
  have hoff' : ¬ C.off = true := by rw [hoff]; decide
  refine cond_d (fun hn => no (e := 2) (by unfold mayC; rw [if_neg hoff', if_pos (by omega)]) (by decide) S) fun hn0 => ?_
  refine S.ld1 (j := 6) rfl rfl (cond_d (fun hn => no (e := 2) (by unfold mayC; rw [if_neg hoff', if_pos (by dsimp only at hn; omega)]) (by decide) S) fun hn1 => ?_)
  dsimp only at hn1
  have hn : 0 ≤ n ∧ n < C.g.b := by omega
  have hmay : mayC C n = 0 := by unfold mayC; rw [if_neg hoff', if_neg (fun k => k hn)]
  refine S.la1 rfl ?_
  refine (code_c (h.ext S.ext) hC).mono ?_
  rintro ⟨(e : Int), ⟨ma, mn, mc⟩, (cr : Bool), ⟨⟩⟩ w4 ⟨h4, h4', i4, x4⟩
  dsimp only at h4 h4' i4 ⊢
  subst h4; subst h4'
  have S := S.stepE x4
  refine S.ld1 (j := 6) rfl rfl ?_
  obtain ⟨q, x, hq, hc, hr, hx, hbd, -⟩ := (h.ext S.ext).nth (i := n) hn.1 (by omega)
  have hb := (hC.blk hn).2
  have her := hb.er
  refine ⟨⟨hn.1, by dsimp only; omega⟩, q, hq, bdT x, hc, ?_⟩
  refine S.newB fun b22 w5 S f5 _ => ?_
  refine S.st0 (by rfl) fun w6 S f6 => ?_
  have eer : (blkC C n).er = x.2.2.2.2.1 := by rw [← hbd]; rfl
  have hG : ∀ b, w.heap.size ≤ b → ∀ k, k < w.heap.size → k ≠ b := fun b hb k hk => by omega
  refine cond_eq (fun hc0 => ?_) (fun hc0 => ?_)
  · have hc0 : (codeC C).1 = 0 := hc0
    have hcr := (code_off C).1 hc0
    refine S.lb2 (o := 0) rfl ?_
    refine (blank_c (g := C.g) hC.g).mono ?_
    rintro ⟨_, ⟨⟩⟩ w7 ⟨y, hy, T7, hby⟩
    dsimp only at hy
    subst hy
    have S := S.frame0 T7
    dsimp only [List.cons_append, List.nil_append] at S
    refine S.newB fun b28 w8 S f8 _ => ?_
    refine S.st0 (by rfl) fun w9 S f9 => ?_
    refine S.ld2 (j := 4) rfl rfl ⟨Rng.i64 (by omega) (by omega), ?_⟩
    refine S.su0 (j := 4) (by rfl) fun w10 S f10 => ?_
    refine S.la4 rfl (S.la0 rfl ?_)
    dsimp only
    have X10 := S.ext
    have hb3' := S.bl3
    have rer : Rng .i64 (x.2.2.2.2.1 + 1) := Rng.i64 (by omega) (by omega)
    have hgen := S.off 1 rfl
    obtain ⟨Fy, hyr, hyF, hyo⟩ := hgen
    have hG1 : ∀ k, ((k < w.heap.size ∧ H k) ∨ Fy k) → k ≠ b3 := fun k hk => by
      rcases hk with hk | hk
      · have := (S.get (i := 3) rfl)
        obtain ⟨F3, h3, h3'⟩ := this
        intro e
        have := (h3' b3 h3.1).1
        rcases this with t | t
        · exact t
        · omega
      · intro e
        subst e
        exact hyo 3 _ _ _ (by decide) rfl hk
    have hx' : TBd.rd w10 (fun k => (k < w.heap.size ∧ H k) ∨ Fy k) (y.1, y.2.1, y.2.2.1, y.2.2.2.1, x.2.2.2.2.1 + 1, ()) := by
      have hy := TBd.rd_mono (G' := fun k => (k < w.heap.size ∧ H k) ∨ Fy k) (fun k hk _ => .inr hk) hyr
      exact ⟨hy.1, hy.2.1, hy.2.2.1, hy.2.2.2.1, rer, trivial⟩
    have hB' : (Ty.sl TBd).rd w10 (fun k => (k < w.heap.size ∧ H k) ∨ Fy k) B := Ty.rd_ext X10 _ ((Ty.sl TBd).rd_mono (fun k hk1 hk => .inl ⟨hk, hk1⟩) h.rb)
    refine (with_c (f := f) (C := C) (n := n) (x := (y.1, y.2.1, y.2.2.1, y.2.2.2.1, x.2.2.2.2.1 + 1, ())) hB' (by omega) (by omega) hx' (by omega)).mono ?_
    rintro ⟨_, ⟨⟩⟩ w11 ⟨B', hr', hrd', hl', x11⟩
    dsimp only at hr'
    subst hr'
    have S := S.stepE x11
    refine S.st3 (by rfl) fun w12 S f12 => S.la3 rfl ?_
    have X := S.ext
    have hC' : (eraC C n).1 = { C with bs := B'.l.map bdOf, ops := C.ops + 1 } := by
      unfold eraC
      rw [if_pos hmay]
      unfold eraX
      rw [if_pos hc0, hl', List.map_set, h.db, hcr.1, ← eer, ← hby]
      have : C.off = false := hoff
      rw [← this]
      rfl
    refine ⟨B', ?_, ?_, ⟨?_, ?_, Ty.rd_ext X _ h.rf, ?_⟩, X⟩
    · rw [hC']
    · unfold eraC; rw [if_pos hmay]
    · exact rd_keep hrd' f12 (fun k hk => by
        rcases hk with (hk | hk) | hk
        · exact hk.2
        · exact hH k ((hyF k hk).1.resolve_left fun x => x)
        · exact hH k (by have := X10.size; omega)) fun k hk hlt => by
        rcases hk with hk | hk
        · exact hG1 k hk
        · omega
    · rw [hC']
    · rw [hC']; exact h.df
  · have hc0 : ¬ (codeC C).1 = 0 := hc0
    have hne := S.ne 0 2 (by decide) rfl rfl
    have hN22 := S.bl0
    have hN3 := S.bl1
    have hN1 := S.bl2
    have hmem : x ∈ B.l := List.mem_of_getElem? hx
    have hrx : TBd.rd w (fun k => k < w.heap.size ∧ H k) x := TBd.rd_mono (fun k hk1 hk => ⟨hk, hk1⟩) (h.rb.2.2.2.2 x hmem)
    have hge : ∀ (i : Nat) (b : Nat) (e : TypeId) (vs : List Value), [BoxA b22 98 (bdV x), BoxA b3 88 [.int .i64 0, .int .i64 0, .int .i64 0, .int .i64 0, .int .i64 0, .int .i64 0, .slice none 0 0, .slice none 0 0, .bool false, .int .i64 0], BoxA b1 88 (chV B f C)][i]? = some (BoxA b e vs) → w.heap.size ≤ b := fun i b e vs hi => by
      obtain ⟨F3, h3, h3'⟩ := S.get hi
      exact (h3' b h3.1).1.resolve_left fun x => x
    have g22 := hge 0 _ _ _ rfl
    have g3 := hge 1 _ _ _ rfl
    have g1 := hge 2 _ _ _ rfl
    have X6 := S.ext
    refine S.regX (fun k => k = b22) fun D hD hkeep S T => ?_
    refine ⟨hD _ S.bl2 (fun e => hne e.symm), S.ld2 (j := 1) rfl rfl (S.la0 rfl ⟨hkeep _ (Fr.refl _ _), ?_⟩)⟩
    have hbx := hb
    rw [← hbd] at hbx
    have hallx : ((x.1.l.map (·.l)).flatten) = allC C n := by show (bdOf x).pg.flatten = _; rw [hbd]
    have hrx6 : TBd.rd w6.drew All x := TBd.rd_mono (fun _ _ _ => trivial) (Ty.rd_ext (X6.trans (Ext.drew _)) _ hrx)
    refine (joined_c (g := C.g) (m := 0) (z := szP C.g) hrx6 (by rw [bd_len hbx]; omega) (by omega) (bd_page_len hbx)).mono ?_
    rintro ⟨⟨ja, jn, jc⟩, ⟨⟩⟩ w7 h7
    rw [hallx] at h7
    have hall := hb.all
    have hjl := h7.ints.len
    rw [show (allC C n).length = bszC C from hall.1] at hjl
    have m2 : bszC C ≤ 20 * 216 := Nat.mul_le_mul (by omega) (by omega)
    dsimp only at hjl h7 ⊢
    refine ⟨hkeep _ (Fr.of h7.ext).any, ?_⟩
    have X47 : Ext w4 w7 := (Fr.ext (f5.trans' f6 fun k hk => .inr (by omega))).trans ((Ext.drew _).trans h7.ext)
    have hbm : Byt (codeC C).2.1 := by
      unfold codeC
      cases hat : atF C.pl (C.ops : Int) with
      | none => exact Byt.nil
      | some F => exact atF_byt hC hat
    refine (Erase_c h7.ints hall.2 (i4.ext X47) hbm (by dsimp only; omega)).mono ?_
    rintro ⟨⟨ea, en, ec⟩, ⟨⟩⟩ w8 h8
    have hel : turn (allC C n) (erF (allC C n) (codeC C).2.1) (8 * jn) = eraL (allC C n) (codeC C).2.1 := by unfold eraL; rw [show (allC C n).length = jn from by rw [← hjl]; exact hall.1]
    dsimp only at h8 ⊢
    rw [hel] at h8
    have hen := h8.ints.len
    have heL : (eraL (allC C n) (codeC C).2.1).length = bszC C := by unfold eraL; rw [turn_len]; exact hall.1
    rw [heL] at hen
    dsimp only at hen
    have x78 : Ext w6.drew w8 := h7.ext.trans h8.ext
    refine ⟨hkeep _ (Fr.of x78).any, ?_⟩
    have hbe : Byt (eraL (allC C n) (codeC C).2.1) := turn_byt hall.2 _ _
    have hcut := cut13_c (P := C.g.p.toNat) (res_rd h8 hbe) ⟨by omega, by omega⟩ (by dsimp only; omega)
    rw [show ((C.g.p.toNat : Nat) : Int) = C.g.p from by omega] at hcut
    refine hcut.mono ?_
    rintro ⟨⟨ca, cn, cc⟩, ⟨⟩⟩ w9 ⟨Lp, hLr, hLp, x9⟩
    dsimp only at hLr ⊢
    have x69 := x78.trans x9
    refine ⟨hkeep _ (Fr.of x69).any, ?_⟩
    have S := S.stepE x69
    refine S.su0 (j := 0) (by rfl) fun w10 S f10 => ⟨hkeep _ ((Fr.of x69).any.trans f10), ?_⟩
    have rer : Rng .i64 (x.2.2.2.2.1 + 1) := Rng.i64 (by omega) (by omega)
    refine S.ld0 (j := 4) rfl rfl ⟨rer, ?_⟩
    refine S.su0 (j := 4) (by rfl) fun w11 S f11 => ?_
    refine S.la2 rfl (S.la0 rfl ?_)
    dsimp only
    have X11 := S.ext
    have s78 : w6.heap.size ≤ w7.heap.size := h7.ext.size
    have s88 : w7.heap.size ≤ w8.heap.size := h8.ext.size
    have hx' : TBd.rd w11 (fun k => (k < w.heap.size ∧ H k) ∨ w6.heap.size ≤ k) (⟨ca, cn, cc, Lp⟩, x.2.1, x.2.2.1, x.2.2.2.1, x.2.2.2.2.1 + 1, ()) := by
      have h1 := Ty.rd_ext X11 _ hrx
      refine ⟨?_, TI.rd_mono (fun k hk _ => .inl hk) h1.2.1, h1.2.2.1, h1.2.2.2.1, rer, trivial⟩
      have g : Fr (fun k => k = b22) w9 w11 := f10.trans f11
      have h2 := TBB.rd_kp (w' := w11) (fun k hk hl => g.block k hl (by rcases hk with hk | hk <;> omega)) hLr
      exact TBB.rd_mono (fun k hk _ => .inr (by rcases hk with hk | hk <;> omega)) h2
    have hB' : (Ty.sl TBd).rd w11 (fun k => (k < w.heap.size ∧ H k) ∨ w6.heap.size ≤ k) B := Ty.rd_ext X11 _ ((Ty.sl TBd).rd_mono (fun k hk1 hk => .inl ⟨hk, hk1⟩) h.rb)
    have hN := S.bl2
    have hN3' := S.bl1
    refine (with_c (f := f) (C := C) (n := n) (x := (⟨ca, cn, cc, Lp⟩, x.2.1, x.2.2.1, x.2.2.2.1, x.2.2.2.2.1 + 1, ())) hB' (by omega) (by omega) hx' (by omega)).mono ?_
    rintro ⟨_, ⟨⟩⟩ w12 ⟨B', hr', hrd', hl', x12⟩
    dsimp only at hr'
    subst hr'
    have S := S.stepE x12
    refine S.st2 (by rfl) fun w13 S f13 => S.su2 (j := 8) (by rfl) fun w14 S f14 => S.la2 rfl (S.st1 (by rfl) fun w15 S f15 => S.la1 rfl ?_)
    have X := S.ext
    have hbd2 : bdOf (⟨ca, cn, cc, Lp⟩, x.2.1, x.2.2.1, x.2.2.2.1, x.2.2.2.2.1 + 1, ()) = { blkC C n with pg := cutL (eraL (blkC C n).pg.flatten (codeC C).2.1) C.g.p.toNat, er := (blkC C n).er + 1 } := by
      unfold bdOf
      dsimp only
      rw [hLp, ← hbd]
      unfold bdOf
      dsimp only
      rw [hallx]
    have hC' : (eraC C n).1 = { C with bs := B'.l.map bdOf, off := (codeC C).2.2, ops := C.ops + 1 } := by
      unfold eraC
      rw [if_pos hmay]
      unfold eraX
      rw [if_neg hc0, hl', List.map_set, h.db, hbd2]
    refine ⟨B', ?_, ?_, ⟨?_, ?_, Ty.rd_ext X _ h.rf, ?_⟩, X⟩
    · rw [hC']
    · unfold eraC; rw [if_pos hmay]
    · have g : Fr (fun k => k = b1 ∨ k = b3) w12 w15 := ((f13.mono fun k hk => .inl hk).trans (f14.mono fun k hk => .inl hk)).trans (f15.mono fun k hk => .inr hk)
      exact rd_keep hrd' g (fun k hk => by
        have := X6.size
        have := X11.size
        rcases hk with (hk | hk) | hk
        · exact hk.2
        · exact hH k (by omega)
        · exact hH k (by omega)) fun k hk hlt => by
        rcases hk with (hk | hk) | hk <;> omega
    · rw [hC']
    · rw [hC']; exact h.df
end

end Go.Proofs.Ytfpkaebmiojicaa.Vc

/-! The contracts of layer 13: the document's array, a block scrubbed. -/
namespace Go.Proofs.Ytfpkaebmiojicaa.Vc
open Go Go.Eng Go.RowKit
set_option linter.unusedVariables false
set_option linter.unusedSimpArgs false

section
variable {H : Nat → Prop} {w : World} {B : SlP TBd.T} {f : SlP TF.T} {C : CD}
theorem rScrub13_c {n : Int} (hH : ∀ k, w.heap.size ≤ k → H k) (h : RefR H w B f C) (hC : COk C) (ho : C.ops < 1000000) :
    CallV Try.prog 81 #[chVal B f C, .int .i64 n] w [.agg SH10, .one (.int .i64)] fun r w' => ∃ B' : SlP TBd.T, r.1 = chT B' f (scrC C n).1 ∧ r.2.1 = (scrC C n).2 ∧ RefR H w' B' f (scrC C n).1 ∧ Ext w w' := by
  apply ref13_Scrub.vc
  unfold ref13_Scrub.P
  obtain ⟨⟨n1, n2⟩, ⟨n3, n4⟩, ⟨n5, n6⟩, n7, n8⟩ := hC.num
  have hBn := h.len
  rw [hC.bl] at hBn
  have S := Sep.start NoB w
  refine S.newB fun b1 w1 S f1 _ => ?_
  refine S.newB fun b3 w3 S f3 _ => ?_
  have no : ∀ {w' : World} {e : Int}, mayC C n = e → e ≠ 0 → Sep NoB w w' [BoxA b3 88 [.int .i64 0, .int .i64 0, .int .i64 0, .int .i64 0, .int .i64 0, .int .i64 0, .slice none 0 0, .slice none 0 0, .bool false, .int .i64 0], BoxA b1 88 (chV B f C)] →
      LoadA w' ⟨b1, 0, none⟩ SH10 fun x => StoreV w' ⟨b3, 0, none⟩ [.int .i64 x.1, .int .i64 x.2.1, .int .i64 x.2.2.1, .int .i64 x.2.2.2.1, .int .i64 x.2.2.2.2.1, .int .i64 x.2.2.2.2.2.1, .slice x.2.2.2.2.2.2.1.a x.2.2.2.2.2.2.1.n x.2.2.2.2.2.2.1.c, .slice x.2.2.2.2.2.2.2.1.a x.2.2.2.2.2.2.2.1.n x.2.2.2.2.2.2.2.1.c, .bool x.2.2.2.2.2.2.2.2.1, .int .i64 x.2.2.2.2.2.2.2.2.2.1] fun w9 =>
        LoadA w9 ⟨b3, 0, none⟩ SH10 fun x => ∃ B' : SlP TBd.T, (x.1, x.2.1, x.2.2.1, x.2.2.2.1, x.2.2.2.2.1, x.2.2.2.2.2.1, x.2.2.2.2.2.2.1, x.2.2.2.2.2.2.2.1, x.2.2.2.2.2.2.2.2.1, x.2.2.2.2.2.2.2.2.2.1, ()) = chT B' f (scrC C n).1 ∧ e = (scrC C n).2 ∧ RefR H w9 B' f (scrC C n).1 ∧ Ext w w9 := fun he h0 S => by
    refine S.la1 rfl (S.st0 (by rfl) fun w9 S f9 => S.la0 rfl ?_)
    have X := S.ext
    unfold scrC
    rw [if_neg (by rw [he]; exact h0)]
    exact ⟨B, rfl, he.symm, h.ext X, X⟩
  refine S.ld1 (j := 8) rfl rfl (cond_of (fun hoff => no (e := 4) (by unfold mayC; rw [if_pos hoff]) (by decide) S) fun hoff => ?_)
  have hoff' : ¬ C.off = true := by rw [hoff]; decide
  refine cond_d (fun hn => no (e := 2) (by unfold mayC; rw [if_neg hoff', if_pos (by omega)]) (by decide) S) fun hn0 => ?_
  refine S.ld1 (j := 6) rfl rfl (cond_d (fun hn => no (e := 2) (by unfold mayC; rw [if_neg hoff', if_pos (by dsimp only at hn; omega)]) (by decide) S) fun hn1 => ?_)
  dsimp only at hn1
  have hn : 0 ≤ n ∧ n < C.g.b := by omega
  have hmay : mayC C n = 0 := by unfold mayC; rw [if_neg hoff', if_neg (fun k => k hn)]
  refine S.la1 rfl ?_
  refine (code_c (h.ext S.ext) hC).mono ?_
  rintro ⟨(e : Int), ⟨ma, mn, mc⟩, (cr : Bool), ⟨⟩⟩ w4 ⟨h4, h4', i4, x4⟩
  dsimp only at h4 h4' i4 ⊢
  subst h4; subst h4'
  have S := S.stepE x4
  refine S.ld1 (j := 6) rfl rfl ?_
  obtain ⟨q, x, hq, hc, hr, hx, hbd, -⟩ := (h.ext S.ext).nth (i := n) hn.1 (by omega)
  have hb := (hC.blk hn).2
  have her := hb.er
  refine ⟨⟨hn.1, by dsimp only; omega⟩, q, hq, bdT x, hc, ?_⟩
  refine S.newB fun b22 w5 S f5 _ => ?_
  refine S.st0 (by rfl) fun w6 S f6 => ?_
  have eer : (blkC C n).er = x.2.2.2.2.1 := by rw [← hbd]; rfl
  have hG : ∀ b, w.heap.size ≤ b → ∀ k, k < w.heap.size → k ≠ b := fun b hb k hk => by omega
  have hN22 := S.bl0
  have hN3 := S.bl1
  have hN1 := S.bl2
  have hmem : x ∈ B.l := List.mem_of_getElem? hx
  have hrx : TBd.rd w (fun k => k < w.heap.size ∧ H k) x := TBd.rd_mono (fun k hk1 hk => ⟨hk, hk1⟩) (h.rb.2.2.2.2 x hmem)
  have hge : ∀ (i : Nat) (b : Nat) (e : TypeId) (vs : List Value), [BoxA b22 98 (bdV x), BoxA b3 88 [.int .i64 0, .int .i64 0, .int .i64 0, .int .i64 0, .int .i64 0, .int .i64 0, .slice none 0 0, .slice none 0 0, .bool false, .int .i64 0], BoxA b1 88 (chV B f C)][i]? = some (BoxA b e vs) → w.heap.size ≤ b := fun i b e vs hi => by
    obtain ⟨F3, h3, h3'⟩ := S.get hi
    exact (h3' b h3.1).1.resolve_left fun x => x
  have g22 := hge 0 _ _ _ rfl
  have g3 := hge 1 _ _ _ rfl
  have g1 := hge 2 _ _ _ rfl
  refine S.su0 (j := 3) (by rfl) fun w6' S f6' => S.la0 rfl ?_
  have X6 := S.ext
  have hs6 : w6.heap.size ≤ w6'.heap.size := f6'.size
  have hbx := hb
  rw [← hbd] at hbx
  have hallx : ((x.1.l.map (·.l)).flatten) = allC C n := by show (bdOf x).pg.flatten = _; rw [hbd]
  have hrx6 : TBd.rd w6' All x := TBd.rd_mono (fun _ _ _ => trivial) (Ty.rd_ext X6 _ hrx)
  have hrx7 : TBd.rd w6' All (x.1, x.2.1, x.2.2.1, true, x.2.2.2.2.1, ()) := ⟨hrx6.1, hrx6.2.1, hrx6.2.2.1, trivial, hrx6.2.2.2.2.1, trivial⟩
  refine (joined_c (g := C.g) (m := 0) (z := szP C.g) hrx7 (by show x.1.l.length ≤ 100; rw [bd_len hbx]; omega) (by omega) (show ∀ q ∈ x.1.l, q.l.length = szP C.g from bd_page_len hbx)).mono ?_
  rintro ⟨⟨ja, jn, jc⟩, ⟨⟩⟩ w7 h7
  have h7 : Res w6' w7 ⟨ja, jn, jc⟩ (allC C n) := by rw [← hallx]; exact h7
  have hall := hb.all
  have hjl := h7.ints.len
  rw [show (allC C n).length = bszC C from hall.1] at hjl
  have m2 : bszC C ≤ 20 * 216 := Nat.mul_le_mul (by omega) (by omega)
  dsimp only at hjl ⊢
  have S7 := S.stepE h7.ext
  refine (rFill_c (x := 0) (n := 0)).mono ?_
  rintro ⟨⟨za, zn, zc⟩, ⟨⟩⟩ w8 h8
  have hmm : (max 0 (min 65536 (0 : Int))).toNat = 0 := by omega
  dsimp only at h8 ⊢
  rw [hmm] at h8
  have x78 := h7.ext.trans h8.ext
  have T0 : Sep NoB w7 w8 _ := (Sep.start NoB w7).res h8
  dsimp only at T0
  have hz0 : zn = 0 := by have := h8.ints.len; simpa using this.symm
  refine Loop1 (fun (v : SlV × Int × Unit) w' => ∃ i : Nat, v.2.1 = (i : Int) ∧ i ≤ jn ∧ v.1.n = i ∧ Sep NoB w7 w' [OwnA 5 1 v.1.a v.1.n v.1.c ((List.replicate i 0).map (Value.int .u8))]) (fun (v : SlV × Int × Unit) _ => ((jn : Int) - v.2.1).toNat) ⟨0, rfl, by omega, hz0, T0⟩ ?_
  rintro ⟨⟨va, vn, vc⟩, (v : Int), ⟨⟩⟩ w9 ⟨i, hv, hi, hvn, T9⟩
  dsimp only at hv hvn T9 ⊢
  subst hv
  subst hvn
  refine cond_d (fun hlt => ?_) (fun hge' => ?_)
  · refine T9.newB fun b34 w10 T9 f10 _ => ?_
    refine AppS.of (news := [.int .u8 0]) rfl (.inr ⟨_, rfl, T9.cells 0 rfl⟩) ?_
    refine T9.ap1 (by rfl) (fun u hu => by rw [List.mem_singleton.1 hu]; rfl) (by omega) (by omega) fun a36 c38 w11 T9 f11 => ?_
    refine ⟨Rng.i64 (by omega) (by omega), ⟨vn + 1, by push_cast; rfl, by omega, rfl, ?_⟩, by omega⟩
    rw [List.replicate_succ', List.map_append]
    exact T9.tail
  have hvj : vn = jn := by omega
  subst hvj
  have x79 : Ext w7 w9 := T9.ext
  have hZ : Ints w9 .u8 va vn vc (List.replicate vn 0) := T9.in0
  have bz : Byt (List.replicate vn (0 : Int)) := Byt.replicate (by decide) (by decide) _
  have hbm : Byt (codeC C).2.1 := by
    unfold codeC
    cases hat : atF C.pl (C.ops : Int) with
    | none => exact Byt.nil
    | some F => exact atF_byt hC hat
  have hlj : (allC C n).length = vn := by rw [← hjl]; exact hall.1
  generalize hQ : (if (codeC C).1 = 0 then List.replicate (allC C n).length (0 : Int) else progL (allC C n) (List.replicate (allC C n).length 0) (codeC C).2.1 false) = Q
  have hQl : Q.length = bszC C := by rw [← hQ]; split; rw [List.length_replicate]; exact hall.1; unfold progL; rw [turn_len]; exact hall.1
  have hQb : Byt Q := by rw [← hQ]; split; exact Byt.replicate (by decide) (by decide) _; exact turn_byt hall.2 _ _
  refine ⟨fun (v : SlV × Unit) w' => Ext w7 w' ∧ TB.rd w' (fun k => w7.heap.size ≤ k) ⟨v.1.a, v.1.n, v.1.c, Q⟩, ?_, ?_⟩
  case refine_2 =>
    refine cond_ne (fun hc0 => ?_) (fun hc0 => ?_)
    · have hc0 : ¬ (codeC C).1 = 0 := hc0
      have X49 : Ext w4 w9 := (Fr.ext ((f5.trans' f6 fun k hk => .inr (by omega)).trans' f6' fun k hk => .inr (by omega))).trans (h7.ext.trans x79)
      refine (Program_c (h7.ints.ext x79) hall.2 hZ bz (i4.ext X49) hbm (by dsimp only; omega)).mono ?_
      rintro ⟨⟨ra, rn, rc⟩, ⟨⟩⟩ w10 h10
      refine ⟨x79.trans h10.ext, ?_⟩
      have hs := x79.size
      rw [if_neg hc0] at hQ
      have hq : turn (allC C n) (prF (allC C n) (List.replicate vn 0) (codeC C).2.1 false vn) (8 * vn) = Q := by
        rw [← hQ]
        unfold progL
        rw [hlj]
      rw [hq] at h10
      exact TB.rd_mono (fun k hk _ => by omega) (res_rd h10 hQb)
    · have hc0 : (codeC C).1 = 0 := hc0
      refine ⟨x79, ?_⟩
      rw [if_pos hc0, hlj] at hQ
      obtain ⟨F1, k1, k2⟩ := T9.get (i := 0) rfl
      have := own_rd k1 bz
      rw [hQ] at this
      exact TB.rd_mono (fun k hk _ => (k2 k hk).1.resolve_left fun x => x) this
  rintro ⟨⟨ra, rn, rc⟩, ⟨⟩⟩ w10 ⟨x710, hQr⟩
  dsimp only at hQr ⊢
  have S := S7.stepE x710
  refine S.ld2 (j := 1) rfl rfl ?_
  have hrn : rn = bszC C := by rw [← hQl]; exact hQr.1.symm
  have hcut := cut13_c (P := C.g.p.toNat) hQr ⟨by omega, by omega⟩ (by omega)
  rw [show ((C.g.p.toNat : Nat) : Int) = C.g.p from by omega] at hcut
  refine hcut.mono ?_
  rintro ⟨⟨ca, cn, cc⟩, ⟨⟩⟩ w11 ⟨Lp, hLr, hLp, x11⟩
  dsimp only at hLr ⊢
  have S := S.stepE x11
  refine S.su0 (j := 0) (by rfl) fun w12 S f12 => ?_
  refine S.la2 rfl (S.la0 rfl ?_)
  have X12 := S.ext
  have s67 := h7.ext.size
  have s710 := x710.size
  have hx' : TBd.rd w12 (fun k => (k < w.heap.size ∧ H k) ∨ w6.heap.size ≤ k) (⟨ca, cn, cc, Lp⟩, x.2.1, x.2.2.1, true, x.2.2.2.2.1, ()) := by
    have h1 := Ty.rd_ext X12 _ hrx
    refine ⟨?_, TI.rd_mono (fun k hk _ => .inl hk) h1.2.1, h1.2.2.1, trivial, h1.2.2.2.2.1, trivial⟩
    have h2 := TBB.rd_kp (w' := w12) (fun k hk hl => f12.block k hl (by rcases hk with hk | hk <;> omega)) hLr
    exact TBB.rd_mono (fun k hk _ => .inr (by rcases hk with hk | hk <;> omega)) h2
  have hB' : (Ty.sl TBd).rd w12 (fun k => (k < w.heap.size ∧ H k) ∨ w6.heap.size ≤ k) B := Ty.rd_ext X12 _ ((Ty.sl TBd).rd_mono (fun k hk1 hk => .inl ⟨hk, hk1⟩) h.rb)
  have hN := S.bl2
  have hN3' := S.bl1
  refine (with_c (f := f) (C := C) (n := n) (x := (⟨ca, cn, cc, Lp⟩, x.2.1, x.2.2.1, true, x.2.2.2.2.1, ())) hB' (by omega) (by omega) hx' (by omega)).mono ?_
  rintro ⟨_, ⟨⟩⟩ w13 ⟨B', hr', hrd', hl', x13⟩
  dsimp only at hr'
  subst hr'
  have S := S.stepE x13
  refine S.st2 (by rfl) fun w14 S f14 => S.su2 (j := 8) (by rfl) fun w15 S f15 => S.la2 rfl (S.st1 (by rfl) fun w16 S f16 => S.la1 rfl ?_)
  have X := S.ext
  have hbd2 : bdOf (⟨ca, cn, cc, Lp⟩, x.2.1, x.2.2.1, true, x.2.2.2.2.1, ()) = { blkC C n with sc := true, pg := cutL Q C.g.p.toNat } := by
    unfold bdOf
    dsimp only
    rw [hLp, ← hbd]
    rfl
  have hC' : (scrC C n).1 = { C with bs := B'.l.map bdOf, off := (codeC C).2.2, ops := C.ops + 1 } := by
    unfold scrC
    rw [if_pos hmay]
    unfold scrX
    dsimp only
    rw [hl', List.map_set, h.db, hbd2, ← hQ]
  refine ⟨B', ?_, ?_, ⟨?_, ?_, Ty.rd_ext X _ h.rf, ?_⟩, X⟩
  · rw [hC']
  · unfold scrC; rw [if_pos hmay]
  · have g : Fr (fun k => k = b1 ∨ k = b3) w13 w16 := ((f14.mono fun k hk => .inl hk).trans (f15.mono fun k hk => .inl hk)).trans (f16.mono fun k hk => .inr hk)
    exact rd_keep hrd' g (fun k hk => by
      have := X6.size
      have := X12.size
      rcases hk with (hk | hk) | hk
      · exact hk.2
      · exact hH k (by omega)
      · exact hH k (by omega)) fun k hk hlt => by
      rcases hk with (hk | hk) | hk <;> omega
  · rw [hC']
  · rw [hC']; exact h.df
end

end Go.Proofs.Ytfpkaebmiojicaa.Vc

/-! The contracts of layer 13: the document's array, a page programmed. -/
namespace Go.Proofs.Ytfpkaebmiojicaa.Vc
open Go Go.Eng Go.RowKit
set_option linter.unusedVariables false
set_option linter.unusedSimpArgs false

section
variable {H : Nat → Prop} {w : World} {B : SlP TBd.T} {f : SlP TF.T} {C : CD}
abbrev zCH : List Value := [.int .i64 0, .int .i64 0, .int .i64 0, .int .i64 0, .int .i64 0, .int .i64 0, .slice none 0 0, .slice none 0 0, .bool false, .int .i64 0]
/-- An array told as it was. -/
theorem asWas {w' : World} {Rs : List Asr} {e : Int} {C' : CD × Int} {b5 b1 : Nat} {e5 e1 : TypeId} (h : RefR H w B f C) (he : C' = (C, e)) (S : Sep NoB w w' (BoxA b5 e5 zCH :: BoxA b1 e1 (chV B f C) :: Rs)) :
    LoadA w' ⟨b1, 0, none⟩ SH10 fun x => StoreV w' ⟨b5, 0, none⟩ [.int .i64 x.1, .int .i64 x.2.1, .int .i64 x.2.2.1, .int .i64 x.2.2.2.1, .int .i64 x.2.2.2.2.1, .int .i64 x.2.2.2.2.2.1, .slice x.2.2.2.2.2.2.1.a x.2.2.2.2.2.2.1.n x.2.2.2.2.2.2.1.c, .slice x.2.2.2.2.2.2.2.1.a x.2.2.2.2.2.2.2.1.n x.2.2.2.2.2.2.2.1.c, .bool x.2.2.2.2.2.2.2.2.1, .int .i64 x.2.2.2.2.2.2.2.2.2.1] fun w9 =>
      LoadA w9 ⟨b5, 0, none⟩ SH10 fun x => ∃ B' : SlP TBd.T, (x.1, x.2.1, x.2.2.1, x.2.2.2.1, x.2.2.2.2.1, x.2.2.2.2.2.1, x.2.2.2.2.2.2.1, x.2.2.2.2.2.2.2.1, x.2.2.2.2.2.2.2.2.1, x.2.2.2.2.2.2.2.2.2.1, ()) = chT B' f C'.1 ∧ e = C'.2 ∧ RefR H w9 B' f C'.1 ∧ Ext w w9 := by
  refine S.la1 rfl (S.st0 (by rfl) fun w9 S f9 => S.la0 rfl ?_)
  have X := S.ext
  rw [he]
  exact ⟨B, rfl, rfl, h.ext X, X⟩

theorem rProgram13_c {bl pa : Int} {a : Option Addr} {n c : Nat} {xs : List Int} (hH : ∀ k, w.heap.size ≤ k → H k) (h : RefR H w B f C) (hC : COk C) (ho : C.ops < 1000000) (hx : Ints w .u8 a n c xs) (bx : Byt xs) :
    CallV Try.prog 78 #[chVal B f C, .agg #[.int .i64 bl, .int .i64 pa], .slice a n c] w [.agg SH10, .one (.int .i64)] fun r w' => ∃ B' : SlP TBd.T, r.1 = chT B' f (progC C bl pa xs).1 ∧ r.2.1 = (progC C bl pa xs).2 ∧ RefR H w' B' f (progC C bl pa xs).1 ∧ Ext w w' := by
  apply ref13_Program.vc
  unfold ref13_Program.P
  obtain ⟨⟨n1, n2⟩, ⟨n3, n4⟩, ⟨n5, n6⟩, n7, n8⟩ := hC.num
  have hBn := h.len
  have hxl := hx.len
  rw [hC.bl] at hBn
  have S := Sep.start NoB w
  refine S.newB fun b1 w1 S f1 _ => ?_
  refine S.newB fun b3 w3 S f3 _ => ?_
  refine S.newB fun b5 w5 S f5 _ => ?_
  have hno : ∀ {e : Int}, refC C bl pa xs.length = e → e ≠ 0 → progC C bl pa xs = (C, e) := fun he h0 => by unfold progC; rw [he, if_neg h0]
  refine S.ld2 (j := 8) rfl rfl (cond_of (fun hoff => asWas h (hno (e := 4) (by unfold refC; rw [if_pos hoff]) (by decide)) (S.sel [0, 1] rfl)) fun hoff => ?_)
  have hoff' : ¬ C.off = true := by rw [hoff]; decide
  refine S.lb2 (o := 0) rfl (S.la1 rfl ?_)
  refine (rRight13_c (g := C.g) (b := bl) (p := pa)).mono ?_
  rintro ⟨(r : Bool), ⟨⟩⟩ w6 ⟨h6, x6⟩
  dsimp only at h6 ⊢
  subst h6
  have S := S.stepE x6
  by_cases hi : inC C bl pa
  case neg => exact cond_t (by rw [decide_eq_false (fun k => hi k.2)]; rfl) (asWas h (hno (e := 2) (by unfold refC; rw [if_neg hoff', if_pos (fun k => hi k.1)]) (by decide)) (S.sel [0, 1] rfl))
  refine cond_f (by rw [decide_eq_true (show plOk C.g bl pa from ⟨hC.g, hi⟩)]; rfl) ?_
  refine S.ld2 (j := 2) rfl rfl ⟨Rng.i64 (by omega) (by omega), ?_⟩
  have href := refC_eq (n := xs.length) hoff' hi
  refine cond_ne (fun hn => asWas h (hno (e := 2) (by rw [href, if_pos (by omega)]) (by decide)) (S.sel [0, 1] rfl)) fun hn => ?_
  have hxz : xs.length = szP C.g := by omega
  rw [if_neg (fun k => k hxz)] at href
  refine S.ld2 (j := 6) rfl rfl (S.ld1 (j := 0) rfl rfl ?_)
  obtain ⟨q, x, hq, hc, hr, hxx, hbd, -⟩ := (h.ext S.ext).nth (i := bl) hi.1.1 (by have := hi.1.2; omega)
  refine ⟨⟨hi.1.1, by have := hi.1.2; dsimp only; omega⟩, q, hq, bdT x, hc, ?_⟩
  refine S.newB fun b26 w7 S f7 _ => ?_
  refine S.st0 (by rfl) fun w8 S f8 => ?_
  have hb := (hC.blk hi.1).2
  have hsc : (blkC C bl).sc = x.2.2.2.1 := by rw [← hbd]; rfl
  have hus : (blkC C bl).us = x.2.1.l := by rw [← hbd]; rfl
  have hla : (blkC C bl).la = x.2.2.1 := by rw [← hbd]; rfl
  refine S.ld0 (j := 3) rfl rfl (cond_of (fun hs => asWas h (hno (e := 7) (by rw [href, if_pos (.inl (by rw [hsc]; exact hs))]) (by decide)) (S.sel [1, 2] rfl)) fun hs => ?_)
  have hmem : x ∈ B.l := List.mem_of_getElem? hxx
  have hrx : TBd.rd w (fun k => k < w.heap.size ∧ H k) x := TBd.rd_mono (fun k hk1 hk => ⟨hk, hk1⟩) (h.rb.2.2.2.2 x hmem)
  have hge : ∀ (i : Nat) (b : Nat) (e : TypeId) (vs : List Value), [BoxA b26 98 (bdV x), BoxA b5 88 zCH, BoxA b3 81 [.int .i64 bl, .int .i64 pa], BoxA b1 88 (chV B f C)][i]? = some (BoxA b e vs) → w.heap.size ≤ b := fun i b e vs hi => by
    obtain ⟨F3, h3, h3'⟩ := S.get hi
    exact (h3' b h3.1).1.resolve_left fun x => x
  have g26 := hge 0 _ _ _ rfl
  have g5 := hge 1 _ _ _ rfl
  have g1 := hge 3 _ _ _ rfl
  clear hge
  have l26 := S.bl0
  have l5 := S.bl1
  have l1 := S.bl3
  have X8 := S.ext
  have hr8 := TBd.rd_mono (fun _ _ _ => trivial) (Ty.rd_ext X8 _ hrx) (G' := All)
  have hul : x.2.1.n = C.g.p.toNat := by rw [← hb.ul, hus]; exact hr8.2.1.1.symm
  have hpp := hi.2
  have hu8 : Ints w8 .i64 x.2.1.a x.2.1.n x.2.1.c x.2.1.l := Ty.ints hr8.2.1
  have hue : x.2.1.l.getD pa.toNat 0 = usC C bl pa := by rw [← hus]
  have hu2 := (hC.us hi).2
  refine S.ld0 (j := 1) rfl rfl (S.ld2 (j := 1) rfl rfl (hu8.idx (by omega) (by omega) ?_))
  rw [hue]
  refine cond_d (fun h2 => asWas h (hno (e := 7) (by rw [href, if_pos (.inr h2)]) (by decide)) (S.sel [1, 2] rfl)) fun h2 => ?_
  rw [if_neg (fun k => k.elim (fun k => by rw [hsc, hs] at k; cases k) h2)] at href
  refine ⟨fun (_ : Unit) w' => w' = w8 ∧ refC C bl pa xs.length = 0, ?_, ?_⟩
  case refine_2 =>
    refine S.ld0 (j := 1) rfl rfl (S.ld2 (j := 1) rfl rfl (hu8.idx (by omega) (by omega) ?_))
    rw [hue]
    refine cond_eq (fun h0 => ?_) (fun h0 => ⟨rfl, by rw [href, if_neg (fun k => h0 k.1)]⟩)
    refine S.ld2 (j := 1) rfl rfl (S.ld0 (j := 2) rfl rfl (cond_d (fun hp => ?_) fun hp => ⟨rfl, by rw [href, if_neg (fun k => hp (by rw [← hla]; exact k.2))]⟩))
    exact asWas h (hno (e := 6) (by rw [href, if_pos ⟨h0, by rw [hla]; exact hp⟩]) (by decide)) (S.sel [1, 2] rfl)
  rintro ⟨⟩ w9 ⟨rfl, href0⟩
  clear href hno
  refine S.la3 rfl ?_
  refine (code_c (h.ext X8) hC).mono ?_
  rintro ⟨(e : Int), ⟨ma, mn, mc⟩, (cr : Bool), ⟨⟩⟩ w10 ⟨h10, h10', i10, x10⟩
  dsimp only at h10 h10' i10 ⊢
  subst h10; subst h10'
  have S := S.stepE x10
  refine S.ld0 (j := 0) rfl rfl (S.ld2 (j := 1) rfl rfl ?_)
  have hr10 := Ty.rd_ext x10 _ hr8
  have hpl : x.1.n = C.g.p.toNat := by rw [← bd_len (x := x) (by rw [hbd]; exact hb)]; exact hr8.1.1.symm
  obtain ⟨q2, y, hq2, hy, hc2, hry, -, -⟩ := TBB_nth hr10.1 (i := pa) (by omega) (by omega)
  have hyp : y.l = pgC13 C bl pa := by
    have h1 : (x.1.l.map (·.l))[pa.toNat]? = some y.l := by rw [List.getElem?_map, hy]; rfl
    have h2 : (blkC C bl).pg = x.1.l.map (·.l) := by rw [← hbd]; rfl
    show _ = (blkC C bl).pg.getD pa.toNat []
    rw [h2, getD_some h1]
  have hyI := Ty.ints hry
  rw [hyp] at hyI
  have hyl := hyI.len
  rw [(hC.page hi).2.1] at hyl
  refine ⟨⟨by omega, by dsimp only; omega⟩, q2, hq2, ldp0 hc2 (h := .sl) (x := ⟨y.a, y.n, y.c⟩) rfl ?_⟩
  dsimp only
  have X10 := X8.trans x10
  refine (And_c hyI (hx.ext X10) (by omega) (by omega)).mono ?_
  rintro ⟨⟨na, nn, nc⟩, ⟨⟩⟩ w11 h11
  dsimp only at h11 ⊢
  have hbm : Byt (codeC C).2.1 := by
    unfold codeC
    cases hat : atF C.pl (C.ops : Int) with
    | none => exact Byt.nil
    | some F => exact atF_byt hC hat
  have hbp := (hC.page hi).2.2
  generalize hQ : (if (codeC C).1 = 0 then andL (pgC13 C bl pa) xs else progL (pgC13 C bl pa) xs (codeC C).2.1 (!(codeC C).2.2)) = Q
  have hQl : Q.length = szP C.g := by
    rw [← hQ]
    split
    · rw [← (hC.page hi).2.1]; simp [andL]
    · unfold progL; rw [turn_len]; exact (hC.page hi).2.1
  have hQb : Byt Q := by rw [← hQ]; split; exact andL_byt _ _; exact turn_byt hbp _ _
  refine ⟨fun (v : SlV × Unit) w' => Ext w10 w' ∧ TB.rd w' (fun k => w10.heap.size ≤ k) ⟨v.1.a, v.1.n, v.1.c, Q⟩, ?_, ?_⟩
  case refine_2 =>
    refine cond_ne (fun hc0 => ?_) (fun hc0 => ?_)
    · have hc0 : ¬ (codeC C).1 = 0 := hc0
      have hs11 := h11.ext.size
      obtain ⟨na', hna'⟩ : ∃ t : SlV, t = ⟨a, n, c⟩ := ⟨_, rfl⟩
      have hnn : n = y.n := by omega
      subst hnn
      refine (Program_c (hyI.ext h11.ext) hbp (hx.ext (X10.trans h11.ext)) bx (i10.ext h11.ext) hbm (by omega)).mono ?_
      rintro ⟨⟨ra, rn, rc⟩, ⟨⟩⟩ w12 h12
      refine ⟨h11.ext.trans h12.ext, ?_⟩
      rw [if_neg hc0] at hQ
      have hq : turn (pgC13 C bl pa) (prF (pgC13 C bl pa) xs (codeC C).2.1 (!(codeC C).2.2) y.n) (8 * y.n) = Q := by
        rw [← hQ]
        unfold progL
        rw [(hC.page hi).2.1, hyl]
      rw [hq] at h12
      exact TB.rd_mono (fun k hk _ => by omega) (res_rd h12 hQb)
    · have hc0 : (codeC C).1 = 0 := hc0
      rw [if_pos hc0] at hQ
      rw [hQ] at h11
      exact ⟨h11.ext, res_rd h11 hQb⟩
  rintro ⟨⟨va, vn, vc⟩, ⟨⟩⟩ w12 ⟨x12, hvQ⟩
  dsimp only at hvQ ⊢
  have S := S.push (R := RdT TB ⟨va, vn, vc, Q⟩) (F := fun k => w10.heap.size ≤ k ∧ k < w12.heap.size) (.of x12) (TB.rd_mono (fun k h1 h2 => ⟨h1, h2⟩) hvQ) fun k hk => hk
  have hrP : TBB.rd w12 All x.1 := Ty.rd_ext x12 _ hr10.1
  have hrU : TI.rd w12 All x.2.1 := Ty.rd_ext x12 _ hr10.2.1
  have hPc : RdC w12 x.1.a (x.1.l.map slV) := by
    have := hrP.2.2.2.1.rdc
    rwa [show x.1.l.flatMap TB.vs = x.1.l.map slV from flat_sl _] at this
  have hUi : Ints w12 .i64 x.2.1.a x.2.1.n x.2.1.c x.2.1.l := Ty.ints hrU
  have hPl : x.1.l.length = x.1.n := hrP.1
  have hUl : x.2.1.l.length = x.2.1.n := hrU.1
  have w12s : Sep NoB w12 w12 [] := Sep.start NoB w12
  refine S.newB fun b55 w13 S f13 _ => ?_
  have S := S.asOwn (sz := 1) (n := 0) rfl (by omega) oneAll.nil
  refine S.ld2 (j := 0) rfl rfl ?_
  dsimp only
  have X13 := Fr.ext f13
  refine AppS.of (news := x.1.l.map slV) (by rw [List.length_map]; omega) (X13.rd hPc) ?_
  refine S.ap0 (by rw [List.length_map]; omega) (fun u hu => by obtain ⟨v, -, rfl⟩ := List.mem_map.1 hu; rfl) (by omega) (by omega) fun a58 c60 w14 S f14 => ?_
  rw [List.nil_append, Nat.zero_add] at S
  rw [Nat.zero_add]
  refine S.su2 (j := 0) (by rfl) fun w15 S f15 => ?_
  refine S.newB fun b64 w16 S f16 _ => ?_
  have S := S.asOwn (sz := 1) (n := 0) rfl (by omega) oneAll.nil
  refine S.ld3 (j := 1) rfl rfl ?_
  dsimp only
  have X16 : Ext w w16 := S.ext
  have hU16 : Ints w16 .i64 x.2.1.a x.2.1.n x.2.1.c x.2.1.l := Ty.ints (Ty.rd_ext X16 _ hrx).2.1
  refine AppS.of (news := iv x.2.1.l) (by rw [List.length_map]; omega) hU16.rd ?_
  refine S.ap0 (by rw [List.length_map]; omega) (oneAll.ints _ _) (by omega) (by omega) fun a67 c69 w17 S f17 => ?_
  rw [List.nil_append, Nat.zero_add] at S
  rw [Nat.zero_add]
  refine S.su3 (j := 1) (by rfl) fun w18 S f18 => ?_
  refine S.ld3 (j := 0) rfl rfl (S.ld5 (j := 1) rfl rfl ?_)
  refine S.put (i := 1) rfl (by omega) (by omega) (v := .slice va vn vc) rfl fun w19 S f19 => ?_
  dsimp only [List.set_cons_succ, List.set_cons_zero] at S
  refine S.ld3 (j := 1) rfl rfl (S.ld5 (j := 1) rfl rfl ?_)
  dsimp only
  refine (S.ints 0 rfl).idx (by omega) (by omega) ?_
  rw [hue]
  refine ⟨Rng.i64 (by omega) (by omega), ?_⟩
  refine S.put (i := 0) rfl (by omega) (by omega) (v := .int .i64 (usC C bl pa + 1)) rfl fun w20 S f20 => ?_
  dsimp only [List.set_cons_succ, List.set_cons_zero] at S
  rw [iv_set] at S
  refine S.ld3 (j := 2) rfl rfl (S.ld5 (j := 1) rfl rfl ?_)
  intro z hz
  subst hz
  refine S.su3 (j := 2) (by rfl) fun w21 S f21 => ?_
  refine S.la6 rfl (S.ld5 (j := 0) rfl rfl (S.la3 rfl ?_))
  dsimp only
  have X21 := S.ext
  obtain ⟨FP, hFP, nP, oP⟩ := S.off 1 rfl
  obtain ⟨FU, hFU, nU, oU⟩ := S.off 0 rfl
  obtain ⟨FQ, hFQ, nQ, oQ⟩ := S.off 2 rfl
  have aP : ∀ k, FP k → H k ∧ k ≠ b1 ∧ k ≠ b5 := fun k hk => ⟨hH k ((nP k hk).1.resolve_left fun x => x), fun e => oP 6 _ _ _ (by decide) rfl (e ▸ hk), fun e => oP 4 _ _ _ (by decide) rfl (e ▸ hk)⟩
  have aU : ∀ k, FU k → H k ∧ k ≠ b1 ∧ k ≠ b5 := fun k hk => ⟨hH k ((nU k hk).1.resolve_left fun x => x), fun e => oU 6 _ _ _ (by decide) rfl (e ▸ hk), fun e => oU 4 _ _ _ (by decide) rfl (e ▸ hk)⟩
  have aQ : ∀ k, FQ k → H k ∧ k ≠ b1 ∧ k ≠ b5 := fun k hk => ⟨hH k ((nQ k hk).1.resolve_left fun x => x), fun e => oQ 6 _ _ _ (by decide) rfl (e ▸ hk), fun e => oQ 4 _ _ _ (by decide) rfl (e ▸ hk)⟩
  have hx21 := Ty.rd_ext X21 _ hrx
  have hla2 := hb.la
  rw [hla] at hla2
  have ewP : (x.1.l.map slV).set pa.toNat (.slice va vn vc) = (x.1.l.set pa.toNat ⟨va, vn, vc, Q⟩).flatMap TB.vs := by rw [show (x.1.l.set pa.toNat ⟨va, vn, vc, Q⟩).flatMap TB.vs = (x.1.l.set pa.toNat ⟨va, vn, vc, Q⟩).map slV from flat_sl _, List.map_set]
  rw [ewP] at hFP
  have hQ21 : TB.rd w21 (fun k => H k ∧ k ≠ b1 ∧ k ≠ b5) ⟨va, vn, vc, Q⟩ := TB.rd_mono (fun k hk _ => aQ k hk) hFQ
  have old : ∀ k, k < w.heap.size ∧ H k → H k ∧ k ≠ b1 ∧ k ≠ b5 := fun k hk => ⟨hk.2, by omega, by omega⟩
  have hP' : TBB.rd w21 (fun k => H k ∧ k ≠ b1 ∧ k ≠ b5) ⟨a58, x.1.n, c60, x.1.l.set pa.toNat ⟨va, vn, vc, Q⟩⟩ := by
    refine own_rdF (t := TB) hFP (by decide) aP fun y hy => ?_
    rcases List.mem_or_eq_of_mem_set hy with hm | hm
    · exact TB.rd_mono (fun k hk _ => old k hk) (hx21.1.2.2.2.2 y hm)
    · rw [hm]; exact hQ21
  have hU' : TI.rd w21 (fun k => H k ∧ k ≠ b1 ∧ k ≠ b5) ⟨a67, x.2.1.n, c69, x.2.1.l.set pa.toNat (usC C bl pa + 1)⟩ := by
    rw [iv, ← flat_ints] at hFU
    refine own_rdF (t := .int .i64) hFU (by decide) aU fun y hy => ?_
    rcases List.mem_or_eq_of_mem_set hy with hm | hm
    · exact hx21.2.1.2.2.2.2 y hm
    · rw [hm]; exact Rng.i64 (by omega) (by omega)
  have rla : Rng .i64 (max x.2.2.1 pa) := Rng.i64 (by omega) (by omega)
  have hx' : TBd.rd w21 (fun k => H k ∧ k ≠ b1 ∧ k ≠ b5) (⟨a58, x.1.n, c60, x.1.l.set pa.toNat ⟨va, vn, vc, Q⟩⟩, ⟨a67, x.2.1.n, c69, x.2.1.l.set pa.toNat (usC C bl pa + 1)⟩, max x.2.2.1 pa, x.2.2.2.1, x.2.2.2.2.1, ()) :=
    ⟨hP', hU', rla, trivial, hx21.2.2.2.2.1, trivial⟩
  have hB' : (Ty.sl TBd).rd w21 (fun k => H k ∧ k ≠ b1 ∧ k ≠ b5) B := Ty.rd_ext X21 _ ((Ty.sl TBd).rd_mono (fun k hk1 hk => old k ⟨hk, hk1⟩) h.rb)
  have hN1 := S.bl6
  have hN5 := S.bl4
  refine (with_c (f := f) (C := C) (n := bl) (x := (⟨a58, x.1.n, c60, x.1.l.set pa.toNat ⟨va, vn, vc, Q⟩⟩, ⟨a67, x.2.1.n, c69, x.2.1.l.set pa.toNat (usC C bl pa + 1)⟩, max x.2.2.1 pa, x.2.2.2.1, x.2.2.2.2.1, ())) hB' (by omega) (by omega) hx' ⟨hi.1.1, by have := hi.1.2; omega⟩).mono ?_
  rintro ⟨_, ⟨⟩⟩ w22 ⟨B', hr', hrd', hl', x22⟩
  dsimp only at hr'
  subst hr'
  have S := S.stepE x22
  refine S.st6 (by rfl) fun w23 S f23 => S.su6 (j := 8) (by rfl) fun w24 S f24 => S.la6 rfl (S.st4 (by rfl) fun w25 S f25 => S.la4 rfl ?_)
  have X := S.ext
  have hbd2 : bdOf (⟨a58, x.1.n, c60, x.1.l.set pa.toNat ⟨va, vn, vc, Q⟩⟩, ⟨a67, x.2.1.n, c69, x.2.1.l.set pa.toNat (usC C bl pa + 1)⟩, max x.2.2.1 pa, x.2.2.2.1, x.2.2.2.2.1, ()) = { blkC C bl with pg := (blkC C bl).pg.set pa.toNat Q, us := (blkC C bl).us.set pa.toNat (usC C bl pa + 1), la := max (blkC C bl).la pa } := by
    rw [← hbd]
    unfold bdOf
    dsimp only
    rw [List.map_set]
  have hC' : (progC C bl pa xs).1 = { C with bs := B'.l.map bdOf, off := (codeC C).2.2, ops := C.ops + 1 } := by
    unfold progC
    rw [if_pos href0]
    unfold progX
    rw [hQ, hl', List.map_set, h.db, hbd2]
  refine ⟨B', ?_, ?_, ⟨?_, ?_, Ty.rd_ext X _ h.rf, ?_⟩, X⟩
  · rw [hC']
  · unfold progC; rw [if_pos href0]
  · have g : Fr (fun k => k = b1 ∨ k = b5) w22 w25 := ((f23.mono fun k hk => .inl hk).trans (f24.mono fun k hk => .inl hk)).trans (f25.mono fun k hk => .inr hk)
    exact rd_keep hrd' g (fun k hk => by
      rcases hk with hk | hk
      · exact hk.1
      · exact hH k (by have := X21.size; omega)) fun k hk hlt => by
      rcases hk with hk | hk
      · exact fun e => e.elim hk.2.1 hk.2.2
      · omega
  · rw [hC']
  · rw [hC']; exact h.df
end

end Go.Proofs.Ytfpkaebmiojicaa.Vc

/-! The contracts of layer 13: the document's array, a byte changed. -/
namespace Go.Proofs.Ytfpkaebmiojicaa.Vc
open Go Go.Eng Go.RowKit
set_option linter.unusedVariables false
set_option linter.unusedSimpArgs false

section
variable {H : Nat → Prop} {w : World} {B : SlP TBd.T} {f : SlP TF.T} {C : CD}
theorem own_rdB {w : World} {F G : Nat → Prop} {e : TypeId} {a : Option Addr} {n c : Nat} {xs : List Int} (ho : (OwnA e 1 a n c (xs.map (Value.int .u8))).p w F) (hF : ∀ k, F k → G k) (bx : Byt xs) : TB.rd w G ⟨a, n, c, xs⟩ := by
  rw [← flat_ints] at ho
  exact own_rdF (t := .int .u8) ho (by decide) hF fun y hy => rngU8 (bx y hy)
theorem rPoke13_c {bl pa at_ z : Int} (hH : ∀ k, w.heap.size ≤ k → H k) (h : RefR H w B f C) (hC : COk C) (hz : 0 ≤ z ∧ z < 256) :
    CallV Try.prog 83 #[chVal B f C, .agg #[.int .i64 bl, .int .i64 pa], .int .i64 at_, .int .u8 z] w [.agg SH10, .one (.int .i64)] fun r w' => ∃ B' : SlP TBd.T, r.1 = chT B' f (pokC C bl pa at_ z).1 ∧ r.2.1 = (pokC C bl pa at_ z).2 ∧ RefR H w' B' f (pokC C bl pa at_ z).1 ∧ Ext w w' := by
  apply ref13_Poke.vc
  unfold ref13_Poke.P
  obtain ⟨⟨n1, n2⟩, ⟨n3, n4⟩, ⟨n5, n6⟩, n7, n8⟩ := hC.num
  have hBn := h.len
  rw [hC.bl] at hBn
  have S := Sep.start NoB w
  refine S.newB fun b1 w1 S f1 _ => ?_
  refine S.newB fun b3 w3 S f3 _ => ?_
  refine S.newB fun b5 w5 S f5 _ => ?_
  refine S.ld2 (j := 8) rfl rfl (cond_of (fun hoff => asWas h (C' := pokC C bl pa at_ z) (e := 4) (by unfold pokC; rw [if_pos (by simpa using hoff)]) (S.sel [0, 1] rfl)) fun hoff => ?_)
  have hoff' : ¬ C.off = false := by simpa using hoff
  refine S.lb2 (o := 0) rfl (S.la1 rfl ?_)
  refine (rRight13_c (g := C.g) (b := bl) (p := pa)).mono ?_
  rintro ⟨(r : Bool), ⟨⟩⟩ w6 ⟨h6, x6⟩
  dsimp only at h6 ⊢
  subst h6
  have S := S.stepE x6
  have no : ¬ (inC C bl pa ∧ 0 ≤ at_ ∧ at_ < C.g.s + 88) → pokC C bl pa at_ z = (C, 2) := fun k => by unfold pokC; rw [if_neg hoff', if_pos k]
  by_cases hi : inC C bl pa
  case neg => exact cond_t (by rw [decide_eq_false (fun k => hi k.2)]; rfl) (asWas h (C' := pokC C bl pa at_ z) (no fun k => hi k.1) (S.sel [0, 1] rfl))
  refine cond_f (by rw [decide_eq_true (show plOk C.g bl pa from ⟨hC.g, hi⟩)]; rfl) ?_
  refine cond_d (fun h0 => asWas h (C' := pokC C bl pa at_ z) (no fun k => by omega) (S.sel [0, 1] rfl)) fun h0 => ?_
  have r88 : Rng .i64 (C.g.s + 88) := Rng.i64 (by omega) (by omega)
  refine S.ld2 (j := 2) rfl rfl ⟨r88, ?_⟩
  refine cond_d (fun h1 => asWas h (C' := pokC C bl pa at_ z) (no fun k => by omega) (S.sel [0, 1] rfl)) fun h1 => ?_
  have hP : pokC C bl pa at_ z = ({ C with bs := C.bs.set bl.toNat { blkC C bl with pg := (blkC C bl).pg.set pa.toNat ((pgC13 C bl pa).set at_.toNat z) } }, 0) := by
    unfold pokC; rw [if_neg hoff', if_neg (fun k => k ⟨hi, by omega⟩)]
  rw [hP]
  dsimp only
  refine S.ld2 (j := 6) rfl rfl (S.ld1 (j := 0) rfl rfl ?_)
  obtain ⟨q, x, hq, hc, hr, hxx, hbd, -⟩ := (h.ext S.ext).nth (i := bl) hi.1.1 (by have := hi.1.2; omega)
  refine ⟨⟨hi.1.1, by have := hi.1.2; dsimp only; omega⟩, q, hq, bdT x, hc, ?_⟩
  refine S.newB fun b29 w7 S f7 _ => ?_
  refine S.st0 (by rfl) fun w8 S f8 => ?_
  have hb := (hC.blk hi.1).2
  have hpp := hi.2
  have X8 := S.ext
  have hmem : x ∈ B.l := List.mem_of_getElem? hxx
  have hrx : TBd.rd w H x := h.rb.2.2.2.2 x hmem
  have hpl : x.1.n = C.g.p.toNat := by rw [← bd_len (x := x) (by rw [hbd]; exact hb)]; exact hr.1.1.symm
  have hPl : x.1.l.length = x.1.n := hr.1.1
  refine S.newB fun b32 w9 S f9 _ => ?_
  have S := S.asOwn (sz := 1) (n := 0) rfl (by omega) oneAll.nil
  refine S.ld1 (j := 0) rfl rfl ?_
  dsimp only
  have X9 := S.ext
  have hPc : RdC w9 x.1.a (x.1.l.flatMap TB.vs) := (Ty.rd_ext X9 _ hrx).1.2.2.2.1.rdc
  have hfl : (x.1.l.flatMap TB.vs).length = x.1.n * 1 := by rw [flat_sl, List.length_map]; omega
  refine AppS.of (news := x.1.l.flatMap TB.vs) hfl hPc ?_
  refine S.ap0 hfl (flatF_one (vs_one_ty TB) _) (by omega) (by omega) fun a35 c37 w10 S f10 => ?_
  rw [List.nil_append, Nat.zero_add] at S
  rw [Nat.zero_add]
  refine S.su1 (j := 0) (by rfl) fun w11 S f11 => ?_
  refine S.newB fun b41 w12 S f12 _ => ?_
  have S := S.asOwn (sz := 1) (n := 0) rfl (by omega) oneAll.nil
  refine S.ld2 (j := 0) rfl rfl (S.ld4 (j := 1) rfl rfl ?_)
  dsimp only
  obtain ⟨q2, y, hq2, hy, hc2⟩ := S.nthF (f := TB.vs) (m := 1) 1 rfl TB.vs_length (by decide) (j := pa) (by omega) (by omega)
  refine ⟨⟨by omega, by omega⟩, q2, hq2, ldp0 hc2 (h := .sl) (x := ⟨y.a, y.n, y.c⟩) rfl ?_⟩
  dsimp only
  have hyp : y.l = pgC13 C bl pa := by
    have h1 : (x.1.l.map (·.l))[pa.toNat]? = some y.l := by rw [List.getElem?_map, hy]; rfl
    have h2 : (blkC C bl).pg = x.1.l.map (·.l) := by rw [← hbd]; rfl
    show _ = (blkC C bl).pg.getD pa.toNat []
    rw [h2, getD_some h1]
  have X12 := S.ext
  have hyI : Ints w12 .u8 y.a y.n y.c y.l := Ty.ints ((Ty.rd_ext X12 _ hrx).1.2.2.2.2 y (List.mem_of_getElem? hy))
  have hyl := hyI.len
  rw [hyp] at hyI hyl
  obtain ⟨-, p1, p2⟩ := hC.page hi
  rw [p1] at hyl
  refine S.ab0 (xs := []) hyI (by omega) fun a47 c49 w13 S f13 => ?_
  rw [List.nil_append, Nat.zero_add] at S
  rw [Nat.zero_add]
  refine S.put (i := 0) rfl (by omega) (by omega) (v := .int .u8 z) rfl fun w14 S f14 => ?_
  dsimp only [List.set_cons_zero] at S
  rw [← List.map_set] at S
  refine S.ld2 (j := 0) rfl rfl (S.ld4 (j := 1) rfl rfl ?_)
  dsimp only
  rw [show x.1.l.flatMap TB.vs = x.1.l.map slV from flat_sl _] at S
  refine S.put (i := 1) rfl (by omega) (by omega) (v := .slice a47 y.n c49) rfl fun w15 S f15 => ?_
  dsimp only [List.set_cons_succ, List.set_cons_zero] at S
  have ewP : (x.1.l.map slV).set pa.toNat (.slice a47 y.n c49) = (x.1.l.set pa.toNat ⟨a47, y.n, c49, (pgC13 C bl pa).set at_.toNat z⟩).flatMap TB.vs := by rw [show (x.1.l.set pa.toNat ⟨a47, y.n, c49, (pgC13 C bl pa).set at_.toNat z⟩).flatMap TB.vs = (x.1.l.set pa.toNat ⟨a47, y.n, c49, (pgC13 C bl pa).set at_.toNat z⟩).map slV from flat_sl _, List.map_set]
  rw [ewP] at S
  refine S.newB fun b58 w16 S f16 _ => ?_
  have S := S.asOwn (sz := 5) (n := 0) rfl (by omega) oneAll.nil
  refine S.ld6 (j := 6) rfl rfl ?_
  dsimp only
  have X16 := S.ext
  have hrb := Ty.rd_ext X16 _ h.rb
  have hfB : (B.l.flatMap TBd.vs).length = B.n * 5 := by rw [flatF_len (f := TBd.vs) (m := 5) TBd.vs_length]; rw [show B.l.length = B.n from hrb.1]
  refine AppS.of (news := B.l.flatMap TBd.vs) hfB hrb.2.2.2.1.rdc ?_
  refine S.ap0 hfB (flatF_one (vs_one_ty TBd) _) (by omega) (by omega) fun a61 c63 w17 S f17 => ?_
  rw [List.nil_append, Nat.zero_add] at S
  rw [Nat.zero_add]
  refine S.ld5 (j := 0) rfl rfl (S.la3 rfl ?_)
  refine ⟨⟨hi.1.1, by have := hi.1.2; omega⟩, ?_⟩
  refine (S.putF (f := TBd.vs) (m := 5) TBd.vs_length (vs_one_ty TBd) (by decide) ⟨hi.1.1, by have := hi.1.2; omega⟩ (⟨a35, x.1.n, c37, x.1.l.set pa.toNat ⟨a47, y.n, c49, (pgC13 C bl pa).set at_.toNat z⟩⟩, x.2.1, x.2.2.1, x.2.2.2.1, x.2.2.2.2.1, ()) fun w18 S f18 => ?_)
  refine S.su6 (j := 6) (by rfl) fun w19 S f19 => S.la6 rfl (S.st4 (by rfl) fun w20 S f20 => S.la4 rfl ?_)
  have X := S.ext
  have hQb : Byt ((pgC13 C bl pa).set at_.toNat z) := fun v hv => (List.mem_or_eq_of_mem_set hv).elim (p2 v) fun e => by rw [e]; omega
  have hx20 := Ty.rd_ext X _ hrx
  refine ⟨⟨a61, B.n, c63, B.l.set bl.toNat (⟨a35, x.1.n, c37, x.1.l.set pa.toNat ⟨a47, y.n, c49, (pgC13 C bl pa).set at_.toNat z⟩⟩, x.2.1, x.2.2.1, x.2.2.2.1, x.2.2.2.2.1, ())⟩, rfl, rfl, ⟨?_, ?_, Ty.rd_ext X _ h.rf, h.df⟩, X⟩
  · obtain ⟨F0, h0, h0'⟩ := S.get (i := 0) rfl
    obtain ⟨F1, h1, h1'⟩ := S.get (i := 1) rfl
    obtain ⟨F2, h2, h2'⟩ := S.get (i := 2) rfl
    refine own_rdF (t := TBd) h0 (by decide) (fun k hk => hH k ((h0' k hk).1.resolve_left fun x => x)) fun u hu => ?_
    rcases List.mem_or_eq_of_mem_set hu with hm | hm
    · exact Ty.rd_ext X _ (h.rb.2.2.2.2 u hm)
    · rw [hm]
      refine ⟨own_rdF (t := TB) h2 (by decide) (fun k hk => hH k ((h2' k hk).1.resolve_left fun x => x)) fun v hv => ?_, hx20.2⟩
      rcases List.mem_or_eq_of_mem_set hv with hm | hm
      · exact hx20.1.2.2.2.2 v hm
      · rw [hm]; exact own_rdB h1 (fun k hk => hH k ((h1' k hk).1.resolve_left fun x => x)) hQb
  · show (B.l.set bl.toNat _).map bdOf = _
    rw [List.map_set, h.db]
    congr 1
    show bdOf _ = _
    rw [← hbd]
    unfold bdOf
    dsimp only
    rw [List.map_set]
end

end Go.Proofs.Ytfpkaebmiojicaa.Vc
