/- Texts in one: Plain laws of layer 25 (stream): an array and a ledger go by programs, by blocks that are destroyed, and by changes that keep how often a block was erased. The plans of functions as plain statements, printed by wip/tools/vcgen.py; the kernel holds each to the code. The plans of functions as plain statements, printed by wip/tools/vcgen.py; the kernel holds each to the code. The contracts of layer 26 (reclaim): how unlike blocks are worn; blocks, levelled. The contracts of layer 26 (reclaim): blocks, levelled. The plans of functions as plain statements, printed by wip/tools/vcgen.py; the kernel holds each to the code. The contracts of the laws of layer 26: which cases are played; a new stream on an array, a sector written; what is known of blocks. The plans of functions as plain statements, printed by wip/tools/vcgen.py; the kernel holds each to the code. The plans of functions as plain statements, printed by wip/tools/vcgen.py; the kernel holds each to the code. The plans of functions as plain statements, printed by wip/tools/vcgen.py; the kernel holds each to the code. The plans of functions as plain statements, printed by wip/tools/vcgen.py; the kernel holds each to the code. The plans of functions as plain statements, printed by wip/tools/vcgen.py; the kernel holds each to the code. The law ReclaimTells of layer 26: each call gives true, and what it read stays. -/
import Derived.Test.YtbaojfchlhlaeaaGreatZReclaimTellsf

set_option linter.unusedVariables false
set_option linter.unusedSimpArgs false
/-! Plain laws of layer 25 (stream): an array and a ledger go by programs, by blocks that are destroyed, and by changes that keep how often a block was erased. -/
namespace Go.Proofs.YtbaojfchlhlaeaaGreat.Vc
open Go Go.Eng Go.RowKit
inductive RSt : CD → List Blk → CD → List Blk → Prop
  | refl (C : CD) (L : List Blk) : RSt C L C L
  | prog {C : CD} {L : List Blk} {C' : CD} {L' : List Blk} (bl pa : Int) (xs : List Int) : RSt C L C' L' → RSt C L (progC C' bl pa xs).1 L'
  | led {C : CD} {L : List Blk} {C' : CD} {L' M : List Blk} : RSt C L C' L' → M.length = L'.length → (∀ i, (gx M i).er = (gx L' i).er) → RSt C L C' M
  | dst {C : CD} {L : List Blk} {C' : CD} {L' : List Blk} (b : Int) : RSt C L C' L' → RSt C L (dstP C' L' b).1 (dstP C' L' b).2.1
theorem RSt.trans {C C1 C2 : CD} {L L1 L2 : List Blk} (h : RSt C L C1 L1) (k : RSt C1 L1 C2 L2) : RSt C L C2 L2 := by
  induction k with
  | refl => exact h
  | prog bl pa xs _ ih => exact ih.prog bl pa xs
  | led _ h1 h2 ih => exact ih.led h1 h2
  | dst b _ ih => exact ih.dst b
theorem ch_er {b : Int} {n : Nat} {φ : Blk → Blk} (h : ∀ x, (φ x).er = x.er) (L : List Blk) (i : Nat) : (gx (chL b n φ L) i).er = (gx L i).er := by
  unfold chL
  split
  · by_cases e : i = b.toNat ∧ i < L.length
    · obtain ⟨e, hl⟩ := e
      subst e
      show ((L.set b.toNat (φ (L.getD b.toNat default))).getD b.toNat default).er = _
      rw [List.getD_eq_getElem?_getD, List.getElem?_set_self hl]
      exact h _
    · show ((L.set b.toNat (φ (L.getD b.toNat default))).getD i default).er = (L.getD i default).er
      by_cases e1 : b.toNat = i
      · have e2 : L.length ≤ b.toNat := Nat.le_of_not_lt fun k => e ⟨e1.symm, by omega⟩
        rw [List.set_eq_of_length_le e2]
      · simp only [List.getD_eq_getElem?_getD, List.getElem?_set_ne e1]
  · rfl
theorem RSt.ch {C C' : CD} {L L' : List Blk} (k : RSt C L C' L') (b : Int) (n : Nat) {φ : Blk → Blk} (h : ∀ x, (φ x).er = x.er) : RSt C L C' (chL b n φ L') := k.led (chL_len _ _ _ _) (ch_er h L')
section
variable {C C' : CD} {L L' : List Blk}
theorem RSt.prgP (k : RSt C L C' L') (bl pa : Int) (xs : List Int) : RSt C L (prgP C' bl pa xs).1 L' := by
  unfold Vc.prgP
  split
  · exact (k.prog _ _ _).prog _ _ _
  · exact k.prog _ _ _
theorem RSt.fstP (k : RSt C L C' L') (b : Int) (h : Hd) (sl : Bool) : RSt C L (fstP C' b h sl).1 L' := by
  unfold Vc.fstP
  split
  · exact (k.prog _ _ _).prog _ _ _
  · exact k.prog _ _ _
theorem RSt.begP (k : RSt C L C' L') (O : List Hd) (b ns : Int) (o : Hd) (sl : Bool) : RSt C L (begP C' L' O b ns o sl).1 (begP C' L' O b ns o sl).2.1 := by
  unfold Vc.begP
  split
  · exact (k.fstP b _ sl).ch _ _ fun _ => rfl
  · exact k.fstP b _ sl
theorem RSt.opnP {ns : Int} {o : Hd} {sl : Bool} : ∀ (m : Nat) {C' : CD} {L' : List Blk} {O : List Hd}, RSt C L C' L' → RSt C L (opnP ns o sl m C' L' O).1.1 (opnP ns o sl m C' L' O).1.2.1
  | 0, C', L', O, k => k
  | m + 1, C', L', O, k => by
    unfold Vc.opnP
    split
    · exact k
    · have hr : RSt C L (if (gx L' (pickT L' L'.length).toNat).cl = true then (C', L', (0 : Int)) else dstP C' L' (pickT L' L'.length)).1 (if (gx L' (pickT L' L'.length).toNat).cl = true then (C', L', (0 : Int)) else dstP C' L' (pickT L' L'.length)).2.1 := by
        split
        · exact k
        · exact k.dst _
      generalize (if (gx L' (pickT L' L'.length).toNat).cl = true then (C', L', (0 : Int)) else dstP C' L' (pickT L' L'.length)) = r at hr ⊢
      dsimp only
      split
      · have hs := hr.begP O (pickT L' L'.length) ns o sl
        generalize Vc.begP r.1 r.2.1 O (pickT L' L'.length) ns o sl = s at hs ⊢
        split
        · exact hs
        · split
          · exact hs
          · have hd := (hs.ch (pickT L' L'.length) L'.length (φ := fB) fun _ => rfl).dst (pickT L' L'.length)
            split
            · exact hd
            · exact RSt.opnP m hd
      · split
        · exact hr
        · exact RSt.opnP m hr
end
def RS (s t : SD) : Prop := RSt s.C s.L t.C t.L
section
variable {s t : SD}
theorem RS.refl (s : SD) : RS s s := RSt.refl _ _
theorem RS.of (h : RS s t) {u : SD} (e1 : u.C = t.C) (e2 : u.L = t.L) : RS s u := by unfold RS; rw [e1, e2]; exact h
theorem RS.mk {u : SD} {C : CD} {L : List Blk} (h : RSt s.C s.L C L) (e1 : u.C = C) (e2 : u.L = L) : RS s u := by unfold RS; rw [e1, e2]; exact h
theorem RS.chS (h : RS s t) (b : Int) {φ : Blk → Blk} (k : ∀ x, (φ x).er = x.er) : RS s (chS t b φ) := RS.mk (RSt.ch h b t.L.length k) rfl rfl
theorem RS.over (h : RS s t) : RS s (overP t).1 := by unfold overP; split <;> exact h.of rfl rfl
theorem RS.roS (h : RS s t) (e : Int) : RS s (roS t e) := by unfold Vc.roS; split <;> exact h.of rfl rfl
theorem RS.left (h : RS s t) (e : Int) : RS s (leftP t e).1 := by
  unfold leftP
  split
  · exact h
  · split
    · exact (h.roS e).over
    · exact (h.roS e).over
theorem RS.clos (h : RS s t) (ns : Int) : RS s (closP t ns) := by
  unfold closP
  split
  · exact RS.chS (t := frS t ns (-1)) (h.of rfl rfl) _ fun _ => rfl
  · exact h.of rfl rfl
theorem RS.opn (h : RS s t) (ns : Int) (sl : Bool) : RS s (opnS ns sl t).1 := by
  unfold opnS opC
  dsimp only
  split
  · exact RS.mk (RSt.opnP 128 h) rfl rfl
  · exact h.of rfl rfl
theorem RS.dst (h : RS s t) (b : Int) : RS s (dstS t b).1 := by
  unfold dstS
  split
  · exact RS.over (t := { t with C := (dstP t.C t.L b).1, L := (dstP t.C t.L b).2.1 }) (RS.mk (RSt.dst b h) rfl rfl)
  · exact h
theorem RS.cpy (h : RS s t) (to pa : Int) (k : Int × Int) : RS s (cpyS t to pa k).1 := by
  unfold cpyS cpyC
  dsimp only
  have h1 : RSt s.C s.L t.C (chL to t.L.length uB t.L) := RSt.ch h to _ fun _ => rfl
  split
  · split
    · exact RS.mk (h1.prgP _ _ _) rfl rfl
    · exact RS.mk h1 rfl rfl
  · exact RS.mk h1 rfl rfl
theorem RS.cop {to : Int} : ∀ (l : List (Int × Int)) (i : Int) {t : SD}, RS s t → RS s (copP to l i t).1
  | [], i, t, h => by
    have h1 : RSt s.C s.L (slC t.L.length t.C to).1 t.L := by
      unfold slC
      split
      · exact RSt.prog _ _ _ h
      · exact h
    exact RS.mk h1 rfl rfl
  | k :: l, i, t, h => by
    unfold copP
    split
    · exact h.cpy to i k
    · exact RS.cop l (i + 1) (h.cpy to i k)
theorem RS.mov (h : RS s t) (b to ns : Int) (l : List (Int × Int)) : RS s (movP t b to ns l) := by
  have h0 : RS s { t with X := movL to (ordO t.O to).hh l 1 t.X } := h.of rfl rfl
  unfold movP
  generalize ({ t with X := movL to (ordO t.O to).hh l 1 t.X } : SD) = u at h0 ⊢
  have h1 := (h0.chS to (φ := cB (l.length : Int)) fun _ => rfl).chS b (φ := rB) fun _ => rfl
  dsimp only
  split
  · exact h1.of rfl rfl
  · exact h1
theorem RS.spo (h : RS s t) (b : Int) : RS s (spoP t b).1 := by
  have h1 := ((h.chS b (φ := fB) fun _ => rfl).chS b (φ := rB) fun _ => rfl).dst b
  unfold spoP
  split
  · exact h1
  · exact h1.over
theorem RS.empL {b ns : Int} {l : List (Int × Int)} : ∀ (k : Nat) {t : SD}, RS s t → RS s (empL b ns l k t).1
  | 0, t, h => h
  | k + 1, t, h => by
    have h1 := (h.opn ns false).left (opnS ns false t).2.2
    have h2 := RS.cop l 1 (to := (opnS ns false t).2.1) h1
    unfold Vc.empL
    dsimp only
    split
    · split
      · exact h1.chS _ fun _ => rfl
      · exact h1
    · split
      · exact h2.mov _ _ _ _
      · split
        · split
          · exact h2.spo _
          · exact RS.empL k (h2.spo _)
        · exact h2
theorem RS.emp (h : RS s t) (b ns : Int) : RS s (empP t b ns).1 := by
  unfold empP
  dsimp only
  have h0 : RS s (if frG t ns = b then frS t ns (-1) else t) := by split; exact h.of rfl rfl; exact h
  split
  · exact h0.chS _ fun _ => rfl
  · exact RS.empL 256 h0
theorem RS.room (h : RS s t) (ns : Int) : RS s (roomP t ns).1 := by
  unfold roomP
  split
  · exact (h.clos ns).emp _ _
  · have h1 := (h.clos ns).opn ns true
    dsimp only
    split
    · exact RS.left (t := frS (opnS ns true (closP t ns)).1 ns (opnS ns true (closP t ns)).2.1) (h1.of rfl rfl) _
    · exact h1.left _
theorem RS.fai (h : RS s t) (ns : Int) : RS s (faiP t ns).1 := by
  have h1 : RS s (overP (Vc.chS (frS t ns (-1)) (frG t ns) fB)).1 := RS.over (RS.chS (t := frS t ns (-1)) (h.of rfl rfl) _ fun _ => rfl)
  have h2 := h1.emp (frG t ns) ns
  have h3 := h2.dst (frG t ns)
  unfold faiP
  dsimp only
  split
  · exact h1
  · split
    · exact h2
    · split
      · exact h3
      · exact h3.over
theorem RS.wr1 (h : RS s t) (ns : Int) (hd : Hd) (xs tg : List Int) : RS s (wr1 t ns hd xs tg).1 := by
  have h1 : RS s (Vc.chS t (frG t ns) uB) := h.chS _ fun _ => rfl
  unfold Vc.wr1 wrtT
  dsimp only
  split
  · split
    · exact RS.mk (RSt.prgP h1 _ _ _) rfl rfl
    · exact h1.of rfl rfl
  · exact h1.of rfl rfl
theorem RS.wr {ns : Int} {hd : Hd} {xs tg : List Int} : ∀ (k : Nat) {t : SD}, RS s t → RS s (wrP ns hd xs tg k t).1
  | 0, t, h => h
  | k + 1, t, h => by
    unfold wrP
    split
    · split
      · exact h.room ns
      · exact RS.wr k (h.room ns)
    · dsimp only
      split
      · exact h.wr1 ns hd xs tg
      · split
        · split
          · exact (h.wr1 ns hd xs tg).fai ns
          · exact RS.wr k ((h.wr1 ns hd xs tg).fai ns)
        · exact h.wr1 ns hd xs tg
theorem RS.ded1 (h : RS s t) (k : Int × Int) : RS s (ded1 t k) := by
  have h1 : RS s (Vc.chS t (k.1 - 4) (cB (-1))) := h.chS _ fun _ => rfl
  unfold Vc.ded1
  dsimp only
  split
  · exact h1.chS _ fun _ => rfl
  · exact h1
theorem RS.ded : ∀ (l : List (Int × Int)) {t : SD}, RS s t → RS s (dedP l t)
  | [], t, h => h
  | k :: l, t, h => RS.ded l (h.ded1 k)
theorem RS.lnd (h : RS s t) (hd : Hd) (at_ : Int × Int) : RS s (lndP t hd at_) := by
  refine RS.ded _ ?_
  unfold lnd1
  split
  · exact RS.chS (t := { t with X := lndX t hd at_ }) (h.of rfl rfl) _ fun _ => rfl
  · exact h.of rfl rfl
theorem RS.put (h : RS s t) (hd : Hd) (xs tg : List Int) : RS s (putS t hd xs tg).1 := by
  unfold putS
  split
  · exact h
  · split
    · exact h
    · dsimp only
      split
      · exact RS.wr 256 h
      · exact (RS.wr 256 h).lnd _ _
end
structure ErI (n : Nat) (C : CD) (L : List Blk) : Prop where
  pl : C.pl = []
  off : C.off = false
  gb : C.g.b = 4 + (n : Int)
  bl : C.bs.length = C.g.b.toNat
  ll : L.length = n
  er : ∀ i, i < n → (gx L i).er = (blkC C (4 + (i : Int))).er
theorem code_nf {C : CD} (h : C.pl = []) : codeC C = (0, [], false) := by unfold codeC atF; rw [h]; rfl
theorem bs_get (l : List BD) (i j : Nat) (x : BD) (hj : j < l.length) : (l.set j x).getD i default = if i = j then x else l.getD i default := by
  rw [List.getD_eq_getElem?_getD, List.getElem?_set]
  by_cases e : i = j
  · subst e
    rw [if_pos rfl, if_pos hj, if_pos rfl]
    rfl
  · rw [if_neg (fun k => e k.symm), if_neg e, List.getD_eq_getElem?_getD]
theorem ErI.prog {n : Nat} {C : CD} {L : List Blk} (h : ErI n C L) (bl pa : Int) (xs : List Int) : ErI n (progC C bl pa xs).1 L := by
  unfold progC
  split
  · rename_i hr
    have hc := code_nf h.pl
    have hin : (0 ≤ bl ∧ bl < C.g.b) := by
      unfold refC at hr
      rw [h.off, if_neg Bool.false_ne_true] at hr
      by_cases hi : inC C bl pa ∧ xs.length = szP C.g
      · exact hi.1.1
      · rw [if_pos hi] at hr; omega
    refine ⟨h.pl, by show (codeC C).2.2 = false; rw [hc], h.gb, by show (C.bs.set _ _).length = _; rw [List.length_set]; exact h.bl, h.ll, fun i hi => ?_⟩
    rw [h.er i hi]
    show _ = ((C.bs.set _ _).getD _ default).er
    rw [bs_get _ _ _ _ (by have := h.bl; omega)]
    split
    · rename_i e
      show (C.bs.getD _ default).er = (C.bs.getD _ default).er
      rw [e]
    · rfl
  · exact h
theorem ErI.dst {n : Nat} {C : CD} {L : List Blk} (h : ErI n C L) (b : Int) : ErI n (dstP C L b).1 (dstP C L b).2.1 ∧ (0 ≤ b ∧ b < (n : Int) → (dstP C L b).2.2 = 0 ∧ (dstP C L b).2.1 = chL b n eB L) := by
  have hc := code_nf h.pl
  have hm : mayC C (4 + b) = if ¬ (0 ≤ 4 + b ∧ 4 + b < C.g.b) then 2 else 0 := by unfold mayC; rw [h.off, if_neg Bool.false_ne_true]
  have hgb := h.gb
  by_cases hb : 0 ≤ 4 + b ∧ 4 + b < C.g.b
  · rw [if_neg (fun k => k hb)] at hm
    have e : eraC C (4 + b) = (eraX C (4 + b), 0) := by unfold eraC; rw [if_pos hm, hc]
    have ed : dstP C L b = (eraX C (4 + b), chL b L.length eB L, 0) := by
      unfold dstP
      rw [e, if_neg (by show ¬ (0 : Int) = 5; decide), if_pos rfl]
    rw [ed]
    refine ⟨⟨h.pl, by show (codeC C).2.2 = false; rw [hc], h.gb, by show (C.bs.set _ _).length = _; rw [List.length_set]; exact h.bl, by show (chL _ _ _ _).length = n; rw [chL_len]; exact h.ll, fun i hi => ?_⟩, fun hb2 => ⟨rfl, by rw [← h.ll]⟩⟩
    show (gx (chL b L.length eB L) i).er = ((C.bs.set _ _).getD _ default).er
    rw [gx_ch rfl, bs_get _ _ _ _ (by have := h.bl; omega), hc, h.ll]
    have hn := h.er i hi
    by_cases e2 : (0 ≤ b ∧ b < (n : Int)) ∧ i = b.toNat
    · rw [if_pos e2, if_pos (by omega), if_pos rfl]
      show (gx L i).er + 1 = (blkC C (4 + b)).er + 1
      rw [hn, show 4 + (i : Int) = 4 + b by omega]
    · rw [if_neg e2, if_neg (by omega)]
      exact hn
  · rw [if_pos hb] at hm
    have e : eraC C (4 + b) = (C, 2) := by unfold eraC; rw [if_neg (by omega), hm]
    have ed : dstP C L b = (C, L, 2) := by
      unfold dstP
      rw [e, if_neg (by show ¬ (2 : Int) = 5; decide), if_neg (by show ¬ (2 : Int) = 0; decide)]
    rw [ed]
    exact ⟨h, fun hb2 => absurd ⟨by omega, by omega⟩ hb⟩
theorem ErI.go {n : Nat} {C C' : CD} {L L' : List Blk} (h : ErI n C L) (k : RSt C L C' L') : ErI n C' L' := by
  induction k with
  | refl => exact h
  | prog bl pa xs _ ih => exact ih.prog bl pa xs
  | led _ h1 h2 ih => exact ⟨ih.pl, ih.off, ih.gb, ih.bl, h1.trans ih.ll, fun i hi => (h2 i).trans (ih.er i hi)⟩
  | dst b _ ih => exact (ih.dst b).1
theorem s00_E {g : Geo} {X : List (SlP Ce)} (hR : Right g) : ErI (nG g) (s00 g [] X).C (s00 g [] X).L := by
  have hk := hR.1
  unfold Kept at hk
  refine ⟨rfl, rfl, by show g.b = 4 + (((g.b - 4).toNat : Nat) : Int); omega, by show (List.replicate g.b.toNat (blankB g)).length = _; rw [List.length_replicate]; rfl, List.length_replicate, fun i hi => ?_⟩
  have hi2 : i < (g.b - 4).toNat := hi
  show (gx (List.replicate (nG g) Blk.new) i).er = ((List.replicate g.b.toNat (blankB g)).getD (4 + (i : Int)).toNat default).er
  rw [rep_gx (nG g) hi, List.getD_eq_getElem?_getD, List.getElem?_replicate, if_pos (by omega)]
  rfl
end Go.Proofs.YtbaojfchlhlaeaaGreat.Vc
/-! The plans of functions as plain statements, printed by wip/tools/vcgen.py; the kernel holds each to the code. -/
namespace Go.Proofs.YtbaojfchlhlaeaaGreat.Vc
open Go Go.Eng
def reclaim_spread.A : Ann := .no
def reclaim_spread.P (p0 : Addr) (w : World) (K : Int × Int × Unit → World → Prop) : Prop :=
  CallV Tryz.prog 191 #[.pointer (some p0)] w [.one (.int .i64), .one (.int .i64)] fun (r1 : Int × Int × Unit) w2 =>
  cond (decide (r1.1 < 0))
  (K (((-1) : Int), (0 : Int), ()) w2)
  (CallV Tryz.prog 54 #[.pointer (some p0), .int .i64 r1.2.1] w2 [.agg [.int .i64, .int .i64, .int .i64, .int .i64, .bool, .bool, .bool, .bool, .bool]] fun (r3 : (Int × Int × Int × Int × Bool × Bool × Bool × Bool × Bool × Unit) × Unit) w4 =>
  CallV Tryz.prog 54 #[.pointer (some p0), .int .i64 r1.1] w4 [.agg [.int .i64, .int .i64, .int .i64, .int .i64, .bool, .bool, .bool, .bool, .bool]] fun (r5 : (Int × Int × Int × Int × Bool × Bool × Bool × Bool × Bool × Unit) × Unit) w6 =>
  Rng .i64 (r3.1.2.2.2.1 - r5.1.2.2.2.1) ∧
  K (r1.1, r3.1.2.2.2.1 - r5.1.2.2.2.1, ()) w6)
theorem reclaim_spread.vc (p0 : Addr) (w : World) (K : Int × Int × Unit → World → Prop) (h : reclaim_spread.P p0 w K) : CallV Tryz.prog 133 #[.pointer (some p0)] w [.one (.int .i64), .one (.int .i64)] K := by
  refine vcFun.of (A := reclaim_spread.A) (wr := false) okf_ok follows h Tryz.func133 ?_
  kernel_rfl
def reclaim_Unlike.A : Ann := .no
def reclaim_Unlike.P (p0 : Addr) (p1 : Int) (w : World) (K : Bool × Unit → World → Prop) : Prop :=
  CallV Tryz.prog 26 #[.pointer (some p0)] w [.one .ptr] fun (r1 : (Option Addr) × Unit) w2 =>
  CallV Tryz.prog 27 #[.pointer r1.1] w2 [.one .ptr] fun (r3 : (Option Addr) × Unit) w4 =>
  CallV Tryz.prog 133 #[.pointer r3.1] w4 [.one (.int .i64), .one (.int .i64)] fun (r5 : Int × Int × Unit) w6 =>
  cond (decide (p1 ≥ 1))
  (K (decide (r5.2.1 > p1), ()) w6)
  (K (false, ()) w6)
theorem reclaim_Unlike.vc (p0 : Addr) (p1 : Int) (w : World) (K : Bool × Unit → World → Prop) (h : reclaim_Unlike.P p0 p1 w K) : CallV Tryz.prog 62 #[.pointer (some p0), .int .i64 p1] w [.one .bool] K := by
  refine vcFun.of (A := reclaim_Unlike.A) (wr := false) okf_ok follows h Tryz.func62 ?_
  kernel_rfl
def reclaim_Erases.A : Ann := .two .no (.two .no (.two .no (.two (.two .no (.one (.loop [3, 5, 11, 12, 13, 14, 15, 16, 17, 18, 19, 20, 21] [(3, .one .sl), (11, .one (.int .i64))] .no))) .no)))
def reclaim_Erases.P (p0 : Addr) (w : World) (K : SlV × Unit → World → Prop) : Prop :=
  CallV Tryz.prog 26 #[.pointer (some p0)] w [.one .ptr] fun (r1 : (Option Addr) × Unit) w2 =>
  CallV Tryz.prog 27 #[.pointer r1.1] w2 [.one .ptr] fun (r3 : (Option Addr) × Unit) w4 =>
  CallV Tryz.prog 52 #[.pointer r3.1] w4 [.one (.int .i64)] fun (r5 : Int × Unit) w6 =>
  LoopV [.one .sl, .one (.int .i64)] ((⟨none, 0, 0⟩ : SlV), (0 : Int), ()) w6 fun (z7 : SlV × Int × Unit) w8 (K9 : SlV × Int × Unit → World → Prop) =>
  cond (decide (z7.2.1 < r5.1))
  (CallV Tryz.prog 54 #[.pointer r3.1, .int .i64 z7.2.1] w8 [.agg [.int .i64, .int .i64, .int .i64, .int .i64, .bool, .bool, .bool, .bool, .bool]] fun (r10 : (Int × Int × Int × Int × Bool × Bool × Bool × Bool × Bool × Unit) × Unit) w11 =>
  NewV #[.int .i64 r10.1.2.2.2.1] 3 w11 fun b12 w13 =>
  AppS w13 (some ⟨b12, 0, none⟩) 1 1 fun ns18 =>
  AppV w13 3 1 8 z7.1.a z7.1.n z7.1.c ns18 1 fun a14 n15 c16 w17 =>
  Rng .i64 (z7.2.1 + 1) ∧
  K9 ((⟨a14, n15, c16⟩ : SlV), z7.2.1 + 1, ()) w17)
  (K (z7.1, ()) w8)
theorem reclaim_Erases.vc (p0 : Addr) (w : World) (K : SlV × Unit → World → Prop) (h : reclaim_Erases.P p0 w K) : CallV Tryz.prog 61 #[.pointer (some p0)] w [.one .sl] K := by
  refine vcFun.of (A := reclaim_Erases.A) (wr := false) okf_ok follows h Tryz.func61 ?_
  kernel_rfl
def reclaim_Level.A : Ann := .two .no (.two .no (.two (.two .no (.one (.loop [4, 5, 6, 7, 19, 20, 21, 22, 23, 24, 25, 26, 27, 28, 29, 30, 31, 32, 33, 34, 35, 36, 37, 38, 39, 40, 41, 42, 43, 44, 45, 46] [(19, .one (.int .i64))] .no))) .no))
def reclaim_Level.P (p0 : Addr) (p1 : Int) (w : World) (K : Int × Unit → World → Prop) : Prop :=
  cond (decide (p1 < 1))
  (K ((2 : Int), ()) w)
  (CallV Tryz.prog 26 #[.pointer (some p0)] w [.one .ptr] fun (r1 : (Option Addr) × Unit) w2 =>
  CallV Tryz.prog 27 #[.pointer r1.1] w2 [.one .ptr] fun (r3 : (Option Addr) × Unit) w4 =>
  CallV Tryz.prog 52 #[.pointer r3.1] w4 [.one (.int .i64)] fun (r5 : Int × Unit) w6 =>
  Rng .i64 ((64 : Int) * r5.1) ∧
  LoopV [.one (.int .i64)] ((0 : Int), ()) w6 fun (z7 : Int × Unit) w8 (K9 : Int × Unit → World → Prop) =>
  cond (decide (z7.1 < ((64 : Int) * r5.1)))
  (CallV Tryz.prog 48 #[.pointer (some p0)] w8 [.one .bool] fun (r10 : Bool × Unit) w11 =>
  cond r10.1
  (K ((15 : Int), ()) w11)
  (CallV Tryz.prog 62 #[.pointer (some p0), .int .i64 p1] w11 [.one .bool] fun (r12 : Bool × Unit) w13 =>
  cond (!r12.1)
  (K ((0 : Int), ()) w13)
  (CallV Tryz.prog 26 #[.pointer (some p0)] w13 [.one .ptr] fun (r14 : (Option Addr) × Unit) w15 =>
  CallV Tryz.prog 27 #[.pointer r14.1] w15 [.one .ptr] fun (r16 : (Option Addr) × Unit) w17 =>
  CallV Tryz.prog 133 #[.pointer r16.1] w17 [.one (.int .i64), .one (.int .i64)] fun (r18 : Int × Int × Unit) w19 =>
  NewV #[.func (.func 46) #[.pointer (some p0)] #[], .func (.func 47) #[.pointer (some p0)] #[]] 94 w19 fun b20 w21 =>
  CallV Tryz.prog 135 #[.int .i64 r18.1, .slice (some ⟨b20, 0, none⟩) 2 2] w21 [.one (.int .i64)] fun (r22 : Int × Unit) w23 =>
  cond (r22.1 == 4)
  (cond (r22.1 == 4)
  (K (r22.1, ()) w23)
  (Rng .i64 (z7.1 + 1) ∧
  K9 (z7.1 + 1, ()) w23))
  (cond (r22.1 == 15)
  (K (r22.1, ()) w23)
  (Rng .i64 (z7.1 + 1) ∧
  K9 (z7.1 + 1, ()) w23)))))
  (K ((0 : Int), ()) w8))
theorem reclaim_Level.vc (p0 : Addr) (p1 : Int) (w : World) (K : Int × Unit → World → Prop) (h : reclaim_Level.P p0 p1 w K) : CallV Tryz.prog 66 #[.pointer (some p0), .int .i64 p1] w [.one (.int .i64)] K := by
  refine vcFun.of (A := reclaim_Level.A) (wr := false) okf_ok follows h Tryz.func66 ?_
  kernel_rfl
end Go.Proofs.YtbaojfchlhlaeaaGreat.Vc
/-! The plans of functions as plain statements, printed by wip/tools/vcgen.py; the kernel holds each to the code. -/
namespace Go.Proofs.YtbaojfchlhlaeaaGreat.Vc
open Go Go.Eng
def reclaim_both.A : Ann := .two .no (.two (.two .no (.one (.loop [4, 6, 7, 10, 11, 12, 13, 14, 15, 16, 17, 18, 19, 20] [(10, .one (.int .i64))] .no))) .no)
def reclaim_both.P (p0 : Int) (a1 : Option Addr) (n1 c1 : Nat) (w : World) (K : Int × Unit → World → Prop) : Prop :=
  LoopV [.one (.int .i64)] ((0 : Int), ()) w fun (z1 : Int × Unit) w2 (K3 : Int × Unit → World → Prop) =>
  cond (decide (z1.1 < ((n1 : Nat) : Int)))
  ((0 ≤ z1.1 ∧ z1.1 < ((n1 : Nat) : Int)) ∧ ∃ q4 : Addr, a1 = some q4 ∧
  LoadS w2 (q4.add (z1.1.toNat * 1)) .fn fun (x5 : (FuncId × Array Value × Array Value)) =>
  cond (okf x5.1)
  (CallV Tryz.prog x5.1 ((x5.2.1).toList ++ ((([.int .i64 p0] : List Value)) ++ (x5.2.2).toList)).toArray w2 [.one (.int .i64)] fun (r6 : Int × Unit) w7 =>
  cond (r6.1 != 0)
  (K (r6.1, ()) w7)
  (Rng .i64 (z1.1 + 1) ∧
  K3 (z1.1 + 1, ()) w7))
  False)
  (K ((0 : Int), ()) w2)
theorem reclaim_both.vc (p0 : Int) (a1 : Option Addr) (n1 c1 : Nat) (w : World) (K : Int × Unit → World → Prop) (h : reclaim_both.P p0 a1 n1 c1 w K) : CallV Tryz.prog 135 #[.int .i64 p0, .slice a1 n1 c1] w [.one (.int .i64)] K := by
  refine vcFun.of (A := reclaim_both.A) (wr := false) okf_ok follows h Tryz.func135 ?_
  kernel_rfl
end Go.Proofs.YtbaojfchlhlaeaaGreat.Vc
/-! The contracts of layer 26 (reclaim): how unlike blocks are worn; blocks, levelled. -/
namespace Go.Proofs.YtbaojfchlhlaeaaGreat.Vc
open Go Go.Eng Go.RowKit
abbrev lowT (L : List Blk) : Int := leastT L L.length
abbrev topT (L : List Blk) : Int := mostT L L.length
def byL (L : List Blk) : Int := if lowT L < 0 then 0 else (gx L (topT L).toNat).er - (gx L (lowT L).toNat).er
def unlB (L : List Blk) (wear : Int) : Bool := decide (1 ≤ wear) && decide (wear < byL L)
theorem low_is (L : List Blk) : Least L (fun _ x => !x.ba) (fun x => x.er) (fun j => j < L.length) (lowT L) := bestT_least (fun _ _ => rfl) L.length
theorem top_is (L : List Blk) : Least L (fun _ x => !x.ba) (fun x => 0 - x.er) (fun j => j < L.length) (topT L) := bestT_least (ah := fun x y => decide (y.er < x.er)) (fun x y => decide_eq_decide.2 ⟨fun h => by omega, fun h => by omega⟩) L.length
theorem low_top (L : List Blk) (h : 0 ≤ lowT L) : lowT L < (L.length : Int) ∧ 0 ≤ topT L ∧ topT L < (L.length : Int) := by
  rcases low_is L with ⟨h1, -⟩ | ⟨a, h1, h2, h3, h4⟩
  · omega
  · have h2 : a < L.length := h2
    refine ⟨by omega, ?_⟩
    rcases top_is L with ⟨k1, k2⟩ | ⟨c, k1, k2, k3, k4⟩
    · have := k2 a h2
      rw [this] at h3
      cases h3
    · have k2 : c < L.length := k2
      omega
def botS (s : SD) (b : Int) : SD × Int := if (emtS s b).2 ≠ 0 then emtS s b else dstS (emtS s b).1 b
def lvlP (wear : Int) : Nat → SD → SD × Int
  | 0, s => (s, 0)
  | k + 1, s => if s.ro = true then (s, 15) else if unlB s.L wear = false then (s, 0) else
    if (botS s (lowT s.L)).2 = 4 ∨ (botS s (lowT s.L)).2 = 15 then botS s (lowT s.L) else lvlP wear k (botS s (lowT s.L)).1
def lvlS (wear : Int) (s : SD) : SD × Int := if wear < 1 then (s, 2) else lvlP wear (64 * s.L.length) s
section
variable {g : Geo} {n K J : Nat} {s s' t : SD}
theorem SI.bot (h : SI g n s) {b : Int} (hb : 0 ≤ b ∧ b < (n : Int)) (ho : s.C.ops + 215042 ≤ 1000000000000) : St g n 215042 s (botS s b).1 := by
  obtain ⟨e1, e2⟩ := h.emt (b := b) (by omega)
  unfold botS
  split
  · exact e1.up (by omega)
  · rename_i h0
    have h0 : (emtS s b).2 = 0 := by omega
    have o2 := e1.o2
    obtain ⟨d1, -⟩ := e1.i.dst (b := b) (e2 h0) (by omega)
    exact e1.trans d1
def lvC (k : Nat) : Nat := 215042 * k
theorem lvCs (k : Nat) : lvC (k + 1) = lvC k + 215042 := Nat.mul_succ _ _
theorem lvC_le {k : Nat} (h : k ≤ 3840) : lvC k ≤ 825761280 := Nat.mul_le_mul (Nat.le_refl 215042) h
theorem unl_low {L : List Blk} {wear : Int} (h : unlB L wear = true) : 0 ≤ lowT L := by
  unfold unlB at h
  rw [Bool.and_eq_true] at h
  have h1 : 1 ≤ wear := of_decide_eq_true h.1
  have h2 : wear < byL L := of_decide_eq_true h.2
  unfold byL at h2
  split at h2
  · omega
  · omega
end
section
variable {E : Nat → Prop} {w0 w : World} {Rs : List Asr} {sp pp pm p q n : Nat} {g : Geo} {s : SD} {L : List Blk}
theorem Spread_e (hn : L.length ≤ 1000000) (S : Sep E w0 w (ledE q L :: Rs)) : CallV Tryz.prog 191 #[.pointer (some ⟨q, 0, none⟩)] w [.one (.int .i64), .one (.int .i64)] fun r w' => r.1 = lowT L ∧ r.2.1 = topT L ∧ Ext w w' := by
  obtain ⟨a, c, S⟩ := ledE_out S
  exact Spread_c hn S
theorem spread26_c (hn : L.length ≤ 1000000) (hL : ∀ x ∈ L, 0 ≤ x.er ∧ x.er ≤ 2000000000000) (S : Sep E w0 w (ledE q L :: Rs)) : CallV Tryz.prog 133 #[.pointer (some ⟨q, 0, none⟩)] w [.one (.int .i64), .one (.int .i64)] fun r w' => r.1 = (if lowT L < 0 then -1 else lowT L) ∧ r.2.1 = byL L ∧ Ext w w' := by
  apply reclaim_spread.vc
  unfold reclaim_spread.P byL
  refine (Spread_e hn S).mono ?_
  rintro ⟨(a : Int), (c : Int), ⟨⟩⟩ w1 ⟨h1, h2, x1⟩
  dsimp only at h1 h2 ⊢
  subst h1; subst h2
  have S := S.stepE x1
  refine cond_d (fun h => ?_) (fun h => ?_)
  · rw [if_pos h, if_pos h]; exact ⟨rfl, rfl, x1⟩
  · rw [if_neg h, if_neg h]
    obtain ⟨l1, l2, l3⟩ := low_top L (by omega)
    refine (At_e (b := topT L) S ⟨l2, l3⟩).mono ?_
    rintro ⟨x, ⟨⟩⟩ w2 ⟨h2, x2⟩
    dsimp only at h2 ⊢
    subst h2
    have S := S.stepE x2
    refine (At_e (b := lowT L) S ⟨by omega, l1⟩).mono ?_
    rintro ⟨x, ⟨⟩⟩ w3 ⟨h3, x3⟩
    dsimp only at h3 ⊢
    subst h3
    have r1 := hL _ (gx_mem (L := L) (i := (topT L).toNat) (by omega))
    have r2 := hL _ (gx_mem (L := L) (i := (lowT L).toNat) (by omega))
    exact ⟨Rng.i64 (z := (gx L (topT L).toNat).er - (gx L (lowT L).toNat).er) (by omega) (by omega), rfl, rfl, (x1.trans x2).trans x3⟩
theorem SI.er2 (h : SI g n s) : ∀ x ∈ s.L, 0 ≤ x.er ∧ x.er ≤ 2000000000000 := fun x hx => by
  have h1 := h.pi.er x hx
  have h2 := h.pi.ok.ops
  omega
theorem Unlike26_c {wear : Int} (h : SI g n s) (S : Sep E w0 w (stS sp pp pm p q g s Rs)) : CallV Tryz.prog 62 #[.pointer (some ⟨sp, 0, none⟩), .int .i64 wear] w [.one .bool] fun r w' => r.1 = unlB s.L wear ∧ Ext w w' := by
  apply reclaim_Unlike.vc
  unfold reclaim_Unlike.P unlB
  refine (Pool25_c S).mono ?_
  rintro ⟨r, ⟨⟩⟩ w1 ⟨h1, rfl⟩
  dsimp only at h1 ⊢
  subst h1
  refine ldg0 S ((spread26_c h.len6 h.er2 (S.fro [3] rfl)).mono ?_)
  rintro ⟨(a : Int), (c : Int), ⟨⟩⟩ w2 ⟨-, h2, x2⟩
  dsimp only at h2 ⊢
  subst h2
  refine cond_d (fun k => ⟨?_, x2⟩) (fun k => ⟨?_, x2⟩)
  · rw [decide_eq_true (show 1 ≤ wear from k), Bool.true_and]
  · rw [decide_eq_false (show ¬ 1 ≤ wear from k), Bool.false_and]
def erLs (L : List Blk) : List Int := L.map fun x => x.er
theorem Erases26_c (h : SI g n s) (S : Sep E w0 w (stS sp pp pm p q g s Rs)) : CallV Tryz.prog 61 #[.pointer (some ⟨sp, 0, none⟩)] w [.one .sl] fun r w' => r.1.n = n ∧ Sep E w0 w' (OwnA 3 1 r.1.a r.1.n r.1.c ((erLs s.L).map (Value.int .i64)) :: stS sp pp pm p q g s Rs) := by
  apply reclaim_Erases.vc
  unfold reclaim_Erases.P
  have hln := h.ln
  have hno := h.no
  refine (Pool25_c S).mono ?_
  rintro ⟨r, ⟨⟩⟩ w1 ⟨h1, rfl⟩
  dsimp only at h1 ⊢
  subst h1
  refine ldg0 S ((Len_e (S.fro [3] rfl)).mono ?_)
  rintro ⟨(r : Int), ⟨⟩⟩ w2 ⟨h2, rfl⟩
  dsimp only at h2 ⊢
  subst h2
  have S := S.nilOwn 3 1
  refine Loop1 (fun (v : SlV × Int × Unit) w' => ∃ i : Nat, v.2.1 = (i : Int) ∧ i ≤ n ∧ v.1.n = i ∧ Sep E w0 w' (OwnA 3 1 v.1.a v.1.n v.1.c ((erLs (s.L.take i)).map (Value.int .i64)) :: stS sp pp pm p q g s Rs)) (fun (v : SlV × Int × Unit) _ => ((n : Int) - v.2.1).toNat) ⟨0, rfl, Nat.zero_le _, rfl, S⟩ ?_
  clear S
  rintro ⟨⟨a, m, c⟩, (v : Int), ⟨⟩⟩ w4 ⟨i, hv, hi, hm, S⟩
  dsimp only at hv hm S ⊢
  subst hv
  subst hm
  refine cond_d (fun hlt => ?_) (fun hge => ?_)
  · have hml : m < s.L.length := by omega
    refine (At_e (b := (m : Int)) (S.fro [4] rfl) ⟨by omega, by omega⟩).mono ?_
    rintro ⟨x, ⟨⟩⟩ w5 ⟨h5, x5⟩
    dsimp only at h5 ⊢
    subst h5
    have S := S.stepE x5
    rw [Int.toNat_natCast]
    refine S.newB fun b6 w6 S f6 _ => ?_
    refine AppS.of (news := [.int .i64 (gx s.L m).er]) rfl (.inr ⟨_, rfl, S.cells 0 rfl⟩) ?_
    refine S.ap1 rfl (fun u hu => by rw [List.mem_singleton.1 hu]; rfl) (by omega) (by omega) fun a' c' w7 S f7 => ⟨Rng.i64 (by omega) (by omega), ⟨m + 1, by push_cast; rfl, by omega, rfl, ?_⟩, by omega⟩
    have e : (erLs (s.L.take (m + 1))).map (Value.int .i64) = (erLs (s.L.take m)).map (Value.int .i64) ++ [.int .i64 (gx s.L m).er] := by
      unfold erLs
      rw [List.take_succ_eq_append_getElem hml, List.map_append, List.map_append]
      have : gx s.L m = s.L[m] := by show s.L.getD m default = _; rw [List.getD_eq_getElem?_getD, List.getElem?_eq_getElem hml]; rfl
      rw [this]
      rfl
    rw [e]
    exact S.tail
  · have e : m = n := by omega
    subst e
    rw [List.take_of_length_le (by omega)] at S
    exact ⟨rfl, S⟩
end
end Go.Proofs.YtbaojfchlhlaeaaGreat.Vc
/-! The contracts of layer 26 (reclaim): blocks, levelled. -/
namespace Go.Proofs.YtbaojfchlhlaeaaGreat.Vc
open Go Go.Eng Go.RowKit
section
variable {E : Nat → Prop} {w0 w : World} {Rs : List Asr} {sp pp pm p q n : Nat} {g : Geo} {s : SD} {L : List Blk}
theorem okf_emp : okf 46 = true := by kernel_rfl
theorem okf_des : okf 47 = true := by kernel_rfl
abbrev stepsA (b1 sp : Nat) (e1 : TypeId) : Asr := BoxA b1 e1 [.func (.func 46) #[.pointer (some ⟨sp, 0, none⟩)] #[], .func (.func 47) #[.pointer (some ⟨sp, 0, none⟩)] #[]]
theorem addA (b : Nat) : (⟨b, 0, none⟩ : Addr).add ((0 : Int).toNat * 1) = ⟨b, 0, none⟩ ∧ (⟨b, 0, none⟩ : Addr).add ((1 : Int).toNat * 1) = ⟨b, 1, none⟩ := by
  constructor <;> rw [Addr.add_lit] <;> rfl
theorem both26_c {b : Int} {b1 : Nat} {e1 : TypeId} (h : SI g n s) (hb : 0 ≤ b ∧ b < (n : Int)) (ho : s.C.ops + 215042 ≤ 1000000000000) (S : Sep E w0 w (stepsA b1 sp e1 :: stS sp pp pm p q g s Rs)) :
    CallV Tryz.prog 135 #[.int .i64 b, .slice (some ⟨b1, 0, none⟩) 2 2] w [.one (.int .i64)] fun r w' => r.1 = (botS s b).2 ∧ Sep E w0 w' (stepsA b1 sp e1 :: stS sp pp pm p q g (botS s b).1 Rs) := by
  apply reclaim_both.vc
  unfold reclaim_both.P botS
  obtain ⟨k1, k2⟩ := h.emt (b := b) (by omega)
  have o2 := k1.o2
  refine Loop1 (fun (v : Int × Unit) w' => (v.1 = 0 ∧ Sep E w0 w' (stepsA b1 sp e1 :: stS sp pp pm p q g s Rs)) ∨ (v.1 = 1 ∧ (emtS s b).2 = 0 ∧ Sep E w0 w' (stepsA b1 sp e1 :: stS sp pp pm p q g (emtS s b).1 Rs)) ∨
      (v.1 = 2 ∧ (emtS s b).2 = 0 ∧ (dstS (emtS s b).1 b).2 = 0 ∧ Sep E w0 w' (stepsA b1 sp e1 :: stS sp pp pm p q g (dstS (emtS s b).1 b).1 Rs))) (fun (v : Int × Unit) _ => (2 - v.1).toNat) (.inl ⟨rfl, S⟩) ?_
  clear S
  rintro ⟨(v : Int), ⟨⟩⟩ w1 (⟨hv, S⟩ | ⟨hv, h0, S⟩ | ⟨hv, h0, h1, S⟩)
  · dsimp only at hv
    subst hv
    refine cond_t rfl ⟨⟨by decide, by decide⟩, _, rfl, ?_⟩
    rw [(addA b1).1]
    refine S.ld0 (j := 0) (h := .fn) (x := (46, #[.pointer (some ⟨sp, 0, none⟩)], #[])) rfl rfl ?_
    refine cond_t okf_emp ?_
    refine (Empty25_c (b := b) h (by omega) (S.fro [1, 1, 1, 1, 1] rfl)).mono ?_
    rintro ⟨(r : Int), ⟨⟩⟩ w2 ⟨h2, S⟩
    dsimp only at h2 ⊢
    subst h2
    have S : Sep E w0 w2 (stepsA b1 sp e1 :: stS sp pp pm p q g (emtS s b).1 Rs) := S.fro [5] rfl
    refine cond_of (fun he => ?_) (fun he => ?_)
    · have he : (emtS s b).2 ≠ 0 := by simpa using he
      rw [if_pos he]
      exact ⟨rfl, S⟩
    · have he : (emtS s b).2 = 0 := by simpa using he
      exact ⟨Rng.i64 (by decide) (by decide), .inr (.inl ⟨rfl, he, S⟩), by decide⟩
  · dsimp only at hv
    subst hv
    refine cond_t rfl ⟨⟨by decide, by decide⟩, _, rfl, ?_⟩
    rw [(addA b1).2]
    refine S.ld0 (j := 1) (h := .fn) (x := (47, #[.pointer (some ⟨sp, 0, none⟩)], #[])) rfl rfl ?_
    refine cond_t okf_des ?_
    rw [if_neg (fun k => k h0)]
    refine (Destroy25_c (b := b) k1.i (k2 h0) (by omega) (S.fro [1, 1, 1, 1, 1] rfl)).mono ?_
    rintro ⟨(r : Int), ⟨⟩⟩ w2 ⟨h2, S⟩
    dsimp only at h2 ⊢
    subst h2
    have S : Sep E w0 w2 (stepsA b1 sp e1 :: stS sp pp pm p q g (dstS (emtS s b).1 b).1 Rs) := S.fro [5] rfl
    refine cond_of (fun he => ⟨rfl, S⟩) (fun he => ?_)
    have he : (dstS (emtS s b).1 b).2 = 0 := by simpa using he
    exact ⟨Rng.i64 (by decide) (by decide), .inr (.inr ⟨rfl, h0, he, S⟩), by decide⟩
  · dsimp only at hv
    subst hv
    rw [if_neg (fun k => k h0)]
    exact cond_f rfl ⟨h1.symm, S⟩
theorem RO25_c (h : SI g n s) (S : Sep E w0 w (stS sp pp pm p q g s Rs)) : CallV Tryz.prog 48 #[.pointer (some ⟨sp, 0, none⟩)] w [.one .bool] fun r w' => r.1 = s.ro ∧ w' = w := ReadOnly_c h.fl S
theorem Level26_c {wear : Int} (h : SI g n s) (ho : s.C.ops + 825761280 ≤ 1000000000000) (S : Sep E w0 w (stS sp pp pm p q g s Rs)) :
    CallV Tryz.prog 66 #[.pointer (some ⟨sp, 0, none⟩), .int .i64 wear] w [.one (.int .i64)] fun r w' => r.1 = (lvlS wear s).2 ∧ Sep E w0 w' (stS sp pp pm p q g (lvlS wear s).1 Rs) := by
  apply reclaim_Level.vc
  unfold reclaim_Level.P lvlS
  refine cond_d (fun hw => ?_) (fun hw => ?_)
  · rw [if_pos hw]; exact ⟨rfl, S⟩
  rw [if_neg hw]
  have hln := h.ln
  have hno := h.no
  refine (Pool25_c S).mono ?_
  rintro ⟨r, ⟨⟩⟩ w1 ⟨h1, rfl⟩
  dsimp only at h1 ⊢
  subst h1
  refine ldg0 S ((Len_e (S.fro [3] rfl)).mono ?_)
  rintro ⟨(r : Int), ⟨⟩⟩ w2 ⟨h2, rfl⟩
  dsimp only at h2 ⊢
  rw [hln] at h2 ⊢
  subst h2
  refine ⟨Rng.i64 (by omega) (by omega), ?_⟩
  have hlv : lvC (64 * n) ≤ 825761280 := lvC_le (by omega)
  generalize hN : 64 * n = N at hlv ⊢
  have hN2 : (64 : Int) * (n : Int) = (N : Int) := by omega
  rw [hN2]
  refine Loop1 (fun (v : Int × Unit) w' => ∃ (k : Nat) (t : SD), v.1 = (N : Int) - (k : Int) ∧ k ≤ N ∧ SI g n t ∧ t.C.ops + lvC k ≤ 1000000000000 ∧ lvlP wear k t = lvlP wear N s ∧ Sep E w0 w' (stS sp pp pm p q g t Rs)) (fun (v : Int × Unit) _ => ((N : Int) - v.1).toNat)
    ⟨N, s, by show (0 : Int) = _; omega, Nat.le_refl _, h, by omega, rfl, S⟩ ?_
  clear S
  rintro ⟨(v : Int), ⟨⟩⟩ w3 ⟨k, t, hv, hk, ht, hop, hX, S⟩
  dsimp only at hv
  subst hv
  refine cond_d (fun hlt => ?_) (fun hge => ?_)
  case refine_2 =>
    have hk0 : k = 0 := by omega
    subst hk0
    rw [← hX]
    exact ⟨rfl, S⟩
  obtain ⟨m, rfl⟩ : ∃ m, k = m + 1 := ⟨k - 1, by omega⟩
  have ed := lvCs m
  have hX : (if t.ro = true then (t, 15) else if unlB t.L wear = false then (t, 0) else
    if (botS t (lowT t.L)).2 = 4 ∨ (botS t (lowT t.L)).2 = 15 then botS t (lowT t.L) else lvlP wear m (botS t (lowT t.L)).1) = lvlP wear N s := hX
  refine (RO25_c ht S).mono ?_
  rintro ⟨(r : Bool), ⟨⟩⟩ w4 ⟨h4, rfl⟩
  dsimp only at h4 ⊢
  subst h4
  refine cond_of (fun hr => ?_) (fun hr => ?_)
  · rw [if_pos hr] at hX
    rw [← hX]; exact ⟨rfl, S⟩
  rw [if_neg (by rw [hr]; exact Bool.false_ne_true)] at hX
  refine (Unlike26_c (wear := wear) ht S).mono ?_
  rintro ⟨(r : Bool), ⟨⟩⟩ w5 ⟨h5, x5⟩
  dsimp only at h5 ⊢
  subst h5
  have S := S.stepE x5
  refine cond_of (fun hu => ?_) (fun hu => ?_)
  · rw [if_pos (by simpa using hu)] at hX
    rw [← hX]; exact ⟨rfl, S⟩
  have hu : unlB t.L wear = true := by simpa using hu
  rw [if_neg (by rw [hu]; decide)] at hX
  have hl := unl_low hu
  obtain ⟨l1, -⟩ := low_top t.L hl
  rw [ht.ln] at l1
  refine (Pool25_c S).mono ?_
  rintro ⟨r, ⟨⟩⟩ w6 ⟨h6, rfl⟩
  dsimp only at h6 ⊢
  subst h6
  refine ldg0 S ((spread26_c ht.len6 ht.er2 (S.fro [3] rfl)).mono ?_)
  rintro ⟨(a : Int), (c : Int), ⟨⟩⟩ w7 ⟨h7, -, x7⟩
  dsimp only at h7 ⊢
  rw [if_neg (by omega)] at h7
  subst h7
  have S := S.stepE x7
  refine S.newB fun b20 w8 S f8 _ => ?_
  refine (both26_c (b := lowT t.L) ht ⟨hl, l1⟩ (by omega) S).mono ?_
  rintro ⟨(r : Int), ⟨⟩⟩ w9 ⟨h9, S⟩
  dsimp only at h9 ⊢
  subst h9
  have S := S.tail
  have o2 := (ht.bot (b := lowT t.L) ⟨hl, l1⟩ (by omega)).o2
  have hi := (ht.bot (b := lowT t.L) ⟨hl, l1⟩ (by omega)).i
  have nx : ¬ ((botS t (lowT t.L)).2 = 4 ∨ (botS t (lowT t.L)).2 = 15) → Rng .i64 ((N : Int) - ((m + 1 : Nat) : Int) + 1) ∧ (∃ (k : Nat) (u : SD), (N : Int) - ((m + 1 : Nat) : Int) + 1 = (N : Int) - (k : Int) ∧ k ≤ N ∧ SI g n u ∧ u.C.ops + lvC k ≤ 1000000000000 ∧ lvlP wear k u = lvlP wear N s ∧ Sep E w0 w9 (stS sp pp pm p q g u Rs)) ∧ ((N : Int) - ((N : Int) - ((m + 1 : Nat) : Int) + 1)).toNat < ((N : Int) - ((N : Int) - ((m + 1 : Nat) : Int))).toNat := fun hn => by
    rw [if_neg hn] at hX
    exact ⟨Rng.i64 (by omega) (by omega), ⟨m, _, by omega, by omega, hi, by omega, hX, S⟩, by omega⟩
  refine cond_eq (fun h4 => ?_) (fun h4 => ?_)
  · rw [if_pos (.inl h4)] at hX
    refine cond_eq (fun _ => by rw [← hX]; exact ⟨rfl, S⟩) (fun k => absurd h4 k)
  · refine cond_eq (fun h15 => ?_) (fun h15 => ?_)
    · rw [if_pos (.inr h15)] at hX
      rw [← hX]; exact ⟨rfl, S⟩
    · exact nx (fun k => k.elim h4 h15)
end
end Go.Proofs.YtbaojfchlhlaeaaGreat.Vc
/-! The plans of functions as plain statements, printed by wip/tools/vcgen.py; the kernel holds each to the code. -/
namespace Go.Proofs.YtbaojfchlhlaeaaGreat.Vc
open Go Go.Eng
def law26_light.A : Ann := .no
def law26_light.P (p0_0 p0_1 p0_2 p0_3 p0_4 p0_5 : Int) (a0_6 : Option Addr) (n0_6 c0_6 : Nat) (p0_7 : Int) (a0_8 : Option Addr) (n0_8 c0_8 : Nat) (w : World) (K : Bool × Unit → World → Prop) : Prop :=
  NewV #[.int .i64 p0_0, .int .i64 p0_1, .int .i64 p0_2, .int .i64 p0_3, .int .i64 p0_4, .int .i64 p0_5, .slice a0_6 n0_6 c0_6, .int .i64 p0_7, .slice a0_8 n0_8 c0_8] 108 w fun b1 w2 =>
  LoadA w2 ⟨b1, 0, none⟩ [.int .i64, .int .i64, .int .i64, .int .i64, .int .i64, .int .i64] fun (x3 : Int × Int × Int × Int × Int × Int × Unit) =>
  CallV Tryz.prog 75 #[.agg #[.int .i64 x3.1, .int .i64 x3.2.1, .int .i64 x3.2.2.1, .int .i64 x3.2.2.2.1, .int .i64 x3.2.2.2.2.1, .int .i64 x3.2.2.2.2.2.1]] w2 [.one .bool] fun (r4 : Bool × Unit) w5 =>
  cond r4.1
  (LoadS w5 ⟨b1, 6, none⟩ .sl fun (x6 : SlV) =>
  CallV Tryz.prog 76 #[.slice x6.a x6.n x6.c] w5 [.one .bool] fun (r7 : Bool × Unit) w8 =>
  cond r7.1
  (LoadS w8 ⟨b1, 0, none⟩ (.int .i64) fun (x9 : Int) =>
  cond (decide (x9 ≤ 16))
  (LoadS w8 ⟨b1, 1, none⟩ (.int .i64) fun (x10 : Int) =>
  cond (decide (x10 ≤ 16))
  (LoadS w8 ⟨b1, 2, none⟩ (.int .i64) fun (x11 : Int) =>
  cond (decide (x11 ≤ 128))
  (LoadS w8 ⟨b1, 8, none⟩ .sl fun (x12 : SlV) =>
  cond (decide (((x12.n : Nat) : Int) ≤ 200))
  (LoadA w8 ⟨b1, 0, none⟩ [.int .i64, .int .i64, .int .i64, .int .i64, .int .i64, .int .i64] fun (x13 : Int × Int × Int × Int × Int × Int × Unit) =>
  LoadS w8 ⟨b1, 7, none⟩ (.int .i64) fun (x14 : Int) =>
  NewV #[.int .i64 x14] 3 w8 fun b15 w16 =>
  CallV Tryz.prog 77 #[.agg #[.int .i64 x13.1, .int .i64 x13.2.1, .int .i64 x13.2.2.1, .int .i64 x13.2.2.2.1, .int .i64 x13.2.2.2.2.1, .int .i64 x13.2.2.2.2.2.1], .slice (some ⟨b15, 0, none⟩) 1 1] w16 [.one (.int .i64)] fun (r17 : Int × Unit) w18 =>
  K ((r17.1 == 0), ()) w18)
  (K (false, ()) w8))
  (K (false, ()) w8))
  (K (false, ()) w8))
  (K (false, ()) w8))
  (K (false, ()) w8))
  (K (false, ()) w5)
theorem law26_light.vc (p0_0 p0_1 p0_2 p0_3 p0_4 p0_5 : Int) (a0_6 : Option Addr) (n0_6 c0_6 : Nat) (p0_7 : Int) (a0_8 : Option Addr) (n0_8 c0_8 : Nat) (w : World) (K : Bool × Unit → World → Prop) (h : law26_light.P p0_0 p0_1 p0_2 p0_3 p0_4 p0_5 a0_6 n0_6 c0_6 p0_7 a0_8 n0_8 c0_8 w K) : CallV Tryz.prog 56 #[.agg #[.int .i64 p0_0, .int .i64 p0_1, .int .i64 p0_2, .int .i64 p0_3, .int .i64 p0_4, .int .i64 p0_5, .slice a0_6 n0_6 c0_6, .int .i64 p0_7, .slice a0_8 n0_8 c0_8]] w [.one .bool] K := by
  refine vcFun.of (A := law26_light.A) (wr := false) okf_ok follows h Tryz.func56 ?_
  kernel_rfl
def law26_made.A : Ann := .no
def law26_made.P (p0_0 p0_1 p0_2 p0_3 p0_4 p0_5 : Int) (a0_6 : Option Addr) (n0_6 c0_6 : Nat) (p0_7 : Int) (a0_8 : Option Addr) (n0_8 c0_8 : Nat) (w : World) (K : (Option Addr) × (Option Addr) × Unit → World → Prop) : Prop :=
  NewV #[.int .i64 p0_0, .int .i64 p0_1, .int .i64 p0_2, .int .i64 p0_3, .int .i64 p0_4, .int .i64 p0_5, .slice a0_6 n0_6 c0_6, .int .i64 p0_7, .slice a0_8 n0_8 c0_8] 108 w fun b1 w2 =>
  LoadA w2 ⟨b1, 0, none⟩ [.int .i64, .int .i64, .int .i64, .int .i64, .int .i64, .int .i64] fun (x3 : Int × Int × Int × Int × Int × Int × Unit) =>
  LoadS w2 ⟨b1, 6, none⟩ .sl fun (x4 : SlV) =>
  CallV Tryz.prog 78 #[.agg #[.int .i64 x3.1, .int .i64 x3.2.1, .int .i64 x3.2.2.1, .int .i64 x3.2.2.2.1, .int .i64 x3.2.2.2.2.1, .int .i64 x3.2.2.2.2.2.1], .slice x4.a x4.n x4.c] w2 [.one .ptr, .one (.int .i64)] fun (r5 : (Option Addr) × Int × Unit) w6 =>
  LoadA w6 ⟨b1, 0, none⟩ [.int .i64, .int .i64, .int .i64, .int .i64, .int .i64, .int .i64] fun (x7 : Int × Int × Int × Int × Int × Int × Unit) =>
  CallV Tryz.prog 80 #[.agg #[.int .i64 x7.1, .int .i64 x7.2.1, .int .i64 x7.2.2.1, .int .i64 x7.2.2.2.1, .int .i64 x7.2.2.2.2.1, .int .i64 x7.2.2.2.2.2.1]] w6 [.one (.int .i64)] fun (r8 : Int × Unit) w9 =>
  CallV Tryz.prog 79 #[.int .i64 r8.1] w9 [.one .ptr, .one (.int .i64)] fun (r10 : (Option Addr) × Int × Unit) w11 =>
  CallV Tryz.prog 43 #[] w11 [.one .ptr] fun (r12 : (Option Addr) × Unit) w13 =>
  LoadS w13 ⟨b1, 7, none⟩ (.int .i64) fun (x14 : Int) =>
  CallV Tryz.prog 81 #[.pointer r12.1, .int .i64 0, .int .i64 x14] w13 [.one (.int .i64)] fun (r15 : Int × Unit) w16 =>
  CallV Tryz.prog 52 #[.pointer r10.1] w16 [.one (.int .i64)] fun (r17 : Int × Unit) w18 =>
  ((0 : Int) ≤ (r17.1 : Int) ∧ (r17.1 : Int) ≤ (r17.1 : Int) ∧ (r17.1 : Int) ≤ 9223372036854775807 ∧ ((48 : Nat) : Int) * (r17.1 : Int) ≤ 140737488355328) ∧
  NewV (List.replicate r17.1.toNat [.int .i64 0, .int .i64 0, .int .i64 0, .int .u32 0, .int .u64 0, .int .u64 0]).flatten.toArray 62 w18 fun b19 w20 =>
  CallV Tryz.prog 82 #[.pointer r5.1, .pointer r10.1, .slice (some ⟨b19, 0, none⟩) r17.1.toNat r17.1.toNat] w20 [.one .ptr, .one (.int .i64)] fun (r21 : (Option Addr) × Int × Unit) w22 =>
  LoadA w22 ⟨b1, 0, none⟩ [.int .i64, .int .i64, .int .i64, .int .i64, .int .i64, .int .i64] fun (x23 : Int × Int × Int × Int × Int × Int × Unit) =>
  CallV Tryz.prog 42 #[.pointer r21.1, .pointer r12.1, .agg #[.int .i64 x23.1, .int .i64 x23.2.1, .int .i64 x23.2.2.1, .int .i64 x23.2.2.2.1, .int .i64 x23.2.2.2.2.1, .int .i64 x23.2.2.2.2.2.1], .int .u64 1] w22 [.one .ptr, .one (.int .i64)] fun (r24 : (Option Addr) × Int × Unit) w25 =>
  K (r24.1, r5.1, ()) w25
theorem law26_made.vc (p0_0 p0_1 p0_2 p0_3 p0_4 p0_5 : Int) (a0_6 : Option Addr) (n0_6 c0_6 : Nat) (p0_7 : Int) (a0_8 : Option Addr) (n0_8 c0_8 : Nat) (w : World) (K : (Option Addr) × (Option Addr) × Unit → World → Prop) (h : law26_made.P p0_0 p0_1 p0_2 p0_3 p0_4 p0_5 a0_6 n0_6 c0_6 p0_7 a0_8 n0_8 c0_8 w K) : CallV Tryz.prog 58 #[.agg #[.int .i64 p0_0, .int .i64 p0_1, .int .i64 p0_2, .int .i64 p0_3, .int .i64 p0_4, .int .i64 p0_5, .slice a0_6 n0_6 c0_6, .int .i64 p0_7, .slice a0_8 n0_8 c0_8]] w [.one .ptr, .one .ptr] K := by
  refine vcFun.of (A := law26_made.A) (wr := false) okf_ok follows h Tryz.func58 ?_
  kernel_rfl
def law26_awake.A : Ann := .no
def law26_awake.P  (w : World) (K : Bool × Unit → World → Prop) : Prop :=
  CallV Tryz.prog 58 #[.agg #[.int .i64 9, .int .i64 10, .int .i64 64, .int .i64 0, .int .i64 1, .int .i64 1, .slice none 0 0, .int .i64 5, .slice none 0 0]] w [.one .ptr, .one .ptr] fun (r1 : (Option Addr) × (Option Addr) × Unit) w2 =>
  CallV Tryz.prog 66 #[.pointer r1.1, .int .i64 1] w2 [.one (.int .i64)] fun (r3 : Int × Unit) w4 =>
  cond (r3.1 == 0)
  (CallV Tryz.prog 61 #[.pointer r1.1] w4 [.one .sl] fun (r5 : SlV × Unit) w6 =>
  cond (((r5.1.n : Nat) : Int) == 5)
  (CallV Tryz.prog 66 #[.pointer r1.1, .int .i64 0] w6 [.one (.int .i64)] fun (r7 : Int × Unit) w8 =>
  K ((r7.1 == 2), ()) w8)
  (K (false, ()) w6))
  (K (false, ()) w4)
theorem law26_awake.vc  (w : World) (K : Bool × Unit → World → Prop) (h : law26_awake.P  w K) : CallV Tryz.prog 57 #[] w [.one .bool] K := by
  refine vcFun.of (A := law26_awake.A) (wr := false) okf_ok follows h Tryz.func57 ?_
  kernel_rfl
def law26_write.A : Ann := .no
def law26_write.P (p0 : Addr) (p1_0 p1_1 p1_2 p1_3 p1_4 p1_5 p2 p3 : Int) (w : World) (K : Int × Unit → World → Prop) : Prop :=
  NewV #[.int .i64 p1_0, .int .i64 p1_1, .int .i64 p1_2, .int .i64 p1_3, .int .i64 p1_4, .int .i64 p1_5] 23 w fun b1 w2 =>
  LoadS w2 ⟨b1, 2, none⟩ (.int .i64) fun (x3 : Int) =>
  CallV Tryz.prog 132 #[.int .u8 (IntKind.u8.wrap p3), .int .i64 x3] w2 [.one .sl] fun (r4 : SlV × Unit) w5 =>
  CallV Tryz.prog 51 #[.pointer (some p0), .agg #[.int .i64 1, .int .i64 0, .int .i64 1, .int .u32 (IntKind.u32.wrap p2), .int .u64 0, .int .u64 0]] w5 [.agg [.int .i64, .int .i64, .int .i64, .int .u32, .int .u64, .int .u64]] fun (r6 : (Int × Int × Int × Int × Int × Int × Unit) × Unit) w7 =>
  CallV Tryz.prog 45 #[.pointer (some p0), .agg #[.int .i64 r6.1.1, .int .i64 r6.1.2.1, .int .i64 r6.1.2.2.1, .int .u32 r6.1.2.2.2.1, .int .u64 r6.1.2.2.2.2.1, .int .u64 r6.1.2.2.2.2.2.1], .slice r4.1.a r4.1.n r4.1.c, .slice none 0 0] w7 [.one (.int .i64)] fun (r8 : Int × Unit) w9 =>
  K (r8.1, ()) w9
theorem law26_write.vc (p0 : Addr) (p1_0 p1_1 p1_2 p1_3 p1_4 p1_5 p2 p3 : Int) (w : World) (K : Int × Unit → World → Prop) (h : law26_write.P p0 p1_0 p1_1 p1_2 p1_3 p1_4 p1_5 p2 p3 w K) : CallV Tryz.prog 60 #[.pointer (some p0), .agg #[.int .i64 p1_0, .int .i64 p1_1, .int .i64 p1_2, .int .i64 p1_3, .int .i64 p1_4, .int .i64 p1_5], .int .i64 p2, .int .i64 p3] w [.one (.int .i64)] K := by
  refine vcFun.of (A := law26_write.A) (wr := false) okf_ok follows h Tryz.func60 ?_
  kernel_rfl
def law26_blocks.A : Ann := .two .no (.two .no (.two (.two .no (.one (.loop [3, 4, 5, 7, 8, 9, 10, 11, 12, 13, 14, 15, 16, 17, 18, 19, 20, 21, 22, 23, 24, 25, 26, 27, 28, 29, 30, 31, 32, 33, 34, 35, 36, 37, 38, 39, 40, 41] [(3, .one .sl), (4, .one (.int .i64))] .no))) .no))
def law26_blocks.P (p0 : Addr) (w : World) (K : SlV × Unit → World → Prop) : Prop :=
  NewV #[] 213 w fun b1 w2 =>
  LoopV [.one .sl, .one (.int .i64)] ((⟨(some ⟨b1, 0, none⟩), 0, 0⟩ : SlV), (0 : Int), ()) w2 fun (z3 : SlV × Int × Unit) w4 (K5 : SlV × Int × Unit → World → Prop) =>
  CallV Tryz.prog 26 #[.pointer (some p0)] w4 [.one .ptr] fun (r6 : (Option Addr) × Unit) w7 =>
  CallV Tryz.prog 27 #[.pointer r6.1] w7 [.one .ptr] fun (r8 : (Option Addr) × Unit) w9 =>
  CallV Tryz.prog 52 #[.pointer r8.1] w9 [.one (.int .i64)] fun (r10 : Int × Unit) w11 =>
  cond (decide (z3.2.1 < r10.1))
  (CallV Tryz.prog 26 #[.pointer (some p0)] w11 [.one .ptr] fun (r12 : (Option Addr) × Unit) w13 =>
  CallV Tryz.prog 27 #[.pointer r12.1] w13 [.one .ptr] fun (r14 : (Option Addr) × Unit) w15 =>
  CallV Tryz.prog 54 #[.pointer r14.1, .int .i64 z3.2.1] w15 [.agg [.int .i64, .int .i64, .int .i64, .int .i64, .bool, .bool, .bool, .bool, .bool]] fun (r16 : (Int × Int × Int × Int × Bool × Bool × Bool × Bool × Bool × Unit) × Unit) w17 =>
  NewV #[.int .i64 0, .int .i64 0, .int .i64 0, .int .i64 0, .bool false, .bool false, .bool false, .bool false, .bool false] 103 w17 fun b18 w19 =>
  StoreV w19 ⟨b18, 0, none⟩ [.int .i64 r16.1.1, .int .i64 r16.1.2.1, .int .i64 r16.1.2.2.1, .int .i64 r16.1.2.2.2.1, .bool r16.1.2.2.2.2.1, .bool r16.1.2.2.2.2.2.1, .bool r16.1.2.2.2.2.2.2.1, .bool r16.1.2.2.2.2.2.2.2.1, .bool r16.1.2.2.2.2.2.2.2.2.1] fun w20 =>
  LoadS w20 ⟨b18, 0, none⟩ (.int .i64) fun (x21 : Int) =>
  LoadS w20 ⟨b18, 1, none⟩ (.int .i64) fun (x22 : Int) =>
  LoadS w20 ⟨b18, 2, none⟩ (.int .i64) fun (x23 : Int) =>
  LoadS w20 ⟨b18, 3, none⟩ (.int .i64) fun (x24 : Int) =>
  LoadS w20 ⟨b18, 4, none⟩ .bool fun (x25 : Bool) =>
  LoadS w20 ⟨b18, 5, none⟩ .bool fun (x26 : Bool) =>
  LoadS w20 ⟨b18, 6, none⟩ .bool fun (x27 : Bool) =>
  LoadS w20 ⟨b18, 7, none⟩ .bool fun (x28 : Bool) =>
  LoadS w20 ⟨b18, 8, none⟩ .bool fun (x29 : Bool) =>
  NewV #[.int .i64 x21, .int .i64 x22, .int .i64 x23, .int .i64 x24, .bool x25, .bool x26, .bool x27, .bool x28, .bool x29] 213 w20 fun b30 w31 =>
  AppS w31 (some ⟨b30, 0, none⟩) 1 9 fun ns36 =>
  AppV w31 213 9 40 z3.1.a z3.1.n z3.1.c ns36 1 fun a32 n33 c34 w35 =>
  Rng .i64 (z3.2.1 + 1) ∧
  K5 ((⟨a32, n33, c34⟩ : SlV), z3.2.1 + 1, ()) w35)
  (K (z3.1, ()) w11)
theorem law26_blocks.vc (p0 : Addr) (w : World) (K : SlV × Unit → World → Prop) (h : law26_blocks.P p0 w K) : CallV Tryz.prog 64 #[.pointer (some p0)] w [.one .sl] K := by
  refine vcFun.of (A := law26_blocks.A) (wr := false) okf_ok follows h Tryz.func64 ?_
  kernel_rfl
def law26_right.A : Ann := .no
def law26_right.P (p0_0 p0_1 p0_2 p0_3 p0_4 p0_5 : Int) (a0_6 : Option Addr) (n0_6 c0_6 : Nat) (p0_7 : Int) (a0_8 : Option Addr) (n0_8 c0_8 : Nat) (p1 : Int) (w : World) (K : Bool × Unit → World → Prop) : Prop :=
  NewV #[.int .i64 p0_0, .int .i64 p0_1, .int .i64 p0_2, .int .i64 p0_3, .int .i64 p0_4, .int .i64 p0_5, .slice a0_6 n0_6 c0_6, .int .i64 p0_7, .slice a0_8 n0_8 c0_8] 108 w fun b1 w2 =>
  cond (decide (p1 ≥ 0))
  (LoadS w2 ⟨b1, 7, none⟩ (.int .i64) fun (x3 : Int) =>
  K (decide (p1 < x3), ()) w2)
  (K (false, ()) w2)
theorem law26_right.vc (p0_0 p0_1 p0_2 p0_3 p0_4 p0_5 : Int) (a0_6 : Option Addr) (n0_6 c0_6 : Nat) (p0_7 : Int) (a0_8 : Option Addr) (n0_8 c0_8 : Nat) (p1 : Int) (w : World) (K : Bool × Unit → World → Prop) (h : law26_right.P p0_0 p0_1 p0_2 p0_3 p0_4 p0_5 a0_6 n0_6 c0_6 p0_7 a0_8 n0_8 c0_8 p1 w K) : CallV Tryz.prog 59 #[.agg #[.int .i64 p0_0, .int .i64 p0_1, .int .i64 p0_2, .int .i64 p0_3, .int .i64 p0_4, .int .i64 p0_5, .slice a0_6 n0_6 c0_6, .int .i64 p0_7, .slice a0_8 n0_8 c0_8], .int .i64 p1] w [.one .bool] K := by
  refine vcFun.of (A := law26_right.A) (wr := false) okf_ok follows h Tryz.func59 ?_
  kernel_rfl
def ref26_Differ.A : Ann := .two .no (.two .no (.two .no (.two .no (.two (.draw (.take 0 (.take 1 (.take 2 (.take 3 (.take 4 (.take 5 (.take 6 (.take 7 (.take 8 (.take 9 (.take 10 (.take 11 (.take 12 (.take 13 (.done)))))))))))))))) .no))))
def ref26_Differ.P (a0 : Option Addr) (n0 c0 : Nat) (w : World) (K : Int × Unit → World → Prop) : Prop :=
  cond (((n0 : Nat) : Int) == 0)
  (K ((0 : Int), ()) w)
  (CallV Tryz.prog 134 #[.slice a0 n0 c0] w [.agg [.int .i64, .int .i64]] fun (r1 : (Int × Int × Unit) × Unit) w2 =>
  NewV #[.int .i64 0, .int .i64 0] 25 w2 fun b3 w4 =>
  StoreV w4 ⟨b3, 0, none⟩ [.int .i64 r1.1.1, .int .i64 r1.1.2.1] fun w5 =>
  (0 ≤ (0 : Int) ∧ 0 < (2 : Int)) ∧
  LoadS w5 ⟨b3, 0, none⟩ (.int .i64) fun (x6 : Int) =>
  cond (decide (x6 < 0))
  (K ((0 : Int), ()) w5)
  ((0 ≤ (1 : Int) ∧ 1 < (2 : Int)) ∧
  LoadS w5 ⟨b3, 1, none⟩ (.int .i64) fun (x7 : Int) =>
  cond (decide (x7 < 0))
  (K ((0 : Int), ()) w5)
  (DrawV fun D8 =>
  (0 ≤ (1 : Int) ∧ 1 < (2 : Int)) ∧
  (D8 b3 ∧ LoadS w5.drew ⟨b3, 1, none⟩ (.int .i64) fun (x9 : Int) =>
  (0 ≤ x9 ∧ x9 < ((n0 : Nat) : Int)) ∧ ∃ q10 : Addr, a0 = some q10 ∧
  (D8 ((q10.add (x9.toNat * 9)).add 3).block ∧ LoadS w5.drew ((q10.add (x9.toNat * 9)).add 3) (.int .i64) fun (x11 : Int) =>
  (0 ≤ (0 : Int) ∧ 0 < (2 : Int)) ∧
  (D8 b3 ∧ LoadS w5.drew ⟨b3, 0, none⟩ (.int .i64) fun (x12 : Int) =>
  (0 ≤ x12 ∧ x12 < ((n0 : Nat) : Int)) ∧ ∃ q13 : Addr, a0 = some q13 ∧
  (D8 ((q13.add (x12.toNat * 9)).add 3).block ∧ LoadS w5.drew ((q13.add (x12.toNat * 9)).add 3) (.int .i64) fun (x14 : Int) =>
  Rng .i64 (x11 - x14) ∧
  K (x11 - x14, ()) w5.drew)))))))
theorem ref26_Differ.vc (a0 : Option Addr) (n0 c0 : Nat) (w : World) (K : Int × Unit → World → Prop) (h : ref26_Differ.P a0 n0 c0 w K) : CallV Tryz.prog 63 #[.slice a0 n0 c0] w [.one (.int .i64)] K := by
  refine vcFun.of (A := ref26_Differ.A) (wr := false) okf_ok follows h Tryz.func63 ?_
  kernel_rfl
end Go.Proofs.YtbaojfchlhlaeaaGreat.Vc
/-! The contracts of the laws of layer 26: which cases are played; a new stream on an array, a sector written; what is known of blocks. -/
namespace Go.Proofs.YtbaojfchlhlaeaaGreat.Vc
open Go Go.Eng Go.RowKit
abbrev LIn : Ty := .sl (.int .i64)
abbrev casV26 (g : Geo) (f : SlP TF.T) (z : Int) (st : SlV) : List Value := [.int .i64 g.b, .int .i64 g.p, .int .i64 g.s, .int .i64 g.sp, .int .i64 g.wr, .int .i64 g.ro, .slice f.a f.n f.c, .int .i64 z, .slice st.a st.n st.c]
structure Li26 (g : Geo) (f : SlP TF.T) (z : Int) (n : Nat) : Prop where
  R : Right g
  F : FRight (fds f)
  b : g.b ≤ 16
  p : g.p ≤ 16
  s : g.s ≤ 128
  n : n ≤ 200
  z : fitE g [z] = 0
section
variable {E : Nat → Prop} {w0 w : World} {Rs : List Asr} {sp pp pm p q n : Nat} {g : Geo} {s : SD} {L : List Blk}
theorem light26_c {f : SlP TF.T} {z : Int} {st : SlV} (hf : LF.rd w All f) :
    CallV Tryz.prog 56 #[.agg (casV26 g f z st).toArray] w [.one .bool] fun r w' => (r.1 = true → Li26 g f z st.n) ∧ Ext w w' := by
  apply law26_light.vc
  unfold law26_light.P
  have S := Sep.start NoB w
  have no : ∀ {w' : World}, Ext w w' → ((false = true → Li26 g f z st.n) ∧ Ext w w') := fun e => ⟨fun h => (by cases h), e⟩
  refine S.newB (vs := casV26 g f z st) fun b1 w1 S f1 _ => S.lb0 (o := 0) rfl ?_
  refine (Right_c (g := g)).mono ?_
  rintro ⟨(r : Bool), ⟨⟩⟩ w4 ⟨h4, x4⟩
  dsimp only at h4 ⊢
  subst h4
  have S := S.stepE x4
  refine cond_of (fun h1 => ?_) (fun _ => no S.ext)
  have h1 : Right g := by simpa using h1
  refine S.ld0 (j := 6) rfl rfl ?_
  refine (rRight12_c (Ty.rd_ext S.ext _ hf)).mono ?_
  rintro ⟨(r : Bool), ⟨⟩⟩ w5 ⟨h5, rfl⟩
  dsimp only at h5 ⊢
  subst h5
  refine cond_of (fun h2 => ?_) (fun _ => no S.ext)
  have h2 : FRight (fds f) := by simpa using h2
  refine S.ld0 (j := 0) rfl rfl (cond_d (fun h3 => ?_) (fun _ => no S.ext))
  refine S.ld0 (j := 1) rfl rfl (cond_d (fun h4 => ?_) (fun _ => no S.ext))
  refine S.ld0 (j := 2) rfl rfl (cond_d (fun h5 => ?_) (fun _ => no S.ext))
  refine S.ld0 (j := 8) rfl rfl (cond_d (fun h6 => ?_) (fun _ => no S.ext))
  refine S.lb0 (o := 0) rfl (S.ld0 (j := 7) rfl rfl ?_)
  refine S.newB fun b15 w6 S f6 _ => ?_
  refine (rFit_c (g := g) (l := [z]) h1 ⟨rfl, Nat.le_refl _, (by show (1 : Nat) ≤ 9223372036854775807; decide), .inr ⟨_, rfl, S.cells 0 rfl⟩⟩).mono ?_
  rintro ⟨(r : Int), ⟨⟩⟩ w7 ⟨h7, x7⟩
  dsimp only at h7 ⊢
  subst h7
  refine ⟨fun h => ⟨h1, h2, by omega, by omega, by omega, ?_, ?_⟩, (S.stepE x7).ext⟩
  · have h6 : ((st.n : Nat) : Int) ≤ 200 := h6; omega
  · have h : (fitE g [z] == 0) = true := h
    simpa using h
theorem made26_c {f : SlP TF.T} {z : Int} {st : SlV} (hf : LF.rd w All f) (hR : Right g) (hFR : FRight (fds f)) (hg : LG g) (hz : 1 ≤ z ∧ z ≤ 65535) :
    CallV Tryz.prog 58 #[.agg (casV26 g f z st).toArray] w [.one .ptr, .one .ptr] fun r w' => ∃ (sp pp pm p q : Nat) (X : List (SlP Ce)), r.1 = some (⟨sp, 0, none⟩ : Addr) ∧ r.2.1 = some (⟨p, 0, none⟩ : Addr) ∧ New0 X z.toNat 0 ∧ Sep NoB w w' (stS sp pp pm p q g (s00 g (fds f) X) []) := by
  apply law26_made.vc
  unfold law26_made.P
  have S := Sep.start NoB w
  have hk := hR.1
  unfold Kept at hk
  have hpF : ∀ F ∈ fds f, Byt F.2.2.1 ∧ F.2.2.1.length ≤ 140737488351232 := fun F hF => ⟨fds_byt hf F hF, hFR.fit F hF⟩
  have hC0 : COk (newC g (fds f)) := newC_ok hR hg hpF
  refine S.newB (vs := casV26 g f z st) fun b1 w1 S f1 _ => ?_
  refine S.lb0 (o := 0) rfl (S.ld0 (j := 6) rfl rfl ?_)
  refine (New13_c (g := g) (x := f) (Ty.rd_ext S.ext _ hf) hFR.fit).mono ?_
  rintro ⟨pv, (e : Int), ⟨⟩⟩ w2 ⟨x2, -, hgood⟩
  obtain ⟨-, p, y, hp, hyF, S2⟩ := hgood ⟨hR, hFR⟩
  dsimp only at hp
  subst hp
  have S := chip_new (w := w) hyF (S.frame0 S2)
  clear S2
  refine S.lb1 (o := 0) rfl ?_
  refine (Data_c (g := g)).mono ?_
  rintro ⟨(d : Int), ⟨⟩⟩ w3 ⟨h3, x3⟩
  dsimp only at h3 ⊢
  rw [if_pos hR] at h3
  subst h3
  have S := S.stepE x3
  refine (New21_c (n := g.b - 4) (by omega)).mono ?_
  rintro ⟨qv, (e : Int), ⟨⟩⟩ w4 ⟨-, q, a6, c6, hq, S4⟩
  dsimp only at hq
  subst hq
  have S := ledE_in (q := q) (L := List.replicate (nG g) Blk.new) (S.frame0 S4)
  clear S4
  refine (New_m S).mono ?_
  rintro ⟨mv, ⟨⟩⟩ w5 ⟨pm, hm, S⟩
  dsimp only at hm
  subst hm
  refine S.ld3 (j := 7) rfl rfl ?_
  refine (Add_m (ns := 0) (size := z) X0_ok (by decide) (New0.zero.n 0) hz S).mono ?_
  rintro ⟨(r : Int), ⟨⟩⟩ w6 ⟨-, x0, hx1, hx2, S⟩
  have hN2 := New0.zero.add0 hx1 hx2 (by omega)
  refine (Len_e (S.fro [1] rfl)).mono ?_
  rintro ⟨(r : Int), ⟨⟩⟩ w8 ⟨h8, rfl⟩
  dsimp only at h8 ⊢
  rw [List.length_replicate] at h8
  subst h8
  have hnG : ((nG g : Nat) : Int) = g.b - 4 := by unfold nG; omega
  refine ⟨⟨by omega, by omega, by omega, by push_cast; omega⟩, ?_⟩
  rw [Int.toNat_natCast]
  refine S.newB fun b22 w9 S f9 _ => ?_
  rw [zHd_rep'] at S
  refine (New24_c (y := ⟨some ⟨b22, 0, none⟩, nG g, nG g⟩) (O := List.replicate (nG g) zHd) hC0 (by rw [List.length_replicate]; omega) (by show nG g ≤ 1000; omega) (.inr ⟨_, rfl, S.cells 0 rfl⟩) List.length_replicate (S.fro [3, 2] rfl)).mono ?_
  rintro ⟨pv2, (e : Int), ⟨⟩⟩ w10 ⟨-, h8⟩
  obtain ⟨-, pp, t, hpp, x8, S⟩ := h8 ⟨by rw [List.length_replicate]; exact hnG, hnG⟩
  dsimp only at hpp
  subst hpp
  have S := polE_in S
  refine (S.fro [5] rfl).lb0 (o := 0) rfl ?_
  have hgC : (newC g (fds f)).g = g := rfl
  rw [hgC] at S
  refine (New25_c (pl := fds f) hR hg hpF hN2 (S.fro [4, 0, 0, 0] rfl)).mono ?_
  rintro ⟨sv, (e : Int), ⟨⟩⟩ w11 ⟨sp, hsp, -, S⟩
  exact ⟨sp, pp, pm, p, q, _, hsp, rfl, hN2, S.take (Rs := stS sp pp pm p q g (s00 g (fds f) _) [])⟩
def hd26 (lba : Int) : Hd := ⟨1, 0, 1, IntKind.u32.wrap lba, 0, 0⟩
def pl26 (g : Geo) (k : Int) : List Int := List.replicate g.s.toNat (IntKind.u8.wrap k)
def do26 (g : Geo) (s : SD) (lba k : Int) : SD × Int := putS (nxtS s (hd26 lba)).1 (nxtS s (hd26 lba)).2 (pl26 g k) []
theorem hd26_rng (lba : Int) : (hd26 lba).rng := by
  have : 0 ≤ IntKind.u32.wrap lba ∧ IntKind.u32.wrap lba < 4294967296 := by rw [u32_wrap]; omega
  exact ⟨this, ⟨Int.le_refl _, by show (0 : Int) < _; decide⟩, ⟨Int.le_refl _, by show (0 : Int) < _; decide⟩⟩
theorem u8_R (k : Int) : 0 ≤ IntKind.u8.wrap k ∧ IntKind.u8.wrap k < 256 := by
  have : IntKind.u8.wrap k = k % 256 := by simp [IntKind.wrap, IntKind.signed, IntKind.bits]
  omega
theorem pl26_byt (g : Geo) (k : Int) : Byt (pl26 g k) := Byt.replicate (u8_R k).1 (u8_R k).2 _
theorem SI.do26 (h : SI g n s) (lba k : Int) (ho : s.C.ops + 55051264 ≤ 1000000000000) : St g n 55051264 (nxtS s (hd26 lba)).1 (do26 g s lba k).1 := by
  have h1 := (h.nxt (hd26 lba)).2
  exact h1.put (xs := pl26 g k) (tg := []) (nxt_rng h (hd26_rng lba)) (pl26_byt g k) Byt.nil ho
theorem RS.do26 (g : Geo) (s : SD) (lba k : Int) : RS s (do26 g s lba k).1 := RS.put (t := (nxtS s (hd26 lba)).1) ((RS.refl s).of rfl rfl) _ _ _
theorem write26_c {lba k : Int} (h : SI g n s) (ho : s.C.ops + 55051264 ≤ 1000000000000) (S : Sep E w0 w (stS sp pp pm p q g s Rs)) :
    CallV Tryz.prog 60 #[.pointer (some ⟨sp, 0, none⟩), g.val, .int .i64 lba, .int .i64 k] w [.one (.int .i64)] fun r w' => r.1 = (do26 g s lba k).2 ∧ Sep E w0 w' (stS sp pp pm p q g (do26 g s lba k).1 Rs) := by
  apply law26_write.vc
  unfold law26_write.P
  have hwc := wC256
  have hR := h.pi.R
  have hs := hR.sec
  have h1 := (h.nxt (hd26 lba)).2
  have hr := nxt_rng h (hd26_rng lba)
  have hln : g.s ≤ 1000 := by have := h.pi.ok.lg; rw [h.pi.gg] at this; unfold LG at this; omega
  refine S.newB (vs := g.vs) fun b1 w1 S f1 _ => S.ld0 (j := 2) rfl rfl ?_
  have S := S.tail
  refine (rFill_c (x := IntKind.u8.wrap k) (n := g.s)).mono ?_
  rintro ⟨⟨va, vn, vc⟩, ⟨⟩⟩ w2 R2
  have em : (max 0 (min 65536 g.s)).toNat = g.s.toNat := by omega
  rw [em] at R2
  have S := res_rdL S R2 (pl26_byt g k)
  have hvn : (vn : Int) = g.s := by have := R2.own.ints.len; dsimp only at this; rw [List.length_replicate] at this; omega
  clear R2
  have S : Sep E w0 w2 (stS sp pp pm p q g s (RdL [⟨va, vn, vc, pl26 g k⟩] :: Rs)) := S.fro [1, 1, 1, 1, 1] rfl
  refine (Next25_c (hd := hd26 lba) h S).mono ?_
  rintro ⟨r, ⟨⟩⟩ w3 ⟨h3, S⟩
  dsimp only at h3 ⊢
  subst h3
  have S := rd_two ((S.rdNil).fro [6, 0] rfl)
  have S : Sep E w0 w3 (stS sp pp pm p q g (nxtS s (hd26 lba)).1 (RdL [⟨va, vn, vc, pl26 g k⟩, ⟨none, 0, 0, []⟩] :: Rs)) := S.fro [1, 1, 1, 1, 1] rfl
  refine (Put25_c (hd := (nxtS s (hd26 lba)).2) (dd := ⟨va, vn, vc, pl26 g k⟩) (tt := ⟨none, 0, 0, []⟩) h1 hr (.inr hvn) (.inl rfl) (pl26_byt g k) Byt.nil (by rw [hwc]; exact ho) S).mono ?_
  rintro ⟨(r : Int), ⟨⟩⟩ w4 ⟨h4, S⟩
  exact ⟨h4, (S.fro [5] rfl).tail⟩
theorem right26_c {f : SlP TF.T} {z lba : Int} {st : SlV} : CallV Tryz.prog 59 #[.agg (casV26 g f z st).toArray, .int .i64 lba] w [.one .bool] fun r w' => r.1 = (decide (0 ≤ lba) && decide (lba < z)) ∧ Ext w w' := by
  apply law26_right.vc
  unfold law26_right.P
  have S := Sep.start NoB w
  refine S.newB (vs := casV26 g f z st) fun b1 w1 S f1 _ => cond_d (fun h => S.ld0 (j := 7) rfl rfl ⟨?_, S.ext⟩) (fun h => ⟨?_, S.ext⟩)
  · rw [decide_eq_true (show 0 ≤ lba from h), Bool.true_and]
  · rw [decide_eq_false (show ¬ 0 ≤ lba from h), Bool.false_and]
theorem blocks26_c (h : SI g n s) (S : Sep E w0 w (stS sp pp pm p q g s Rs)) : CallV Tryz.prog 64 #[.pointer (some ⟨sp, 0, none⟩)] w [.one .sl] fun r w' => r.1.n = n ∧ Sep E w0 w' (OwnA 213 9 r.1.a r.1.n r.1.c (bvs s.L) :: stS sp pp pm p q g s Rs) := by
  apply law26_blocks.vc
  unfold law26_blocks.P
  have hln := h.ln
  have hno := h.no
  refine S.newB fun b1 w1 S f1 _ => ?_
  have S := S.asOwn (sz := 9) (n := 0) rfl (by omega) oneAll.nil
  refine Loop1 (fun (v : SlV × Int × Unit) w' => ∃ i : Nat, v.2.1 = (i : Int) ∧ i ≤ n ∧ v.1.n = i ∧ Sep E w0 w' (OwnA 213 9 v.1.a v.1.n v.1.c (bvs (s.L.take i)) :: stS sp pp pm p q g s Rs)) (fun (v : SlV × Int × Unit) _ => ((n : Int) - v.2.1).toNat) ⟨0, rfl, Nat.zero_le _, rfl, S⟩ ?_
  clear S
  rintro ⟨⟨a, m, c⟩, (v : Int), ⟨⟩⟩ w4 ⟨i, hv, hi, hm, S⟩
  dsimp only at hv hm S ⊢
  subst hv
  subst hm
  have S1 : Sep E w0 w4 (stS sp pp pm p q g s (OwnA 213 9 a m c (bvs (s.L.take m)) :: Rs)) := S.fro [1, 1, 1, 1, 1] rfl
  refine (Pool25_c S1).mono ?_
  rintro ⟨r, ⟨⟩⟩ w5 ⟨h5, rfl⟩
  dsimp only at h5 ⊢
  subst h5
  refine ldg0 S1 ((Len_e (S.fro [4] rfl)).mono ?_)
  rintro ⟨(r : Int), ⟨⟩⟩ w6 ⟨h6, rfl⟩
  dsimp only at h6 ⊢
  subst h6
  refine cond_d (fun hlt => ?_) (fun hge => ?_)
  · have hml : m < s.L.length := by omega
    refine (Pool25_c S1).mono ?_
    rintro ⟨r, ⟨⟩⟩ w7 ⟨h7, rfl⟩
    dsimp only at h7 ⊢
    subst h7
    refine ldg0 S1 ((At_e (b := (m : Int)) (S.fro [4] rfl) ⟨by omega, by omega⟩).mono ?_)
    rintro ⟨x, ⟨⟩⟩ w8 ⟨h8, x8⟩
    dsimp only at h8 ⊢
    subst h8
    have S := S.stepE x8
    rw [Int.toNat_natCast]
    refine S.newB fun b18 w9 S f9 _ => S.st0 (by rfl) fun w10 S f10 => ?_
    have S : Sep E w0 w10 (BoxA b18 103 (gx s.L m).vs :: OwnA 213 9 a m c (bvs (s.L.take m)) :: stS sp pp pm p q g s Rs) := S
    refine S.ld0 (j := 0) rfl rfl (S.ld0 (j := 1) rfl rfl (S.ld0 (j := 2) rfl rfl (S.ld0 (j := 3) rfl rfl (S.ld0 (j := 4) rfl rfl (S.ld0 (j := 5) rfl rfl (S.ld0 (j := 6) rfl rfl (S.ld0 (j := 7) rfl rfl (S.ld0 (j := 8) rfl rfl ?_))))))))
    refine S.newB (vs := (gx s.L m).vs) fun b30 w11 S f11 _ => ?_
    refine AppS.of (news := (gx s.L m).vs) rfl (.inr ⟨_, rfl, S.cells 0 rfl⟩) ?_
    refine S.ap2 rfl (fun u hu => bvs_one [gx s.L m] u (by show u ∈ (gx s.L m).vs ++ []; rw [List.append_nil]; exact hu)) (by omega) (by omega) fun a' c' w12 S f12 => ⟨Rng.i64 (by omega) (by omega), ⟨m + 1, by push_cast; rfl, by omega, rfl, ?_⟩, by omega⟩
    have e : bvs (s.L.take (m + 1)) = bvs (s.L.take m) ++ (gx s.L m).vs := by
      unfold bvs
      rw [List.take_succ_eq_append_getElem hml, List.flatMap_append]
      have : gx s.L m = s.L[m] := by show s.L.getD m default = _; rw [List.getD_eq_getElem?_getD, List.getElem?_eq_getElem hml]; rfl
      rw [this]
      simp only [List.flatMap_cons, List.flatMap_nil, List.append_nil]
    rw [e]
    exact S.tail.tail
  · have e : m = n := by omega
    subst e
    rw [List.take_of_length_le (by omega)] at S
    exact ⟨rfl, S⟩
theorem Differ26_c {a : Option Addr} {c : Nat} {e2 : TypeId} (hn : L.length ≤ 1000000) (hL : ∀ x ∈ L, 0 ≤ x.er ∧ x.er ≤ 2000000000000) (S : Sep E w0 w (OwnA e2 9 a L.length c (bvs L) :: Rs)) :
    CallV Tryz.prog 63 #[.slice a L.length c] w [.one (.int .i64)] fun r w' => r.1 = byL L ∧ Ext w w' := by
  apply ref26_Differ.vc
  unfold ref26_Differ.P
  refine cond_eq (fun h0 => ?_) (fun h0 => ?_)
  · have : L = [] := List.length_eq_zero_iff.1 (by omega)
    subst this
    exact ⟨rfl, Ext.refl _⟩
  refine (rSpread_c hn S).mono ?_
  rintro ⟨⟨(l1 : Int), (t1 : Int), ⟨⟩⟩, ⟨⟩⟩ w2 ⟨h2, h2', x2⟩
  have q1 : lowT L = l1 := Eq.trans (best_dn (key := fun x => x.er) (fun x y => rfl) (fun x y => rfl) L.length) (Eq.symm h2)
  have q2 : topT L = t1 := Eq.trans (best_dn (m := goodB) (ah := fun x y => decide (y.er < x.er)) (le := erGe) (key := fun x => 0 - x.er) (fun x y => decide_eq_decide.2 ⟨fun h => by omega, fun h => by omega⟩) (fun x y => decide_eq_decide.2 ⟨fun h => by omega, fun h => by omega⟩) L.length) (Eq.symm h2')
  subst q1; subst q2
  have S := S.stepE x2
  have T := Sep.start NoB w2
  refine T.newB fun b3 w3 T f3 _ => T.st0 (by rfl) fun w4 T f4 => ?_
  have T : Sep NoB w2 w4 [BoxA b3 25 [.int .i64 (lowT L), .int .i64 (topT L)]] := T
  unfold byL
  refine ⟨⟨by decide, by decide⟩, T.ld0 (j := 0) rfl rfl (cond_d (fun hl => ?_) (fun hl => ?_))⟩
  · rw [if_pos hl]; exact ⟨rfl, x2.trans T.ext⟩
  have hl : ¬ lowT L < 0 := hl
  rw [if_neg hl]
  obtain ⟨b1, b2, b3'⟩ := low_top L (by omega)
  refine ⟨⟨by decide, by decide⟩, T.ld0 (j := 1) rfl rfl (cond_d (fun ht => ?_) (fun ht => ?_))⟩
  · have ht : topT L < 0 := ht; omega
  refine DrawV.any fun D hD => ?_
  have T := T.drew
  have SL : Sep E w0 w4.drew (OwnA e2 9 a L.length c (bvs L) :: Rs) := S.stepE T.ext
  obtain ⟨qa, hqa, hca, -⟩ := nthB (i := topT L) 0 SL rfl b2 b3'
  obtain ⟨qb, hqb, hcb, -⟩ := nthB (i := lowT L) 0 SL rfl (by omega) b1
  have r1 := hL _ (gx_mem (L := L) (i := (topT L).toNat) (by omega))
  have r2 := hL _ (gx_mem (L := L) (i := (lowT L).toNat) (by omega))
  refine ⟨⟨by decide, by decide⟩, hD _, T.ld0 (j := 1) rfl rfl ⟨⟨b2, b3'⟩, qa, hqa, hD _, (gx L (topT L).toNat).er, hca.get (j := 3) rfl, ⟨by decide, by decide⟩, hD _, T.ld0 (j := 0) rfl rfl ⟨⟨by omega, b1⟩, qb, hqb, hD _, (gx L (lowT L).toNat).er, hcb.get (j := 3) rfl, Rng.i64 (by omega) (by omega), rfl, x2.trans T.ext⟩⟩⟩
end
end Go.Proofs.YtbaojfchlhlaeaaGreat.Vc
/-! The plans of functions as plain statements, printed by wip/tools/vcgen.py; the kernel holds each to the code. -/
namespace Go.Proofs.YtbaojfchlhlaeaaGreat.Vc
open Go Go.Eng
def reclaim_Level_nil.A : Ann := .no
def reclaim_Level_nil.P (p1 : Int) (w : World) (K : Int × Unit → World → Prop) : Prop :=
  K ((2 : Int), ()) w
theorem reclaim_Level_nil.vc (p1 : Int) (w : World) (K : Int × Unit → World → Prop) (h : reclaim_Level_nil.P p1 w K) : CallV Tryz.prog 66 #[.pointer none, .int .i64 p1] w [.one (.int .i64)] K := by
  refine vcFun.of (A := reclaim_Level_nil.A) (wr := false) okf_ok follows h Tryz.func66 ?_
  kernel_rfl
def reclaim_Unlike_nil.A : Ann := .no
def reclaim_Unlike_nil.P (p1 : Int) (w : World) (K : Bool × Unit → World → Prop) : Prop :=
  CallV Tryz.prog 26 #[.pointer none] w [.one .ptr] fun (r1 : (Option Addr) × Unit) w2 =>
  CallV Tryz.prog 27 #[.pointer r1.1] w2 [.one .ptr] fun (r3 : (Option Addr) × Unit) w4 =>
  CallV Tryz.prog 133 #[.pointer r3.1] w4 [.one (.int .i64), .one (.int .i64)] fun (r5 : Int × Int × Unit) w6 =>
  cond (decide (p1 ≥ 1))
  (K (decide (r5.2.1 > p1), ()) w6)
  (K (false, ()) w6)
theorem reclaim_Unlike_nil.vc (p1 : Int) (w : World) (K : Bool × Unit → World → Prop) (h : reclaim_Unlike_nil.P p1 w K) : CallV Tryz.prog 62 #[.pointer none, .int .i64 p1] w [.one .bool] K := by
  refine vcFun.of (A := reclaim_Unlike_nil.A) (wr := false) okf_ok follows h Tryz.func62 ?_
  kernel_rfl
def reclaim_Erases_nil.A : Ann := .two .no (.two .no (.two .no (.two (.two .no (.one (.loop [3, 5, 11, 12, 13, 14, 15, 16, 17, 18, 19, 20, 21] [(3, .one .sl), (11, .one (.int .i64))] .no))) .no)))
def reclaim_Erases_nil.P  (w : World) (K : SlV × Unit → World → Prop) : Prop :=
  CallV Tryz.prog 26 #[.pointer none] w [.one .ptr] fun (r1 : (Option Addr) × Unit) w2 =>
  CallV Tryz.prog 27 #[.pointer r1.1] w2 [.one .ptr] fun (r3 : (Option Addr) × Unit) w4 =>
  CallV Tryz.prog 52 #[.pointer r3.1] w4 [.one (.int .i64)] fun (r5 : Int × Unit) w6 =>
  LoopV [.one .sl, .one (.int .i64)] ((⟨none, 0, 0⟩ : SlV), (0 : Int), ()) w6 fun (z7 : SlV × Int × Unit) w8 (K9 : SlV × Int × Unit → World → Prop) =>
  cond (decide (z7.2.1 < r5.1))
  (CallV Tryz.prog 54 #[.pointer r3.1, .int .i64 z7.2.1] w8 [.agg [.int .i64, .int .i64, .int .i64, .int .i64, .bool, .bool, .bool, .bool, .bool]] fun (r10 : (Int × Int × Int × Int × Bool × Bool × Bool × Bool × Bool × Unit) × Unit) w11 =>
  NewV #[.int .i64 r10.1.2.2.2.1] 3 w11 fun b12 w13 =>
  AppS w13 (some ⟨b12, 0, none⟩) 1 1 fun ns18 =>
  AppV w13 3 1 8 z7.1.a z7.1.n z7.1.c ns18 1 fun a14 n15 c16 w17 =>
  Rng .i64 (z7.2.1 + 1) ∧
  K9 ((⟨a14, n15, c16⟩ : SlV), z7.2.1 + 1, ()) w17)
  (K (z7.1, ()) w8)
theorem reclaim_Erases_nil.vc  (w : World) (K : SlV × Unit → World → Prop) (h : reclaim_Erases_nil.P  w K) : CallV Tryz.prog 61 #[.pointer none] w [.one .sl] K := by
  refine vcFun.of (A := reclaim_Erases_nil.A) (wr := false) okf_ok follows h Tryz.func61 ?_
  kernel_rfl
def reclaim_spread_nil.A : Ann := .no
def reclaim_spread_nil.P  (w : World) (K : Int × Int × Unit → World → Prop) : Prop :=
  CallV Tryz.prog 191 #[.pointer none] w [.one (.int .i64), .one (.int .i64)] fun (r1 : Int × Int × Unit) w2 =>
  cond (decide (r1.1 < 0))
  (K (((-1) : Int), (0 : Int), ()) w2)
  (CallV Tryz.prog 54 #[.pointer none, .int .i64 r1.2.1] w2 [.agg [.int .i64, .int .i64, .int .i64, .int .i64, .bool, .bool, .bool, .bool, .bool]] fun (r3 : (Int × Int × Int × Int × Bool × Bool × Bool × Bool × Bool × Unit) × Unit) w4 =>
  CallV Tryz.prog 54 #[.pointer none, .int .i64 r1.1] w4 [.agg [.int .i64, .int .i64, .int .i64, .int .i64, .bool, .bool, .bool, .bool, .bool]] fun (r5 : (Int × Int × Int × Int × Bool × Bool × Bool × Bool × Bool × Unit) × Unit) w6 =>
  Rng .i64 (r3.1.2.2.2.1 - r5.1.2.2.2.1) ∧
  K (r1.1, r3.1.2.2.2.1 - r5.1.2.2.2.1, ()) w6)
theorem reclaim_spread_nil.vc  (w : World) (K : Int × Int × Unit → World → Prop) (h : reclaim_spread_nil.P  w K) : CallV Tryz.prog 133 #[.pointer none] w [.one (.int .i64), .one (.int .i64)] K := by
  refine vcFun.of (A := reclaim_spread_nil.A) (wr := false) okf_ok follows h Tryz.func133 ?_
  kernel_rfl
end Go.Proofs.YtbaojfchlhlaeaaGreat.Vc
/-! The plans of functions as plain statements, printed by wip/tools/vcgen.py; the kernel holds each to the code. -/
namespace Go.Proofs.YtbaojfchlhlaeaaGreat.Vc
open Go Go.Eng
def stream_Stream_Pool_nil.A : Ann := .no
def stream_Stream_Pool_nil.P  (w : World) (K : (Option Addr) × Unit → World → Prop) : Prop :=
  K (none, ()) w
theorem stream_Stream_Pool_nil.vc  (w : World) (K : (Option Addr) × Unit → World → Prop) (h : stream_Stream_Pool_nil.P  w K) : CallV Tryz.prog 26 #[.pointer none] w [.one .ptr] K := by
  refine vcFun.of (A := stream_Stream_Pool_nil.A) (wr := false) okf_ok follows h Tryz.func26 ?_
  kernel_rfl
end Go.Proofs.YtbaojfchlhlaeaaGreat.Vc
/-! The plans of functions as plain statements, printed by wip/tools/vcgen.py; the kernel holds each to the code. -/
namespace Go.Proofs.YtbaojfchlhlaeaaGreat.Vc
open Go Go.Eng
def pool_Pool_Ledger_nil.A : Ann := .no
def pool_Pool_Ledger_nil.P  (w : World) (K : (Option Addr) × Unit → World → Prop) : Prop :=
  K (none, ()) w
theorem pool_Pool_Ledger_nil.vc  (w : World) (K : (Option Addr) × Unit → World → Prop) (h : pool_Pool_Ledger_nil.P  w K) : CallV Tryz.prog 27 #[.pointer none] w [.one .ptr] K := by
  refine vcFun.of (A := pool_Pool_Ledger_nil.A) (wr := false) okf_ok follows h Tryz.func27 ?_
  kernel_rfl
end Go.Proofs.YtbaojfchlhlaeaaGreat.Vc
/-! The plans of functions as plain statements, printed by wip/tools/vcgen.py; the kernel holds each to the code. -/
namespace Go.Proofs.YtbaojfchlhlaeaaGreat.Vc
open Go Go.Eng
def ledger_Ledger_Len_nil.A : Ann := .no
def ledger_Ledger_Len_nil.P  (w : World) (K : Int × Unit → World → Prop) : Prop :=
  K ((0 : Int), ()) w
theorem ledger_Ledger_Len_nil.vc  (w : World) (K : Int × Unit → World → Prop) (h : ledger_Ledger_Len_nil.P  w K) : CallV Tryz.prog 52 #[.pointer none] w [.one (.int .i64)] K := by
  refine vcFun.of (A := ledger_Ledger_Len_nil.A) (wr := false) okf_ok follows h Tryz.func52 ?_
  kernel_rfl
def ledger_Ledger_best_nil.A : Ann := .two .no (.two .no (.two (.two .no (.one (.loop [7, 8, 11, 12, 13, 14, 15, 16, 17, 18, 19, 20, 21, 22, 23, 24, 25, 26, 27, 28, 29, 30, 31, 32, 33, 34, 35, 36, 37, 38, 39, 40, 41, 42, 43, 44, 45, 46, 47] [(7, .one (.int .i64)), (11, .one (.int .i64))] (.two .no (.two .no (.two (.one (.two .no (.two (.draw (.take 0 (.take 1 (.take 2 (.take 3 (.take 4 (.take 5 (.take 6 (.take 7 (.take 8 (.eff 9 (.take 10 (.take 11 (.take 12 (.take 13 (.take 14 (.take 15 (.take 16 (.take 17 (.take 18 (.take 19 (.take 20 (.take 21 (.take 22 (.take 23 (.take 24 (.take 25 (.take 26 (.take 27 (.take 28 (.eff 29 (.take 30 (.take 31 (.done)))))))))))))))))))))))))))))))))) .no))) .no)))))) .no))
def ledger_Ledger_best_nil.P (g1 : FuncId) (cap1 : Array Value) (g2 : FuncId) (cap2 : Array Value) (w : World) (K : Int × Unit → World → Prop) : Prop :=
  CallV Tryz.prog 52 #[.pointer none] w [.one (.int .i64)] fun (r1 : Int × Unit) w2 =>
  LoopV [.one (.int .i64), .one (.int .i64)] (((-1) : Int), (0 : Int), ()) w2 fun (z3 : Int × Int × Unit) w4 (K5 : Int × Int × Unit → World → Prop) =>
  cond (decide (z3.2.1 < r1.1))
  (DrawV fun D6 =>
  False)
  (K (z3.1, ()) w4)
theorem ledger_Ledger_best_nil.vc (g1 : FuncId) (cap1 : Array Value) (g2 : FuncId) (cap2 : Array Value) (w : World) (K : Int × Unit → World → Prop) (h : ledger_Ledger_best_nil.P g1 cap1 g2 cap2 w K) : CallV Tryz.prog 239 #[.pointer none, .func (.func g1) #[] cap1, .func (.func g2) #[] cap2] w [.one (.int .i64)] K := by
  refine vcFun.of (A := ledger_Ledger_best_nil.A) (wr := false) okf_ok follows h Tryz.func239 ?_
  kernel_rfl
def ledger_Ledger_Spread_nil.A : Ann := .no
def ledger_Ledger_Spread_nil.P  (w : World) (K : Int × Int × Unit → World → Prop) : Prop :=
  CallV Tryz.prog 239 #[.pointer none, .func (.func 238) #[] #[], .func (.func 240) #[] #[]] w [.one (.int .i64)] fun (r1 : Int × Unit) w2 =>
  CallV Tryz.prog 239 #[.pointer none, .func (.func 238) #[] #[], .func (.func 241) #[] #[]] w2 [.one (.int .i64)] fun (r3 : Int × Unit) w4 =>
  K (r1.1, r3.1, ()) w4
theorem ledger_Ledger_Spread_nil.vc  (w : World) (K : Int × Int × Unit → World → Prop) (h : ledger_Ledger_Spread_nil.P  w K) : CallV Tryz.prog 191 #[.pointer none] w [.one (.int .i64), .one (.int .i64)] K := by
  refine vcFun.of (A := ledger_Ledger_Spread_nil.A) (wr := false) okf_ok follows h Tryz.func191 ?_
  kernel_rfl
end Go.Proofs.YtbaojfchlhlaeaaGreat.Vc
/-! The plans of functions as plain statements, printed by wip/tools/vcgen.py; the kernel holds each to the code. -/
namespace Go.Proofs.YtbaojfchlhlaeaaGreat.Vc
open Go Go.Eng
def law26_ReclaimTells.A : Ann := .two .no (.two .no (.two .no (.two (.two .no (.one (.loop [7, 25, 26, 27, 28, 29, 30, 31, 32, 33, 34, 35, 36, 37, 38, 39, 40, 41, 42, 43, 44, 45, 46, 47, 48] [(7, .one (.int .i64))] (.two .no (.two (.one (.two (.draw (.take 0 (.take 1 (.take 2 (.take 3 (.take 4 (.take 5 (.eff 6 (.done))))))))) (.two (.draw (.take 0 (.take 1 (.take 2 (.take 3 (.take 4 (.take 5 (.take 6 (.take 7 (.take 8 (.eff 9 (.done)))))))))))) .no))) .no))))) (.two .no (.two .no (.two (.two .no (.one (.loop [4, 9, 73, 74, 75, 76, 77, 78, 79, 80, 81, 82, 83, 84, 85, 86, 87] [(9, .one (.int .i64))] (.two .no (.two (.one (.two (.draw (.take 0 (.take 1 (.take 2 (.take 3 (.take 4 (.take 5 (.take 6 (.eff 7 (.take 8 (.done))))))))))) .no)) .no))))) .no))))))
def law26_ReclaimTells.P (p0_0 p0_1 p0_2 p0_3 p0_4 p0_5 : Int) (a0_6 : Option Addr) (n0_6 c0_6 : Nat) (p0_7 : Int) (a0_8 : Option Addr) (n0_8 c0_8 : Nat) (p1 : Int) (w : World) (K : Bool × Unit → World → Prop) : Prop :=
  NewV #[.int .i64 p0_0, .int .i64 p0_1, .int .i64 p0_2, .int .i64 p0_3, .int .i64 p0_4, .int .i64 p0_5, .slice a0_6 n0_6 c0_6, .int .i64 p0_7, .slice a0_8 n0_8 c0_8] 108 w fun b1 w2 =>
  LoadA w2 ⟨b1, 0, none⟩ [.int .i64, .int .i64, .int .i64, .int .i64, .int .i64, .int .i64, .sl, .int .i64, .sl] fun (x3 : Int × Int × Int × Int × Int × Int × SlV × Int × SlV × Unit) =>
  CallV Tryz.prog 56 #[.agg #[.int .i64 x3.1, .int .i64 x3.2.1, .int .i64 x3.2.2.1, .int .i64 x3.2.2.2.1, .int .i64 x3.2.2.2.2.1, .int .i64 x3.2.2.2.2.2.1, .slice x3.2.2.2.2.2.2.1.a x3.2.2.2.2.2.2.1.n x3.2.2.2.2.2.2.1.c, .int .i64 x3.2.2.2.2.2.2.2.1, .slice x3.2.2.2.2.2.2.2.2.1.a x3.2.2.2.2.2.2.2.2.1.n x3.2.2.2.2.2.2.2.2.1.c]] w2 [.one .bool] fun (r4 : Bool × Unit) w5 =>
  cond (!r4.1)
  (CallV Tryz.prog 57 #[] w5 [.one .bool] fun (r6 : Bool × Unit) w7 =>
  K (r6.1, ()) w7)
  (LoadS w5 ⟨b1, 6, none⟩ .sl fun (x8 : SlV) =>
  cond (decide (((x8.n : Nat) : Int) > 0))
  (CallV Tryz.prog 57 #[] w5 [.one .bool] fun (r9 : Bool × Unit) w10 =>
  K (r9.1, ()) w10)
  (LoadA w5 ⟨b1, 0, none⟩ [.int .i64, .int .i64, .int .i64, .int .i64, .int .i64, .int .i64, .sl, .int .i64, .sl] fun (x11 : Int × Int × Int × Int × Int × Int × SlV × Int × SlV × Unit) =>
  CallV Tryz.prog 58 #[.agg #[.int .i64 x11.1, .int .i64 x11.2.1, .int .i64 x11.2.2.1, .int .i64 x11.2.2.2.1, .int .i64 x11.2.2.2.2.1, .int .i64 x11.2.2.2.2.2.1, .slice x11.2.2.2.2.2.2.1.a x11.2.2.2.2.2.2.1.n x11.2.2.2.2.2.2.1.c, .int .i64 x11.2.2.2.2.2.2.2.1, .slice x11.2.2.2.2.2.2.2.2.1.a x11.2.2.2.2.2.2.2.2.1.n x11.2.2.2.2.2.2.2.2.1.c]] w5 [.one .ptr, .one .ptr] fun (r12 : (Option Addr) × (Option Addr) × Unit) w13 =>
  LoopV [.one (.int .i64)] ((0 : Int), ()) w13 fun (z14 : Int × Unit) w15 (K16 : Int × Unit → World → Prop) =>
  LoadS w15 ⟨b1, 8, none⟩ .sl fun (x17 : SlV) =>
  cond (decide (z14.1 < ((x17.n : Nat) : Int)))
  (DrawV fun D18 =>
  (D18 b1 ∧ LoadA w15.drew ⟨b1, 0, none⟩ [.int .i64, .int .i64, .int .i64, .int .i64, .int .i64, .int .i64, .sl, .int .i64, .sl] fun (x19 : Int × Int × Int × Int × Int × Int × SlV × Int × SlV × Unit) =>
  (D18 b1 ∧ LoadS w15.drew ⟨b1, 8, none⟩ .sl fun (x20 : SlV) =>
  (0 ≤ z14.1 ∧ z14.1 < ((x20.n : Nat) : Int)) ∧ ∃ q21 : Addr, x20.a = some q21 ∧
  (D18 (q21.add (z14.1.toNat * 1)).block ∧ LoadS w15.drew (q21.add (z14.1.toNat * 1)) (.int .i64) fun (x22 : Int) =>
  CallV Tryz.prog 59 #[.agg #[.int .i64 x19.1, .int .i64 x19.2.1, .int .i64 x19.2.2.1, .int .i64 x19.2.2.2.1, .int .i64 x19.2.2.2.2.1, .int .i64 x19.2.2.2.2.2.1, .slice x19.2.2.2.2.2.2.1.a x19.2.2.2.2.2.2.1.n x19.2.2.2.2.2.2.1.c, .int .i64 x19.2.2.2.2.2.2.2.1, .slice x19.2.2.2.2.2.2.2.2.1.a x19.2.2.2.2.2.2.2.2.1.n x19.2.2.2.2.2.2.2.2.1.c], .int .i64 x22] w15.drew [.one .bool] fun (r23 : Bool × Unit) w24 =>
  KeepOn D18 w15.drew w24 ∧
  cond r23.1
  (DrawV fun D25 =>
  (D25 b1 ∧ LoadA w24.drew ⟨b1, 0, none⟩ [.int .i64, .int .i64, .int .i64, .int .i64, .int .i64, .int .i64] fun (x26 : Int × Int × Int × Int × Int × Int × Unit) =>
  (D25 b1 ∧ LoadS w24.drew ⟨b1, 8, none⟩ .sl fun (x27 : SlV) =>
  (0 ≤ z14.1 ∧ z14.1 < ((x27.n : Nat) : Int)) ∧ ∃ q28 : Addr, x27.a = some q28 ∧
  (D25 (q28.add (z14.1.toNat * 1)).block ∧ LoadS w24.drew (q28.add (z14.1.toNat * 1)) (.int .i64) fun (x29 : Int) =>
  CallV Tryz.prog 60 #[.pointer r12.1, .agg #[.int .i64 x26.1, .int .i64 x26.2.1, .int .i64 x26.2.2.1, .int .i64 x26.2.2.2.1, .int .i64 x26.2.2.2.2.1, .int .i64 x26.2.2.2.2.2.1], .int .i64 x29, .int .i64 z14.1] w24.drew [.one (.int .i64)] fun (r30 : Int × Unit) w31 =>
  KeepOn D25 w24.drew w31 ∧
  Rng .i64 (z14.1 + 1) ∧
  K16 (z14.1 + 1, ()) w31))))
  (Rng .i64 (z14.1 + 1) ∧
  K16 (z14.1 + 1, ()) w24)))))
  (CallV Tryz.prog 61 #[.pointer r12.1] w15 [.one .sl] fun (r32 : SlV × Unit) w33 =>
  LoadS w33 ⟨b1, 0, none⟩ (.int .i64) fun (x34 : Int) =>
  Rng .i64 (x34 - 4) ∧
  cond (((r32.1.n : Nat) : Int) != (x34 - 4))
  (K (false, ()) w33)
  (CallV Tryz.prog 62 #[.pointer r12.1, .int .i64 p1] w33 [.one .bool] fun (r35 : Bool × Unit) w36 =>
  cond (decide (p1 ≥ 1))
  (CallV Tryz.prog 64 #[.pointer r12.1] w36 [.one .sl] fun (r37 : SlV × Unit) w38 =>
  CallV Tryz.prog 63 #[.slice r37.1.a r37.1.n r37.1.c] w38 [.one (.int .i64)] fun (r39 : Int × Unit) w40 =>
  cond (!(r35.1 == decide (r39.1 > p1)))
  (K (false, ()) w40)
  (LoopV [.one (.int .i64)] ((0 : Int), ()) w40 fun (z41 : Int × Unit) w42 (K43 : Int × Unit → World → Prop) =>
  cond (decide (z41.1 < ((r32.1.n : Nat) : Int)))
  (DrawV fun D44 =>
  (0 ≤ z41.1 ∧ z41.1 < ((r32.1.n : Nat) : Int)) ∧ ∃ q45 : Addr, r32.1.a = some q45 ∧
  (D44 (q45.add (z41.1.toNat * 1)).block ∧ LoadS w42.drew (q45.add (z41.1.toNat * 1)) (.int .i64) fun (x46 : Int) =>
  Rng .i64 ((4 : Int) + z41.1) ∧
  CallV Tryz.prog 65 #[.pointer r12.2.1, .int .i64 ((4 : Int) + z41.1)] w42.drew [.one (.int .i64)] fun (r47 : Int × Unit) w48 =>
  KeepOn D44 w42.drew w48 ∧
  cond (x46 != r47.1)
  (K (false, ()) w48)
  (Rng .i64 (z41.1 + 1) ∧
  K43 (z41.1 + 1, ()) w48)))
  (CallV Tryz.prog 66 #[.pointer none, .int .i64 p1] w42 [.one (.int .i64)] fun (r49 : Int × Unit) w50 =>
  cond (r49.1 == 2)
  (CallV Tryz.prog 62 #[.pointer none, .int .i64 p1] w50 [.one .bool] fun (r51 : Bool × Unit) w52 =>
  cond (!r51.1)
  (CallV Tryz.prog 61 #[.pointer none] w52 [.one .sl] fun (r53 : SlV × Unit) w54 =>
  cond (((r53.1.n : Nat) : Int) == 0)
  (CallV Tryz.prog 57 #[] w54 [.one .bool] fun (r55 : Bool × Unit) w56 =>
  K (r55.1, ()) w56)
  (K (false, ()) w54))
  (K (false, ()) w52))
  (K (false, ()) w50))))
  (cond (!(r35.1 == false))
  (K (false, ()) w36)
  (LoopV [.one (.int .i64)] ((0 : Int), ()) w36 fun (z57 : Int × Unit) w58 (K59 : Int × Unit → World → Prop) =>
  cond (decide (z57.1 < ((r32.1.n : Nat) : Int)))
  (DrawV fun D60 =>
  (0 ≤ z57.1 ∧ z57.1 < ((r32.1.n : Nat) : Int)) ∧ ∃ q61 : Addr, r32.1.a = some q61 ∧
  (D60 (q61.add (z57.1.toNat * 1)).block ∧ LoadS w58.drew (q61.add (z57.1.toNat * 1)) (.int .i64) fun (x62 : Int) =>
  Rng .i64 ((4 : Int) + z57.1) ∧
  CallV Tryz.prog 65 #[.pointer r12.2.1, .int .i64 ((4 : Int) + z57.1)] w58.drew [.one (.int .i64)] fun (r63 : Int × Unit) w64 =>
  KeepOn D60 w58.drew w64 ∧
  cond (x62 != r63.1)
  (K (false, ()) w64)
  (Rng .i64 (z57.1 + 1) ∧
  K59 (z57.1 + 1, ()) w64)))
  (CallV Tryz.prog 66 #[.pointer none, .int .i64 p1] w58 [.one (.int .i64)] fun (r65 : Int × Unit) w66 =>
  cond (r65.1 == 2)
  (CallV Tryz.prog 62 #[.pointer none, .int .i64 p1] w66 [.one .bool] fun (r67 : Bool × Unit) w68 =>
  cond (!r67.1)
  (CallV Tryz.prog 61 #[.pointer none] w68 [.one .sl] fun (r69 : SlV × Unit) w70 =>
  cond (((r69.1.n : Nat) : Int) == 0)
  (CallV Tryz.prog 57 #[] w70 [.one .bool] fun (r71 : Bool × Unit) w72 =>
  K (r71.1, ()) w72)
  (K (false, ()) w70))
  (K (false, ()) w68))
  (K (false, ()) w66))))))))
theorem law26_ReclaimTells.vc (p0_0 p0_1 p0_2 p0_3 p0_4 p0_5 : Int) (a0_6 : Option Addr) (n0_6 c0_6 : Nat) (p0_7 : Int) (a0_8 : Option Addr) (n0_8 c0_8 : Nat) (p1 : Int) (w : World) (K : Bool × Unit → World → Prop) (h : law26_ReclaimTells.P p0_0 p0_1 p0_2 p0_3 p0_4 p0_5 a0_6 n0_6 c0_6 p0_7 a0_8 n0_8 c0_8 p1 w K) : CallV Tryz.prog 8 #[.agg #[.int .i64 p0_0, .int .i64 p0_1, .int .i64 p0_2, .int .i64 p0_3, .int .i64 p0_4, .int .i64 p0_5, .slice a0_6 n0_6 c0_6, .int .i64 p0_7, .slice a0_8 n0_8 c0_8], .int .i64 p1] w [.one .bool] K := by
  refine vcFun.of (A := law26_ReclaimTells.A) (wr := false) okf_ok follows h Tryz.func8 ?_
  kernel_rfl
end Go.Proofs.YtbaojfchlhlaeaaGreat.Vc
/-! The law ReclaimTells of layer 26: each call gives true, and what it read stays. -/
namespace Go.Proofs.YtbaojfchlhlaeaaGreat.Vc
open Go Go.Eng Go.RowKit
abbrev fA26 : SlP TF.T := ⟨none, 0, 0, []⟩
abbrev gA26 : Geo := ⟨9, 10, 64, 0, 1, 1⟩
theorem LF_nil26 {w : World} {G : Nat → Prop} : LF.rd w G fA26 := ⟨rfl, Nat.le_refl _, by show 0 ≤ maxLen; exact Nat.zero_le _, .inl ⟨rfl, rfl⟩, fun y hy => (List.not_mem_nil hy).elim⟩
theorem awake26_c {w : World} : CallV Tryz.prog 57 #[] w [.one .bool] fun r w' => r.1 = true ∧ Ext w w' := by
  apply law26_awake.vc
  unfold law26_awake.P
  have hR : Right gA26 := by decide
  have hFR : FRight (fds fA26) := ⟨fun f hf => (List.not_mem_nil hf).elim, by decide⟩
  refine (made26_c (g := gA26) (f := fA26) (z := 5) (st := ⟨none, 0, 0⟩) LF_nil26 hR hFR (by decide) (by decide)).mono ?_
  rintro ⟨sv, cv, ⟨⟩⟩ w3 ⟨sp, pp, pm, p, q, X, h1, h2, hX, S⟩
  dsimp only at h1 h2 ⊢
  subst h1; subst h2
  have hI : SI gA26 5 (s00 gA26 [] X) := s00_I hR (by decide) (fun f hf => (List.not_mem_nil hf).elim) hX
  have hl1 : lvlS 1 (s00 gA26 [] X) = (s00 gA26 [] X, 0) := by
    have e : lvlP 1 (319 + 1) (s00 gA26 [] X) = (s00 gA26 [] X, 0) := by
      unfold lvlP
      rw [if_neg (fun k => by cases k), if_pos (show unlB (s00 gA26 [] X).L 1 = false from (by decide : unlB (List.replicate 5 Blk.new) 1 = false))]
    unfold lvlS
    rw [if_neg (by decide)]
    exact e
  have hl0 : lvlS 0 (s00 gA26 [] X) = (s00 gA26 [] X, 2) := by
    unfold lvlS
    rw [if_pos (by decide)]
  refine (Level26_c (wear := 1) hI (by show 0 + 825761280 ≤ 1000000000000; decide) S).mono ?_
  rintro ⟨(r : Int), ⟨⟩⟩ w4 ⟨h4, S⟩
  dsimp only at h4 S ⊢
  rw [hl1] at h4 S
  subst h4
  refine cond_t rfl ?_
  refine (Erases26_c hI S).mono ?_
  rintro ⟨⟨ra, rn, rc⟩, ⟨⟩⟩ w5 ⟨h5, S⟩
  dsimp only at h5 S ⊢
  subst h5
  refine cond_t rfl ?_
  have S := S.tail
  refine (Level26_c (wear := 0) hI (by show 0 + 825761280 ≤ 1000000000000; decide) S).mono ?_
  rintro ⟨(r : Int), ⟨⟩⟩ w6 ⟨h6, S⟩
  dsimp only at h6 S ⊢
  rw [hl0] at h6 S
  subst h6
  exact ⟨rfl, S.ext⟩
section
variable {w : World} {b : Int}
theorem poolNil25_c : CallV Tryz.prog 26 #[.pointer none] w [.one .ptr] fun r w' => r.1 = none ∧ w' = w := by
  apply stream_Stream_Pool_nil.vc
  unfold stream_Stream_Pool_nil.P
  exact ⟨rfl, rfl⟩
theorem ledNil24_c : CallV Tryz.prog 27 #[.pointer none] w [.one .ptr] fun r w' => r.1 = none ∧ w' = w := by
  apply pool_Pool_Ledger_nil.vc
  unfold pool_Pool_Ledger_nil.P
  exact ⟨rfl, rfl⟩
theorem lenNil21_c : CallV Tryz.prog 52 #[.pointer none] w [.one (.int .i64)] fun r w' => r.1 = (0 : Int) ∧ w' = w := by
  apply ledger_Ledger_Len_nil.vc
  unfold ledger_Ledger_Len_nil.P
  exact ⟨rfl, rfl⟩
theorem bestNil21_c {f g : FuncId} {c1 c2 : Array Value} : CallV Tryz.prog 239 #[.pointer none, .func (.func f) #[] c1, .func (.func g) #[] c2] w [.one (.int .i64)] fun r w' => r.1 = (-1 : Int) ∧ Ext w w' := by
  apply ledger_Ledger_best_nil.vc
  unfold ledger_Ledger_best_nil.P
  refine lenNil21_c.mono ?_
  rintro ⟨(r : Int), ⟨⟩⟩ w1 ⟨h1, rfl⟩
  dsimp only at h1 ⊢
  subst h1
  refine Loop1 (fun (v : Int × Int × Unit) w' => v = (-1, 0, ()) ∧ w' = w1) (fun _ _ => 0) ⟨rfl, rfl⟩ ?_
  rintro _ w2 ⟨rfl, rfl⟩
  exact cond_f rfl ⟨rfl, Ext.refl _⟩
theorem spreadNil21_c : CallV Tryz.prog 191 #[.pointer none] w [.one (.int .i64), .one (.int .i64)] fun r w' => r.1 = (-1 : Int) ∧ r.2.1 = (-1 : Int) ∧ Ext w w' := by
  apply ledger_Ledger_Spread_nil.vc
  unfold ledger_Ledger_Spread_nil.P
  refine bestNil21_c.mono ?_
  rintro ⟨(r : Int), ⟨⟩⟩ w1 ⟨h1, x1⟩
  refine bestNil21_c.mono ?_
  rintro ⟨(r : Int), ⟨⟩⟩ w2 ⟨h2, x2⟩
  exact ⟨h1, h2, x1.trans x2⟩
theorem sprNil26_c : CallV Tryz.prog 133 #[.pointer none] w [.one (.int .i64), .one (.int .i64)] fun r w' => r.1 = (-1 : Int) ∧ r.2.1 = (0 : Int) ∧ Ext w w' := by
  apply reclaim_spread_nil.vc
  unfold reclaim_spread_nil.P
  refine spreadNil21_c.mono ?_
  rintro ⟨(r : Int), (r2 : Int), ⟨⟩⟩ w1 ⟨h1, h2, x1⟩
  dsimp only at h1 h2 ⊢
  subst h1
  exact cond_t rfl ⟨rfl, rfl, x1⟩
theorem lvlNil26_c : CallV Tryz.prog 66 #[.pointer none, .int .i64 b] w [.one (.int .i64)] fun r w' => r.1 = (2 : Int) ∧ w' = w := by
  apply reclaim_Level_nil.vc
  unfold reclaim_Level_nil.P
  exact ⟨rfl, rfl⟩
theorem unlNil26_c : CallV Tryz.prog 62 #[.pointer none, .int .i64 b] w [.one .bool] fun r w' => r.1 = false ∧ Ext w w' := by
  apply reclaim_Unlike_nil.vc
  unfold reclaim_Unlike_nil.P
  refine poolNil25_c.mono ?_
  rintro ⟨r, ⟨⟩⟩ w1 ⟨h1, rfl⟩
  dsimp only at h1 ⊢
  subst h1
  refine ledNil24_c.mono ?_
  rintro ⟨r, ⟨⟩⟩ w2 ⟨h2, rfl⟩
  dsimp only at h2 ⊢
  subst h2
  refine sprNil26_c.mono ?_
  rintro ⟨(r : Int), (r2 : Int), ⟨⟩⟩ w3 ⟨-, h3, x3⟩
  dsimp only at h3 ⊢
  subst h3
  exact cond_d (fun h => ⟨decide_eq_false (by have h : b ≥ 1 := h; omega), x3⟩) (fun h => ⟨rfl, x3⟩)
theorem eraNil26_c : CallV Tryz.prog 61 #[.pointer none] w [.one .sl] fun r w' => r.1.n = 0 ∧ w' = w := by
  apply reclaim_Erases_nil.vc
  unfold reclaim_Erases_nil.P
  refine poolNil25_c.mono ?_
  rintro ⟨r, ⟨⟩⟩ w1 ⟨h1, rfl⟩
  dsimp only at h1 ⊢
  subst h1
  refine ledNil24_c.mono ?_
  rintro ⟨r, ⟨⟩⟩ w2 ⟨h2, rfl⟩
  dsimp only at h2 ⊢
  subst h2
  refine lenNil21_c.mono ?_
  rintro ⟨(r : Int), ⟨⟩⟩ w3 ⟨h3, rfl⟩
  dsimp only at h3 ⊢
  subst h3
  refine Loop1 (fun (v : SlV × Int × Unit) w' => v = (⟨none, 0, 0⟩, 0, ()) ∧ w' = w3) (fun _ _ => 0) ⟨rfl, rfl⟩ ?_
  rintro _ w4 ⟨rfl, rfl⟩
  exact cond_f rfl ⟨rfl, rfl⟩
end
theorem Erases_e {E : Nat → Prop} {w0 w : World} {Rs : List Asr} {p : Nat} {C : CD} {n : Int} (hC : COk C) (S : Sep E w0 w (chipE p C :: Rs)) : CallV Tryz.prog 65 #[.pointer (some ⟨p, 0, none⟩), .int .i64 n] w [.one (.int .i64)] fun r w' => r.1 = erasesC C n ∧ Ext w w' := by
  obtain ⟨y, T, hF, S⟩ := chipE_out S
  exact Erases_c hC S
def opC26 (i : Nat) : Nat := 55051264 * i
theorem opC26s (i : Nat) : opC26 (i + 1) = opC26 i + 55051264 := Nat.mul_succ _ _
theorem opC26_le {i : Nat} (h : i ≤ 200) : opC26 i ≤ 11010252800 := Nat.mul_le_mul (Nat.le_refl 55051264) h
theorem ReclaimTells_law {w : World} {g : Geo} {f : SlP TF.T} {st : SlP Int} {z wear : Int} (hf : LF.rd w All f) (hs : LIn.rd w All st) :
    CallV Tryz.prog 8 #[.agg (casV26 g f z ⟨st.a, st.n, st.c⟩).toArray, .int .i64 wear] w [.one .bool] fun r w' => r.1 = true ∧ Ext w w' := by
  apply law26_ReclaimTells.vc
  unfold law26_ReclaimTells.P
  have S := Sep.start NoB w
  refine S.newB (vs := casV26 g f z ⟨st.a, st.n, st.c⟩) fun b1 w1 S f1 _ => S.la0 rfl ?_
  refine (light26_c (g := g) (f := f) (z := z) (st := ⟨st.a, st.n, st.c⟩) (Ty.rd_ext S.ext _ hf)).mono ?_
  rintro ⟨(r : Bool), ⟨⟩⟩ w2 ⟨h2, x2⟩
  dsimp only at h2 ⊢
  have S := S.stepE x2
  refine cond_of (fun hr => ?_) (fun hr => ?_)
  · exact awake26_c.mono fun r w5 ⟨h5, x5⟩ => ⟨h5, S.ext.trans x5⟩
  have hL := h2 (by cases r; cases hr; rfl)
  refine S.ld0 (j := 6) rfl rfl (cond_d (fun hp => ?_) (fun hp => ?_))
  · exact awake26_c.mono fun r w5 ⟨h5, x5⟩ => ⟨h5, S.ext.trans x5⟩
  have hpl : fds f = [] := by
    refine List.length_eq_zero_iff.1 ?_
    rw [LF_len hf]
    have hp : ¬ ((f.n : Nat) : Int) > 0 := hp
    omega
  have hz := (fitE_zero.1 hL.z).2.1 z List.mem_cons_self
  have hg : LG g := ⟨hL.b, by have := hL.p; omega, hL.s⟩
  refine S.la0 rfl ?_
  refine (made26_c (g := g) (f := f) (z := z) (st := ⟨st.a, st.n, st.c⟩) (Ty.rd_ext S.ext _ hf) hL.R hL.F hg hz).mono ?_
  rintro ⟨sv, cv, ⟨⟩⟩ w4 ⟨sp, pp, pm, p, q, X, h1, h2, hX, S4⟩
  dsimp only at h1 h2 ⊢
  subst h1; subst h2
  have S : Sep NoB w w4 (stS sp pp pm p q g (s00 g (fds f) X) [BoxA b1 108 (casV26 g f z ⟨st.a, st.n, st.c⟩)]) := S.frame0 S4
  clear S4
  rw [hpl] at S
  have hI : SI g (nG g) (s00 g [] X) := s00_I hL.R hg (fun F hF => (List.not_mem_nil hF).elim) hX
  have hl : st.l.length = st.n := hs.1
  have hn := hL.n
  have hgb := hL.b
  refine Loop1 (fun (v : Int × Unit) w' => ∃ (i : Nat) (t : SD), v.1 = (i : Int) ∧ i ≤ st.n ∧ SI g (nG g) t ∧ t.C.ops ≤ opC26 i ∧ RS (s00 g [] X) t ∧ Sep NoB w w' (stS sp pp pm p q g t [BoxA b1 108 (casV26 g f z ⟨st.a, st.n, st.c⟩)])) (fun (v : Int × Unit) _ => ((st.n : Int) - v.1).toNat)
    ⟨0, s00 g [] X, rfl, Nat.zero_le _, hI, Nat.zero_le _, RS.refl _, S⟩ ?_
  clear S hI
  rintro ⟨(v : Int), ⟨⟩⟩ w5 ⟨i, t, hv, hi, ht, hop, hrs, S⟩
  dsimp only at hv
  subst hv
  refine S.ld5 (j := 8) rfl rfl (cond_d (fun hlt => ?_) (fun hge => ?_))
  · have hlt : (i : Int) < ((st.n : Nat) : Int) := hlt
    have hos := opC26s i
    have hol := opC26_le (i := i) (by omega)
    have hb0 := S.lt 5 rfl
    obtain ⟨qa, y, hq, hy, hc, hr, hGq, hqb⟩ := Ty.nth (LIn.rd_mono (G' := fun k => k < w.heap.size) (fun k _ hk => hk) hs) (i := (i : Int)) (by omega) hlt (by decide)
    have hsz : w.heap.size ≤ w5.heap.size := S.ext.size
    refine S.reg fun D hD hkeep S' U => ?_
    refine ⟨hD _ hb0, S'.la5 rfl ⟨hD _ hb0, S'.ld5 (j := 8) rfl rfl ⟨⟨by omega, hlt⟩, qa, hq, by rw [add_block]; exact hD _ (by omega), y, (S'.ext.cells hc).get (j := 0) rfl, ?_⟩⟩⟩
    refine (right26_c (g := g) (f := f) (z := z) (lba := y) (st := ⟨st.a, st.n, st.c⟩)).mono ?_
    rintro ⟨(r : Bool), ⟨⟩⟩ w6 ⟨h6, x6⟩
    dsimp only at h6 ⊢
    have S := S'.stepE x6
    refine ⟨hkeep _ (U.stepE x6).fr, cond_of (fun hr => ?_) (fun hr => ?_)⟩
    · have S : Sep NoB w w6 ([boxSt sp pp pm g t, mapE pm t.X, polE pp p q g t.O, ledE q t.L, chipE p t.C] ++ [BoxA b1 108 (casV26 g f z ⟨st.a, st.n, st.c⟩)]) := S
      refine Sep.regC [boxSt sp pp pm g t, mapE pm t.X, polE pp p q g t.O, ledE q t.L, chipE p t.C] S fun G D hG T S hDt hDo hkeep back => ?_
      have T : Sep G w6.drew w6.drew (stS sp pp pm p q g t []) := T
      have hb := hDt 0 _ _ _ rfl
      have hDq := hDo _ hGq (fun x => x)
      refine ⟨hb, S.lb5 (o := 0) rfl ⟨hb, S.ld5 (j := 8) rfl rfl ⟨⟨by omega, hlt⟩, qa, hq, by rw [add_block]; exact hDq, y, (S.ext.cells hc).get (j := 0) rfl, ?_⟩⟩⟩
      refine (write26_c (lba := y) (k := (i : Int)) ht (by omega) T).mono ?_
      rintro ⟨(r : Int), ⟨⟩⟩ w7 ⟨h7, T⟩
      dsimp only at h7 T ⊢
      have hD2 := ht.do26 y (i : Int) (by omega)
      have o2 := hD2.o2
      have o3 : (nxtS t (hd26 y)).1.C.ops = t.C.ops := rfl
      exact ⟨hkeep _ T.fr, Rng.i64 (by omega) (by omega), ⟨i + 1, _, by push_cast; rfl, by omega, hD2.i, by omega, RSt.trans hrs (RS.do26 g t y (i : Int)), back _ _ T⟩, by omega⟩
    · exact ⟨Rng.i64 (by omega) (by omega), ⟨i + 1, t, by push_cast; rfl, by omega, ht, by omega, hrs, S⟩, by omega⟩
  clear hge
  have hE : ErI (nG g) t.C t.L := (s00_E (X := X) hL.R).go hrs
  have hnG : ((nG g : Nat) : Int) = g.b - 4 := by have := ht.pi.nn; exact this
  refine (Erases26_c ht S).mono ?_
  rintro ⟨⟨ea, en, ec⟩, ⟨⟩⟩ w20 ⟨h20, S⟩
  dsimp only at h20 S ⊢
  subst h20
  refine S.ld6 (j := 0) rfl rfl ⟨Rng.i64 (by omega) (by omega), cond_f (by rw [hnG]; simp) ?_⟩
  have S1 : Sep NoB w w20 (stS sp pp pm p q g t (OwnA 3 1 ea (nG g) ec ((erLs t.L).map (Value.int .i64)) :: [BoxA b1 108 (casV26 g f z ⟨st.a, st.n, st.c⟩)])) := S.fro [1, 1, 1, 1, 1] rfl
  refine (Unlike26_c (wear := wear) ht S1).mono ?_
  rintro ⟨(r : Bool), ⟨⟩⟩ w21 ⟨h21, x21⟩
  dsimp only at h21 ⊢
  subst h21
  have S := S.stepE x21
  have S1 := S1.stepE x21
  refine cond_d (fun hw => ?_) (fun hw => ?_)
  · have hw : 1 ≤ wear := hw
    refine (blocks26_c ht S1).mono ?_
    rintro ⟨⟨ba, bn, bc⟩, ⟨⟩⟩ w22 ⟨h22, S2⟩
    dsimp only at h22 S2 ⊢
    subst h22
    have hln := ht.ln
    have S2' := S2
    rw [← hln] at S2'
    have hdf := Differ26_c (L := t.L) (a := ba) (c := bc) ht.len6 ht.er2 S2'
    rw [hln] at hdf
    refine hdf.mono ?_
    rintro ⟨(r : Int), ⟨⟩⟩ w23 ⟨h23, x23⟩
    dsimp only at h23 ⊢
    subst h23
    have S : Sep NoB w w23 (OwnA 3 1 ea (nG g) ec ((erLs t.L).map (Value.int .i64)) :: stS sp pp pm p q g t [BoxA b1 108 (casV26 g f z ⟨st.a, st.n, st.c⟩)]) := ((S2.stepE x23).tail.fro [5] rfl)
    refine cond_f (by unfold unlB; rw [decide_eq_true hw, Bool.true_and]; simp) ?_
    refine Loop1 (fun (v : Int × Unit) w' => ∃ i : Nat, v.1 = (i : Int) ∧ i ≤ nG g ∧ Sep NoB w w' (OwnA 3 1 ea (nG g) ec ((erLs t.L).map (Value.int .i64)) :: stS sp pp pm p q g t [BoxA b1 108 (casV26 g f z ⟨st.a, st.n, st.c⟩)])) (fun (v : Int × Unit) _ => (((nG g : Nat) : Int) - v.1).toNat) ⟨0, rfl, Nat.zero_le _, S⟩ ?_
    clear S
    rintro ⟨(v : Int), ⟨⟩⟩ w30 ⟨i, hv, hi, S⟩
    dsimp only at hv
    subst hv
    refine cond_d (fun hlt => ?_) (fun hge => ?_)
    · have hlt : (i : Int) < ((nG g : Nat) : Int) := hlt
      refine S.reg fun D hD hkeep S' U => ?_
      have hI := S.ints 0 rfl
      refine hI.idxD (Ext.drew w30) (by omega) hlt hD ?_
      refine ⟨Rng.i64 (by omega) (by omega), ?_⟩
      refine (Erases_e (n := 4 + (i : Int)) ht.pi.ok (S'.fro [5] rfl)).mono ?_
      rintro ⟨(r : Int), ⟨⟩⟩ w31 ⟨h31, x31⟩
      dsimp only at h31 ⊢
      have U := U.stepE x31
      have he := hE.er i (by omega)
      have hin : 0 ≤ 4 + (i : Int) ∧ 4 + (i : Int) < t.C.g.b := by have := hE.gb; omega
      have e1 : (erLs t.L).getD (i : Int).toNat 0 = r := by
        rw [h31, Int.toNat_natCast]
        unfold erasesC
        rw [if_pos hin, ← he]
        unfold erLs
        rw [List.getD_eq_getElem?_getD, List.getElem?_map]
        show (Option.map _ t.L[i]?).getD 0 = (t.L.getD i default).er
        rw [List.getD_eq_getElem?_getD, List.getElem?_eq_getElem (by rw [ht.ln]; omega)]
        rfl
      rw [e1]
      exact ⟨hkeep _ U.fr, cond_f (by simp) ⟨Rng.i64 (by omega) (by omega), ⟨i + 1, by push_cast; rfl, by omega, S'.stepE x31⟩, by omega⟩⟩
    refine lvlNil26_c.mono ?_
    rintro ⟨(r : Int), ⟨⟩⟩ w32 ⟨h32, rfl⟩
    dsimp only at h32 ⊢
    subst h32
    refine cond_t rfl ?_
    refine unlNil26_c.mono ?_
    rintro ⟨(r : Bool), ⟨⟩⟩ w33 ⟨h33, x33⟩
    dsimp only at h33 ⊢
    subst h33
    refine cond_t rfl ?_
    refine eraNil26_c.mono ?_
    rintro ⟨⟨ra, rn, rc⟩, ⟨⟩⟩ w34 ⟨h34, rfl⟩
    dsimp only at h34 ⊢
    subst h34
    refine cond_t rfl ?_
    exact awake26_c.mono fun r w9 ⟨h9, x9⟩ => ⟨h9, (S.ext.trans x33).trans x9⟩
  · have hw : ¬ 1 ≤ wear := hw
    refine cond_f (by unfold unlB; rw [decide_eq_false hw, Bool.false_and]; rfl) ?_
    refine Loop1 (fun (v : Int × Unit) w' => ∃ i : Nat, v.1 = (i : Int) ∧ i ≤ nG g ∧ Sep NoB w w' (OwnA 3 1 ea (nG g) ec ((erLs t.L).map (Value.int .i64)) :: stS sp pp pm p q g t [BoxA b1 108 (casV26 g f z ⟨st.a, st.n, st.c⟩)])) (fun (v : Int × Unit) _ => (((nG g : Nat) : Int) - v.1).toNat) ⟨0, rfl, Nat.zero_le _, S⟩ ?_
    clear S
    rintro ⟨(v : Int), ⟨⟩⟩ w30 ⟨i, hv, hi, S⟩
    dsimp only at hv
    subst hv
    refine cond_d (fun hlt => ?_) (fun hge => ?_)
    · have hlt : (i : Int) < ((nG g : Nat) : Int) := hlt
      refine S.reg fun D hD hkeep S' U => ?_
      have hI := S.ints 0 rfl
      refine hI.idxD (Ext.drew w30) (by omega) hlt hD ?_
      refine ⟨Rng.i64 (by omega) (by omega), ?_⟩
      refine (Erases_e (n := 4 + (i : Int)) ht.pi.ok (S'.fro [5] rfl)).mono ?_
      rintro ⟨(r : Int), ⟨⟩⟩ w31 ⟨h31, x31⟩
      dsimp only at h31 ⊢
      have U := U.stepE x31
      have he := hE.er i (by omega)
      have hin : 0 ≤ 4 + (i : Int) ∧ 4 + (i : Int) < t.C.g.b := by have := hE.gb; omega
      have e1 : (erLs t.L).getD (i : Int).toNat 0 = r := by
        rw [h31, Int.toNat_natCast]
        unfold erasesC
        rw [if_pos hin, ← he]
        unfold erLs
        rw [List.getD_eq_getElem?_getD, List.getElem?_map]
        show (Option.map _ t.L[i]?).getD 0 = (t.L.getD i default).er
        rw [List.getD_eq_getElem?_getD, List.getElem?_eq_getElem (by rw [ht.ln]; omega)]
        rfl
      rw [e1]
      exact ⟨hkeep _ U.fr, cond_f (by simp) ⟨Rng.i64 (by omega) (by omega), ⟨i + 1, by push_cast; rfl, by omega, S'.stepE x31⟩, by omega⟩⟩
    refine lvlNil26_c.mono ?_
    rintro ⟨(r : Int), ⟨⟩⟩ w32 ⟨h32, rfl⟩
    dsimp only at h32 ⊢
    subst h32
    refine cond_t rfl ?_
    refine unlNil26_c.mono ?_
    rintro ⟨(r : Bool), ⟨⟩⟩ w33 ⟨h33, x33⟩
    dsimp only at h33 ⊢
    subst h33
    refine cond_t rfl ?_
    refine eraNil26_c.mono ?_
    rintro ⟨⟨ra, rn, rc⟩, ⟨⟩⟩ w34 ⟨h34, rfl⟩
    dsimp only at h34 ⊢
    subst h34
    refine cond_t rfl ?_
    exact awake26_c.mono fun r w9 ⟨h9, x9⟩ => ⟨h9, (S.ext.trans x33).trans x9⟩
abbrev TCs26 : Ty := .cons TGeo (.cons LF (.cons (.int .i64) (.cons LIn .nil)))
theorem ReclaimTells_of {w : World} {x : TCs26.T} {wear : Int} (g0 : TCs26.ok w x) (g1 : Rng .i64 wear) :
    CallV Tryz.prog 8 #[.agg (TCs26.vs x).toArray, .int .i64 wear] w [.one .bool] fun r w' => r.1 = true ∧ Ext w w' := by
  obtain ⟨⟨b, p, s, sp, wr, ro, ⟨⟩⟩, f, z, l, ⟨⟩⟩ := x
  exact ReclaimTells_law (g := ⟨b, p, s, sp, wr, ro⟩) (f := f) (st := l) (z := z) (LF.rd_of g0.2.1) (LIn.rd_of g0.2.2.2.1)
end Go.Proofs.YtbaojfchlhlaeaaGreat.Vc
