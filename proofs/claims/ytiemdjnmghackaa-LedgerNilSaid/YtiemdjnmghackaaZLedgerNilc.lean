/- Texts in one: The contracts of layer 21 (ledger): new ones, and what a ledger tells. The contracts of layer 21: what the document's ledger tells. The contracts of layer 21: the document's spread; does the program answer at all? The plans of functions as plain statements, printed by wip/tools/vcgen.py; the kernel holds each to the code. The law LedgerTells of layer 21: each call gives true, and what it read stays. The plans of functions as plain statements, printed by wip/tools/vcgen.py; the kernel holds each to the code. The law LedgerNil of layer 21: each call gives true, and what it read stays. -/
import Derived.KernelRfl
import Derived.Test.YtiemdjnmghackaaZLedgerNilb

/-! The contracts of layer 21 (ledger): new ones, and what a ledger tells. -/
namespace Go.Proofs.Ytiemdjnmghackaa.Vc
open Go Go.Eng Go.RowKit
set_option linter.unusedVariables false
set_option linter.unusedSimpArgs false

theorem bvs_rep (i : Nat) : bvs (List.replicate (i + 1) Blk.new) = bvs (List.replicate i Blk.new) ++ Blk.new.vs := by
  rw [List.replicate_succ', bvs, List.flatMap_append]
  simp
theorem New21_c {w : World} {n : Int} (h : 0 ≤ n ∧ n ≤ 64) : CallV Try.prog 10 #[.int .i64 n] w [.one .ptr, .one (.int .i64)] fun r w' =>
    r.2.1 = (0 : Int) ∧ ∃ p a c, r.1 = some (⟨p, 0, none⟩ : Addr) ∧ Sep NoB w w' (LedP p a n.toNat c (List.replicate n.toNat Blk.new)) := by
  apply ledger_New.vc
  unfold ledger_New.P
  refine cond_d (fun k => absurd k (by omega)) fun _ => cond_d (fun k => absurd k (by omega)) fun _ => ?_
  have S := Sep.start NoB w
  refine S.newB fun b1 w1 S f1 _ => ?_
  have S := (S.nilOwn 48 9).sel [1, 0] rfl
  refine Loop1 (fun (v : Int × Unit) w' => ∃ (i : Nat) (a : Option Addr) (c : Nat), v.1 = (i : Int) ∧ (i : Int) ≤ n ∧ Sep NoB w w' (LedP b1 a i c (List.replicate i Blk.new))) (fun (v : Int × Unit) _ => (n - v.1).toNat) ⟨0, none, 0, rfl, by omega, S⟩ ?_
  rintro ⟨(z : Int), ⟨⟩⟩ w4 ⟨i, a, c, hz, hi, S⟩
  dsimp only at hz ⊢
  subst hz
  refine cond_d (fun hlt => ?_) (fun hge => ?_)
  · refine S.ld0 rfl rfl ?_
    refine S.newB fun b7 w8 S f8 _ => ?_
    dsimp only
    refine AppS.of (news := Blk.new.vs) rfl (.inr ⟨_, rfl, S.cells 0 rfl⟩) ?_
    refine S.ap2 (by rfl) (vs_one _) (by omega) (by omega) fun a9 c11 w12 S f12 => ?_
    refine S.st1 (by rfl) fun w14 S f14 => ?_
    refine ⟨Rng.i64 (by omega) (by omega), ⟨i + 1, a9, c11, by push_cast; rfl, by omega, ?_⟩, by omega⟩
    show Sep NoB w w14 [_, OwnA _ 9 a9 (i + 1) c11 (bvs (List.replicate (i + 1) Blk.new))]
    rw [bvs_rep]
    exact S.tail
  · have : n.toNat = i := by omega
    rw [this]
    exact ⟨rfl, b1, a, c, rfl, S⟩
theorem rNew21_c {w : World} {n : Int} (h : 0 ≤ n ∧ n ≤ 64) : CallV Try.prog 11 #[.int .i64 n] w [.one .sl] fun r w' =>
    r.1.n = n.toNat ∧ Sep NoB w w' [LstP r.1.a n.toNat r.1.c (List.replicate n.toNat Blk.new)] := by
  apply ref21_New.vc
  unfold ref21_New.P
  have S := Sep.start NoB w
  refine S.newB fun b1 w1 S f1 _ => ?_
  have S := S.asOwn (sz := 9) (n := 0) rfl (by omega) oneAll.nil
  refine Loop1 (fun (v : SlV × Int × Unit) w' => ∃ (i : Nat), v.2.1 = (i : Int) ∧ (i : Int) ≤ n ∧ v.1.n = i ∧ Sep NoB w w' [LstP v.1.a i v.1.c (List.replicate i Blk.new)]) (fun (v : SlV × Int × Unit) _ => (n - v.2.1).toNat) ⟨0, rfl, by omega, rfl, S⟩ ?_
  rintro ⟨⟨a, m, c⟩, (z : Int), ⟨⟩⟩ w4 ⟨i, hz, hi, hm, S⟩
  dsimp only at hz hm S ⊢
  subst hz; subst hm
  refine cond_d (fun hlt => ?_) (fun hge => ?_)
  · refine S.newB fun b7 w8 S f8 _ => ?_
    refine AppS.of (news := Blk.new.vs) rfl (.inr ⟨_, rfl, S.cells 0 rfl⟩) ?_
    refine S.ap1 (by rfl) (vs_one _) (by omega) (by omega) fun a9 c11 w12 S f12 => ?_
    refine ⟨Rng.i64 (by omega) (by omega), ⟨m + 1, by push_cast; rfl, by omega, rfl, ?_⟩, by omega⟩
    show Sep NoB w w12 [OwnA _ 9 a9 (m + 1) c11 (bvs (List.replicate (m + 1) Blk.new))]
    rw [bvs_rep]
    exact S.tail
  · have : n.toNat = m := by omega
    rw [this]
    exact ⟨rfl, S⟩

/-! ### What a ledger tells -/
section
variable {E : Nat → Prop} {w0 w : World} {Rs : List Asr} {p : Nat} {e e2 : TypeId} {a : Option Addr} {n c : Nat} {L : List Blk}
theorem nthB {i : Int} (k : Nat) (S : Sep E w0 w Rs) (hk : Rs[k]? = some (OwnA e2 9 a n c (bvs L))) (h0 : 0 ≤ i) (h1 : i < (n : Int)) :
    ∃ q, a = some q ∧ CellsAt w (q.add (i.toNat * 9)) (gx L i.toNat).vs ∧ q.block < w.heap.size := by
  obtain ⟨q, x, hq, hx, hc⟩ := S.nthF (f := Blk.vs) (m := 9) k hk (fun _ => rfl) (by decide) h0 h1
  refine ⟨q, hq, ?_, ?_⟩
  · rw [show gx L i.toNat = x from getD_of hx]; exact hc
  · have := cells_lt hc; rwa [add_block] at this

theorem best_c {f1 f2 : FuncId} {cap1 cap2 : Array Value} {m : Nat → Blk → Bool} {ah : Blk → Blk → Bool} (hn : n ≤ 1000000) (hf1 : okf f1 = true) (hf2 : okf f2 = true)
    (h1 : ∀ (w' : World) (i : Nat) (x : Blk), Ext w w' → CallV Try.prog f1 ([] ++ ((([.int .i64 (i : Int), x.val] : List Value)) ++ cap1.toList)).toArray w' [.one .bool] fun r w2 => r.1 = m i x ∧ Ext w' w2)
    (h2 : ∀ (w' : World) (x y : Blk), Ext w w' → CallV Try.prog f2 ([] ++ ((([x.val, y.val] : List Value)) ++ cap2.toList)).toArray w' [.one .bool] fun r w2 => r.1 = ah x y ∧ Ext w' w2)
    (S : Sep E w0 w (BoxA p e [.slice a n c] :: OwnA e2 9 a n c (bvs L) :: Rs)) :
    CallV Try.prog 59 #[.pointer (some ⟨p, 0, none⟩), .func (.func f1) #[] cap1, .func (.func f2) #[] cap2] w [.one (.int .i64)] fun r w' => r.1 = bestT L m ah n ∧ Ext w w' := by
  apply ledger_Ledger_best.vc
  unfold ledger_Ledger_best.P
  refine (Len_c S).mono ?_
  rintro ⟨(r : Int), ⟨⟩⟩ w1 ⟨hr, rfl⟩
  dsimp only at hr ⊢
  subst hr
  refine Loop1 (fun (v : Int × Int × Unit) w' => ∃ i : Nat, v.2.1 = (i : Int) ∧ i ≤ n ∧ v.1 = bestT L m ah i ∧ Ext w1 w') (fun (v : Int × Int × Unit) _ => ((n : Int) - v.2.1).toNat) ⟨0, rfl, by omega, rfl, Ext.refl _⟩ ?_
  rintro ⟨(t : Int), (z : Int), ⟨⟩⟩ w4 ⟨i, hz, hi, ht, x4⟩
  dsimp only at hz ht ⊢
  subst hz
  have S := S.stepE x4
  refine cond_d (fun hlt => ?_) (fun hge => ⟨by rw [ht]; congr 1; omega, x4⟩)
  have tb := bestT_bd (L := L) (m := m) (ah := ah) i
  rw [← ht] at tb
  refine S.reg fun D hD hkeep S T => ?_
  have X := x4.trans (Ext.drew w4)
  obtain ⟨q, hq, hc, hb⟩ := nthB (i := (i : Int)) 1 S rfl (by omega) hlt
  rw [Int.toNat_natCast] at hc
  refine ⟨hD _ S.bl0, S.ld0 rfl rfl ⟨⟨by omega, hlt⟩, q, hq, by rw [add_block]; exact hD _ hb, (gx L i).tup, by rw [Int.toNat_natCast]; exact hc, cond_t hf1 ?_⟩⟩
  refine (h1 _ i (gx L i) X).mono ?_
  rintro ⟨(r : Bool), ⟨⟩⟩ w5 ⟨hr, x5⟩
  dsimp only at hr ⊢
  have T5 := T.stepE x5
  refine ⟨hkeep _ T5.fr, ?_⟩
  have rng : Rng .i64 ((i : Int) + 1) := Rng.i64 (by omega) (by omega)
  have no : ∀ {w' : World}, ¬ (m i (gx L i) = true ∧ (bestT L m ah i < 0 ∨ ah (gx L i) (gx L (bestT L m ah i).toNat) = true)) → Ext w1 w' → Rng .i64 ((i : Int) + 1) ∧ (∃ j : Nat, (i : Int) + 1 = (j : Int) ∧ j ≤ n ∧ t = bestT L m ah j ∧ Ext w1 w') ∧ ((n : Int) - ((i : Int) + 1)).toNat < ((n : Int) - (i : Int)).toNat :=
    fun h x => ⟨rng, ⟨i + 1, by push_cast; rfl, by omega, by show t = if _ then _ else _; rw [if_neg h]; exact ht, x⟩, by omega⟩
  have yes : ∀ {w' : World}, (m i (gx L i) = true ∧ (bestT L m ah i < 0 ∨ ah (gx L i) (gx L (bestT L m ah i).toNat) = true)) → Ext w1 w' → Rng .i64 ((i : Int) + 1) ∧ (∃ j : Nat, (i : Int) + 1 = (j : Int) ∧ j ≤ n ∧ (i : Int) = bestT L m ah j ∧ Ext w1 w') ∧ ((n : Int) - ((i : Int) + 1)).toNat < ((n : Int) - (i : Int)).toNat :=
    fun h x => ⟨rng, ⟨i + 1, by push_cast; rfl, by omega, by show (i : Int) = if _ then _ else _; rw [if_pos h], x⟩, by omega⟩
  subst hr
  refine cond_of (fun hm => ?_) (fun hm => no (fun h => by rw [h.1] at hm; cases hm) (X.trans x5))
  refine cond_d (fun h0 => yes ⟨hm, .inl (by omega)⟩ (X.trans x5)) (fun h0 => ?_)
  obtain ⟨q2, hq2, hc2, hb2⟩ := nthB (i := t) 1 S rfl (by omega) (by omega)
  rw [hq] at hq2
  cases hq2
  refine ⟨hD _ S.bl0, S.ld0 rfl rfl ⟨⟨by omega, hlt⟩, q, hq, by rw [add_block]; exact hD _ hb, (gx L i).tup, by rw [Int.toNat_natCast]; exact hc, ?_⟩⟩
  refine ⟨hD _ S.bl0, S.ld0 rfl rfl ⟨⟨by omega, by dsimp only; omega⟩, q, hq, by rw [add_block]; exact hD _ hb, (gx L t.toNat).tup, hc2, cond_t hf2 ?_⟩⟩
  refine (h2 _ (gx L i) (gx L t.toNat) (X.trans x5)).mono ?_
  rintro ⟨(r : Bool), ⟨⟩⟩ w6 ⟨hr, x6⟩
  dsimp only at hr ⊢
  subst hr
  have T6 := T5.stepE x6
  refine ⟨hkeep _ T6.fr, ?_⟩
  refine cond_of (fun ha => yes ⟨hm, .inr (by rw [← ht]; exact ha)⟩ ((X.trans x5).trans x6)) (fun ha => no (fun h => ?_) ((X.trans x5).trans x6))
  rcases h.2 with k | k
  · omega
  · rw [← ht] at k
    rw [k] at ha
    cases ha

theorem many_c {f1 : FuncId} {cap1 : Array Value} {m : Blk → Bool} (hn : n ≤ 1000000) (hf1 : okf f1 = true)
    (h1 : ∀ (w' : World) (x : Blk), Ext w w' → CallV Try.prog f1 ([] ++ ((([x.val] : List Value)) ++ cap1.toList)).toArray w' [.one .bool] fun r w2 => r.1 = m x ∧ Ext w' w2)
    (S : Sep E w0 w (BoxA p e [.slice a n c] :: OwnA e2 9 a n c (bvs L) :: Rs)) :
    CallV Try.prog 67 #[.pointer (some ⟨p, 0, none⟩), .func (.func f1) #[] cap1] w [.one (.int .i64)] fun r w' => r.1 = manyT L m n ∧ Ext w w' := by
  apply ledger_Ledger_many.vc
  unfold ledger_Ledger_many.P
  refine (Len_c S).mono ?_
  rintro ⟨(r : Int), ⟨⟩⟩ w1 ⟨hr, rfl⟩
  dsimp only at hr ⊢
  subst hr
  refine Loop1 (fun (v : Int × Int × Unit) w' => ∃ i : Nat, v.2.1 = (i : Int) ∧ i ≤ n ∧ v.1 = manyT L m i ∧ Ext w1 w') (fun (v : Int × Int × Unit) _ => ((n : Int) - v.2.1).toNat) ⟨0, rfl, by omega, rfl, Ext.refl _⟩ ?_
  rintro ⟨(t : Int), (z : Int), ⟨⟩⟩ w4 ⟨i, hz, hi, ht, x4⟩
  dsimp only at hz ht ⊢
  subst hz
  have S := S.stepE x4
  refine cond_d (fun hlt => ?_) (fun hge => ⟨by rw [ht]; congr 1; omega, x4⟩)
  have tb := manyT_bd (L := L) (m := m) i
  rw [← ht] at tb
  obtain ⟨q, hq, hc, hb⟩ := nthB (i := (i : Int)) 1 S rfl (by omega) hlt
  rw [Int.toNat_natCast] at hc
  refine S.ld0 rfl rfl ⟨⟨by omega, hlt⟩, q, hq, (gx L i).tup, by rw [Int.toNat_natCast]; exact hc, cond_t hf1 ?_⟩
  refine (h1 _ (gx L i) x4).mono ?_
  rintro ⟨(r : Bool), ⟨⟩⟩ w5 ⟨hr, x5⟩
  dsimp only at hr ⊢
  subst hr
  refine cond_of (fun hm => ?_) (fun hm => ?_)
  · exact ⟨Rng.i64 (by omega) (by omega), Rng.i64 (by omega) (by omega), ⟨i + 1, by push_cast; rfl, by omega, by show t + 1 = if _ then _ else _; rw [if_pos hm, ht], x4.trans x5⟩, by omega⟩
  · exact ⟨Rng.i64 (by omega) (by omega), ⟨i + 1, by push_cast; rfl, by omega, by show t = if _ then _ else _; rw [if_neg (by rw [hm]; simp), ht], x4.trans x5⟩, by omega⟩
end

/-! ### Which blocks are meant -/
def freeB (x : Blk) : Bool := !x.he && !x.ba
def ownB (ns : Int) (x : Blk) : Bool := x.he && !x.ba && x.ow == ns
section
variable {w : World} {x y : Blk}
theorem Free_c : CallV Try.prog 27 #[x.val] w [.one .bool] fun r w' => r.1 = freeB x ∧ Ext w w' := by
  apply ledger_Free.vc
  unfold ledger_Free.P
  have S := Sep.start NoB w
  refine S.newB fun b1 w1 S f1 _ => ?_
  refine S.ld0 rfl rfl (cond_of (fun h => S.ld0 rfl rfl ⟨?_, S.ext⟩) fun h => ⟨?_, S.ext⟩)
  · show (!x.ba) = (!x.he && !x.ba); rw [h]; rfl
  · show false = (!x.he && !x.ba); rw [h]; rfl
theorem own21_c {ns : Int} : CallV Try.prog 63 #[x.val, .int .i64 ns] w [.one .bool] fun r w' => r.1 = ownB ns x ∧ Ext w w' := by
  apply ledger_own.vc
  unfold ledger_own.P
  have S := Sep.start NoB w
  refine S.newB fun b1 w1 S f1 _ => ?_
  refine S.ld0 rfl rfl (cond_of (fun h => S.ld0 rfl rfl (cond_of (fun h2 => S.ld0 rfl rfl ⟨?_, S.ext⟩) fun h2 => ⟨?_, S.ext⟩)) fun h => ⟨?_, S.ext⟩)
  · show (x.ow == ns) = (x.he && !x.ba && x.ow == ns); rw [h, h2]; rfl
  · show false = (x.he && !x.ba && x.ow == ns); rw [h, h2]; rfl
  · show false = (x.he && !x.ba && x.ow == ns); rw [h]; rfl
theorem less21_c : CallV Try.prog 61 #[x.val, y.val] w [.one .bool] fun r w' => r.1 = decide (x.er < y.er) ∧ Ext w w' := by
  apply ledger_less.vc
  unfold ledger_less.P
  have S := Sep.start NoB w
  (repeat ((first | refine S.newB fun _ _ S f _ => ?_ | refine S.la0 rfl ?_ | refine S.la1 rfl ?_ | refine S.la2 rfl ?_ | refine S.la3 rfl ?_ | refine S.la4 rfl ?_ | refine S.la5 rfl ?_ | refine S.ld0 rfl rfl ?_ | refine S.ld1 rfl rfl ?_ | refine S.ld2 rfl rfl ?_ | refine S.ld3 rfl rfl ?_ | refine S.ld4 rfl rfl ?_ | refine S.ld5 rfl rfl ?_ | refine S.st0 (by rfl) fun _ S f => ?_ | refine S.st1 (by rfl) fun _ S f => ?_ | refine S.st2 (by rfl) fun _ S f => ?_ | refine S.st3 (by rfl) fun _ S f => ?_ | refine S.st4 (by rfl) fun _ S f => ?_ | refine S.st5 (by rfl) fun _ S f => ?_ | refine S.su0 (by rfl) fun _ S f => ?_ | refine S.su1 (by rfl) fun _ S f => ?_ | refine S.su2 (by rfl) fun _ S f => ?_ | refine S.su3 (by rfl) fun _ S f => ?_ | refine S.su4 (by rfl) fun _ S f => ?_ | refine S.su5 (by rfl) fun _ S f => ?_ | refine ⟨by decide, ?_⟩); try dsimp only [List.set_cons_zero, List.set_cons_succ, cond_true, cond_false, Bool.not_true, Bool.not_false]))
  exact ⟨rfl, S.ext⟩
theorem Pick1_c {i : Int} : CallV Try.prog 60 #[.int .i64 i, x.val] w [.one .bool] fun r w' => r.1 = freeB x ∧ Ext w w' := by
  apply ledger_Ledger_Pick_1.vc
  unfold ledger_Ledger_Pick_1.P
  have S := Sep.start NoB w
  (repeat ((first | refine S.newB fun _ _ S f _ => ?_ | refine S.la0 rfl ?_ | refine S.la1 rfl ?_ | refine S.la2 rfl ?_ | refine S.la3 rfl ?_ | refine S.la4 rfl ?_ | refine S.la5 rfl ?_ | refine S.ld0 rfl rfl ?_ | refine S.ld1 rfl rfl ?_ | refine S.ld2 rfl rfl ?_ | refine S.ld3 rfl rfl ?_ | refine S.ld4 rfl rfl ?_ | refine S.ld5 rfl rfl ?_ | refine S.st0 (by rfl) fun _ S f => ?_ | refine S.st1 (by rfl) fun _ S f => ?_ | refine S.st2 (by rfl) fun _ S f => ?_ | refine S.st3 (by rfl) fun _ S f => ?_ | refine S.st4 (by rfl) fun _ S f => ?_ | refine S.st5 (by rfl) fun _ S f => ?_ | refine S.su0 (by rfl) fun _ S f => ?_ | refine S.su1 (by rfl) fun _ S f => ?_ | refine S.su2 (by rfl) fun _ S f => ?_ | refine S.su3 (by rfl) fun _ S f => ?_ | refine S.su4 (by rfl) fun _ S f => ?_ | refine S.su5 (by rfl) fun _ S f => ?_ | refine ⟨by decide, ?_⟩); try dsimp only [List.set_cons_zero, List.set_cons_succ, cond_true, cond_false, Bool.not_true, Bool.not_false]))
  refine (Free_c (x := x)).mono ?_
  rintro ⟨(r : Bool), ⟨⟩⟩ w1 ⟨h, x1⟩
  exact ⟨h, S.ext.trans x1⟩
theorem Victim1_c {E : Nat → Prop} {w0 : World} {Rs : List Asr} {i bu ns : Int} {q0 q1 : Nat} {e0 e1 : TypeId} (S0 : Sep E w0 w (BoxA q0 e0 [.int .i64 bu] :: BoxA q1 e1 [.int .i64 ns] :: Rs)) :
    CallV Try.prog 62 #[.int .i64 i, x.val, .pointer (some ⟨q0, 0, none⟩), .pointer (some ⟨q1, 0, none⟩)] w [.one .bool] fun r w' => r.1 = (decide (i ≠ bu) && ownB ns x) ∧ Ext w w' := by
  apply ledger_Ledger_Victim_1.vc
  unfold ledger_Ledger_Victim_1.P
  have S := Sep.start NoB w
  refine S.newB fun b1 w1 S f1 _ => ?_
  have S0 := S0.stepE S.ext
  refine S0.ld0 rfl rfl (cond_ne (fun h => S.la0 rfl (S0.ld1 rfl rfl ?_)) fun h => ⟨by rw [decide_eq_false (fun k => k h)]; rfl, S.ext⟩)
  refine (own21_c (x := x)).mono ?_
  rintro ⟨(r : Bool), ⟨⟩⟩ w2 ⟨h2, x2⟩
  exact ⟨by rw [decide_eq_true h]; exact h2, S.ext.trans x2⟩
theorem Victim2_c : CallV Try.prog 64 #[x.val, y.val] w [.one .bool] fun r w' => r.1 = decide (x.li < y.li) ∧ Ext w w' := by
  apply ledger_Ledger_Victim_2.vc
  unfold ledger_Ledger_Victim_2.P
  have S := Sep.start NoB w
  (repeat ((first | refine S.newB fun _ _ S f _ => ?_ | refine S.la0 rfl ?_ | refine S.la1 rfl ?_ | refine S.la2 rfl ?_ | refine S.la3 rfl ?_ | refine S.la4 rfl ?_ | refine S.la5 rfl ?_ | refine S.ld0 rfl rfl ?_ | refine S.ld1 rfl rfl ?_ | refine S.ld2 rfl rfl ?_ | refine S.ld3 rfl rfl ?_ | refine S.ld4 rfl rfl ?_ | refine S.ld5 rfl rfl ?_ | refine S.st0 (by rfl) fun _ S f => ?_ | refine S.st1 (by rfl) fun _ S f => ?_ | refine S.st2 (by rfl) fun _ S f => ?_ | refine S.st3 (by rfl) fun _ S f => ?_ | refine S.st4 (by rfl) fun _ S f => ?_ | refine S.st5 (by rfl) fun _ S f => ?_ | refine S.su0 (by rfl) fun _ S f => ?_ | refine S.su1 (by rfl) fun _ S f => ?_ | refine S.su2 (by rfl) fun _ S f => ?_ | refine S.su3 (by rfl) fun _ S f => ?_ | refine S.su4 (by rfl) fun _ S f => ?_ | refine S.su5 (by rfl) fun _ S f => ?_ | refine ⟨by decide, ?_⟩); try dsimp only [List.set_cons_zero, List.set_cons_succ, cond_true, cond_false, Bool.not_true, Bool.not_false]))
  exact ⟨rfl, S.ext⟩
theorem Held1_c {E : Nat → Prop} {w0 : World} {Rs : List Asr} {ns : Int} {q1 : Nat} {e1 : TypeId} (S0 : Sep E w0 w (BoxA q1 e1 [.int .i64 ns] :: Rs)) :
    CallV Try.prog 68 #[x.val, .pointer (some ⟨q1, 0, none⟩)] w [.one .bool] fun r w' => r.1 = ownB ns x ∧ Ext w w' := by
  apply ledger_Ledger_Held_1.vc
  unfold ledger_Ledger_Held_1.P
  have S := Sep.start NoB w
  refine S.newB fun b1 w1 S f1 _ => ?_
  have S0 := S0.stepE S.ext
  refine S.la0 rfl (S0.ld0 rfl rfl ?_)
  refine (own21_c (x := x)).mono ?_
  rintro ⟨(r : Bool), ⟨⟩⟩ w2 ⟨h2, x2⟩
  exact ⟨h2, S.ext.trans x2⟩
theorem Bads1_c : CallV Try.prog 69 #[x.val] w [.one .bool] fun r w' => r.1 = x.ba ∧ Ext w w' := by
  apply ledger_Ledger_Bads_1.vc
  unfold ledger_Ledger_Bads_1.P
  have S := Sep.start NoB w
  (repeat ((first | refine S.newB fun _ _ S f _ => ?_ | refine S.la0 rfl ?_ | refine S.la1 rfl ?_ | refine S.la2 rfl ?_ | refine S.la3 rfl ?_ | refine S.la4 rfl ?_ | refine S.la5 rfl ?_ | refine S.ld0 rfl rfl ?_ | refine S.ld1 rfl rfl ?_ | refine S.ld2 rfl rfl ?_ | refine S.ld3 rfl rfl ?_ | refine S.ld4 rfl rfl ?_ | refine S.ld5 rfl rfl ?_ | refine S.st0 (by rfl) fun _ S f => ?_ | refine S.st1 (by rfl) fun _ S f => ?_ | refine S.st2 (by rfl) fun _ S f => ?_ | refine S.st3 (by rfl) fun _ S f => ?_ | refine S.st4 (by rfl) fun _ S f => ?_ | refine S.st5 (by rfl) fun _ S f => ?_ | refine S.su0 (by rfl) fun _ S f => ?_ | refine S.su1 (by rfl) fun _ S f => ?_ | refine S.su2 (by rfl) fun _ S f => ?_ | refine S.su3 (by rfl) fun _ S f => ?_ | refine S.su4 (by rfl) fun _ S f => ?_ | refine S.su5 (by rfl) fun _ S f => ?_ | refine ⟨by decide, ?_⟩); try dsimp only [List.set_cons_zero, List.set_cons_succ, cond_true, cond_false, Bool.not_true, Bool.not_false]))
  exact ⟨rfl, S.ext⟩
theorem Spread1_c {i : Int} : CallV Try.prog 65 #[.int .i64 i, x.val] w [.one .bool] fun r w' => r.1 = (!x.ba) ∧ Ext w w' := by
  apply ledger_Ledger_Spread_1.vc
  unfold ledger_Ledger_Spread_1.P
  have S := Sep.start NoB w
  (repeat ((first | refine S.newB fun _ _ S f _ => ?_ | refine S.la0 rfl ?_ | refine S.la1 rfl ?_ | refine S.la2 rfl ?_ | refine S.la3 rfl ?_ | refine S.la4 rfl ?_ | refine S.la5 rfl ?_ | refine S.ld0 rfl rfl ?_ | refine S.ld1 rfl rfl ?_ | refine S.ld2 rfl rfl ?_ | refine S.ld3 rfl rfl ?_ | refine S.ld4 rfl rfl ?_ | refine S.ld5 rfl rfl ?_ | refine S.st0 (by rfl) fun _ S f => ?_ | refine S.st1 (by rfl) fun _ S f => ?_ | refine S.st2 (by rfl) fun _ S f => ?_ | refine S.st3 (by rfl) fun _ S f => ?_ | refine S.st4 (by rfl) fun _ S f => ?_ | refine S.st5 (by rfl) fun _ S f => ?_ | refine S.su0 (by rfl) fun _ S f => ?_ | refine S.su1 (by rfl) fun _ S f => ?_ | refine S.su2 (by rfl) fun _ S f => ?_ | refine S.su3 (by rfl) fun _ S f => ?_ | refine S.su4 (by rfl) fun _ S f => ?_ | refine S.su5 (by rfl) fun _ S f => ?_ | refine ⟨by decide, ?_⟩); try dsimp only [List.set_cons_zero, List.set_cons_succ, cond_true, cond_false, Bool.not_true, Bool.not_false]))
  exact ⟨rfl, S.ext⟩
theorem Spread2_c : CallV Try.prog 66 #[x.val, y.val] w [.one .bool] fun r w' => r.1 = decide (y.er < x.er) ∧ Ext w w' := by
  apply ledger_Ledger_Spread_2.vc
  unfold ledger_Ledger_Spread_2.P
  have S := Sep.start NoB w
  (repeat ((first | refine S.newB fun _ _ S f _ => ?_ | refine S.la0 rfl ?_ | refine S.la1 rfl ?_ | refine S.la2 rfl ?_ | refine S.la3 rfl ?_ | refine S.la4 rfl ?_ | refine S.la5 rfl ?_ | refine S.ld0 rfl rfl ?_ | refine S.ld1 rfl rfl ?_ | refine S.ld2 rfl rfl ?_ | refine S.ld3 rfl rfl ?_ | refine S.ld4 rfl rfl ?_ | refine S.ld5 rfl rfl ?_ | refine S.st0 (by rfl) fun _ S f => ?_ | refine S.st1 (by rfl) fun _ S f => ?_ | refine S.st2 (by rfl) fun _ S f => ?_ | refine S.st3 (by rfl) fun _ S f => ?_ | refine S.st4 (by rfl) fun _ S f => ?_ | refine S.st5 (by rfl) fun _ S f => ?_ | refine S.su0 (by rfl) fun _ S f => ?_ | refine S.su1 (by rfl) fun _ S f => ?_ | refine S.su2 (by rfl) fun _ S f => ?_ | refine S.su3 (by rfl) fun _ S f => ?_ | refine S.su4 (by rfl) fun _ S f => ?_ | refine S.su5 (by rfl) fun _ S f => ?_ | refine ⟨by decide, ?_⟩); try dsimp only [List.set_cons_zero, List.set_cons_succ, cond_true, cond_false, Bool.not_true, Bool.not_false]))
  refine (less21_c (x := y) (y := x)).mono ?_
  rintro ⟨(r : Bool), ⟨⟩⟩ w2 ⟨h2, x2⟩
  exact ⟨h2, S.ext.trans x2⟩
def leakB (ns : Int) (x : Blk) : Bool := x.le && (x.ow == ns || x.ow == -1)
theorem Leaks1_c {E : Nat → Prop} {w0 : World} {Rs : List Asr} {ns : Int} {q1 : Nat} {e1 : TypeId} (S0 : Sep E w0 w (BoxA q1 e1 [.int .i64 ns] :: Rs)) :
    CallV Try.prog 70 #[x.val, .pointer (some ⟨q1, 0, none⟩)] w [.one .bool] fun r w' => r.1 = leakB ns x ∧ Ext w w' := by
  apply ledger_Ledger_Leaks_1.vc
  unfold ledger_Ledger_Leaks_1.P
  have S := Sep.start NoB w
  refine S.newB fun b1 w1 S f1 _ => ?_
  have S0 := S0.stepE S.ext
  refine S.ld0 rfl rfl (cond_of (fun h => S.ld0 rfl rfl (S0.ld0 rfl rfl (cond_of (fun h2 => ⟨?_, S.ext⟩) fun h2 => S.ld0 rfl rfl ⟨?_, S.ext⟩))) fun h => ⟨?_, S.ext⟩)
  · show true = (x.le && (x.ow == ns || x.ow == -1)); rw [h, h2]; rfl
  · show (x.ow == -1) = (x.le && (x.ow == ns || x.ow == -1)); rw [h, h2]; rfl
  · show false = (x.le && (x.ow == ns || x.ow == -1)); rw [h]; rfl
end

/-! ### The questions -/
section
variable {E : Nat → Prop} {w0 w : World} {Rs : List Asr} {p : Nat} {e e2 : TypeId} {a : Option Addr} {n c : Nat} {L : List Blk}
def pickT (L : List Blk) (n : Nat) : Int := bestT L (fun _ x => freeB x) (fun x y => decide (x.er < y.er)) n
def victT (L : List Blk) (ns bu : Int) (n : Nat) : Int := bestT L (fun i x => decide ((i : Int) ≠ bu) && ownB ns x) (fun x y => decide (x.li < y.li)) n
def leastT (L : List Blk) (n : Nat) : Int := bestT L (fun _ x => !x.ba) (fun x y => decide (x.er < y.er)) n
def mostT (L : List Blk) (n : Nat) : Int := bestT L (fun _ x => !x.ba) (fun x y => decide (y.er < x.er)) n
theorem Pick_c (hn : n ≤ 1000000) (S : Sep E w0 w (BoxA p e [.slice a n c] :: OwnA e2 9 a n c (bvs L) :: Rs)) :
    CallV Try.prog 15 #[.pointer (some ⟨p, 0, none⟩)] w [.one (.int .i64)] fun r w' => r.1 = pickT L n ∧ Ext w w' := by
  apply ledger_Ledger_Pick.vc
  unfold ledger_Ledger_Pick.P
  exact best_c hn (by kernel_rfl) (by kernel_rfl) (fun w' i x _ => Pick1_c) (fun w' x y _ => less21_c) S
theorem Victim_c {ns bu : Int} (hn : n ≤ 1000000) (S : Sep E w0 w (BoxA p e [.slice a n c] :: OwnA e2 9 a n c (bvs L) :: Rs)) :
    CallV Try.prog 16 #[.pointer (some ⟨p, 0, none⟩), .int .i64 ns, .int .i64 bu] w [.one (.int .i64)] fun r w' => r.1 = victT L ns bu n ∧ Ext w w' := by
  apply ledger_Ledger_Victim.vc
  unfold ledger_Ledger_Victim.P
  have T := Sep.start NoB w
  refine T.newB fun b1 w1 T f1 _ => ?_
  refine T.newB fun b3 w3 T f3 _ => ?_
  refine (best_c hn (by kernel_rfl) (by kernel_rfl) (fun w' i x x' => Victim1_c (T.stepE x')) (fun w' x y _ => Victim2_c) (S.stepE T.ext)).mono ?_
  rintro ⟨(r : Int), ⟨⟩⟩ w2 ⟨h2, x2⟩
  exact ⟨h2, T.ext.trans x2⟩
theorem Spread_c (hn : n ≤ 1000000) (S : Sep E w0 w (BoxA p e [.slice a n c] :: OwnA e2 9 a n c (bvs L) :: Rs)) :
    CallV Try.prog 17 #[.pointer (some ⟨p, 0, none⟩)] w [.one (.int .i64), .one (.int .i64)] fun r w' => r.1 = leastT L n ∧ r.2.1 = mostT L n ∧ Ext w w' := by
  apply ledger_Ledger_Spread.vc
  unfold ledger_Ledger_Spread.P
  refine (best_c hn (by kernel_rfl) (by kernel_rfl) (fun w' i x _ => Spread1_c) (fun w' x y _ => less21_c) S).mono ?_
  rintro ⟨(r : Int), ⟨⟩⟩ w1 ⟨h1, x1⟩
  refine (best_c hn (by kernel_rfl) (by kernel_rfl) (fun w' i x _ => Spread1_c) (fun w' x y _ => Spread2_c) (S.stepE x1)).mono ?_
  rintro ⟨(r : Int), ⟨⟩⟩ w2 ⟨h2, x2⟩
  exact ⟨h1, h2, x1.trans x2⟩
theorem Held21_c {ns : Int} (hn : n ≤ 1000000) (S : Sep E w0 w (BoxA p e [.slice a n c] :: OwnA e2 9 a n c (bvs L) :: Rs)) :
    CallV Try.prog 21 #[.pointer (some ⟨p, 0, none⟩), .int .i64 ns] w [.one (.int .i64)] fun r w' => r.1 = manyT L (ownB ns) n ∧ Ext w w' := by
  apply ledger_Ledger_Held.vc
  unfold ledger_Ledger_Held.P
  have T := Sep.start NoB w
  refine T.newB fun b1 w1 T f1 _ => ?_
  refine (many_c hn (by kernel_rfl) (fun w' x x' => Held1_c (T.stepE x')) (S.stepE T.ext)).mono ?_
  rintro ⟨(r : Int), ⟨⟩⟩ w2 ⟨h2, x2⟩
  exact ⟨h2, T.ext.trans x2⟩
theorem Bads_c (hn : n ≤ 1000000) (S : Sep E w0 w (BoxA p e [.slice a n c] :: OwnA e2 9 a n c (bvs L) :: Rs)) :
    CallV Try.prog 23 #[.pointer (some ⟨p, 0, none⟩)] w [.one (.int .i64)] fun r w' => r.1 = manyT L (fun x => x.ba) n ∧ Ext w w' := by
  apply ledger_Ledger_Bads.vc
  unfold ledger_Ledger_Bads.P
  exact many_c hn (by kernel_rfl) (fun w' x _ => Bads1_c) S
theorem Leaks_c {ns : Int} (hn : n ≤ 1000000) (S : Sep E w0 w (BoxA p e [.slice a n c] :: OwnA e2 9 a n c (bvs L) :: Rs)) :
    CallV Try.prog 25 #[.pointer (some ⟨p, 0, none⟩), .int .i64 ns] w [.one .bool] fun r w' => r.1 = decide (0 < manyT L (leakB ns) n) ∧ Ext w w' := by
  apply ledger_Ledger_Leaks.vc
  unfold ledger_Ledger_Leaks.P
  have T := Sep.start NoB w
  refine T.newB fun b1 w1 T f1 _ => ?_
  refine (many_c hn (by kernel_rfl) (fun w' x x' => Leaks1_c (T.stepE x')) (S.stepE T.ext)).mono ?_
  rintro ⟨(r : Int), ⟨⟩⟩ w2 ⟨h2, x2⟩
  dsimp only at h2 ⊢
  subst h2
  exact ⟨rfl, T.ext.trans x2⟩
theorem At21_c {b : Int} (S : Sep E w0 w (BoxA p e [.slice a n c] :: OwnA e2 9 a n c (bvs L) :: Rs)) (hb : 0 ≤ b ∧ b < (n : Int)) :
    CallV Try.prog 28 #[.pointer (some ⟨p, 0, none⟩), .int .i64 b] w [.agg [.int .i64, .int .i64, .int .i64, .int .i64, .bool, .bool, .bool, .bool, .bool]] fun r w' => r.1 = (gx L b.toNat).tup ∧ Ext w w' := by
  apply ledger_Ledger_At.vc
  unfold ledger_Ledger_At.P
  have T := Sep.start NoB w
  refine T.newB fun b1 w1 T f1 _ => ?_
  have S := S.stepE T.ext
  refine (has_c (b := b) S).mono ?_
  rintro ⟨(r : Bool), ⟨⟩⟩ w2 ⟨h2, rfl⟩
  dsimp only at h2 ⊢
  subst h2
  refine cond_f (by rw [decide_eq_true hb]; rfl) ?_
  obtain ⟨q, hq, hc, -⟩ := nthB (i := b) 1 S rfl hb.1 hb.2
  refine S.ld0 rfl rfl ⟨hb, q, hq, (gx L b.toNat).tup, hc, ?_⟩
  refine T.st0 (by rfl) fun w3 T f3 => T.la0 rfl ⟨rfl, T.ext⟩
end

end Go.Proofs.Ytiemdjnmghackaa.Vc

/-! The contracts of layer 21: what the document's ledger tells. -/
namespace Go.Proofs.Ytiemdjnmghackaa.Vc
open Go Go.Eng Go.RowKit
set_option linter.unusedVariables false
set_option linter.unusedSimpArgs false

section
variable {E : Nat → Prop} {w0 w : World} {Rs : List Asr} {e2 : TypeId} {a : Option Addr} {n c : Nat} {L : List Blk}
def erLe (x y : Blk) : Bool := decide (x.er ≤ y.er)
def liLe (x y : Blk) : Bool := decide (x.li ≤ y.li)
theorem rPick_c (hn : n ≤ 1000000) (S : Sep E w0 w (OwnA e2 9 a n c (bvs L) :: Rs)) :
    CallV Try.prog 19 #[.slice a n c] w [.one (.int .i64)] fun r w' => r.1 = dnT L (fun _ x => freeB x) erLe n n ∧ Ext w w' := by
  apply ref21_Pick.vc
  unfold ref21_Pick.P
  refine ⟨Rng.i64 (by omega) (by omega), ?_⟩
  refine Loop1 (fun (v : Int × Int × Unit) w' => ∃ k : Nat, k ≤ n ∧ v.2.1 = (n : Int) - 1 - k ∧ v.1 = dnT L (fun _ x => freeB x) erLe n k ∧ Ext w w') (fun (v : Int × Int × Unit) _ => (v.2.1 + 1).toNat) ⟨0, by omega, by dsimp only; omega, rfl, Ext.refl _⟩ ?_
  rintro ⟨(t : Int), (z : Int), ⟨⟩⟩ w4 ⟨k, hk, hz, ht, x4⟩
  dsimp only at hz ht ⊢
  have S := S.stepE x4
  refine cond_d (fun hlt => ?_) (fun hge => ⟨by rw [ht]; congr 1; omega, x4⟩)
  have tb := dnT_bd (L := L) (m := fun _ x => freeB x) (le := erLe) (n := n) k hk
  rw [← ht] at tb
  have hzn : z.toNat = n - 1 - k := by omega
  have no : ∀ {w' : World}, ¬ (freeB (gx L (n - 1 - k)) = true ∧ (dnT L (fun _ x => freeB x) erLe n k < 0 ∨ erLe (gx L (n - 1 - k)) (gx L (dnT L (fun _ x => freeB x) erLe n k).toNat) = true)) → Ext w w' →
      Rng .i64 (z - 1) ∧ (∃ j : Nat, j ≤ n ∧ z - 1 = (n : Int) - 1 - j ∧ t = dnT L (fun _ x => freeB x) erLe n j ∧ Ext w w') ∧ (z - 1 + 1).toNat < (z + 1).toNat :=
    fun h x => ⟨Rng.i64 (by omega) (by omega), ⟨k + 1, by omega, by push_cast; omega, by show t = if _ then _ else _; rw [if_neg h]; exact ht, x⟩, by omega⟩
  have yes : ∀ {w' : World}, (freeB (gx L (n - 1 - k)) = true ∧ (dnT L (fun _ x => freeB x) erLe n k < 0 ∨ erLe (gx L (n - 1 - k)) (gx L (dnT L (fun _ x => freeB x) erLe n k).toNat) = true)) → Ext w w' →
      Rng .i64 (z - 1) ∧ (∃ j : Nat, j ≤ n ∧ z - 1 = (n : Int) - 1 - j ∧ z = dnT L (fun _ x => freeB x) erLe n j ∧ Ext w w') ∧ (z - 1 + 1).toNat < (z + 1).toNat :=
    fun h x => ⟨Rng.i64 (by omega) (by omega), ⟨k + 1, by omega, by push_cast; omega, by show z = if _ then _ else _; rw [if_pos h]; omega, x⟩, by omega⟩
  refine S.reg fun D hD hkeep S T => ?_
  have X := x4.trans (Ext.drew w4)
  obtain ⟨q, hq, hc, hb⟩ := nthB (i := z) 0 S rfl (by omega) (by omega)
  rw [hzn] at hc
  have hbd : ∀ j, D ((q.add (z.toNat * 9)).add j).block := fun j => by rw [add_block, add_block]; exact hD _ hb
  refine ⟨⟨by omega, by omega⟩, q, hq, hbd 4, ldc (by rw [hzn]; exact hc) 4 (h := .bool) rfl (cond_of (fun h1 => ?_) fun h1 => no (fun h => ?_) X)⟩
  case refine_2 => have h := h.1; unfold freeB at h; rw [h1] at h; cases h
  refine ⟨⟨by omega, by omega⟩, q, hq, hbd 6, ldc (by rw [hzn]; exact hc) 6 (h := .bool) rfl (cond_of (fun h2 => ?_) fun h2 => no (fun h => ?_) X)⟩
  case refine_2 => have h := h.1; unfold freeB at h; rw [h1, h2] at h; cases h
  have hf : freeB (gx L (n - 1 - k)) = true := by unfold freeB; rw [h1, h2]; rfl
  refine cond_d (fun h0 => yes ⟨hf, .inl (by omega)⟩ X) (fun h0 => ?_)
  obtain ⟨q2, hq2, hc2, hb2⟩ := nthB (i := t) 0 S rfl (by omega) (by omega)
  rw [hq] at hq2
  cases hq2
  refine ⟨⟨by omega, by omega⟩, q, hq, hbd 3, ldc (by rw [hzn]; exact hc) 3 (h := .int .i64) rfl ?_⟩
  refine ⟨⟨by omega, by omega⟩, q, hq, by rw [add_block, add_block]; exact hD _ hb, ldc hc2 3 (h := .int .i64) rfl ?_⟩
  refine cond_d (fun h3 => yes ⟨hf, .inr (by rw [← ht]; exact decide_eq_true h3)⟩ X) (fun h3 => no (fun h => ?_) X)
  rcases h.2 with k | k
  · omega
  · rw [← ht] at k; exact h3 (of_decide_eq_true k)
theorem rVictim_c {ns bu : Int} (hn : n ≤ 1000000) (S : Sep E w0 w (OwnA e2 9 a n c (bvs L) :: Rs)) :
    CallV Try.prog 20 #[.slice a n c, .int .i64 ns, .int .i64 bu] w [.one (.int .i64)] fun r w' => r.1 = dnT L (fun i x => decide ((i : Int) ≠ bu) && ownB ns x) liLe n n ∧ Ext w w' := by
  apply ref21_Victim.vc
  unfold ref21_Victim.P
  refine ⟨Rng.i64 (by omega) (by omega), ?_⟩
  generalize hM : (fun (i : Nat) (x : Blk) => decide ((i : Int) ≠ bu) && ownB ns x) = M
  refine Loop1 (fun (v : Int × Int × Unit) w' => ∃ k : Nat, k ≤ n ∧ v.2.1 = (n : Int) - 1 - k ∧ v.1 = dnT L M liLe n k ∧ Ext w w') (fun (v : Int × Int × Unit) _ => (v.2.1 + 1).toNat) ⟨0, by omega, by dsimp only; omega, rfl, Ext.refl _⟩ ?_
  rintro ⟨(t : Int), (z : Int), ⟨⟩⟩ w4 ⟨k, hk, hz, ht, x4⟩
  dsimp only at hz ht ⊢
  have S := S.stepE x4
  refine cond_d (fun hlt => ?_) (fun hge => ⟨by rw [ht]; congr 1; omega, x4⟩)
  have tb := dnT_bd (L := L) (m := M) (le := liLe) (n := n) k hk
  rw [← ht] at tb
  have hzn : z.toNat = n - 1 - k := by omega
  have no : ∀ {w' : World}, ¬ (M (n - 1 - k) (gx L (n - 1 - k)) = true ∧ (dnT L M liLe n k < 0 ∨ liLe (gx L (n - 1 - k)) (gx L (dnT L M liLe n k).toNat) = true)) → Ext w w' →
      Rng .i64 (z - 1) ∧ (∃ j : Nat, j ≤ n ∧ z - 1 = (n : Int) - 1 - j ∧ t = dnT L M liLe n j ∧ Ext w w') ∧ (z - 1 + 1).toNat < (z + 1).toNat :=
    fun h x => ⟨Rng.i64 (by omega) (by omega), ⟨k + 1, by omega, by push_cast; omega, by show t = if _ then _ else _; rw [if_neg h]; exact ht, x⟩, by omega⟩
  have yes : ∀ {w' : World}, (M (n - 1 - k) (gx L (n - 1 - k)) = true ∧ (dnT L M liLe n k < 0 ∨ liLe (gx L (n - 1 - k)) (gx L (dnT L M liLe n k).toNat) = true)) → Ext w w' →
      Rng .i64 (z - 1) ∧ (∃ j : Nat, j ≤ n ∧ z - 1 = (n : Int) - 1 - j ∧ z = dnT L M liLe n j ∧ Ext w w') ∧ (z - 1 + 1).toNat < (z + 1).toNat :=
    fun h x => ⟨Rng.i64 (by omega) (by omega), ⟨k + 1, by omega, by push_cast; omega, by show z = if _ then _ else _; rw [if_pos h]; omega, x⟩, by omega⟩
  refine S.reg fun D hD hkeep S T => ?_
  have X := x4.trans (Ext.drew w4)
  have hMi : M (n - 1 - k) (gx L (n - 1 - k)) = (decide (z ≠ bu) && ((gx L (n - 1 - k)).he && !(gx L (n - 1 - k)).ba && (gx L (n - 1 - k)).ow == ns)) := by
    rw [← hM]
    show (decide ((((n - 1 - k : Nat)) : Int) ≠ bu) && ownB ns _) = _
    rw [show (((n - 1 - k : Nat)) : Int) = z by omega]; rfl
  refine cond_ne (fun hb0 => ?_) (fun hb0 => no (fun h => ?_) X)
  case refine_2 => have h := h.1; rw [hMi, decide_eq_false (fun k => k hb0)] at h; cases h
  obtain ⟨q, hq, hc, hb⟩ := nthB (i := z) 0 S rfl (by omega) (by omega)
  rw [hzn] at hc
  have hbd : ∀ j, D ((q.add (z.toNat * 9)).add j).block := fun j => by rw [add_block, add_block]; exact hD _ hb
  refine ⟨⟨by omega, by omega⟩, q, hq, hbd 4, ldc (by rw [hzn]; exact hc) 4 (h := .bool) rfl (cond_of (fun h1 => ?_) fun h1 => no (fun h => ?_) X)⟩
  case refine_2 => have h := h.1; rw [hMi, h1] at h; simp at h
  refine ⟨⟨by omega, by omega⟩, q, hq, hbd 6, ldc (by rw [hzn]; exact hc) 6 (h := .bool) rfl (cond_of (fun h2 => ?_) fun h2 => no (fun h => ?_) X)⟩
  case refine_2 => have h := h.1; rw [hMi, h1, h2] at h; simp at h
  refine ⟨⟨by omega, by omega⟩, q, hq, by rw [add_block]; exact hD _ hb, ldp0 (by rw [hzn]; exact hc) (h := .int .i64) rfl (cond_eq (fun h3 => ?_) fun h3 => no (fun h => ?_) X)⟩
  case refine_2 => have h := h.1; rw [hMi, h1, h2, beq_false_of_ne h3] at h; simp at h
  have hf : M (n - 1 - k) (gx L (n - 1 - k)) = true := by rw [hMi, h1, h2, decide_eq_true hb0, h3]; simp
  refine cond_d (fun h0 => yes ⟨hf, .inl (by omega)⟩ X) (fun h0 => ?_)
  obtain ⟨q2, hq2, hc2, hb2⟩ := nthB (i := t) 0 S rfl (by omega) (by omega)
  rw [hq] at hq2
  cases hq2
  refine ⟨⟨by omega, by omega⟩, q, hq, hbd 2, ldc (by rw [hzn]; exact hc) 2 (h := .int .i64) rfl ?_⟩
  refine ⟨⟨by omega, by omega⟩, q, hq, by rw [add_block, add_block]; exact hD _ hb, ldc hc2 2 (h := .int .i64) rfl ?_⟩
  refine cond_d (fun h3 => yes ⟨hf, .inr (by rw [← ht]; exact decide_eq_true h3)⟩ X) (fun h3 => no (fun h => ?_) X)
  rcases h.2 with k | k
  · omega
  · rw [← ht] at k; exact h3 (of_decide_eq_true k)
theorem rHeld21_c {ns : Int} (hn : n ≤ 1000000) (S : Sep E w0 w (OwnA e2 9 a n c (bvs L) :: Rs)) :
    CallV Try.prog 22 #[.slice a n c, .int .i64 ns] w [.one (.int .i64)] fun r w' => r.1 = manyT L (ownB ns) n ∧ Ext w w' := by
  apply ref21_Held.vc
  unfold ref21_Held.P
  refine Loop1 (fun (v : Int × Int × Unit) w' => ∃ i : Nat, v.2.1 = (i : Int) ∧ i ≤ n ∧ v.1 = manyT L (ownB ns) i ∧ w' = w) (fun (v : Int × Int × Unit) _ => ((n : Int) - v.2.1).toNat) ⟨0, rfl, by omega, rfl, rfl⟩ ?_
  rintro ⟨(t : Int), (z : Int), ⟨⟩⟩ w4 ⟨i, hz, hi, ht, rfl⟩
  dsimp only at hz ht ⊢
  subst hz
  refine cond_d (fun hlt => ?_) (fun hge => ⟨by rw [ht]; congr 1; omega, Ext.refl _⟩)
  have tb := manyT_bd (L := L) (m := ownB ns) i
  rw [← ht] at tb
  obtain ⟨q, hq, hc, hb⟩ := nthB (i := (i : Int)) 0 S rfl (by omega) hlt
  have hi' : ((i : Int)).toNat = i := Int.toNat_natCast i
  rw [hi'] at hc
  have no : ¬ ownB ns (gx L i) = true → Rng .i64 ((i : Int) + 1) ∧ (∃ j : Nat, (i : Int) + 1 = (j : Int) ∧ j ≤ n ∧ t = manyT L (ownB ns) j ∧ w4 = w4) ∧ ((n : Int) - ((i : Int) + 1)).toNat < ((n : Int) - (i : Int)).toNat :=
    fun h => ⟨Rng.i64 (by omega) (by omega), ⟨i + 1, by push_cast; rfl, by omega, by show t = if _ then _ else _; rw [if_neg h, ht], rfl⟩, by omega⟩
  have hO : ownB ns (gx L i) = ((gx L i).he && !(gx L i).ba && (gx L i).ow == ns) := rfl
  refine ⟨⟨by omega, by omega⟩, q, hq, ldc (by rw [hi']; exact hc) 4 (h := .bool) rfl (cond_of (fun h1 => ?_) fun h1 => no (fun h => ?_))⟩
  case refine_2 => rw [hO, h1] at h; simp at h
  refine ⟨⟨by omega, by omega⟩, q, hq, ldc (by rw [hi']; exact hc) 6 (h := .bool) rfl (cond_of (fun h2 => ?_) fun h2 => no (fun h => ?_))⟩
  case refine_2 => rw [hO, h1, h2] at h; simp at h
  refine ⟨⟨by omega, by omega⟩, q, hq, ldp0 (by rw [hi']; exact hc) (h := .int .i64) rfl (cond_eq (fun h3 => ?_) fun h3 => no (fun h => ?_))⟩
  case refine_2 => rw [hO, h1, h2, beq_false_of_ne h3] at h; simp at h
  have hf : ownB ns (gx L i) = true := by rw [hO, h1, h2, h3]; simp
  exact ⟨Rng.i64 (by omega) (by omega), Rng.i64 (by omega) (by omega), ⟨i + 1, by push_cast; rfl, by omega, by show t + 1 = if _ then _ else _; rw [if_pos hf, ht], rfl⟩, by omega⟩
theorem rBads_c (hn : n ≤ 1000000) (S : Sep E w0 w (OwnA e2 9 a n c (bvs L) :: Rs)) :
    CallV Try.prog 24 #[.slice a n c] w [.one (.int .i64)] fun r w' => r.1 = manyT L (fun x => x.ba) n ∧ Ext w w' := by
  apply ref21_Bads.vc
  unfold ref21_Bads.P
  refine Loop1 (fun (v : Int × Int × Unit) w' => ∃ i : Nat, v.2.1 = (i : Int) ∧ i ≤ n ∧ v.1 = manyT L (fun x => x.ba) i ∧ w' = w) (fun (v : Int × Int × Unit) _ => ((n : Int) - v.2.1).toNat) ⟨0, rfl, by omega, rfl, rfl⟩ ?_
  rintro ⟨(t : Int), (z : Int), ⟨⟩⟩ w4 ⟨i, hz, hi, ht, rfl⟩
  dsimp only at hz ht ⊢
  subst hz
  refine cond_d (fun hlt => ?_) (fun hge => ⟨by rw [ht]; congr 1; omega, Ext.refl _⟩)
  have tb := manyT_bd (L := L) (m := fun x => x.ba) i
  rw [← ht] at tb
  obtain ⟨q, hq, hc, hb⟩ := nthB (i := (i : Int)) 0 S rfl (by omega) hlt
  have hi' : ((i : Int)).toNat = i := Int.toNat_natCast i
  rw [hi'] at hc
  refine ⟨⟨by omega, by omega⟩, q, hq, ldc (by rw [hi']; exact hc) 6 (h := .bool) rfl (cond_of (fun h1 => ?_) fun h1 => ?_)⟩
  · exact ⟨Rng.i64 (by omega) (by omega), Rng.i64 (by omega) (by omega), ⟨i + 1, by push_cast; rfl, by omega, by show t + 1 = if _ then _ else _; rw [if_pos h1, ht], rfl⟩, by omega⟩
  · exact ⟨Rng.i64 (by omega) (by omega), ⟨i + 1, by push_cast; rfl, by omega, by show t = if _ then _ else _; rw [if_neg (by show ¬ (gx L i).ba = true; rw [h1]; simp), ht], rfl⟩, by omega⟩
theorem rLeaks_c {ns : Int} (hn : n ≤ 1000000) (S : Sep E w0 w (OwnA e2 9 a n c (bvs L) :: Rs)) :
    CallV Try.prog 26 #[.slice a n c, .int .i64 ns] w [.one .bool] fun r w' => r.1 = decide (0 < manyT L (leakB ns) n) ∧ Ext w w' := by
  apply ref21_Leaks.vc
  unfold ref21_Leaks.P
  refine Loop1 (fun (v : Int × Unit) w' => ∃ i : Nat, v.1 = (i : Int) ∧ i ≤ n ∧ (∀ j, j < i → leakB ns (gx L j) = false) ∧ w' = w) (fun (v : Int × Unit) _ => ((n : Int) - v.1).toNat) ⟨0, rfl, by omega, fun j hj => absurd hj (Nat.not_lt_zero j), rfl⟩ ?_
  rintro ⟨(z : Int), ⟨⟩⟩ w4 ⟨i, hz, hi, ht, rfl⟩
  dsimp only at hz ⊢
  subst hz
  refine cond_d (fun hlt => ?_) (fun hge => ⟨by rw [manyT_none n fun j hj => ht j (by omega)]; rfl, Ext.refl _⟩)
  obtain ⟨q, hq, hc, hb⟩ := nthB (i := (i : Int)) 0 S rfl (by omega) hlt
  have hi' : ((i : Int)).toNat = i := Int.toNat_natCast i
  rw [hi'] at hc
  have no : leakB ns (gx L i) = false → Rng .i64 ((i : Int) + 1) ∧ (∃ j : Nat, (i : Int) + 1 = (j : Int) ∧ j ≤ n ∧ (∀ k, k < j → leakB ns (gx L k) = false) ∧ w4 = w4) ∧ ((n : Int) - ((i : Int) + 1)).toNat < ((n : Int) - (i : Int)).toNat :=
    fun h => ⟨Rng.i64 (by omega) (by omega), ⟨i + 1, by push_cast; rfl, by omega, fun k hk => by
      by_cases e : k = i
      · subst e; exact h
      · exact ht k (by omega), rfl⟩, by omega⟩
  have yes : leakB ns (gx L i) = true → (true = decide (0 < manyT L (leakB ns) n) ∧ Ext w4 w4) := fun h => ⟨(decide_eq_true (manyT_some n i (by omega) h)).symm, Ext.refl _⟩
  have hO : leakB ns (gx L i) = ((gx L i).le && ((gx L i).ow == ns || (gx L i).ow == -1)) := rfl
  refine ⟨⟨by omega, by omega⟩, q, hq, ldc (by rw [hi']; exact hc) 8 (h := .bool) rfl (cond_of (fun h1 => ?_) fun h1 => no (by rw [hO, h1]; rfl))⟩
  refine ⟨⟨by omega, by omega⟩, q, hq, ldp0 (by rw [hi']; exact hc) (h := .int .i64) rfl (cond_eq (fun h2 => yes (by rw [hO, h1, h2]; simp)) fun h2 => ?_)⟩
  refine ⟨⟨by omega, by omega⟩, q, hq, ldp0 (by rw [hi']; exact hc) (h := .int .i64) rfl (cond_eq (fun h3 => yes (by rw [hO, h1, h3]; simp)) fun h3 => no ?_)⟩
  rw [hO, h1, beq_false_of_ne h2, beq_false_of_ne h3]
  rfl
end

end Go.Proofs.Ytiemdjnmghackaa.Vc

/-! The contracts of layer 21: the document's spread; does the program answer at all? -/
namespace Go.Proofs.Ytiemdjnmghackaa.Vc
open Go Go.Eng Go.RowKit
set_option linter.unusedVariables false
set_option linter.unusedSimpArgs false

def erGe (x y : Blk) : Bool := decide (y.er ≤ x.er)
def goodB (_ : Nat) (x : Blk) : Bool := !x.ba
section
variable {E : Nat → Prop} {w0 w : World} {Rs : List Asr} {e2 : TypeId} {a : Option Addr} {n c : Nat} {L : List Blk}
theorem rSpread_c (hn : n ≤ 1000000) (S0 : Sep E w0 w (OwnA e2 9 a n c (bvs L) :: Rs)) :
    CallV Try.prog 18 #[.slice a n c] w [.agg [.int .i64, .int .i64]] fun r w' => r.1.1 = dnT L goodB erLe n n ∧ r.1.2.1 = dnT L goodB erGe n n ∧ Ext w w' := by
  apply ref21_Spread.vc
  unfold ref21_Spread.P
  have S := Sep.start NoB w
  refine S.newB fun b1 w1 S f1 _ => ?_
  refine S.newB fun b3 w3 S f3 _ => ?_
  refine S.st0 (by rfl) fun w5 S f5 => ⟨Rng.i64 (by omega) (by omega), ?_⟩
  refine Loop1 (fun (v : Int × Unit) w' => ∃ k : Nat, k ≤ n ∧ v.1 = (n : Int) - 1 - k ∧ Sep NoB w w' [BoxA b3 23 [.int .i64 (dnT L goodB erLe n k), .int .i64 (dnT L goodB erGe n k)], BoxA b1 23 [.int .i64 0, .int .i64 0]]) (fun (v : Int × Unit) _ => (v.1 + 1).toNat) ⟨0, by omega, by dsimp only; omega, S⟩ ?_
  rintro ⟨(z : Int), ⟨⟩⟩ w6 ⟨k, hk, hz, S⟩
  dsimp only at hz ⊢
  refine cond_d (fun hlt => ?_) (fun hge => ?_)
  case refine_2 =>
    have hkn : k = n := by omega
    subst hkn
    refine S.la0 rfl (S.st1 (by rfl) fun w7 S f7 => S.la1 rfl ?_)
    exact ⟨rfl, rfl, S.ext⟩
  have tb1 := dnT_bd (L := L) (m := goodB) (le := erLe) (n := n) k hk
  have tb2 := dnT_bd (L := L) (m := goodB) (le := erGe) (n := n) k hk
  have hzn : z.toNat = n - 1 - k := by omega
  have hzi : (((n - 1 - k : Nat)) : Int) = z := by omega
  have SL := S0.stepE S.ext
  obtain ⟨q, hq, hc, hb⟩ := nthB (i := z) 0 SL rfl (by omega) (by omega)
  rw [hzn] at hc
  generalize hx : gx L (n - 1 - k) = x at hc
  refine ⟨⟨by omega, by omega⟩, q, hq, ldc (by rw [hzn]; exact hc) 6 (h := .bool) rfl ?_⟩
  have step1 : dnT L goodB erLe n (k + 1) = if goodB (n - 1 - k) x = true ∧ (dnT L goodB erLe n k < 0 ∨ erLe x (gx L (dnT L goodB erLe n k).toNat) = true) then z else dnT L goodB erLe n k := by rw [← hx, ← hzi]; rfl
  have step2 : dnT L goodB erGe n (k + 1) = if goodB (n - 1 - k) x = true ∧ (dnT L goodB erGe n k < 0 ∨ erGe x (gx L (dnT L goodB erGe n k).toNat) = true) then z else dnT L goodB erGe n k := by rw [← hx, ← hzi]; rfl
  have fin : ∀ {w' : World}, Sep NoB w w' [BoxA b3 23 [.int .i64 (dnT L goodB erLe n (k + 1)), .int .i64 (dnT L goodB erGe n (k + 1))], BoxA b1 23 [.int .i64 0, .int .i64 0]] →
      Rng .i64 (z - 1) ∧ (∃ k : Nat, k ≤ n ∧ z - 1 = (n : Int) - 1 - k ∧ Sep NoB w w' [BoxA b3 23 [.int .i64 (dnT L goodB erLe n k), .int .i64 (dnT L goodB erGe n k)], BoxA b1 23 [.int .i64 0, .int .i64 0]]) ∧ (z - 1 + 1).toNat < (z + 1).toNat :=
    fun S => ⟨Rng.i64 (by omega) (by omega), ⟨k + 1, by omega, by push_cast; omega, S⟩, by omega⟩
  refine cond_of (fun hbad => ?_) (fun hgood => ?_)
  · refine fin ?_
    have hb : ¬ goodB (n - 1 - k) x = true := by unfold goodB; rw [hbad]; simp
    rw [step1, step2, if_neg (fun h => hb h.1), if_neg (fun h => hb h.1)]
    exact S
  have hg : goodB (n - 1 - k) x = true := by unfold goodB; rw [hgood]; rfl
  refine ⟨fun (_ : Unit) w' => Sep NoB w w' [BoxA b3 23 [.int .i64 (dnT L goodB erLe n (k + 1)), .int .i64 (dnT L goodB erGe n k)], BoxA b1 23 [.int .i64 0, .int .i64 0]], ?_, ?_⟩
  · rintro ⟨⟩ w7 S
    refine S.reg fun D hD hkeep S T => ?_
    have SL := S0.stepE S.ext
    obtain ⟨q', hq', hc', hb'⟩ := nthB (i := z) 0 SL rfl (by omega) (by omega)
    rw [hq] at hq'; cases hq'
    rw [hzn, hx] at hc'
    refine ⟨by decide, hD _ S.bl0, S.ld0 rfl rfl (cond_d (fun h0 => ⟨by decide, ?_⟩) fun h0 => ?_)⟩
    · refine S.su0 (by rfl) fun w8 S f8 => fin ?_
      rw [step2, if_pos ⟨hg, .inl h0⟩]
      exact S
    obtain ⟨q2, hq2, hc2, hb2⟩ := nthB (i := dnT L goodB erGe n k) 0 SL rfl (by omega) (by omega)
    rw [hq] at hq2; cases hq2
    have hbd : ∀ i j, D ((q.add i).add j).block := fun i j => by rw [add_block, add_block]; exact hD _ hb'
    refine ⟨⟨by omega, by omega⟩, q, hq, hbd _ _, ldc (by rw [hzn]; exact hc') 3 (h := .int .i64) rfl ?_⟩
    refine ⟨by decide, hD _ S.bl0, S.ld0 rfl rfl ⟨⟨by omega, by omega⟩, q, hq, hbd _ _, ldc hc2 3 (h := .int .i64) rfl ?_⟩⟩
    refine cond_d (fun h1 => ⟨by decide, ?_⟩) (fun h1 => fin ?_)
    · refine S.su0 (by rfl) fun w8 S f8 => fin ?_
      rw [step2, if_pos ⟨hg, .inr (decide_eq_true h1)⟩]
      exact S
    · rw [step2, if_neg (fun h => by rcases h.2 with h | h; omega; exact h1 (of_decide_eq_true h))]
      exact S
  · refine S.reg fun D hD hkeep S T => ?_
    have SL := S0.stepE S.ext
    obtain ⟨q', hq', hc', hb'⟩ := nthB (i := z) 0 SL rfl (by omega) (by omega)
    rw [hq] at hq'; cases hq'
    rw [hzn, hx] at hc'
    refine ⟨by decide, hD _ S.bl0, S.ld0 rfl rfl (cond_d (fun h0 => ⟨by decide, ?_⟩) fun h0 => ?_)⟩
    · refine S.su0 (by rfl) fun w8 S f8 => ?_
      show Sep NoB w w8 _
      rw [step1, if_pos ⟨hg, .inl h0⟩]
      exact S
    obtain ⟨q2, hq2, hc2, hb2⟩ := nthB (i := dnT L goodB erLe n k) 0 SL rfl (by omega) (by omega)
    rw [hq] at hq2; cases hq2
    have hbd : ∀ i j, D ((q.add i).add j).block := fun i j => by rw [add_block, add_block]; exact hD _ hb'
    refine ⟨⟨by omega, by omega⟩, q, hq, hbd _ _, ldc (by rw [hzn]; exact hc') 3 (h := .int .i64) rfl ?_⟩
    refine ⟨by decide, hD _ S.bl0, S.ld0 rfl rfl ⟨⟨by omega, by omega⟩, q, hq, hbd _ _, ldc hc2 3 (h := .int .i64) rfl ?_⟩⟩
    refine cond_d (fun h1 => ⟨by decide, ?_⟩) (fun h1 => ?_)
    · refine S.su0 (by rfl) fun w8 S f8 => ?_
      show Sep NoB w w8 _
      rw [step1, if_pos ⟨hg, .inr (decide_eq_true h1)⟩]
      exact S
    · show Sep NoB w _ _
      rw [step1, if_neg (fun h => by rcases h.2 with h | h; omega; exact h1 (of_decide_eq_true h))]
      exact S
end

theorem awake21_c {w : World} : CallV Try.prog 29 #[] w [.one .bool] fun r w' => r.1 = true ∧ Ext w w' := by
  apply law21_awake.vc
  unfold law21_awake.P
  refine (New21_c (n := 3) (by decide)).mono ?_
  rintro ⟨(r1 : Option Addr), (r2 : Int), ⟨⟩⟩ w1 ⟨h1, p, a, c, hp, S⟩
  dsimp only at h1 hp ⊢
  subst h1; subst hp
  refine cond_t rfl ?_
  refine (Len_c S).mono ?_
  rintro ⟨(r3 : Int), ⟨⟩⟩ w2 ⟨h3, rfl⟩
  dsimp only at h3 ⊢
  subst h3
  refine cond_t rfl ?_
  refine (Pick_c (by decide) S).mono ?_
  rintro ⟨(r4 : Int), ⟨⟩⟩ w3 ⟨h4, x3⟩
  dsimp only at h4 ⊢
  subst h4
  have S := S.stepE x3
  refine cond_t (by decide) ?_
  refine Sep.call (LedP p a (3 : Int).toNat c (List.replicate (3 : Int).toNat Blk.new)) (Ts := []) S (fun F S => Erased_c (b := 0) (fun x hx => by rw [(List.mem_replicate.1 hx).2]; decide) S) ?_
  rintro F2 back ⟨(r5 : Int), ⟨⟩⟩ w4 ⟨h5, S4⟩
  dsimp only at h5 ⊢
  subst h5
  have S := (back _ _ S4).sel [0, 0] rfl
  refine cond_t (by decide) ?_
  refine (Pick_c (by decide) S).mono ?_
  rintro ⟨(r6 : Int), ⟨⟩⟩ w5 ⟨h6, x5⟩
  dsimp only at h6 ⊢
  subst h6
  have h7 : pickT (chL 0 (Int.toNat 3) eB (List.replicate (Int.toNat 3) Blk.new)) (Int.toNat 3) = 1 := by decide
  exact ⟨by rw [h7]; rfl, S.ext.trans x5⟩

end Go.Proofs.Ytiemdjnmghackaa.Vc

/-! The plans of functions as plain statements, printed by wip/tools/vcgen.py; the kernel holds each to the code. -/
namespace Go.Proofs.Ytiemdjnmghackaa.Vc
open Go Go.Eng
set_option linter.unusedVariables false

/-! ### nepenthe/nepenthelaw21.LedgerTells: function 3 -/
-- loop 0 carries 11: .one (.int .i64)
def law21_LedgerTells.A : Ann := .two .no (.two .no (.two .no (.two .no (.join [11, 27, 28, 29, 30, 31, 32, 33, 34, 35, 36, 37, 38, 39, 40, 41, 42, 43, 44, 45, 46, 47, 48, 49, 50, 51, 52, 53] [] (.two .no (.one (.loop [11, 27, 28, 29, 30, 31, 32, 33, 34, 35, 36, 37, 38, 39, 40, 41, 42, 43, 44, 45, 46, 47, 48, 49, 50, 51, 52, 53] [(11, .one (.int .i64))] .no))) (.two .no (.two .no (.two .no (.two .no (.two (.two (.draw (.take 0 (.take 1 (.take 2 (.take 3 (.take 4 (.eff 5 (.take 6 (.take 7 (.take 8 (.take 9 (.take 10 (.take 11 (.take 12 (.take 13 (.take 14 (.eff 15 (.take 16 (.take 17 (.take 18 (.take 19 (.take 20 (.take 21 (.take 23 (.take 24 (.take 25 (.eff 22 (.eff 26 (.take 27 (.take 28 (.take 29 (.take 30 (.take 32 (.eff 31 (.eff 33 (.take 34 (.take 35 (.take 36 (.take 37 (.take 38 (.take 39 (.take 40 (.take 41 (.take 42 (.take 43 (.take 44 (.take 45 (.take 46 (.take 47 (.take 48 (.take 49 (.take 50 (.take 51 (.take 53 (.take 54 (.take 55 (.eff 52 (.eff 56 (.take 57 (.take 58 (.done))))))))))))))))))))))))))))))))))))))))))))))))))))))))))))) .no) .no)))))))))
def law21_LedgerTells.P (p0 : Int) (a1 : Option Addr) (n1 c1 : Nat) (p2_0 : Int) (p2_1 : Int) (w : World) (K : Bool × Unit → World → Prop) : Prop :=
  NewV #[.int .i64 p2_0, .int .i64 p2_1] 23 w fun b1 w2 =>
  10 ≠ (0 : Int) ∧
  CallV Try.prog 10 #[.int .i64 (IntKind.i64.wrap (Int.tmod p0 10))] w2 [.one .ptr, .one (.int .i64)] fun (r3 : (Option Addr) × Int × Unit) w4 =>
  CallV Try.prog 11 #[.int .i64 (IntKind.i64.wrap (Int.tmod p0 10))] w4 [.one .sl] fun (r5 : SlV × Unit) w6 =>
  JoinV [] (fun (v8 : Unit) w9 =>
  CallV Try.prog 15 #[.pointer r3.1] w9 [.one (.int .i64)] fun (r10 : Int × Unit) w11 =>
  (0 ≤ (0 : Int) ∧ 0 < (2 : Int)) ∧
  LoadS w11 ⟨b1, 0, none⟩ (.int .i64) fun (x12 : Int) =>
  (0 ≤ (1 : Int) ∧ 1 < (2 : Int)) ∧
  LoadS w11 ⟨b1, 1, none⟩ (.int .i64) fun (x13 : Int) =>
  CallV Try.prog 16 #[.pointer r3.1, .int .i64 x12, .int .i64 x13] w11 [.one (.int .i64)] fun (r14 : Int × Unit) w15 =>
  CallV Try.prog 17 #[.pointer r3.1] w15 [.one (.int .i64), .one (.int .i64)] fun (r16 : Int × Int × Unit) w17 =>
  CallV Try.prog 18 #[.slice r5.1.a r5.1.n r5.1.c] w17 [.agg [.int .i64, .int .i64]] fun (r18 : (Int × Int × Unit) × Unit) w19 =>
  NewV #[.int .i64 0, .int .i64 0] 23 w19 fun b20 w21 =>
  StoreV w21 ⟨b20, 0, none⟩ [.int .i64 r18.1.1, .int .i64 r18.1.2.1] fun w22 =>
  DrawV fun D23 =>
  cond (r3.2.1 != 0)
  (K (false, ()) w22.drew)
  (CallV Try.prog 19 #[.slice r5.1.a r5.1.n r5.1.c] w22.drew [.one (.int .i64)] fun (r24 : Int × Unit) w25 =>
  KeepOn D23 w22.drew w25 ∧
  cond (r10.1 != r24.1)
  (K (false, ()) w25)
  ((0 ≤ (0 : Int) ∧ 0 < (2 : Int)) ∧
  (D23 b1 ∧ LoadS w22.drew ⟨b1, 0, none⟩ (.int .i64) fun (x26 : Int) =>
  (0 ≤ (1 : Int) ∧ 1 < (2 : Int)) ∧
  (D23 b1 ∧ LoadS w22.drew ⟨b1, 1, none⟩ (.int .i64) fun (x27 : Int) =>
  CallV Try.prog 20 #[.slice r5.1.a r5.1.n r5.1.c, .int .i64 x26, .int .i64 x27] w25 [.one (.int .i64)] fun (r28 : Int × Unit) w29 =>
  KeepOn D23 w22.drew w29 ∧
  cond (r14.1 != r28.1)
  (K (false, ()) w29)
  ((0 ≤ (0 : Int) ∧ 0 < (2 : Int)) ∧
  (D23 b1 ∧ LoadS w22.drew ⟨b1, 0, none⟩ (.int .i64) fun (x30 : Int) =>
  (0 ≤ (0 : Int) ∧ 0 < (2 : Int)) ∧
  (D23 b1 ∧ LoadS w22.drew ⟨b1, 0, none⟩ (.int .i64) fun (x31 : Int) =>
  CallV Try.prog 21 #[.pointer r3.1, .int .i64 x30] w29 [.one (.int .i64)] fun (r32 : Int × Unit) w33 =>
  KeepOn D23 w22.drew w33 ∧
  CallV Try.prog 22 #[.slice r5.1.a r5.1.n r5.1.c, .int .i64 x31] w33 [.one (.int .i64)] fun (r34 : Int × Unit) w35 =>
  KeepOn D23 w22.drew w35 ∧
  cond (r32.1 != r34.1)
  (K (false, ()) w35)
  (CallV Try.prog 23 #[.pointer r3.1] w35 [.one (.int .i64)] fun (r36 : Int × Unit) w37 =>
  KeepOn D23 w22.drew w37 ∧
  CallV Try.prog 24 #[.slice r5.1.a r5.1.n r5.1.c] w37 [.one (.int .i64)] fun (r38 : Int × Unit) w39 =>
  KeepOn D23 w22.drew w39 ∧
  cond (r36.1 != r38.1)
  (K (false, ()) w39)
  ((0 ≤ (0 : Int) ∧ 0 < (2 : Int)) ∧
  (D23 b20 ∧ LoadS w22.drew ⟨b20, 0, none⟩ (.int .i64) fun (x40 : Int) =>
  cond (r16.1 != x40)
  (K (false, ()) w39)
  ((0 ≤ (1 : Int) ∧ 1 < (2 : Int)) ∧
  (D23 b20 ∧ LoadS w22.drew ⟨b20, 1, none⟩ (.int .i64) fun (x41 : Int) =>
  cond (r16.2.1 != x41)
  (K (false, ()) w39)
  ((0 ≤ (0 : Int) ∧ 0 < (2 : Int)) ∧
  (D23 b1 ∧ LoadS w22.drew ⟨b1, 0, none⟩ (.int .i64) fun (x42 : Int) =>
  (0 ≤ (0 : Int) ∧ 0 < (2 : Int)) ∧
  (D23 b1 ∧ LoadS w22.drew ⟨b1, 0, none⟩ (.int .i64) fun (x43 : Int) =>
  CallV Try.prog 25 #[.pointer r3.1, .int .i64 x42] w39 [.one .bool] fun (r44 : Bool × Unit) w45 =>
  KeepOn D23 w22.drew w45 ∧
  CallV Try.prog 26 #[.slice r5.1.a r5.1.n r5.1.c, .int .i64 x43] w45 [.one .bool] fun (r46 : Bool × Unit) w47 =>
  KeepOn D23 w22.drew w47 ∧
  cond (!(r44.1 == r46.1))
  (K (false, ()) w47)
  (cond (decide (r10.1 < 0))
  (cond (decide (r14.1 < 0))
  (CallV Try.prog 29 #[] w47 [.one .bool] fun (r48 : Bool × Unit) w49 =>
  K (r48.1, ()) w49)
  (CallV Try.prog 28 #[.pointer r3.1, .int .i64 r14.1] w47 [.agg [.int .i64, .int .i64, .int .i64, .int .i64, .bool, .bool, .bool, .bool, .bool]] fun (r50 : (Int × Int × Int × Int × Bool × Bool × Bool × Bool × Bool × Unit) × Unit) w51 =>
  cond r50.1.2.2.2.2.1
  (CallV Try.prog 29 #[] w51 [.one .bool] fun (r52 : Bool × Unit) w53 =>
  K (r52.1, ()) w53)
  (K (false, ()) w51)))
  (CallV Try.prog 28 #[.pointer r3.1, .int .i64 r10.1] w47 [.agg [.int .i64, .int .i64, .int .i64, .int .i64, .bool, .bool, .bool, .bool, .bool]] fun (r54 : (Int × Int × Int × Int × Bool × Bool × Bool × Bool × Bool × Unit) × Unit) w55 =>
  CallV Try.prog 27 #[.agg #[.int .i64 r54.1.1, .int .i64 r54.1.2.1, .int .i64 r54.1.2.2.1, .int .i64 r54.1.2.2.2.1, .bool r54.1.2.2.2.2.1, .bool r54.1.2.2.2.2.2.1, .bool r54.1.2.2.2.2.2.2.1, .bool r54.1.2.2.2.2.2.2.2.1, .bool r54.1.2.2.2.2.2.2.2.2.1]] w55 [.one .bool] fun (r56 : Bool × Unit) w57 =>
  cond r56.1
  (cond (decide (r14.1 < 0))
  (CallV Try.prog 29 #[] w57 [.one .bool] fun (r58 : Bool × Unit) w59 =>
  K (r58.1, ()) w59)
  (CallV Try.prog 28 #[.pointer r3.1, .int .i64 r14.1] w57 [.agg [.int .i64, .int .i64, .int .i64, .int .i64, .bool, .bool, .bool, .bool, .bool]] fun (r60 : (Int × Int × Int × Int × Bool × Bool × Bool × Bool × Bool × Unit) × Unit) w61 =>
  cond r60.1.2.2.2.2.1
  (CallV Try.prog 29 #[] w61 [.one .bool] fun (r62 : Bool × Unit) w63 =>
  K (r62.1, ()) w63)
  (K (false, ()) w61)))
  (K (false, ()) w57))))))))))))))))))) fun (J7 : Unit → World → Prop) =>
  LoopV [.one (.int .i64)] ((0 : Int), ()) w6 fun (z64 : Int × Unit) w65 (K66 : Int × Unit → World → Prop) =>
  cond (decide (z64.1 < ((n1 : Nat) : Int)))
  (cond (decide (z64.1 < 60))
  ((0 ≤ z64.1 ∧ z64.1 < ((n1 : Nat) : Int)) ∧ ∃ q67 : Addr, a1 = some q67 ∧
  LoadA w65 (q67.add (z64.1.toNat * 3)) [.int .i64, .int .i64, .int .i64] fun (x68 : Int × Int × Int × Unit) =>
  CallV Try.prog 12 #[.agg #[.int .i64 x68.1, .int .i64 x68.2.1, .int .i64 x68.2.2.1]] w65 [.one .bool] fun (r69 : Bool × Unit) w70 =>
  cond r69.1
  ((0 ≤ z64.1 ∧ z64.1 < ((n1 : Nat) : Int)) ∧ ∃ q71 : Addr, a1 = some q71 ∧
  LoadA w70 (q71.add (z64.1.toNat * 3)) [.int .i64, .int .i64, .int .i64] fun (x72 : Int × Int × Int × Unit) =>
  CallV Try.prog 13 #[.pointer r3.1, .agg #[.int .i64 x72.1, .int .i64 x72.2.1, .int .i64 x72.2.2.1]] w70 [.one (.int .i64)] fun (r73 : Int × Unit) w74 =>
  (0 ≤ z64.1 ∧ z64.1 < ((n1 : Nat) : Int)) ∧ ∃ q75 : Addr, a1 = some q75 ∧
  LoadA w74 (q75.add (z64.1.toNat * 3)) [.int .i64, .int .i64, .int .i64] fun (x76 : Int × Int × Int × Unit) =>
  CallV Try.prog 14 #[.slice r5.1.a r5.1.n r5.1.c, .agg #[.int .i64 x76.1, .int .i64 x76.2.1, .int .i64 x76.2.2.1]] w74 [.one (.int .i64)] fun (r77 : Int × Unit) w78 =>
  Rng .i64 (z64.1 + 1) ∧
  K66 (z64.1 + 1, ()) w78)
  (Rng .i64 (z64.1 + 1) ∧
  K66 (z64.1 + 1, ()) w70))
  (J7 (()) w65))
  (J7 (()) w65)
theorem law21_LedgerTells.vc (p0 : Int) (a1 : Option Addr) (n1 c1 : Nat) (p2_0 : Int) (p2_1 : Int) (w : World) (K : Bool × Unit → World → Prop) (h : law21_LedgerTells.P p0 a1 n1 c1 p2_0 p2_1 w K) : CallV Try.prog 3 #[.int .u8 p0, .slice a1 n1 c1, .agg #[.int .i64 p2_0, .int .i64 p2_1]] w [.one .bool] K := by
  have e : vcFun Try.prog okf false Try.f3 law21_LedgerTells.A #[.int .u8 p0, .slice a1 n1 c1, .agg #[.int .i64 p2_0, .int .i64 p2_1]] w [.one .bool] K = law21_LedgerTells.P p0 a1 n1 c1 p2_0 p2_1 w K := by kernel_rfl
  exact vcFun.calls okf_ok follows Try.func3 (e.symm ▸ h)

/-! ### nepenthe/nepenthelaw21.LedgerNil: function 4 -/
def law21_LedgerNil.A : Ann := .no
def law21_LedgerNil.P (p0_0 : Int) (p0_1 : Int) (p0_2 : Int) (p1_0 : Int) (p1_1 : Int) (p1_2 : Int) (p1_3 : Int) (p1_4 : Bool) (p1_5 : Bool) (p1_6 : Bool) (p1_7 : Bool) (p1_8 : Bool) (w : World) (K : Bool × Unit → World → Prop) : Prop :=
  NewV #[.int .i64 p0_0, .int .i64 p0_1, .int .i64 p0_2] 32 w fun b1 w2 =>
  NewV #[.int .i64 p1_0, .int .i64 p1_1, .int .i64 p1_2, .int .i64 p1_3, .bool p1_4, .bool p1_5, .bool p1_6, .bool p1_7, .bool p1_8] 48 w2 fun b3 w4 =>
  CallV Try.prog 17 #[.pointer none] w4 [.one (.int .i64), .one (.int .i64)] fun (r5 : Int × Int × Unit) w6 =>
  CallV Try.prog 30 #[.pointer none] w6 [.one (.int .i64)] fun (r7 : Int × Unit) w8 =>
  cond (r7.1 == 0)
  (LoadS w8 ⟨b1, 1, none⟩ (.int .i64) fun (x9 : Int) =>
  CallV Try.prog 28 #[.pointer none, .int .i64 x9] w8 [.agg [.int .i64, .int .i64, .int .i64, .int .i64, .bool, .bool, .bool, .bool, .bool]] fun (r10 : (Int × Int × Int × Int × Bool × Bool × Bool × Bool × Bool × Unit) × Unit) w11 =>
  AggEq Try.prog 48 #[.int .i64 r10.1.1, .int .i64 r10.1.2.1, .int .i64 r10.1.2.2.1, .int .i64 r10.1.2.2.2.1, .bool r10.1.2.2.2.2.1, .bool r10.1.2.2.2.2.2.1, .bool r10.1.2.2.2.2.2.2.1, .bool r10.1.2.2.2.2.2.2.2.1, .bool r10.1.2.2.2.2.2.2.2.2.1] #[.int .i64 0, .int .i64 0, .int .i64 0, .int .i64 0, .bool false, .bool false, .bool false, .bool false, .bool false] fun e12 =>
  cond e12
  (LoadS w11 ⟨b1, 1, none⟩ (.int .i64) fun (x13 : Int) =>
  LoadA w11 ⟨b3, 0, none⟩ [.int .i64, .int .i64, .int .i64, .int .i64, .bool, .bool, .bool, .bool, .bool] fun (x14 : Int × Int × Int × Int × Bool × Bool × Bool × Bool × Bool × Unit) =>
  CallV Try.prog 31 #[.pointer none, .int .i64 x13, .agg #[.int .i64 x14.1, .int .i64 x14.2.1, .int .i64 x14.2.2.1, .int .i64 x14.2.2.2.1, .bool x14.2.2.2.2.1, .bool x14.2.2.2.2.2.1, .bool x14.2.2.2.2.2.2.1, .bool x14.2.2.2.2.2.2.2.1, .bool x14.2.2.2.2.2.2.2.2.1]] w11 [.one (.int .i64)] fun (r15 : Int × Unit) w16 =>
  cond (r15.1 == 2)
  (LoadA w16 ⟨b1, 0, none⟩ [.int .i64, .int .i64, .int .i64] fun (x17 : Int × Int × Int × Unit) =>
  CallV Try.prog 13 #[.pointer none, .agg #[.int .i64 x17.1, .int .i64 x17.2.1, .int .i64 x17.2.2.1]] w16 [.one (.int .i64)] fun (r18 : Int × Unit) w19 =>
  cond (r18.1 == 2)
  (CallV Try.prog 15 #[.pointer none] w19 [.one (.int .i64)] fun (r20 : Int × Unit) w21 =>
  cond (r20.1 == (-1))
  (LoadS w21 ⟨b1, 2, none⟩ (.int .i64) fun (x22 : Int) =>
  CallV Try.prog 16 #[.pointer none, .int .i64 x22, .int .i64 0] w21 [.one (.int .i64)] fun (r23 : Int × Unit) w24 =>
  cond (r23.1 == (-1))
  (LoadS w24 ⟨b1, 2, none⟩ (.int .i64) fun (x25 : Int) =>
  CallV Try.prog 21 #[.pointer none, .int .i64 x25] w24 [.one (.int .i64)] fun (r26 : Int × Unit) w27 =>
  cond (r26.1 == 0)
  (CallV Try.prog 23 #[.pointer none] w27 [.one (.int .i64)] fun (r28 : Int × Unit) w29 =>
  cond (r28.1 == 0)
  (cond (r5.1 == (-1))
  (cond (r5.2.1 == (-1))
  (LoadS w29 ⟨b1, 1, none⟩ (.int .i64) fun (x30 : Int) =>
  CallV Try.prog 32 #[.pointer none, .int .i64 x30] w29 [.one .bool] fun (r31 : Bool × Unit) w32 =>
  cond (!r31.1)
  (LoadS w32 ⟨b1, 2, none⟩ (.int .i64) fun (x33 : Int) =>
  CallV Try.prog 25 #[.pointer none, .int .i64 x33] w32 [.one .bool] fun (r34 : Bool × Unit) w35 =>
  cond (!r34.1)
  (CallV Try.prog 29 #[] w35 [.one .bool] fun (r36 : Bool × Unit) w37 =>
  K (r36.1, ()) w37)
  (K (false, ()) w35))
  (K (false, ()) w32))
  (K (false, ()) w29))
  (K (false, ()) w29))
  (K (false, ()) w29))
  (K (false, ()) w27))
  (K (false, ()) w24))
  (K (false, ()) w21))
  (K (false, ()) w19))
  (K (false, ()) w16))
  (K (false, ()) w11))
  (K (false, ()) w8)
theorem law21_LedgerNil.vc (p0_0 : Int) (p0_1 : Int) (p0_2 : Int) (p1_0 : Int) (p1_1 : Int) (p1_2 : Int) (p1_3 : Int) (p1_4 : Bool) (p1_5 : Bool) (p1_6 : Bool) (p1_7 : Bool) (p1_8 : Bool) (w : World) (K : Bool × Unit → World → Prop) (h : law21_LedgerNil.P p0_0 p0_1 p0_2 p1_0 p1_1 p1_2 p1_3 p1_4 p1_5 p1_6 p1_7 p1_8 w K) : CallV Try.prog 4 #[.agg #[.int .i64 p0_0, .int .i64 p0_1, .int .i64 p0_2], .agg #[.int .i64 p1_0, .int .i64 p1_1, .int .i64 p1_2, .int .i64 p1_3, .bool p1_4, .bool p1_5, .bool p1_6, .bool p1_7, .bool p1_8]] w [.one .bool] K := by
  have e : vcFun Try.prog okf false Try.f4 law21_LedgerNil.A #[.agg #[.int .i64 p0_0, .int .i64 p0_1, .int .i64 p0_2], .agg #[.int .i64 p1_0, .int .i64 p1_1, .int .i64 p1_2, .int .i64 p1_3, .bool p1_4, .bool p1_5, .bool p1_6, .bool p1_7, .bool p1_8]] w [.one .bool] K = law21_LedgerNil.P p0_0 p0_1 p0_2 p1_0 p1_1 p1_2 p1_3 p1_4 p1_5 p1_6 p1_7 p1_8 w K := by kernel_rfl
  exact vcFun.calls okf_ok follows Try.func4 (e.symm ▸ h)

end Go.Proofs.Ytiemdjnmghackaa.Vc

/-! The law LedgerTells of layer 21: each call gives true, and what it read stays. -/
namespace Go.Proofs.Ytiemdjnmghackaa.Vc
open Go Go.Eng Go.RowKit
set_option linter.unusedVariables false
set_option linter.unusedSimpArgs false

abbrev TStep : Ty := .cons (.int .i64) (.cons (.int .i64) (.cons (.int .i64) .nil))
theorem BndB.up {i : Nat} {x : Blk} (h : BndB i x) : BndB (i + 1) x := by
  obtain ⟨⟨a, b⟩, ⟨c, d⟩, ⟨e, f⟩⟩ := h
  exact ⟨⟨a, by push_cast; omega⟩, ⟨c, by push_cast; omega⟩, ⟨e, by push_cast; omega⟩⟩
theorem BndB.new (i : Nat) : BndB i Blk.new := ⟨⟨by decide, by show (0 : Int) ≤ _; omega⟩, ⟨by decide, by show (0 : Int) ≤ _; omega⟩, ⟨by decide, by show (0 : Int) ≤ _; omega⟩⟩
theorem stL_bnd {k b m : Int} {N i : Nat} {L : List Blk} (hl : L.length = N) (hL : ∀ x ∈ L, BndB i x) (hm : k = 7 → m ≤ 1000000) : ∀ x ∈ stL k b m N L, BndB (i + 1) x := by
  intro x hx
  unfold stL at hx
  split at hx
  · rename_i h
    rcases List.mem_or_eq_of_mem_set hx with h1 | h1
    · exact (hL x h1).up
    · rw [h1]
      refine doB_bnd (hL _ ?_) hm
      have hb : b.toNat < L.length := by have := h.1.1; have := h.1.2; omega
      rw [List.getD_eq_getElem?_getD, List.getElem?_eq_getElem hb]
      exact List.getElem_mem hb
  · exact (hL x hx).up
theorem stL_length {k b m : Int} {N : Nat} {L : List Blk} : (stL k b m N L).length = L.length := by unfold stL; split <;> simp

theorem aw21 {w w' : World} (he : Ext w w') : CallV Try.prog 29 #[] w' [.one .bool] fun r w3 => r.1 = true ∧ Ext w w3 := awake21_c.mono fun r w3 ⟨h, e⟩ => ⟨h, he.trans e⟩

theorem LedgerTells_law {w : World} {m : Int} {x : SlP TStep.T} {G : Nat → Prop} {p0 p1 : Int} (hm : 0 ≤ m ∧ m < 256) (hx : (Ty.sl TStep).rd w G x) :
    CallV Try.prog 3 #[.int .u8 m, .slice x.a x.n x.c, .agg #[.int .i64 p0, .int .i64 p1]] w [.one .bool] fun r w' => r.1 = true ∧ Ext w w' := by
  apply law21_LedgerTells.vc
  unfold law21_LedgerTells.P
  obtain ⟨N, hN, hN9⟩ : ∃ N : Nat, IntKind.i64.wrap (Int.tmod m 10) = (N : Int) ∧ N ≤ 9 := by
    have h1 := Int.emod_nonneg m (show (10 : Int) ≠ 0 by decide)
    have h2 := Int.emod_lt_of_pos m (show (0 : Int) < 10 by decide)
    refine ⟨(m % 10).toNat, ?_, by omega⟩
    rw [Int.tmod_eq_emod_of_nonneg hm.1, i64_id (by omega) (by omega)]
    omega
  rw [hN]
  have S := Sep.start NoB w
  refine S.newB fun b1 w1 S f1 _ => ⟨by decide, ?_⟩
  refine (New21_c (n := (N : Int)) (by omega)).mono ?_
  rintro ⟨(r1 : Option Addr), (r2 : Int), ⟨⟩⟩ w2 ⟨h2, p, a, c, hp, T2⟩
  dsimp only at h2 hp ⊢
  subst h2; subst hp
  rw [Int.toNat_natCast] at T2
  have S := S.frame0 T2
  dsimp only [List.cons_append, List.nil_append] at S
  refine (rNew21_c (n := (N : Int)) (by omega)).mono ?_
  rintro ⟨⟨ra, rn, rc⟩, ⟨⟩⟩ w3 ⟨h3, T3⟩
  dsimp only at h3 T3 ⊢
  rw [Int.toNat_natCast] at h3 T3
  subst h3
  have S := (S.frame0 T3).sel [1, 1, 0, 0] rfl
  refine ⟨fun (_ : Unit) w' => ∃ L : List Blk, L.length = rn ∧ Sep NoB w w' [BoxA p 99 [.slice a rn c], OwnA 48 9 a rn c (bvs L), LstP ra rn rc L, BoxA b1 23 [.int .i64 p0, .int .i64 p1]], ?_, ?_⟩
  case refine_2 =>
    refine Loop1 (fun (v : Int × Unit) w' => ∃ (i : Nat) (L : List Blk), v.1 = (i : Int) ∧ i ≤ x.n ∧ i ≤ 60 ∧ L.length = rn ∧ (∀ y ∈ L, BndB i y) ∧ Sep NoB w w' [BoxA p 99 [.slice a rn c], OwnA 48 9 a rn c (bvs L), LstP ra rn rc L, BoxA b1 23 [.int .i64 p0, .int .i64 p1]])
      (fun (v : Int × Unit) _ => (60 - v.1).toNat) ⟨0, _, rfl, by omega, by omega, by simp, fun y hy => by rw [(List.mem_replicate.1 hy).2]; exact .new _, S⟩ ?_
    rintro ⟨(z : Int), ⟨⟩⟩ w4 ⟨i, L, hz, hi, hi60, hl, hL, S⟩
    dsimp only at hz ⊢
    subst hz
    refine cond_d (fun hlt => ?_) (fun hge => ⟨L, hl, S⟩)
    refine cond_d (fun hlt6 => ?_) (fun hge => ⟨L, hl, S⟩)
    obtain ⟨q, y, hq, hy, hc, hr, -, -⟩ := Ty.nth (e := TStep) (Ty.rd_ext S.ext _ hx) (Int.natCast_nonneg i) hlt (by decide)
    obtain ⟨k, b, n, ⟨⟩⟩ := y
    refine ⟨⟨by omega, hlt⟩, q, hq, (k, b, n, ()), hc, ?_⟩
    refine (right_c (k := k) (b := b) (n := n)).mono ?_
    rintro ⟨(r5 : Bool), ⟨⟩⟩ w5 ⟨h5, x5⟩
    dsimp only at h5 ⊢
    subst h5
    have S := S.stepE x5
    by_cases hR : rightS k n
    case neg =>
      refine cond_f (decide_eq_false hR) ?_
      exact ⟨Rng.i64 (by omega) (by omega), ⟨i + 1, L, by push_cast; rfl, by omega, by omega, hl, fun y hy => (hL y hy).up, S⟩, by omega⟩
    refine cond_t (decide_eq_true hR) ?_
    refine ⟨⟨by omega, hlt⟩, q, hq, (k, b, n, ()), x5.cells hc, ?_⟩
    have hnr : Rng .i64 n := hr.2.2.1
    refine Sep.call (LedP p a rn c L) (Ts := [LstP ra rn rc L, BoxA b1 23 [.int .i64 p0, .int .i64 p1]]) S (fun F S => chgS_c (k := k) (b := b) (m := n) hL (by omega) hnr hR S) ?_
    rintro F2 back ⟨(r6 : Int), ⟨⟩⟩ w6 ⟨-, S6⟩
    have S := (back _ _ S6).sel [2, 0, 0, 0] rfl
    obtain ⟨q2, y2, hq2, hy2, hc2, -, -, -⟩ := Ty.nth (e := TStep) (Ty.rd_ext S.ext _ hx) (Int.natCast_nonneg i) hlt (by decide)
    rw [hy] at hy2
    cases hy2
    refine ⟨⟨by omega, hlt⟩, q2, hq2, (k, b, n, ()), hc2, ?_⟩
    refine Sep.call [LstP ra rn rc L] (Ts := [BoxA p 99 [.slice a rn c], OwnA 48 9 a rn c (bvs (stL k b n rn L)), BoxA b1 23 [.int .i64 p0, .int .i64 p1]]) S (fun F S => apply_c (k := k) (b := b) (m := n) hL (by omega) ⟨hnr, hR.2.2⟩ S) ?_
    rintro F3 back ⟨(r7 : Int), ⟨⟩⟩ w7 ⟨-, S7⟩
    have S := (back _ _ S7).sel [1, 1, 0, 0] rfl
    exact ⟨Rng.i64 (by omega) (by omega), ⟨i + 1, stL k b n rn L, by push_cast; rfl, by omega, by omega, by rw [stL_length]; exact hl, stL_bnd hl hL hR.2.2, S⟩, by omega⟩
  rintro ⟨⟩ w4 ⟨L, hl, S⟩
  clear hx
  have hn : rn ≤ 1000000 := by omega
  refine (Pick_c hn S).mono ?_
  rintro ⟨(pk : Int), ⟨⟩⟩ w5 ⟨h5, x5⟩
  dsimp only at h5 ⊢
  have S := S.stepE x5
  refine ⟨by decide, S.ld3 rfl rfl ⟨by decide, S.ld3 rfl rfl ?_⟩⟩
  refine (Victim_c hn S).mono ?_
  rintro ⟨(vi : Int), ⟨⟩⟩ w6 ⟨h6, x6⟩
  dsimp only at h6 ⊢
  have S := S.stepE x6
  refine (Spread_c hn S).mono ?_
  rintro ⟨(le : Int), (mo : Int), ⟨⟩⟩ w7 ⟨h7, h7', x7⟩
  dsimp only at h7 h7' ⊢
  have S := S.stepE x7
  refine (rSpread_c hn (S.sel [2, 0, 0, 0] rfl)).mono ?_
  rintro ⟨⟨(le2 : Int), (mo2 : Int), ⟨⟩⟩, ⟨⟩⟩ w8 ⟨h8, h8', x8⟩
  have h8 : le2 = dnT L goodB erLe rn rn := h8
  have h8' : mo2 = dnT L goodB erGe rn rn := h8'
  dsimp only
  have S := S.stepE x8
  refine S.newB fun b20 w9 S f9 _ => ?_
  refine S.st0 (by rfl) fun w10 S f10 => ?_
  refine S.reg fun D hD hkeep S T => ?_
  refine cond_f rfl ?_
  have SL := S.sel [3, 0, 0, 0, 0] rfl
  refine (rPick_c hn SL).mono ?_
  rintro ⟨(pk2 : Int), ⟨⟩⟩ w11 ⟨h11, x11⟩
  dsimp only at h11 ⊢
  have T := T.stepE x11
  have q1 : pk = pk2 := by rw [h5, h11]; exact best_dn (key := fun x => x.er) (fun x y => rfl) (fun x y => rfl) rn
  subst q1
  refine ⟨hkeep _ T.fr, cond_ne (fun h => absurd rfl h) fun _ => ⟨by decide, hD _ S.bl4, S.ld4 rfl rfl ⟨by decide, hD _ S.bl4, S.ld4 rfl rfl ?_⟩⟩⟩
  refine (rVictim_c hn (SL.stepE T.ext)).mono ?_
  rintro ⟨(vi2 : Int), ⟨⟩⟩ w12 ⟨h12, x12⟩
  dsimp only at h12 ⊢
  have T := T.stepE x12
  have q2 : vi = vi2 := by rw [h6, h12]; exact best_dn (key := fun x => x.li) (fun x y => rfl) (fun x y => rfl) rn
  subst q2
  refine ⟨hkeep _ T.fr, cond_ne (fun h => absurd rfl h) fun _ => ⟨by decide, hD _ S.bl4, S.ld4 rfl rfl ⟨by decide, hD _ S.bl4, S.ld4 rfl rfl ?_⟩⟩⟩
  refine (Held21_c hn ((S.stepE T.ext).sel [1, 1, 0, 0, 0] rfl)).mono ?_
  rintro ⟨(he : Int), ⟨⟩⟩ w13 ⟨h13, x13⟩
  dsimp only at h13 ⊢
  have T := T.stepE x13
  refine ⟨hkeep _ T.fr, ?_⟩
  refine (rHeld21_c hn (SL.stepE T.ext)).mono ?_
  rintro ⟨(he2 : Int), ⟨⟩⟩ w14 ⟨h14, x14⟩
  dsimp only at h14 ⊢
  have T := T.stepE x14
  refine ⟨hkeep _ T.fr, cond_ne (fun h => absurd (h13.trans h14.symm) h) fun _ => ?_⟩
  refine (Bads_c hn ((S.stepE T.ext).sel [1, 1, 0, 0, 0] rfl)).mono ?_
  rintro ⟨(ba : Int), ⟨⟩⟩ w15 ⟨h15, x15⟩
  dsimp only at h15 ⊢
  have T := T.stepE x15
  refine ⟨hkeep _ T.fr, ?_⟩
  refine (rBads_c hn (SL.stepE T.ext)).mono ?_
  rintro ⟨(ba2 : Int), ⟨⟩⟩ w16 ⟨h16, x16⟩
  dsimp only at h16 ⊢
  have T := T.stepE x16
  refine ⟨hkeep _ T.fr, cond_ne (fun h => absurd (h15.trans h16.symm) h) fun _ => ?_⟩
  have q3 : le = le2 := by rw [h7, h8]; exact best_dn (key := fun x => x.er) (fun x y => rfl) (fun x y => rfl) rn
  have q4 : mo = mo2 := by
    rw [h7', h8']
    exact best_dn (key := fun x => - x.er) (fun x y => decide_eq_decide.2 (by omega)) (fun x y => decide_eq_decide.2 (by omega)) rn
  refine ⟨by decide, hD _ S.bl0, S.ld0 rfl rfl (cond_ne (fun h => absurd q3 h) fun _ => ⟨by decide, hD _ S.bl0, S.ld0 rfl rfl (cond_ne (fun h => absurd q4 h) fun _ => ?_)⟩)⟩
  refine ⟨by decide, hD _ S.bl4, S.ld4 rfl rfl ⟨by decide, hD _ S.bl4, S.ld4 rfl rfl ?_⟩⟩
  refine (Leaks_c hn ((S.stepE T.ext).sel [1, 1, 0, 0, 0] rfl)).mono ?_
  rintro ⟨(lk : Bool), ⟨⟩⟩ w17 ⟨h17, x17⟩
  dsimp only at h17 ⊢
  have T := T.stepE x17
  refine ⟨hkeep _ T.fr, ?_⟩
  refine (rLeaks_c hn (SL.stepE T.ext)).mono ?_
  rintro ⟨(lk2 : Bool), ⟨⟩⟩ w18 ⟨h18, x18⟩
  dsimp only at h18 ⊢
  have T := T.stepE x18
  refine ⟨hkeep _ T.fr, ?_⟩
  subst h17; subst h18
  refine cond_f (by simp) ?_
  have S := S.stepE T.ext
  clear SL T hkeep hD
  have vtail : ∀ {w' : World}, Ext w18 w' →
      cond (decide (vi < 0)) (CallV Try.prog 29 #[] w' [.one .bool] fun r w3 => r.1 = true ∧ Ext w w3)
        (CallV Try.prog 28 #[.pointer (some ⟨p, 0, none⟩), .int .i64 vi] w' [.agg [.int .i64, .int .i64, .int .i64, .int .i64, .bool, .bool, .bool, .bool, .bool]] fun (r : (Int × Int × Int × Int × Bool × Bool × Bool × Bool × Bool × Unit) × Unit) w3 =>
          cond r.1.2.2.2.2.1 (CallV Try.prog 29 #[] w3 [.one .bool] fun r w3 => r.1 = true ∧ Ext w w3) (false = true ∧ Ext w w3)) := fun {w'} x' => by
    have S := S.stepE x'
    refine cond_d (fun _ => aw21 S.ext) (fun hv => ?_)
    have tb := bestT_bd (L := L) (m := fun i x => decide ((i : Int) ≠ p1) && ownB p0 x) (ah := fun x y => decide (x.li < y.li)) rn
    have h6 : vi = bestT L (fun i x => decide ((i : Int) ≠ p1) && ownB p0 x) (fun x y => decide (x.li < y.li)) rn := h6
    rw [← h6] at tb
    refine (At21_c (b := vi) (S.sel [1, 1, 0, 0, 0] rfl) (by omega)).mono ?_
    rintro ⟨_, ⟨⟩⟩ w19 ⟨h19, x19⟩
    dsimp only at h19
    subst h19
    have hi := bestT_is (L := L) (m := fun i x => decide ((i : Int) ≠ p1) && ownB p0 x) (ah := fun x y => decide (x.li < y.li)) rn (by rw [← h6]; omega)
    rw [← h6] at hi
    refine cond_t ?_ (aw21 (S.ext.trans x19))
    simp only [Bool.and_eq_true, ownB] at hi
    exact hi.2.1.1
  refine cond_d (fun _ => vtail (Ext.refl _)) (fun hv => ?_)
  have tb := bestT_bd (L := L) (m := fun _ x => freeB x) (ah := fun x y => decide (x.er < y.er)) rn
  have h5 : pk = bestT L (fun _ x => freeB x) (fun x y => decide (x.er < y.er)) rn := h5
  rw [← h5] at tb
  refine (At21_c (b := pk) (S.sel [1, 1, 0, 0, 0] rfl) (by omega)).mono ?_
  rintro ⟨_, ⟨⟩⟩ w19 ⟨h19, x19⟩
  dsimp only at h19
  subst h19
  have hi := bestT_is (L := L) (m := fun _ x => freeB x) (ah := fun x y => decide (x.er < y.er)) rn (by rw [← h5]; omega)
  rw [← h5] at hi
  refine (Free_c (x := gx L pk.toNat)).mono ?_
  rintro ⟨(r : Bool), ⟨⟩⟩ w20 ⟨h20, x20⟩
  dsimp only at h20 ⊢
  subst h20
  exact cond_t hi (vtail (x19.trans x20))

abbrev TPair : Ty := .cons (.int .i64) (.cons (.int .i64) .nil)
theorem LedgerTells_of {w : World} {m : Int} {a : Option Addr} {n c : Nat} {l : List TStep.T} {x : TPair.T} (g0 : Rng .u8 m) (g1 : (Ty.sl TStep).ok w ⟨a, n, c, l⟩) (g2 : TPair.ok w x) :
    CallV Try.prog 3 #[.int .u8 m, .slice a n c, .agg (TPair.vs x).toArray] w [.one .bool] fun r w' => r.1 = true ∧ Ext w w' := by
  obtain ⟨p0, p1, ⟨⟩⟩ := x
  exact LedgerTells_law (x := ⟨a, n, c, l⟩) (rng_u8 g0) (Ty.rd_of _ g1)

end Go.Proofs.Ytiemdjnmghackaa.Vc

/-! The plans of functions as plain statements, printed by wip/tools/vcgen.py; the kernel holds each to the code. -/
namespace Go.Proofs.Ytiemdjnmghackaa.Vc
open Go Go.Eng
set_option linter.unusedVariables false

/-! ### (*nepenthe/ledger.Ledger).has: function 71 -/
def ledger_Ledger_has_nil.A : Ann := .no
def ledger_Ledger_has_nil.P (p1 : Int) (w : World) (K : Bool × Unit → World → Prop) : Prop :=
  cond (decide (p1 ≥ 0))
  (CallV Try.prog 30 #[.pointer none] w [.one (.int .i64)] fun (r1 : Int × Unit) w2 =>
  K (decide (p1 < r1.1), ()) w2)
  (K (false, ()) w)
theorem ledger_Ledger_has_nil.vc (p1 : Int) (w : World) (K : Bool × Unit → World → Prop) (h : ledger_Ledger_has_nil.P p1 w K) : CallV Try.prog 71 #[.pointer none, .int .i64 p1] w [.one .bool] K := by
  have e : vcFun Try.prog okf false Try.f71 ledger_Ledger_has_nil.A #[.pointer none, .int .i64 p1] w [.one .bool] K = ledger_Ledger_has_nil.P p1 w K := by kernel_rfl
  exact vcFun.calls okf_ok follows Try.func71 (e.symm ▸ h)

/-! ### (*nepenthe/ledger.Ledger).Len: function 30 -/
def ledger_Ledger_Len_nil.A : Ann := .no
def ledger_Ledger_Len_nil.P  (w : World) (K : Int × Unit → World → Prop) : Prop :=
  K ((0 : Int), ()) w
theorem ledger_Ledger_Len_nil.vc  (w : World) (K : Int × Unit → World → Prop) (h : ledger_Ledger_Len_nil.P  w K) : CallV Try.prog 30 #[.pointer none] w [.one (.int .i64)] K := by
  have e : vcFun Try.prog okf false Try.f30 ledger_Ledger_Len_nil.A #[.pointer none] w [.one (.int .i64)] K = ledger_Ledger_Len_nil.P  w K := by kernel_rfl
  exact vcFun.calls okf_ok follows Try.func30 (e.symm ▸ h)

/-! ### (*nepenthe/ledger.Ledger).change: function 72 -/
def ledger_Ledger_change_nil.A : Ann := .no
def ledger_Ledger_change_nil.P (p1 : Int) (g2 : FuncId) (cap2 : Array Value) (w : World) (K : Int × Unit → World → Prop) : Prop :=
  CallV Try.prog 71 #[.pointer none, .int .i64 p1] w [.one .bool] fun (r1 : Bool × Unit) w2 =>
  cond (!r1.1)
  (K ((2 : Int), ()) w2)
  (False)
theorem ledger_Ledger_change_nil.vc (p1 : Int) (g2 : FuncId) (cap2 : Array Value) (w : World) (K : Int × Unit → World → Prop) (h : ledger_Ledger_change_nil.P p1 g2 cap2 w K) : CallV Try.prog 72 #[.pointer none, .int .i64 p1, .func (.func g2) #[] cap2] w [.one (.int .i64)] K := by
  have e : vcFun Try.prog okf false Try.f72 ledger_Ledger_change_nil.A #[.pointer none, .int .i64 p1, .func (.func g2) #[] cap2] w [.one (.int .i64)] K = ledger_Ledger_change_nil.P p1 g2 cap2 w K := by kernel_rfl
  exact vcFun.calls okf_ok follows Try.func72 (e.symm ▸ h)

/-! ### (*nepenthe/ledger.Ledger).At: function 28 -/
def ledger_Ledger_At_nil.A : Ann := .no
def ledger_Ledger_At_nil.P (p1 : Int) (w : World) (K : (Int × Int × Int × Int × Bool × Bool × Bool × Bool × Bool × Unit) × Unit → World → Prop) : Prop :=
  NewV #[.int .i64 0, .int .i64 0, .int .i64 0, .int .i64 0, .bool false, .bool false, .bool false, .bool false, .bool false] 48 w fun b1 w2 =>
  CallV Try.prog 71 #[.pointer none, .int .i64 p1] w2 [.one .bool] fun (r3 : Bool × Unit) w4 =>
  cond (!r3.1)
  (StoreV w4 ⟨b1, 0, none⟩ [.int .i64 0, .int .i64 0, .int .i64 0, .int .i64 0, .bool false, .bool false, .bool false, .bool false, .bool false] fun w5 =>
  LoadA w5 ⟨b1, 0, none⟩ [.int .i64, .int .i64, .int .i64, .int .i64, .bool, .bool, .bool, .bool, .bool] fun (x6 : Int × Int × Int × Int × Bool × Bool × Bool × Bool × Bool × Unit) =>
  K ((x6.1, x6.2.1, x6.2.2.1, x6.2.2.2.1, x6.2.2.2.2.1, x6.2.2.2.2.2.1, x6.2.2.2.2.2.2.1, x6.2.2.2.2.2.2.2.1, x6.2.2.2.2.2.2.2.2.1, ()), ()) w5)
  (False)
theorem ledger_Ledger_At_nil.vc (p1 : Int) (w : World) (K : (Int × Int × Int × Int × Bool × Bool × Bool × Bool × Bool × Unit) × Unit → World → Prop) (h : ledger_Ledger_At_nil.P p1 w K) : CallV Try.prog 28 #[.pointer none, .int .i64 p1] w [.agg [.int .i64, .int .i64, .int .i64, .int .i64, .bool, .bool, .bool, .bool, .bool]] K := by
  have e : vcFun Try.prog okf false Try.f28 ledger_Ledger_At_nil.A #[.pointer none, .int .i64 p1] w [.agg [.int .i64, .int .i64, .int .i64, .int .i64, .bool, .bool, .bool, .bool, .bool]] K = ledger_Ledger_At_nil.P p1 w K := by kernel_rfl
  exact vcFun.calls okf_ok follows Try.func28 (e.symm ▸ h)

/-! ### (*nepenthe/ledger.Ledger).Set: function 31 -/
def ledger_Ledger_Set_nil.A : Ann := .no
def ledger_Ledger_Set_nil.P (p1 : Int) (p2_0 : Int) (p2_1 : Int) (p2_2 : Int) (p2_3 : Int) (p2_4 : Bool) (p2_5 : Bool) (p2_6 : Bool) (p2_7 : Bool) (p2_8 : Bool) (w : World) (K : Int × Unit → World → Prop) : Prop :=
  NewV #[.int .i64 p2_0, .int .i64 p2_1, .int .i64 p2_2, .int .i64 p2_3, .bool p2_4, .bool p2_5, .bool p2_6, .bool p2_7, .bool p2_8] 48 w fun b1 w2 =>
  CallV Try.prog 72 #[.pointer none, .int .i64 p1, .func (.func 73) #[] #[.pointer (some ⟨b1, 0, none⟩)]] w2 [.one (.int .i64)] fun (r3 : Int × Unit) w4 =>
  K (r3.1, ()) w4
theorem ledger_Ledger_Set_nil.vc (p1 : Int) (p2_0 : Int) (p2_1 : Int) (p2_2 : Int) (p2_3 : Int) (p2_4 : Bool) (p2_5 : Bool) (p2_6 : Bool) (p2_7 : Bool) (p2_8 : Bool) (w : World) (K : Int × Unit → World → Prop) (h : ledger_Ledger_Set_nil.P p1 p2_0 p2_1 p2_2 p2_3 p2_4 p2_5 p2_6 p2_7 p2_8 w K) : CallV Try.prog 31 #[.pointer none, .int .i64 p1, .agg #[.int .i64 p2_0, .int .i64 p2_1, .int .i64 p2_2, .int .i64 p2_3, .bool p2_4, .bool p2_5, .bool p2_6, .bool p2_7, .bool p2_8]] w [.one (.int .i64)] K := by
  have e : vcFun Try.prog okf false Try.f31 ledger_Ledger_Set_nil.A #[.pointer none, .int .i64 p1, .agg #[.int .i64 p2_0, .int .i64 p2_1, .int .i64 p2_2, .int .i64 p2_3, .bool p2_4, .bool p2_5, .bool p2_6, .bool p2_7, .bool p2_8]] w [.one (.int .i64)] K = ledger_Ledger_Set_nil.P p1 p2_0 p2_1 p2_2 p2_3 p2_4 p2_5 p2_6 p2_7 p2_8 w K := by kernel_rfl
  exact vcFun.calls okf_ok follows Try.func31 (e.symm ▸ h)

/-! ### (*nepenthe/ledger.Ledger).Hold: function 51 -/
def ledger_Ledger_Hold_nil.A : Ann := .no
def ledger_Ledger_Hold_nil.P (p1 : Int) (p2 : Int) (w : World) (K : Int × Unit → World → Prop) : Prop :=
  NewV #[.int .i64 p2] 3 w fun b1 w2 =>
  LoadS w2 ⟨b1, 0, none⟩ (.int .i64) fun (x3 : Int) =>
  cond (decide (x3 < 0))
  (K ((2 : Int), ()) w2)
  (LoadS w2 ⟨b1, 0, none⟩ (.int .i64) fun (x4 : Int) =>
  cond (decide (x4 ≥ 4))
  (K ((2 : Int), ()) w2)
  (CallV Try.prog 72 #[.pointer none, .int .i64 p1, .func (.func 92) #[] #[.pointer (some ⟨b1, 0, none⟩)]] w2 [.one (.int .i64)] fun (r5 : Int × Unit) w6 =>
  K (r5.1, ()) w6))
theorem ledger_Ledger_Hold_nil.vc (p1 : Int) (p2 : Int) (w : World) (K : Int × Unit → World → Prop) (h : ledger_Ledger_Hold_nil.P p1 p2 w K) : CallV Try.prog 51 #[.pointer none, .int .i64 p1, .int .i64 p2] w [.one (.int .i64)] K := by
  have e : vcFun Try.prog okf false Try.f51 ledger_Ledger_Hold_nil.A #[.pointer none, .int .i64 p1, .int .i64 p2] w [.one (.int .i64)] K = ledger_Ledger_Hold_nil.P p1 p2 w K := by kernel_rfl
  exact vcFun.calls okf_ok follows Try.func51 (e.symm ▸ h)

/-! ### (*nepenthe/ledger.Ledger).Release: function 52 -/
def ledger_Ledger_Release_nil.A : Ann := .no
def ledger_Ledger_Release_nil.P (p1 : Int) (w : World) (K : Int × Unit → World → Prop) : Prop :=
  CallV Try.prog 72 #[.pointer none, .int .i64 p1, .func (.func 93) #[] #[]] w [.one (.int .i64)] fun (r1 : Int × Unit) w2 =>
  K (r1.1, ()) w2
theorem ledger_Ledger_Release_nil.vc (p1 : Int) (w : World) (K : Int × Unit → World → Prop) (h : ledger_Ledger_Release_nil.P p1 w K) : CallV Try.prog 52 #[.pointer none, .int .i64 p1] w [.one (.int .i64)] K := by
  have e : vcFun Try.prog okf false Try.f52 ledger_Ledger_Release_nil.A #[.pointer none, .int .i64 p1] w [.one (.int .i64)] K = ledger_Ledger_Release_nil.P p1 w K := by kernel_rfl
  exact vcFun.calls okf_ok follows Try.func52 (e.symm ▸ h)

/-! ### (*nepenthe/ledger.Ledger).Erased: function 53 -/
def ledger_Ledger_Erased_nil.A : Ann := .no
def ledger_Ledger_Erased_nil.P (p1 : Int) (w : World) (K : Int × Unit → World → Prop) : Prop :=
  CallV Try.prog 72 #[.pointer none, .int .i64 p1, .func (.func 94) #[] #[]] w [.one (.int .i64)] fun (r1 : Int × Unit) w2 =>
  K (r1.1, ()) w2
theorem ledger_Ledger_Erased_nil.vc (p1 : Int) (w : World) (K : Int × Unit → World → Prop) (h : ledger_Ledger_Erased_nil.P p1 w K) : CallV Try.prog 53 #[.pointer none, .int .i64 p1] w [.one (.int .i64)] K := by
  have e : vcFun Try.prog okf false Try.f53 ledger_Ledger_Erased_nil.A #[.pointer none, .int .i64 p1] w [.one (.int .i64)] K = ledger_Ledger_Erased_nil.P p1 w K := by kernel_rfl
  exact vcFun.calls okf_ok follows Try.func53 (e.symm ▸ h)

/-! ### (*nepenthe/ledger.Ledger).Failed: function 54 -/
def ledger_Ledger_Failed_nil.A : Ann := .no
def ledger_Ledger_Failed_nil.P (p1 : Int) (w : World) (K : Int × Unit → World → Prop) : Prop :=
  CallV Try.prog 72 #[.pointer none, .int .i64 p1, .func (.func 95) #[] #[]] w [.one (.int .i64)] fun (r1 : Int × Unit) w2 =>
  K (r1.1, ()) w2
theorem ledger_Ledger_Failed_nil.vc (p1 : Int) (w : World) (K : Int × Unit → World → Prop) (h : ledger_Ledger_Failed_nil.P p1 w K) : CallV Try.prog 54 #[.pointer none, .int .i64 p1] w [.one (.int .i64)] K := by
  have e : vcFun Try.prog okf false Try.f54 ledger_Ledger_Failed_nil.A #[.pointer none, .int .i64 p1] w [.one (.int .i64)] K = ledger_Ledger_Failed_nil.P p1 w K := by kernel_rfl
  exact vcFun.calls okf_ok follows Try.func54 (e.symm ▸ h)

/-! ### (*nepenthe/ledger.Ledger).Scrubbed: function 55 -/
def ledger_Ledger_Scrubbed_nil.A : Ann := .no
def ledger_Ledger_Scrubbed_nil.P (p1 : Int) (p2 : Bool) (w : World) (K : Int × Unit → World → Prop) : Prop :=
  NewV #[.bool p2] 4 w fun b1 w2 =>
  CallV Try.prog 72 #[.pointer none, .int .i64 p1, .func (.func 96) #[] #[.pointer (some ⟨b1, 0, none⟩)]] w2 [.one (.int .i64)] fun (r3 : Int × Unit) w4 =>
  K (r3.1, ()) w4
theorem ledger_Ledger_Scrubbed_nil.vc (p1 : Int) (p2 : Bool) (w : World) (K : Int × Unit → World → Prop) (h : ledger_Ledger_Scrubbed_nil.P p1 p2 w K) : CallV Try.prog 55 #[.pointer none, .int .i64 p1, .bool p2] w [.one (.int .i64)] K := by
  have e : vcFun Try.prog okf false Try.f55 ledger_Ledger_Scrubbed_nil.A #[.pointer none, .int .i64 p1, .bool p2] w [.one (.int .i64)] K = ledger_Ledger_Scrubbed_nil.P p1 p2 w K := by kernel_rfl
  exact vcFun.calls okf_ok follows Try.func55 (e.symm ▸ h)

/-! ### (*nepenthe/ledger.Ledger).Use: function 56 -/
def ledger_Ledger_Use_nil.A : Ann := .no
def ledger_Ledger_Use_nil.P (p1 : Int) (w : World) (K : Int × Unit → World → Prop) : Prop :=
  CallV Try.prog 72 #[.pointer none, .int .i64 p1, .func (.func 97) #[] #[]] w [.one (.int .i64)] fun (r1 : Int × Unit) w2 =>
  K (r1.1, ()) w2
theorem ledger_Ledger_Use_nil.vc (p1 : Int) (w : World) (K : Int × Unit → World → Prop) (h : ledger_Ledger_Use_nil.P p1 w K) : CallV Try.prog 56 #[.pointer none, .int .i64 p1] w [.one (.int .i64)] K := by
  have e : vcFun Try.prog okf false Try.f56 ledger_Ledger_Use_nil.A #[.pointer none, .int .i64 p1] w [.one (.int .i64)] K = ledger_Ledger_Use_nil.P p1 w K := by kernel_rfl
  exact vcFun.calls okf_ok follows Try.func56 (e.symm ▸ h)

/-! ### (*nepenthe/ledger.Ledger).Count: function 57 -/
def ledger_Ledger_Count_nil.A : Ann := .no
def ledger_Ledger_Count_nil.P (p1 : Int) (p2 : Int) (w : World) (K : Int × Unit → World → Prop) : Prop :=
  NewV #[.int .i64 p2] 3 w fun b1 w2 =>
  CallV Try.prog 72 #[.pointer none, .int .i64 p1, .func (.func 98) #[] #[.pointer (some ⟨b1, 0, none⟩)]] w2 [.one (.int .i64)] fun (r3 : Int × Unit) w4 =>
  K (r3.1, ()) w4
theorem ledger_Ledger_Count_nil.vc (p1 : Int) (p2 : Int) (w : World) (K : Int × Unit → World → Prop) (h : ledger_Ledger_Count_nil.P p1 p2 w K) : CallV Try.prog 57 #[.pointer none, .int .i64 p1, .int .i64 p2] w [.one (.int .i64)] K := by
  have e : vcFun Try.prog okf false Try.f57 ledger_Ledger_Count_nil.A #[.pointer none, .int .i64 p1, .int .i64 p2] w [.one (.int .i64)] K = ledger_Ledger_Count_nil.P p1 p2 w K := by kernel_rfl
  exact vcFun.calls okf_ok follows Try.func57 (e.symm ▸ h)

/-! ### (*nepenthe/ledger.Ledger).best: function 59 -/
-- loop 0 carries 7: .one (.int .i64), 11: .one (.int .i64)
def ledger_Ledger_best_nil.A : Ann := .two .no (.two .no (.two (.two .no (.one (.loop [7, 8, 11, 12, 13, 14, 15, 16, 17, 18, 19, 20, 21, 22, 23, 24, 25, 26, 27, 28, 29, 30, 31, 32, 33, 34, 35, 36, 37, 38, 39, 40, 41, 42, 43, 44, 45, 46, 47] [(7, .one (.int .i64)), (11, .one (.int .i64))] (.two .no (.two .no (.two (.one (.two .no (.two (.draw (.take 0 (.take 1 (.take 2 (.take 3 (.take 4 (.take 5 (.take 6 (.take 7 (.take 8 (.eff 9 (.take 10 (.take 11 (.take 12 (.take 13 (.take 14 (.take 15 (.take 16 (.take 17 (.take 18 (.take 19 (.take 20 (.take 21 (.take 22 (.take 23 (.take 24 (.take 25 (.take 26 (.take 27 (.take 28 (.eff 29 (.take 30 (.take 31 (.done)))))))))))))))))))))))))))))))))) .no))) .no)))))) .no))
def ledger_Ledger_best_nil.P (g1 : FuncId) (cap1 : Array Value) (g2 : FuncId) (cap2 : Array Value) (w : World) (K : Int × Unit → World → Prop) : Prop :=
  CallV Try.prog 30 #[.pointer none] w [.one (.int .i64)] fun (r1 : Int × Unit) w2 =>
  LoopV [.one (.int .i64), .one (.int .i64)] (((-1) : Int), (0 : Int), ()) w2 fun (z3 : Int × Int × Unit) w4 (K5 : Int × Int × Unit → World → Prop) =>
  cond (decide (z3.2.1 < r1.1))
  (DrawV fun D6 =>
  False)
  (K (z3.1, ()) w4)
theorem ledger_Ledger_best_nil.vc (g1 : FuncId) (cap1 : Array Value) (g2 : FuncId) (cap2 : Array Value) (w : World) (K : Int × Unit → World → Prop) (h : ledger_Ledger_best_nil.P g1 cap1 g2 cap2 w K) : CallV Try.prog 59 #[.pointer none, .func (.func g1) #[] cap1, .func (.func g2) #[] cap2] w [.one (.int .i64)] K := by
  have e : vcFun Try.prog okf false Try.f59 ledger_Ledger_best_nil.A #[.pointer none, .func (.func g1) #[] cap1, .func (.func g2) #[] cap2] w [.one (.int .i64)] K = ledger_Ledger_best_nil.P g1 cap1 g2 cap2 w K := by kernel_rfl
  exact vcFun.calls okf_ok follows Try.func59 (e.symm ▸ h)

/-! ### (*nepenthe/ledger.Ledger).Pick: function 15 -/
def ledger_Ledger_Pick_nil.A : Ann := .no
def ledger_Ledger_Pick_nil.P  (w : World) (K : Int × Unit → World → Prop) : Prop :=
  CallV Try.prog 59 #[.pointer none, .func (.func 60) #[] #[], .func (.func 61) #[] #[]] w [.one (.int .i64)] fun (r1 : Int × Unit) w2 =>
  K (r1.1, ()) w2
theorem ledger_Ledger_Pick_nil.vc  (w : World) (K : Int × Unit → World → Prop) (h : ledger_Ledger_Pick_nil.P  w K) : CallV Try.prog 15 #[.pointer none] w [.one (.int .i64)] K := by
  have e : vcFun Try.prog okf false Try.f15 ledger_Ledger_Pick_nil.A #[.pointer none] w [.one (.int .i64)] K = ledger_Ledger_Pick_nil.P  w K := by kernel_rfl
  exact vcFun.calls okf_ok follows Try.func15 (e.symm ▸ h)

/-! ### (*nepenthe/ledger.Ledger).Victim: function 16 -/
def ledger_Ledger_Victim_nil.A : Ann := .no
def ledger_Ledger_Victim_nil.P (p1 : Int) (p2 : Int) (w : World) (K : Int × Unit → World → Prop) : Prop :=
  NewV #[.int .i64 p1] 3 w fun b1 w2 =>
  NewV #[.int .i64 p2] 3 w2 fun b3 w4 =>
  CallV Try.prog 59 #[.pointer none, .func (.func 62) #[] #[.pointer (some ⟨b3, 0, none⟩), .pointer (some ⟨b1, 0, none⟩)], .func (.func 64) #[] #[]] w4 [.one (.int .i64)] fun (r5 : Int × Unit) w6 =>
  K (r5.1, ()) w6
theorem ledger_Ledger_Victim_nil.vc (p1 : Int) (p2 : Int) (w : World) (K : Int × Unit → World → Prop) (h : ledger_Ledger_Victim_nil.P p1 p2 w K) : CallV Try.prog 16 #[.pointer none, .int .i64 p1, .int .i64 p2] w [.one (.int .i64)] K := by
  have e : vcFun Try.prog okf false Try.f16 ledger_Ledger_Victim_nil.A #[.pointer none, .int .i64 p1, .int .i64 p2] w [.one (.int .i64)] K = ledger_Ledger_Victim_nil.P p1 p2 w K := by kernel_rfl
  exact vcFun.calls okf_ok follows Try.func16 (e.symm ▸ h)

/-! ### (*nepenthe/ledger.Ledger).many: function 67 -/
-- loop 0 carries 5: .one (.int .i64), 9: .one (.int .i64)
def ledger_Ledger_many_nil.A : Ann := .two .no (.two .no (.two (.two .no (.one (.loop [5, 6, 9, 10, 11, 12, 13, 14, 15, 16, 17, 18, 19, 20, 21, 22, 23] [(5, .one (.int .i64)), (9, .one (.int .i64))] .no))) .no))
def ledger_Ledger_many_nil.P (g1 : FuncId) (cap1 : Array Value) (w : World) (K : Int × Unit → World → Prop) : Prop :=
  CallV Try.prog 30 #[.pointer none] w [.one (.int .i64)] fun (r1 : Int × Unit) w2 =>
  LoopV [.one (.int .i64), .one (.int .i64)] ((0 : Int), (0 : Int), ()) w2 fun (z3 : Int × Int × Unit) w4 (K5 : Int × Int × Unit → World → Prop) =>
  cond (decide (z3.2.1 < r1.1))
  (False)
  (K (z3.1, ()) w4)
theorem ledger_Ledger_many_nil.vc (g1 : FuncId) (cap1 : Array Value) (w : World) (K : Int × Unit → World → Prop) (h : ledger_Ledger_many_nil.P g1 cap1 w K) : CallV Try.prog 67 #[.pointer none, .func (.func g1) #[] cap1] w [.one (.int .i64)] K := by
  have e : vcFun Try.prog okf false Try.f67 ledger_Ledger_many_nil.A #[.pointer none, .func (.func g1) #[] cap1] w [.one (.int .i64)] K = ledger_Ledger_many_nil.P g1 cap1 w K := by kernel_rfl
  exact vcFun.calls okf_ok follows Try.func67 (e.symm ▸ h)

/-! ### (*nepenthe/ledger.Ledger).Held: function 21 -/
def ledger_Ledger_Held_nil.A : Ann := .no
def ledger_Ledger_Held_nil.P (p1 : Int) (w : World) (K : Int × Unit → World → Prop) : Prop :=
  NewV #[.int .i64 p1] 3 w fun b1 w2 =>
  CallV Try.prog 67 #[.pointer none, .func (.func 68) #[] #[.pointer (some ⟨b1, 0, none⟩)]] w2 [.one (.int .i64)] fun (r3 : Int × Unit) w4 =>
  K (r3.1, ()) w4
theorem ledger_Ledger_Held_nil.vc (p1 : Int) (w : World) (K : Int × Unit → World → Prop) (h : ledger_Ledger_Held_nil.P p1 w K) : CallV Try.prog 21 #[.pointer none, .int .i64 p1] w [.one (.int .i64)] K := by
  have e : vcFun Try.prog okf false Try.f21 ledger_Ledger_Held_nil.A #[.pointer none, .int .i64 p1] w [.one (.int .i64)] K = ledger_Ledger_Held_nil.P p1 w K := by kernel_rfl
  exact vcFun.calls okf_ok follows Try.func21 (e.symm ▸ h)

/-! ### (*nepenthe/ledger.Ledger).Bads: function 23 -/
def ledger_Ledger_Bads_nil.A : Ann := .no
def ledger_Ledger_Bads_nil.P  (w : World) (K : Int × Unit → World → Prop) : Prop :=
  CallV Try.prog 67 #[.pointer none, .func (.func 69) #[] #[]] w [.one (.int .i64)] fun (r1 : Int × Unit) w2 =>
  K (r1.1, ()) w2
theorem ledger_Ledger_Bads_nil.vc  (w : World) (K : Int × Unit → World → Prop) (h : ledger_Ledger_Bads_nil.P  w K) : CallV Try.prog 23 #[.pointer none] w [.one (.int .i64)] K := by
  have e : vcFun Try.prog okf false Try.f23 ledger_Ledger_Bads_nil.A #[.pointer none] w [.one (.int .i64)] K = ledger_Ledger_Bads_nil.P  w K := by kernel_rfl
  exact vcFun.calls okf_ok follows Try.func23 (e.symm ▸ h)

/-! ### (*nepenthe/ledger.Ledger).Spread: function 17 -/
def ledger_Ledger_Spread_nil.A : Ann := .no
def ledger_Ledger_Spread_nil.P  (w : World) (K : Int × Int × Unit → World → Prop) : Prop :=
  CallV Try.prog 59 #[.pointer none, .func (.func 65) #[] #[], .func (.func 61) #[] #[]] w [.one (.int .i64)] fun (r1 : Int × Unit) w2 =>
  CallV Try.prog 59 #[.pointer none, .func (.func 65) #[] #[], .func (.func 66) #[] #[]] w2 [.one (.int .i64)] fun (r3 : Int × Unit) w4 =>
  K (r1.1, r3.1, ()) w4
theorem ledger_Ledger_Spread_nil.vc  (w : World) (K : Int × Int × Unit → World → Prop) (h : ledger_Ledger_Spread_nil.P  w K) : CallV Try.prog 17 #[.pointer none] w [.one (.int .i64), .one (.int .i64)] K := by
  have e : vcFun Try.prog okf false Try.f17 ledger_Ledger_Spread_nil.A #[.pointer none] w [.one (.int .i64), .one (.int .i64)] K = ledger_Ledger_Spread_nil.P  w K := by kernel_rfl
  exact vcFun.calls okf_ok follows Try.func17 (e.symm ▸ h)

/-! ### (*nepenthe/ledger.Ledger).Dirty: function 32 -/
def ledger_Ledger_Dirty_nil.A : Ann := .no
def ledger_Ledger_Dirty_nil.P (p1 : Int) (w : World) (K : Bool × Unit → World → Prop) : Prop :=
  CallV Try.prog 71 #[.pointer none, .int .i64 p1] w [.one .bool] fun (r1 : Bool × Unit) w2 =>
  cond r1.1
  (False)
  (K (false, ()) w2)
theorem ledger_Ledger_Dirty_nil.vc (p1 : Int) (w : World) (K : Bool × Unit → World → Prop) (h : ledger_Ledger_Dirty_nil.P p1 w K) : CallV Try.prog 32 #[.pointer none, .int .i64 p1] w [.one .bool] K := by
  have e : vcFun Try.prog okf false Try.f32 ledger_Ledger_Dirty_nil.A #[.pointer none, .int .i64 p1] w [.one .bool] K = ledger_Ledger_Dirty_nil.P p1 w K := by kernel_rfl
  exact vcFun.calls okf_ok follows Try.func32 (e.symm ▸ h)

/-! ### (*nepenthe/ledger.Ledger).Leaks: function 25 -/
def ledger_Ledger_Leaks_nil.A : Ann := .no
def ledger_Ledger_Leaks_nil.P (p1 : Int) (w : World) (K : Bool × Unit → World → Prop) : Prop :=
  NewV #[.int .i64 p1] 3 w fun b1 w2 =>
  CallV Try.prog 67 #[.pointer none, .func (.func 70) #[] #[.pointer (some ⟨b1, 0, none⟩)]] w2 [.one (.int .i64)] fun (r3 : Int × Unit) w4 =>
  K (decide (r3.1 > 0), ()) w4
theorem ledger_Ledger_Leaks_nil.vc (p1 : Int) (w : World) (K : Bool × Unit → World → Prop) (h : ledger_Ledger_Leaks_nil.P p1 w K) : CallV Try.prog 25 #[.pointer none, .int .i64 p1] w [.one .bool] K := by
  have e : vcFun Try.prog okf false Try.f25 ledger_Ledger_Leaks_nil.A #[.pointer none, .int .i64 p1] w [.one .bool] K = ledger_Ledger_Leaks_nil.P p1 w K := by kernel_rfl
  exact vcFun.calls okf_ok follows Try.func25 (e.symm ▸ h)

/-! ### nepenthe/nepenthelaw21.change: function 13 -/
def law21_change_nil.A : Ann := .no
def law21_change_nil.P (p1_0 : Int) (p1_1 : Int) (p1_2 : Int) (w : World) (K : Int × Unit → World → Prop) : Prop :=
  NewV #[.int .i64 p1_0, .int .i64 p1_1, .int .i64 p1_2] 32 w fun b1 w2 =>
  LoadS w2 ⟨b1, 0, none⟩ (.int .i64) fun (x3 : Int) =>
  cond (x3 == 1)
  (LoadS w2 ⟨b1, 1, none⟩ (.int .i64) fun (x4 : Int) =>
  LoadS w2 ⟨b1, 2, none⟩ (.int .i64) fun (x5 : Int) =>
  CallV Try.prog 51 #[.pointer none, .int .i64 x4, .int .i64 x5] w2 [.one (.int .i64)] fun (r6 : Int × Unit) w7 =>
  K (r6.1, ()) w7)
  (cond (x3 == 2)
  (LoadS w2 ⟨b1, 1, none⟩ (.int .i64) fun (x8 : Int) =>
  CallV Try.prog 52 #[.pointer none, .int .i64 x8] w2 [.one (.int .i64)] fun (r9 : Int × Unit) w10 =>
  K (r9.1, ()) w10)
  (cond (x3 == 3)
  (LoadS w2 ⟨b1, 1, none⟩ (.int .i64) fun (x11 : Int) =>
  CallV Try.prog 53 #[.pointer none, .int .i64 x11] w2 [.one (.int .i64)] fun (r12 : Int × Unit) w13 =>
  K (r12.1, ()) w13)
  (cond (x3 == 4)
  (LoadS w2 ⟨b1, 1, none⟩ (.int .i64) fun (x14 : Int) =>
  CallV Try.prog 54 #[.pointer none, .int .i64 x14] w2 [.one (.int .i64)] fun (r15 : Int × Unit) w16 =>
  K (r15.1, ()) w16)
  (cond (x3 == 5)
  (LoadS w2 ⟨b1, 1, none⟩ (.int .i64) fun (x17 : Int) =>
  LoadS w2 ⟨b1, 2, none⟩ (.int .i64) fun (x18 : Int) =>
  CallV Try.prog 55 #[.pointer none, .int .i64 x17, .bool (x18 == 1)] w2 [.one (.int .i64)] fun (r19 : Int × Unit) w20 =>
  K (r19.1, ()) w20)
  (cond (x3 == 6)
  (LoadS w2 ⟨b1, 1, none⟩ (.int .i64) fun (x21 : Int) =>
  CallV Try.prog 56 #[.pointer none, .int .i64 x21] w2 [.one (.int .i64)] fun (r22 : Int × Unit) w23 =>
  K (r22.1, ()) w23)
  (LoadS w2 ⟨b1, 1, none⟩ (.int .i64) fun (x24 : Int) =>
  LoadS w2 ⟨b1, 2, none⟩ (.int .i64) fun (x25 : Int) =>
  CallV Try.prog 57 #[.pointer none, .int .i64 x24, .int .i64 x25] w2 [.one (.int .i64)] fun (r26 : Int × Unit) w27 =>
  K (r26.1, ()) w27))))))
theorem law21_change_nil.vc (p1_0 : Int) (p1_1 : Int) (p1_2 : Int) (w : World) (K : Int × Unit → World → Prop) (h : law21_change_nil.P p1_0 p1_1 p1_2 w K) : CallV Try.prog 13 #[.pointer none, .agg #[.int .i64 p1_0, .int .i64 p1_1, .int .i64 p1_2]] w [.one (.int .i64)] K := by
  have e : vcFun Try.prog okf false Try.f13 law21_change_nil.A #[.pointer none, .agg #[.int .i64 p1_0, .int .i64 p1_1, .int .i64 p1_2]] w [.one (.int .i64)] K = law21_change_nil.P p1_0 p1_1 p1_2 w K := by kernel_rfl
  exact vcFun.calls okf_ok follows Try.func13 (e.symm ▸ h)

end Go.Proofs.Ytiemdjnmghackaa.Vc

/-! The law LedgerNil of layer 21: each call gives true, and what it read stays. -/
namespace Go.Proofs.Ytiemdjnmghackaa.Vc
open Go Go.Eng Go.RowKit
set_option linter.unusedVariables false
set_option linter.unusedSimpArgs false

section
variable {w : World} {b : Int}
theorem LenN_c : CallV Try.prog 30 #[.pointer none] w [.one (.int .i64)] fun r w' => r.1 = (0 : Int) ∧ w' = w := by
  apply ledger_Ledger_Len_nil.vc
  exact ⟨rfl, rfl⟩
theorem hasN_c : CallV Try.prog 71 #[.pointer none, .int .i64 b] w [.one .bool] fun r w' => r.1 = false ∧ w' = w := by
  apply ledger_Ledger_has_nil.vc
  unfold ledger_Ledger_has_nil.P
  refine cond_d (fun h => ?_) (fun h => ⟨rfl, rfl⟩)
  refine LenN_c.mono ?_
  rintro ⟨(r : Int), ⟨⟩⟩ w1 ⟨h1, rfl⟩
  dsimp only at h1 ⊢
  subst h1
  exact ⟨decide_eq_false (by omega), rfl⟩
theorem changeN_c {f : FuncId} {cap : Array Value} : CallV Try.prog 72 #[.pointer none, .int .i64 b, .func (.func f) #[] cap] w [.one (.int .i64)] fun r w' => r.1 = (2 : Int) ∧ Ext w w' := by
  apply ledger_Ledger_change_nil.vc
  unfold ledger_Ledger_change_nil.P
  refine (hasN_c (b := b)).mono ?_
  rintro ⟨(r : Bool), ⟨⟩⟩ w1 ⟨h1, rfl⟩
  dsimp only at h1 ⊢
  subst h1
  exact cond_t rfl ⟨rfl, Ext.refl _⟩
theorem bestN_c {f g : FuncId} {c1 c2 : Array Value} : CallV Try.prog 59 #[.pointer none, .func (.func f) #[] c1, .func (.func g) #[] c2] w [.one (.int .i64)] fun r w' => r.1 = (-1 : Int) ∧ Ext w w' := by
  apply ledger_Ledger_best_nil.vc
  unfold ledger_Ledger_best_nil.P
  refine LenN_c.mono ?_
  rintro ⟨(r : Int), ⟨⟩⟩ w1 ⟨h1, rfl⟩
  dsimp only at h1 ⊢
  subst h1
  refine Loop1 (fun (v : Int × Int × Unit) w' => v = (-1, 0, ()) ∧ w' = w1) (fun _ _ => 0) ⟨rfl, rfl⟩ ?_
  rintro _ w2 ⟨rfl, rfl⟩
  exact cond_f rfl ⟨rfl, Ext.refl _⟩
theorem manyN_c {f : FuncId} {c1 : Array Value} : CallV Try.prog 67 #[.pointer none, .func (.func f) #[] c1] w [.one (.int .i64)] fun r w' => r.1 = (0 : Int) ∧ Ext w w' := by
  apply ledger_Ledger_many_nil.vc
  unfold ledger_Ledger_many_nil.P
  refine LenN_c.mono ?_
  rintro ⟨(r : Int), ⟨⟩⟩ w1 ⟨h1, rfl⟩
  dsimp only at h1 ⊢
  subst h1
  refine Loop1 (fun (v : Int × Int × Unit) w' => v = (0, 0, ()) ∧ w' = w1) (fun _ _ => 0) ⟨rfl, rfl⟩ ?_
  rintro _ w2 ⟨rfl, rfl⟩
  exact cond_f rfl ⟨rfl, Ext.refl _⟩
theorem PickN_c : CallV Try.prog 15 #[.pointer none] w [.one (.int .i64)] fun r w' => r.1 = (-1 : Int) ∧ Ext w w' := by
  apply ledger_Ledger_Pick_nil.vc
  unfold ledger_Ledger_Pick_nil.P
  exact bestN_c
theorem VictimN_c {c : Int} : CallV Try.prog 16 #[.pointer none, .int .i64 b, .int .i64 c] w [.one (.int .i64)] fun r w' => r.1 = (-1 : Int) ∧ Ext w w' := by
  apply ledger_Ledger_Victim_nil.vc
  unfold ledger_Ledger_Victim_nil.P
  have S := Sep.start NoB w
  (repeat ((first | refine S.newB fun _ _ S f _ => ?_ | refine S.la0 rfl ?_ | refine S.la1 rfl ?_ | refine S.la2 rfl ?_ | refine S.la3 rfl ?_ | refine S.la4 rfl ?_ | refine S.la5 rfl ?_ | refine S.ld0 rfl rfl ?_ | refine S.ld1 rfl rfl ?_ | refine S.ld2 rfl rfl ?_ | refine S.ld3 rfl rfl ?_ | refine S.ld4 rfl rfl ?_ | refine S.ld5 rfl rfl ?_ | refine S.st0 (by rfl) fun _ S f => ?_ | refine S.st1 (by rfl) fun _ S f => ?_ | refine S.st2 (by rfl) fun _ S f => ?_ | refine S.st3 (by rfl) fun _ S f => ?_ | refine S.st4 (by rfl) fun _ S f => ?_ | refine S.st5 (by rfl) fun _ S f => ?_ | refine S.su0 (by rfl) fun _ S f => ?_ | refine S.su1 (by rfl) fun _ S f => ?_ | refine S.su2 (by rfl) fun _ S f => ?_ | refine S.su3 (by rfl) fun _ S f => ?_ | refine S.su4 (by rfl) fun _ S f => ?_ | refine S.su5 (by rfl) fun _ S f => ?_ | refine ⟨by decide, ?_⟩); try dsimp only [List.set_cons_zero, List.set_cons_succ, cond_true, cond_false, Bool.not_true, Bool.not_false]))
  exact bestN_c.mono fun r w' h => ⟨h.1, S.ext.trans h.2⟩
theorem HeldN_c : CallV Try.prog 21 #[.pointer none, .int .i64 b] w [.one (.int .i64)] fun r w' => r.1 = (0 : Int) ∧ Ext w w' := by
  apply ledger_Ledger_Held_nil.vc
  unfold ledger_Ledger_Held_nil.P
  have S := Sep.start NoB w
  (repeat ((first | refine S.newB fun _ _ S f _ => ?_ | refine S.la0 rfl ?_ | refine S.la1 rfl ?_ | refine S.la2 rfl ?_ | refine S.la3 rfl ?_ | refine S.la4 rfl ?_ | refine S.la5 rfl ?_ | refine S.ld0 rfl rfl ?_ | refine S.ld1 rfl rfl ?_ | refine S.ld2 rfl rfl ?_ | refine S.ld3 rfl rfl ?_ | refine S.ld4 rfl rfl ?_ | refine S.ld5 rfl rfl ?_ | refine S.st0 (by rfl) fun _ S f => ?_ | refine S.st1 (by rfl) fun _ S f => ?_ | refine S.st2 (by rfl) fun _ S f => ?_ | refine S.st3 (by rfl) fun _ S f => ?_ | refine S.st4 (by rfl) fun _ S f => ?_ | refine S.st5 (by rfl) fun _ S f => ?_ | refine S.su0 (by rfl) fun _ S f => ?_ | refine S.su1 (by rfl) fun _ S f => ?_ | refine S.su2 (by rfl) fun _ S f => ?_ | refine S.su3 (by rfl) fun _ S f => ?_ | refine S.su4 (by rfl) fun _ S f => ?_ | refine S.su5 (by rfl) fun _ S f => ?_ | refine ⟨by decide, ?_⟩); try dsimp only [List.set_cons_zero, List.set_cons_succ, cond_true, cond_false, Bool.not_true, Bool.not_false]))
  exact manyN_c.mono fun r w' h => ⟨h.1, S.ext.trans h.2⟩
theorem BadsN_c : CallV Try.prog 23 #[.pointer none] w [.one (.int .i64)] fun r w' => r.1 = (0 : Int) ∧ Ext w w' := by
  apply ledger_Ledger_Bads_nil.vc
  unfold ledger_Ledger_Bads_nil.P
  exact manyN_c
theorem SpreadN_c : CallV Try.prog 17 #[.pointer none] w [.one (.int .i64), .one (.int .i64)] fun r w' => r.1 = (-1 : Int) ∧ r.2.1 = (-1 : Int) ∧ Ext w w' := by
  apply ledger_Ledger_Spread_nil.vc
  unfold ledger_Ledger_Spread_nil.P
  refine bestN_c.mono ?_
  rintro ⟨(r : Int), ⟨⟩⟩ w1 ⟨h1, x1⟩
  refine bestN_c.mono ?_
  rintro ⟨(r : Int), ⟨⟩⟩ w2 ⟨h2, x2⟩
  exact ⟨h1, h2, x1.trans x2⟩
theorem DirtyN_c : CallV Try.prog 32 #[.pointer none, .int .i64 b] w [.one .bool] fun r w' => r.1 = false ∧ Ext w w' := by
  apply ledger_Ledger_Dirty_nil.vc
  unfold ledger_Ledger_Dirty_nil.P
  refine (hasN_c (b := b)).mono ?_
  rintro ⟨(r : Bool), ⟨⟩⟩ w1 ⟨h1, rfl⟩
  dsimp only at h1 ⊢
  subst h1
  exact cond_f rfl ⟨rfl, Ext.refl _⟩
theorem LeaksN_c : CallV Try.prog 25 #[.pointer none, .int .i64 b] w [.one .bool] fun r w' => r.1 = false ∧ Ext w w' := by
  apply ledger_Ledger_Leaks_nil.vc
  unfold ledger_Ledger_Leaks_nil.P
  have S := Sep.start NoB w
  (repeat ((first | refine S.newB fun _ _ S f _ => ?_ | refine S.la0 rfl ?_ | refine S.la1 rfl ?_ | refine S.la2 rfl ?_ | refine S.la3 rfl ?_ | refine S.la4 rfl ?_ | refine S.la5 rfl ?_ | refine S.ld0 rfl rfl ?_ | refine S.ld1 rfl rfl ?_ | refine S.ld2 rfl rfl ?_ | refine S.ld3 rfl rfl ?_ | refine S.ld4 rfl rfl ?_ | refine S.ld5 rfl rfl ?_ | refine S.st0 (by rfl) fun _ S f => ?_ | refine S.st1 (by rfl) fun _ S f => ?_ | refine S.st2 (by rfl) fun _ S f => ?_ | refine S.st3 (by rfl) fun _ S f => ?_ | refine S.st4 (by rfl) fun _ S f => ?_ | refine S.st5 (by rfl) fun _ S f => ?_ | refine S.su0 (by rfl) fun _ S f => ?_ | refine S.su1 (by rfl) fun _ S f => ?_ | refine S.su2 (by rfl) fun _ S f => ?_ | refine S.su3 (by rfl) fun _ S f => ?_ | refine S.su4 (by rfl) fun _ S f => ?_ | refine S.su5 (by rfl) fun _ S f => ?_ | refine ⟨by decide, ?_⟩); try dsimp only [List.set_cons_zero, List.set_cons_succ, cond_true, cond_false, Bool.not_true, Bool.not_false]))
  refine manyN_c.mono ?_
  rintro ⟨(r : Int), ⟨⟩⟩ w2 ⟨h2, x2⟩
  dsimp only at h2 ⊢
  subst h2
  exact ⟨rfl, S.ext.trans x2⟩
theorem AtN_c : CallV Try.prog 28 #[.pointer none, .int .i64 b] w [.agg [.int .i64, .int .i64, .int .i64, .int .i64, .bool, .bool, .bool, .bool, .bool]] fun r w' => r.1 = Blk.z.tup ∧ Ext w w' := by
  apply ledger_Ledger_At_nil.vc
  unfold ledger_Ledger_At_nil.P
  have S := Sep.start NoB w
  (repeat ((first | refine S.newB fun _ _ S f _ => ?_ | refine S.la0 rfl ?_ | refine S.la1 rfl ?_ | refine S.la2 rfl ?_ | refine S.la3 rfl ?_ | refine S.la4 rfl ?_ | refine S.la5 rfl ?_ | refine S.ld0 rfl rfl ?_ | refine S.ld1 rfl rfl ?_ | refine S.ld2 rfl rfl ?_ | refine S.ld3 rfl rfl ?_ | refine S.ld4 rfl rfl ?_ | refine S.ld5 rfl rfl ?_ | refine S.st0 (by rfl) fun _ S f => ?_ | refine S.st1 (by rfl) fun _ S f => ?_ | refine S.st2 (by rfl) fun _ S f => ?_ | refine S.st3 (by rfl) fun _ S f => ?_ | refine S.st4 (by rfl) fun _ S f => ?_ | refine S.st5 (by rfl) fun _ S f => ?_ | refine S.su0 (by rfl) fun _ S f => ?_ | refine S.su1 (by rfl) fun _ S f => ?_ | refine S.su2 (by rfl) fun _ S f => ?_ | refine S.su3 (by rfl) fun _ S f => ?_ | refine S.su4 (by rfl) fun _ S f => ?_ | refine S.su5 (by rfl) fun _ S f => ?_ | refine ⟨by decide, ?_⟩); try dsimp only [List.set_cons_zero, List.set_cons_succ, cond_true, cond_false, Bool.not_true, Bool.not_false]))
  refine (hasN_c (b := b)).mono ?_
  rintro ⟨(r : Bool), ⟨⟩⟩ w1 ⟨h1, rfl⟩
  dsimp only at h1 ⊢
  subst h1
  refine cond_t rfl ?_
  (repeat ((first | refine S.newB fun _ _ S f _ => ?_ | refine S.la0 rfl ?_ | refine S.la1 rfl ?_ | refine S.la2 rfl ?_ | refine S.la3 rfl ?_ | refine S.la4 rfl ?_ | refine S.la5 rfl ?_ | refine S.ld0 rfl rfl ?_ | refine S.ld1 rfl rfl ?_ | refine S.ld2 rfl rfl ?_ | refine S.ld3 rfl rfl ?_ | refine S.ld4 rfl rfl ?_ | refine S.ld5 rfl rfl ?_ | refine S.st0 (by rfl) fun _ S f => ?_ | refine S.st1 (by rfl) fun _ S f => ?_ | refine S.st2 (by rfl) fun _ S f => ?_ | refine S.st3 (by rfl) fun _ S f => ?_ | refine S.st4 (by rfl) fun _ S f => ?_ | refine S.st5 (by rfl) fun _ S f => ?_ | refine S.su0 (by rfl) fun _ S f => ?_ | refine S.su1 (by rfl) fun _ S f => ?_ | refine S.su2 (by rfl) fun _ S f => ?_ | refine S.su3 (by rfl) fun _ S f => ?_ | refine S.su4 (by rfl) fun _ S f => ?_ | refine S.su5 (by rfl) fun _ S f => ?_ | refine ⟨by decide, ?_⟩); try dsimp only [List.set_cons_zero, List.set_cons_succ, cond_true, cond_false, Bool.not_true, Bool.not_false]))
  exact ⟨rfl, S.ext⟩
theorem SetN_c {x : Blk} : CallV Try.prog 31 #[.pointer none, .int .i64 b, x.val] w [.one (.int .i64)] fun r w' => r.1 = (2 : Int) ∧ Ext w w' := by
  apply ledger_Ledger_Set_nil.vc
  unfold ledger_Ledger_Set_nil.P
  have S := Sep.start NoB w
  (repeat ((first | refine S.newB fun _ _ S f _ => ?_ | refine S.la0 rfl ?_ | refine S.la1 rfl ?_ | refine S.la2 rfl ?_ | refine S.la3 rfl ?_ | refine S.la4 rfl ?_ | refine S.la5 rfl ?_ | refine S.ld0 rfl rfl ?_ | refine S.ld1 rfl rfl ?_ | refine S.ld2 rfl rfl ?_ | refine S.ld3 rfl rfl ?_ | refine S.ld4 rfl rfl ?_ | refine S.ld5 rfl rfl ?_ | refine S.st0 (by rfl) fun _ S f => ?_ | refine S.st1 (by rfl) fun _ S f => ?_ | refine S.st2 (by rfl) fun _ S f => ?_ | refine S.st3 (by rfl) fun _ S f => ?_ | refine S.st4 (by rfl) fun _ S f => ?_ | refine S.st5 (by rfl) fun _ S f => ?_ | refine S.su0 (by rfl) fun _ S f => ?_ | refine S.su1 (by rfl) fun _ S f => ?_ | refine S.su2 (by rfl) fun _ S f => ?_ | refine S.su3 (by rfl) fun _ S f => ?_ | refine S.su4 (by rfl) fun _ S f => ?_ | refine S.su5 (by rfl) fun _ S f => ?_ | refine ⟨by decide, ?_⟩); try dsimp only [List.set_cons_zero, List.set_cons_succ, cond_true, cond_false, Bool.not_true, Bool.not_false]))
  exact changeN_c.mono fun r w' h => ⟨h.1, S.ext.trans h.2⟩
theorem HoldN_c {c : Int} : CallV Try.prog 51 #[.pointer none, .int .i64 b, .int .i64 c] w [.one (.int .i64)] fun r w' => r.1 = (2 : Int) ∧ Ext w w' := by
  apply ledger_Ledger_Hold_nil.vc
  unfold ledger_Ledger_Hold_nil.P
  have S := Sep.start NoB w
  (repeat ((first | refine S.newB fun _ _ S f _ => ?_ | refine S.la0 rfl ?_ | refine S.la1 rfl ?_ | refine S.la2 rfl ?_ | refine S.la3 rfl ?_ | refine S.la4 rfl ?_ | refine S.la5 rfl ?_ | refine S.ld0 rfl rfl ?_ | refine S.ld1 rfl rfl ?_ | refine S.ld2 rfl rfl ?_ | refine S.ld3 rfl rfl ?_ | refine S.ld4 rfl rfl ?_ | refine S.ld5 rfl rfl ?_ | refine S.st0 (by rfl) fun _ S f => ?_ | refine S.st1 (by rfl) fun _ S f => ?_ | refine S.st2 (by rfl) fun _ S f => ?_ | refine S.st3 (by rfl) fun _ S f => ?_ | refine S.st4 (by rfl) fun _ S f => ?_ | refine S.st5 (by rfl) fun _ S f => ?_ | refine S.su0 (by rfl) fun _ S f => ?_ | refine S.su1 (by rfl) fun _ S f => ?_ | refine S.su2 (by rfl) fun _ S f => ?_ | refine S.su3 (by rfl) fun _ S f => ?_ | refine S.su4 (by rfl) fun _ S f => ?_ | refine S.su5 (by rfl) fun _ S f => ?_ | refine ⟨by decide, ?_⟩); try dsimp only [List.set_cons_zero, List.set_cons_succ, cond_true, cond_false, Bool.not_true, Bool.not_false]))
  refine cond_d (fun _ => ⟨rfl, S.ext⟩) (fun _ => ?_)
  (repeat ((first | refine S.newB fun _ _ S f _ => ?_ | refine S.la0 rfl ?_ | refine S.la1 rfl ?_ | refine S.la2 rfl ?_ | refine S.la3 rfl ?_ | refine S.la4 rfl ?_ | refine S.la5 rfl ?_ | refine S.ld0 rfl rfl ?_ | refine S.ld1 rfl rfl ?_ | refine S.ld2 rfl rfl ?_ | refine S.ld3 rfl rfl ?_ | refine S.ld4 rfl rfl ?_ | refine S.ld5 rfl rfl ?_ | refine S.st0 (by rfl) fun _ S f => ?_ | refine S.st1 (by rfl) fun _ S f => ?_ | refine S.st2 (by rfl) fun _ S f => ?_ | refine S.st3 (by rfl) fun _ S f => ?_ | refine S.st4 (by rfl) fun _ S f => ?_ | refine S.st5 (by rfl) fun _ S f => ?_ | refine S.su0 (by rfl) fun _ S f => ?_ | refine S.su1 (by rfl) fun _ S f => ?_ | refine S.su2 (by rfl) fun _ S f => ?_ | refine S.su3 (by rfl) fun _ S f => ?_ | refine S.su4 (by rfl) fun _ S f => ?_ | refine S.su5 (by rfl) fun _ S f => ?_ | refine ⟨by decide, ?_⟩); try dsimp only [List.set_cons_zero, List.set_cons_succ, cond_true, cond_false, Bool.not_true, Bool.not_false]))
  refine cond_d (fun _ => ⟨rfl, S.ext⟩) (fun _ => ?_)
  exact changeN_c.mono fun r w' h => ⟨h.1, S.ext.trans h.2⟩
theorem ReleaseN_c : CallV Try.prog 52 #[.pointer none, .int .i64 b] w [.one (.int .i64)] fun r w' => r.1 = (2 : Int) ∧ Ext w w' := by
  apply ledger_Ledger_Release_nil.vc
  unfold ledger_Ledger_Release_nil.P
  exact changeN_c
theorem ErasedN_c : CallV Try.prog 53 #[.pointer none, .int .i64 b] w [.one (.int .i64)] fun r w' => r.1 = (2 : Int) ∧ Ext w w' := by
  apply ledger_Ledger_Erased_nil.vc
  unfold ledger_Ledger_Erased_nil.P
  exact changeN_c
theorem FailedN_c : CallV Try.prog 54 #[.pointer none, .int .i64 b] w [.one (.int .i64)] fun r w' => r.1 = (2 : Int) ∧ Ext w w' := by
  apply ledger_Ledger_Failed_nil.vc
  unfold ledger_Ledger_Failed_nil.P
  exact changeN_c
theorem ScrubbedN_c {c : Bool} : CallV Try.prog 55 #[.pointer none, .int .i64 b, .bool c] w [.one (.int .i64)] fun r w' => r.1 = (2 : Int) ∧ Ext w w' := by
  apply ledger_Ledger_Scrubbed_nil.vc
  unfold ledger_Ledger_Scrubbed_nil.P
  have S := Sep.start NoB w
  (repeat ((first | refine S.newB fun _ _ S f _ => ?_ | refine S.la0 rfl ?_ | refine S.la1 rfl ?_ | refine S.la2 rfl ?_ | refine S.la3 rfl ?_ | refine S.la4 rfl ?_ | refine S.la5 rfl ?_ | refine S.ld0 rfl rfl ?_ | refine S.ld1 rfl rfl ?_ | refine S.ld2 rfl rfl ?_ | refine S.ld3 rfl rfl ?_ | refine S.ld4 rfl rfl ?_ | refine S.ld5 rfl rfl ?_ | refine S.st0 (by rfl) fun _ S f => ?_ | refine S.st1 (by rfl) fun _ S f => ?_ | refine S.st2 (by rfl) fun _ S f => ?_ | refine S.st3 (by rfl) fun _ S f => ?_ | refine S.st4 (by rfl) fun _ S f => ?_ | refine S.st5 (by rfl) fun _ S f => ?_ | refine S.su0 (by rfl) fun _ S f => ?_ | refine S.su1 (by rfl) fun _ S f => ?_ | refine S.su2 (by rfl) fun _ S f => ?_ | refine S.su3 (by rfl) fun _ S f => ?_ | refine S.su4 (by rfl) fun _ S f => ?_ | refine S.su5 (by rfl) fun _ S f => ?_ | refine ⟨by decide, ?_⟩); try dsimp only [List.set_cons_zero, List.set_cons_succ, cond_true, cond_false, Bool.not_true, Bool.not_false]))
  exact changeN_c.mono fun r w' h => ⟨h.1, S.ext.trans h.2⟩
theorem UseN_c : CallV Try.prog 56 #[.pointer none, .int .i64 b] w [.one (.int .i64)] fun r w' => r.1 = (2 : Int) ∧ Ext w w' := by
  apply ledger_Ledger_Use_nil.vc
  unfold ledger_Ledger_Use_nil.P
  exact changeN_c
theorem CountN_c {c : Int} : CallV Try.prog 57 #[.pointer none, .int .i64 b, .int .i64 c] w [.one (.int .i64)] fun r w' => r.1 = (2 : Int) ∧ Ext w w' := by
  apply ledger_Ledger_Count_nil.vc
  unfold ledger_Ledger_Count_nil.P
  have S := Sep.start NoB w
  (repeat ((first | refine S.newB fun _ _ S f _ => ?_ | refine S.la0 rfl ?_ | refine S.la1 rfl ?_ | refine S.la2 rfl ?_ | refine S.la3 rfl ?_ | refine S.la4 rfl ?_ | refine S.la5 rfl ?_ | refine S.ld0 rfl rfl ?_ | refine S.ld1 rfl rfl ?_ | refine S.ld2 rfl rfl ?_ | refine S.ld3 rfl rfl ?_ | refine S.ld4 rfl rfl ?_ | refine S.ld5 rfl rfl ?_ | refine S.st0 (by rfl) fun _ S f => ?_ | refine S.st1 (by rfl) fun _ S f => ?_ | refine S.st2 (by rfl) fun _ S f => ?_ | refine S.st3 (by rfl) fun _ S f => ?_ | refine S.st4 (by rfl) fun _ S f => ?_ | refine S.st5 (by rfl) fun _ S f => ?_ | refine S.su0 (by rfl) fun _ S f => ?_ | refine S.su1 (by rfl) fun _ S f => ?_ | refine S.su2 (by rfl) fun _ S f => ?_ | refine S.su3 (by rfl) fun _ S f => ?_ | refine S.su4 (by rfl) fun _ S f => ?_ | refine S.su5 (by rfl) fun _ S f => ?_ | refine ⟨by decide, ?_⟩); try dsimp only [List.set_cons_zero, List.set_cons_succ, cond_true, cond_false, Bool.not_true, Bool.not_false]))
  exact changeN_c.mono fun r w' h => ⟨h.1, S.ext.trans h.2⟩
theorem chgSN_c {k c : Int} : CallV Try.prog 13 #[.pointer none, .agg #[.int .i64 k, .int .i64 b, .int .i64 c]] w [.one (.int .i64)] fun r w' => r.1 = (2 : Int) ∧ Ext w w' := by
  apply law21_change_nil.vc
  unfold law21_change_nil.P
  have S := Sep.start NoB w
  (repeat ((first | refine S.newB fun _ _ S f _ => ?_ | refine S.la0 rfl ?_ | refine S.la1 rfl ?_ | refine S.la2 rfl ?_ | refine S.la3 rfl ?_ | refine S.la4 rfl ?_ | refine S.la5 rfl ?_ | refine S.ld0 rfl rfl ?_ | refine S.ld1 rfl rfl ?_ | refine S.ld2 rfl rfl ?_ | refine S.ld3 rfl rfl ?_ | refine S.ld4 rfl rfl ?_ | refine S.ld5 rfl rfl ?_ | refine S.st0 (by rfl) fun _ S f => ?_ | refine S.st1 (by rfl) fun _ S f => ?_ | refine S.st2 (by rfl) fun _ S f => ?_ | refine S.st3 (by rfl) fun _ S f => ?_ | refine S.st4 (by rfl) fun _ S f => ?_ | refine S.st5 (by rfl) fun _ S f => ?_ | refine S.su0 (by rfl) fun _ S f => ?_ | refine S.su1 (by rfl) fun _ S f => ?_ | refine S.su2 (by rfl) fun _ S f => ?_ | refine S.su3 (by rfl) fun _ S f => ?_ | refine S.su4 (by rfl) fun _ S f => ?_ | refine S.su5 (by rfl) fun _ S f => ?_ | refine ⟨by decide, ?_⟩); try dsimp only [List.set_cons_zero, List.set_cons_succ, cond_true, cond_false, Bool.not_true, Bool.not_false]))
  refine cond_eq (fun hk => ?_) (fun hk => ?_)
  · (repeat ((first | refine S.newB fun _ _ S f _ => ?_ | refine S.la0 rfl ?_ | refine S.la1 rfl ?_ | refine S.la2 rfl ?_ | refine S.la3 rfl ?_ | refine S.la4 rfl ?_ | refine S.la5 rfl ?_ | refine S.ld0 rfl rfl ?_ | refine S.ld1 rfl rfl ?_ | refine S.ld2 rfl rfl ?_ | refine S.ld3 rfl rfl ?_ | refine S.ld4 rfl rfl ?_ | refine S.ld5 rfl rfl ?_ | refine S.st0 (by rfl) fun _ S f => ?_ | refine S.st1 (by rfl) fun _ S f => ?_ | refine S.st2 (by rfl) fun _ S f => ?_ | refine S.st3 (by rfl) fun _ S f => ?_ | refine S.st4 (by rfl) fun _ S f => ?_ | refine S.st5 (by rfl) fun _ S f => ?_ | refine S.su0 (by rfl) fun _ S f => ?_ | refine S.su1 (by rfl) fun _ S f => ?_ | refine S.su2 (by rfl) fun _ S f => ?_ | refine S.su3 (by rfl) fun _ S f => ?_ | refine S.su4 (by rfl) fun _ S f => ?_ | refine S.su5 (by rfl) fun _ S f => ?_ | refine ⟨by decide, ?_⟩); try dsimp only [List.set_cons_zero, List.set_cons_succ, cond_true, cond_false, Bool.not_true, Bool.not_false]))
    exact HoldN_c.mono fun r w' h => ⟨h.1, S.ext.trans h.2⟩
  refine cond_eq (fun hk => ?_) (fun hk => ?_)
  · (repeat ((first | refine S.newB fun _ _ S f _ => ?_ | refine S.la0 rfl ?_ | refine S.la1 rfl ?_ | refine S.la2 rfl ?_ | refine S.la3 rfl ?_ | refine S.la4 rfl ?_ | refine S.la5 rfl ?_ | refine S.ld0 rfl rfl ?_ | refine S.ld1 rfl rfl ?_ | refine S.ld2 rfl rfl ?_ | refine S.ld3 rfl rfl ?_ | refine S.ld4 rfl rfl ?_ | refine S.ld5 rfl rfl ?_ | refine S.st0 (by rfl) fun _ S f => ?_ | refine S.st1 (by rfl) fun _ S f => ?_ | refine S.st2 (by rfl) fun _ S f => ?_ | refine S.st3 (by rfl) fun _ S f => ?_ | refine S.st4 (by rfl) fun _ S f => ?_ | refine S.st5 (by rfl) fun _ S f => ?_ | refine S.su0 (by rfl) fun _ S f => ?_ | refine S.su1 (by rfl) fun _ S f => ?_ | refine S.su2 (by rfl) fun _ S f => ?_ | refine S.su3 (by rfl) fun _ S f => ?_ | refine S.su4 (by rfl) fun _ S f => ?_ | refine S.su5 (by rfl) fun _ S f => ?_ | refine ⟨by decide, ?_⟩); try dsimp only [List.set_cons_zero, List.set_cons_succ, cond_true, cond_false, Bool.not_true, Bool.not_false]))
    exact ReleaseN_c.mono fun r w' h => ⟨h.1, S.ext.trans h.2⟩
  refine cond_eq (fun hk => ?_) (fun hk => ?_)
  · (repeat ((first | refine S.newB fun _ _ S f _ => ?_ | refine S.la0 rfl ?_ | refine S.la1 rfl ?_ | refine S.la2 rfl ?_ | refine S.la3 rfl ?_ | refine S.la4 rfl ?_ | refine S.la5 rfl ?_ | refine S.ld0 rfl rfl ?_ | refine S.ld1 rfl rfl ?_ | refine S.ld2 rfl rfl ?_ | refine S.ld3 rfl rfl ?_ | refine S.ld4 rfl rfl ?_ | refine S.ld5 rfl rfl ?_ | refine S.st0 (by rfl) fun _ S f => ?_ | refine S.st1 (by rfl) fun _ S f => ?_ | refine S.st2 (by rfl) fun _ S f => ?_ | refine S.st3 (by rfl) fun _ S f => ?_ | refine S.st4 (by rfl) fun _ S f => ?_ | refine S.st5 (by rfl) fun _ S f => ?_ | refine S.su0 (by rfl) fun _ S f => ?_ | refine S.su1 (by rfl) fun _ S f => ?_ | refine S.su2 (by rfl) fun _ S f => ?_ | refine S.su3 (by rfl) fun _ S f => ?_ | refine S.su4 (by rfl) fun _ S f => ?_ | refine S.su5 (by rfl) fun _ S f => ?_ | refine ⟨by decide, ?_⟩); try dsimp only [List.set_cons_zero, List.set_cons_succ, cond_true, cond_false, Bool.not_true, Bool.not_false]))
    exact ErasedN_c.mono fun r w' h => ⟨h.1, S.ext.trans h.2⟩
  refine cond_eq (fun hk => ?_) (fun hk => ?_)
  · (repeat ((first | refine S.newB fun _ _ S f _ => ?_ | refine S.la0 rfl ?_ | refine S.la1 rfl ?_ | refine S.la2 rfl ?_ | refine S.la3 rfl ?_ | refine S.la4 rfl ?_ | refine S.la5 rfl ?_ | refine S.ld0 rfl rfl ?_ | refine S.ld1 rfl rfl ?_ | refine S.ld2 rfl rfl ?_ | refine S.ld3 rfl rfl ?_ | refine S.ld4 rfl rfl ?_ | refine S.ld5 rfl rfl ?_ | refine S.st0 (by rfl) fun _ S f => ?_ | refine S.st1 (by rfl) fun _ S f => ?_ | refine S.st2 (by rfl) fun _ S f => ?_ | refine S.st3 (by rfl) fun _ S f => ?_ | refine S.st4 (by rfl) fun _ S f => ?_ | refine S.st5 (by rfl) fun _ S f => ?_ | refine S.su0 (by rfl) fun _ S f => ?_ | refine S.su1 (by rfl) fun _ S f => ?_ | refine S.su2 (by rfl) fun _ S f => ?_ | refine S.su3 (by rfl) fun _ S f => ?_ | refine S.su4 (by rfl) fun _ S f => ?_ | refine S.su5 (by rfl) fun _ S f => ?_ | refine ⟨by decide, ?_⟩); try dsimp only [List.set_cons_zero, List.set_cons_succ, cond_true, cond_false, Bool.not_true, Bool.not_false]))
    exact FailedN_c.mono fun r w' h => ⟨h.1, S.ext.trans h.2⟩
  refine cond_eq (fun hk => ?_) (fun hk => ?_)
  · (repeat ((first | refine S.newB fun _ _ S f _ => ?_ | refine S.la0 rfl ?_ | refine S.la1 rfl ?_ | refine S.la2 rfl ?_ | refine S.la3 rfl ?_ | refine S.la4 rfl ?_ | refine S.la5 rfl ?_ | refine S.ld0 rfl rfl ?_ | refine S.ld1 rfl rfl ?_ | refine S.ld2 rfl rfl ?_ | refine S.ld3 rfl rfl ?_ | refine S.ld4 rfl rfl ?_ | refine S.ld5 rfl rfl ?_ | refine S.st0 (by rfl) fun _ S f => ?_ | refine S.st1 (by rfl) fun _ S f => ?_ | refine S.st2 (by rfl) fun _ S f => ?_ | refine S.st3 (by rfl) fun _ S f => ?_ | refine S.st4 (by rfl) fun _ S f => ?_ | refine S.st5 (by rfl) fun _ S f => ?_ | refine S.su0 (by rfl) fun _ S f => ?_ | refine S.su1 (by rfl) fun _ S f => ?_ | refine S.su2 (by rfl) fun _ S f => ?_ | refine S.su3 (by rfl) fun _ S f => ?_ | refine S.su4 (by rfl) fun _ S f => ?_ | refine S.su5 (by rfl) fun _ S f => ?_ | refine ⟨by decide, ?_⟩); try dsimp only [List.set_cons_zero, List.set_cons_succ, cond_true, cond_false, Bool.not_true, Bool.not_false]))
    exact ScrubbedN_c.mono fun r w' h => ⟨h.1, S.ext.trans h.2⟩
  refine cond_eq (fun hk => ?_) (fun hk => ?_)
  · (repeat ((first | refine S.newB fun _ _ S f _ => ?_ | refine S.la0 rfl ?_ | refine S.la1 rfl ?_ | refine S.la2 rfl ?_ | refine S.la3 rfl ?_ | refine S.la4 rfl ?_ | refine S.la5 rfl ?_ | refine S.ld0 rfl rfl ?_ | refine S.ld1 rfl rfl ?_ | refine S.ld2 rfl rfl ?_ | refine S.ld3 rfl rfl ?_ | refine S.ld4 rfl rfl ?_ | refine S.ld5 rfl rfl ?_ | refine S.st0 (by rfl) fun _ S f => ?_ | refine S.st1 (by rfl) fun _ S f => ?_ | refine S.st2 (by rfl) fun _ S f => ?_ | refine S.st3 (by rfl) fun _ S f => ?_ | refine S.st4 (by rfl) fun _ S f => ?_ | refine S.st5 (by rfl) fun _ S f => ?_ | refine S.su0 (by rfl) fun _ S f => ?_ | refine S.su1 (by rfl) fun _ S f => ?_ | refine S.su2 (by rfl) fun _ S f => ?_ | refine S.su3 (by rfl) fun _ S f => ?_ | refine S.su4 (by rfl) fun _ S f => ?_ | refine S.su5 (by rfl) fun _ S f => ?_ | refine ⟨by decide, ?_⟩); try dsimp only [List.set_cons_zero, List.set_cons_succ, cond_true, cond_false, Bool.not_true, Bool.not_false]))
    exact UseN_c.mono fun r w' h => ⟨h.1, S.ext.trans h.2⟩
  · (repeat ((first | refine S.newB fun _ _ S f _ => ?_ | refine S.la0 rfl ?_ | refine S.la1 rfl ?_ | refine S.la2 rfl ?_ | refine S.la3 rfl ?_ | refine S.la4 rfl ?_ | refine S.la5 rfl ?_ | refine S.ld0 rfl rfl ?_ | refine S.ld1 rfl rfl ?_ | refine S.ld2 rfl rfl ?_ | refine S.ld3 rfl rfl ?_ | refine S.ld4 rfl rfl ?_ | refine S.ld5 rfl rfl ?_ | refine S.st0 (by rfl) fun _ S f => ?_ | refine S.st1 (by rfl) fun _ S f => ?_ | refine S.st2 (by rfl) fun _ S f => ?_ | refine S.st3 (by rfl) fun _ S f => ?_ | refine S.st4 (by rfl) fun _ S f => ?_ | refine S.st5 (by rfl) fun _ S f => ?_ | refine S.su0 (by rfl) fun _ S f => ?_ | refine S.su1 (by rfl) fun _ S f => ?_ | refine S.su2 (by rfl) fun _ S f => ?_ | refine S.su3 (by rfl) fun _ S f => ?_ | refine S.su4 (by rfl) fun _ S f => ?_ | refine S.su5 (by rfl) fun _ S f => ?_ | refine ⟨by decide, ?_⟩); try dsimp only [List.set_cons_zero, List.set_cons_succ, cond_true, cond_false, Bool.not_true, Bool.not_false]))
    exact CountN_c.mono fun r w' h => ⟨h.1, S.ext.trans h.2⟩
end
theorem eqZ {K : Bool → Prop} (hk : K true) : AggEq Try.prog 48 #[.int .i64 0, .int .i64 0, .int .i64 0, .int .i64 0, .bool false, .bool false, .bool false, .bool false, .bool false] #[.int .i64 0, .int .i64 0, .int .i64 0, .int .i64 0, .bool false, .bool false, .bool false, .bool false, .bool false] K :=
  ⟨true, fun w => by kernel_rfl, by kernel_rfl, hk⟩

theorem LedgerNil_law {w : World} {k b n : Int} {x : Blk} : CallV Try.prog 4 #[.agg #[.int .i64 k, .int .i64 b, .int .i64 n], x.val] w [.one .bool] fun r w' => r.1 = true ∧ Ext w w' := by
  apply law21_LedgerNil.vc
  unfold law21_LedgerNil.P
  have S := Sep.start NoB w
  refine S.newB fun b1 _ S _ _ => ?_
  refine S.newB fun b3 _ S _ _ => ?_
  refine SpreadN_c.mono ?_
  rintro ⟨(r1 : Int), (r2 : Int), ⟨⟩⟩ w1 ⟨h1, h2, x1⟩
  dsimp only at h1 h2 ⊢
  subst h1; subst h2
  have S := S.stepE x1
  refine LenN_c.mono ?_
  rintro ⟨(r3 : Int), ⟨⟩⟩ w2 ⟨h3, rfl⟩
  dsimp only at h3 ⊢
  subst h3
  refine cond_t rfl (S.ld1 rfl rfl ?_)
  refine AtN_c.mono ?_
  rintro ⟨_, ⟨⟩⟩ w3 ⟨h4, x3⟩
  dsimp only at h4
  subst h4
  have S := S.stepE x3
  refine eqZ (cond_t rfl (S.ld1 rfl rfl (S.la0 rfl ?_)))
  refine (SetN_c (x := x)).mono ?_
  rintro ⟨(r5 : Int), ⟨⟩⟩ w4 ⟨h5, x4⟩
  dsimp only at h5 ⊢
  subst h5
  have S := S.stepE x4
  refine cond_t rfl (S.la1 rfl ?_)
  refine chgSN_c.mono ?_
  rintro ⟨(r6 : Int), ⟨⟩⟩ w5 ⟨h6, x5⟩
  dsimp only at h6 ⊢
  subst h6
  have S := S.stepE x5
  refine cond_t rfl ?_
  refine PickN_c.mono ?_
  rintro ⟨(r7 : Int), ⟨⟩⟩ w6 ⟨h7, x6⟩
  dsimp only at h7 ⊢
  subst h7
  have S := S.stepE x6
  refine cond_t rfl (S.ld1 rfl rfl ?_)
  refine VictimN_c.mono ?_
  rintro ⟨(r8 : Int), ⟨⟩⟩ w7 ⟨h8, x7⟩
  dsimp only at h8 ⊢
  subst h8
  have S := S.stepE x7
  refine cond_t rfl (S.ld1 rfl rfl ?_)
  refine HeldN_c.mono ?_
  rintro ⟨(r9 : Int), ⟨⟩⟩ w8 ⟨h9, x8⟩
  dsimp only at h9 ⊢
  subst h9
  have S := S.stepE x8
  refine cond_t rfl ?_
  refine BadsN_c.mono ?_
  rintro ⟨(r10 : Int), ⟨⟩⟩ w9 ⟨h10, x9⟩
  dsimp only at h10 ⊢
  subst h10
  have S := S.stepE x9
  refine cond_t rfl (cond_t rfl (cond_t rfl (S.ld1 rfl rfl ?_)))
  refine DirtyN_c.mono ?_
  rintro ⟨(r11 : Bool), ⟨⟩⟩ w10 ⟨h11, x10⟩
  dsimp only at h11 ⊢
  subst h11
  have S := S.stepE x10
  refine cond_t rfl (S.ld1 rfl rfl ?_)
  refine LeaksN_c.mono ?_
  rintro ⟨(r12 : Bool), ⟨⟩⟩ w11 ⟨h12, x11⟩
  dsimp only at h12 ⊢
  subst h12
  exact cond_t rfl (aw21 (S.stepE x11).ext)

abbrev TBlk : Ty := .cons (.int .i64) (.cons (.int .i64) (.cons (.int .i64) (.cons (.int .i64) (.cons .bool (.cons .bool (.cons .bool (.cons .bool (.cons .bool .nil))))))))
theorem LedgerNil_of {w : World} {s : TStep.T} {x : TBlk.T} (g0 : TStep.ok w s) (g1 : TBlk.ok w x) :
    CallV Try.prog 4 #[.agg (TStep.vs s).toArray, .agg (TBlk.vs x).toArray] w [.one .bool] fun r w' => r.1 = true ∧ Ext w w' := by
  obtain ⟨k, b, n, ⟨⟩⟩ := s
  obtain ⟨x1, x2, x3, x4, x5, x6, x7, x8, x9, ⟨⟩⟩ := x
  exact LedgerNil_law (x := ⟨x1, x2, x3, x4, x5, x6, x7, x8, x9⟩)

end Go.Proofs.Ytiemdjnmghackaa.Vc
