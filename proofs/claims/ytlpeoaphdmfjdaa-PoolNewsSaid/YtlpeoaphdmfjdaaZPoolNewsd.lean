/- Texts in one: The contracts of pool (layer 24): destroy, program, seal, begin. The contracts of pool (layer 24): begin, open. The contracts of pool (layer 24): new, opened, written, copied. The contracts of layer 24: the document's pool: a block changed, destroyed. The contracts of layer 24: the document's pool: a block begun, opened. What any parameter of a law is known to be, with the sizes of what it holds: structs, arrays and slices of whole numbers, texts, and of each other. What the laws of layer 13 share. The plans of functions as plain statements, printed by wip/tools/vcgen.py; the kernel holds each to the code. The contracts of layer 24: what the laws share: payloads, cases, and a new pool by both. The contracts of layer 24: a new pool by both. Plain laws of layer 13: what a trace tells of programs. Plain laws of layer 24 (pool): what a block has that was destroyed, or opened. What the laws of layer 24 share: a step keeps a pool right; does the program answer at all? The plans of functions as plain statements, printed by wip/tools/vcgen.py; the kernel holds each to the code. Places are the same where all their numbers are. The law PoolNews of layer 24: each call gives true, and what it read stays. -/
import Derived.Test.YtlpeoaphdmfjdaaZPoolNewsc

set_option linter.unusedVariables false
set_option linter.unusedSimpArgs false
/-! The contracts of pool (layer 24): destroy, program, seal, begin. -/
namespace Go.Proofs.Ytlpeoaphdmfjdaa.Vc
open Go Go.Eng Go.RowKit
theorem Hdv_len (h : Hd) : h.vs.length = 6 := rfl
theorem Hdv_one (h : Hd) : oneAll h.vs := fun v hv => by
  simp only [Hd.vs, List.mem_cons, List.not_mem_nil, or_false] at hv
  rcases hv with rfl | rfl | rfl | rfl | rfl | rfl <;> rfl
abbrev boxPl (pp p q : Nat) (g : Geo) (s : SlV) : Asr := BoxA pp 100 [.pointer (some ⟨p, 0, none⟩), .int .i64 g.b, .int .i64 g.p, .int .i64 g.s, .int .i64 g.sp, .int .i64 g.wr, .int .i64 g.ro, .pointer (some ⟨q, 0, none⟩), .slice s.a s.n s.c]
abbrev ordP (s : SlV) (O : List Hd) : Asr := OwnA 25 6 s.a s.n s.c (O.flatMap Hd.vs)
abbrev plS (pp p q : Nat) (g : Geo) (s : SlV) (O : List Hd) (C : CD) (L : List Blk) (Rs : List Asr) : List Asr := boxPl pp p q g s :: ordP s O :: ledE q L :: chipE p C :: Rs
def zHd : Hd := ⟨0, 0, 0, 0, 0, 0⟩
def dsC (n : Nat) (C : CD) (L : List Blk) (b : Int) : CD × List Blk × Int := if 0 ≤ b ∧ b < (n : Int) then dstP C L b else (C, L, 2)
def slC (n : Nat) (C : CD) (b : Int) : CD × Int := if 0 ≤ b ∧ b < (n : Int) then selP C b else (C, 2)
section
variable {E : Nat → Prop} {w0 w : World} {pp p q n : Nat} {g : Geo} {s : SlV} {O : List Hd} {C : CD} {L : List Blk} {Rs : List Asr}
theorem plS_n (S : Sep E w0 w (plS pp p q g s O C L Rs)) : s.n = O.length := by
  have h := (S.own 1 rfl).len
  rw [flatF_len Hdv_len] at h
  exact (Nat.eq_of_mul_eq_mul_right (by decide) h).symm
theorem PI.le (h : PI g n C L O) : (n : Int) ≤ 60 := by
  have := h.nn
  have h2 := h.ok.g.1.1
  rw [h.gg] at h2
  omega
theorem PI.erL (h : PI g n C L O) : ∀ x ∈ L, 0 ≤ x.er ∧ x.er ≤ 1000000000 := fun x hx => by
  have := h.er x hx
  have := h.ok.ops
  omega
theorem has24_c {b : Int} (S : Sep E w0 w (plS pp p q g s O C L Rs)) : CallV Try.prog 47 #[.pointer (some ⟨pp, 0, none⟩), .int .i64 b] w [.one .bool] fun r w' => r.1 = decide (0 ≤ b ∧ b < (s.n : Int)) ∧ w' = w := by
  apply pool_Pool_has.vc
  unfold pool_Pool_has.P
  simp only [Addr.add_lit, Nat.zero_add]
  refine cond_d (fun h0 => ?_) (fun h0 => ?_)
  · exact S.ld0 (j := 8) rfl rfl ⟨decide_eq_decide.2 ⟨fun x => ⟨h0, x⟩, fun x => x.2⟩, trivial⟩
  · exact ⟨(decide_eq_false fun x => h0 x.1).symm, trivial⟩
theorem Place24_c {b i : Int} (hb : -4 ≤ b ∧ b ≤ 1000000) : CallV Try.prog 20 #[.pointer (some ⟨pp, 0, none⟩), .int .i64 b, .int .i64 i] w [.agg [.int .i64, .int .i64]] fun r w' => r.1 = (4 + b, i, ()) ∧ Ext w w' := by
  apply pool_Pool_Place.vc
  unfold pool_Pool_Place.P
  have T := Sep.start NoB w
  refine T.newB fun b1 w1 T f1 _ => ?_
  refine ⟨Rng.i64 (by omega) (by omega), T.st0 (by rfl) fun w2 T f2 => T.la0 rfl ⟨rfl, T.ext⟩⟩
theorem Order24_c {b : Int} (S : Sep E w0 w (plS pp p q g s O C L Rs)) : CallV Try.prog 16 #[.pointer (some ⟨pp, 0, none⟩), .int .i64 b] w [.agg [.int .i64, .int .i64, .int .i64, .int .u32, .int .u64, .int .u64]] fun r w' => r.1 = (if 0 ≤ b ∧ b < (O.length : Int) then O.getD b.toNat zHd else zHd).tup ∧ Ext w w' := by
  apply pool_Pool_Order.vc
  unfold pool_Pool_Order.P
  simp only [Addr.add_lit, Nat.zero_add]
  have hn := plS_n S
  have T := Sep.start NoB w
  refine T.newB fun b1 w1 T f1 _ => ?_
  have S := S.stepE T.ext
  refine (has24_c (b := b) S).mono ?_
  rintro ⟨(r : Bool), ⟨⟩⟩ w2 ⟨h2, rfl⟩
  dsimp only at h2 ⊢
  subst h2
  by_cases hb : 0 ≤ b ∧ b < (s.n : Int)
  · refine cond_f (by rw [decide_eq_true hb]; rfl) ?_
    obtain ⟨q, x, hq, hx, hc⟩ := S.nthF (f := Hd.vs) (m := 6) 1 rfl Hdv_len (by decide) hb.1 hb.2
    refine S.ld0 (j := 8) rfl rfl ⟨hb, q, hq, x.tup, hc, ?_⟩
    refine T.st0 (by rfl) fun w3 T f3 => T.la0 rfl ⟨?_, T.ext⟩
    rw [if_pos (by omega), getD_some hx]
  · refine cond_t (by rw [decide_eq_false hb]; rfl) ?_
    refine T.st0 (by rfl) fun w3 T f3 => T.la0 rfl ⟨?_, T.ext⟩
    rw [if_neg (by omega)]
    rfl
theorem Ledger24_c (S : Sep E w0 w (plS pp p q g s O C L Rs)) : CallV Try.prog 15 #[.pointer (some ⟨pp, 0, none⟩)] w [.one .ptr] fun r w' => r.1 = some ⟨q, 0, none⟩ ∧ w' = w := by
  apply pool_Pool_Ledger.vc
  unfold pool_Pool_Ledger.P
  simp only [Addr.add_lit, Nat.zero_add]
  exact S.ld0 (j := 7) rfl rfl ⟨rfl, trivial⟩
theorem Destroy24_c {b : Int} (h : PI g n C L O) (ho : C.ops + 2 ≤ 1000000) (S : Sep E w0 w (plS pp p q g s O C L Rs)) :
    CallV Try.prog 11 #[.pointer (some ⟨pp, 0, none⟩), .int .i64 b] w [.one (.int .i64)] fun r w' => r.1 = (dsC n C L b).2.2 ∧ Sep E w0 w' (plS pp p q g s O (dsC n C L b).1 (dsC n C L b).2.1 Rs) := by
  apply pool_Pool_Destroy.vc
  unfold pool_Pool_Destroy.P
  simp only [Addr.add_lit, Nat.zero_add]
  have hn := plS_n S
  have hol := h.ol
  have hle := h.le
  refine (has24_c (b := b) S).mono ?_
  rintro ⟨(r : Bool), ⟨⟩⟩ w2 ⟨h2, rfl⟩
  dsimp only at h2 ⊢
  subst h2
  by_cases hb : 0 ≤ b ∧ b < (n : Int)
  case neg => exact cond_t (by rw [decide_eq_false (by omega)]; rfl) (by unfold dsC; rw [if_neg hb]; exact ⟨rfl, S⟩)
  refine cond_f (by rw [decide_eq_true (by omega)]; rfl) ?_
  have hd : dsC n C L b = dstP C L b := if_pos hb
  rw [hd]
  have rg : Rng .i64 ((4 : Int) + b) := Rng.i64 (by omega) (by omega)
  refine S.ld0 (j := 0) rfl rfl ⟨rg, ?_⟩
  refine (Erase_e h.ok S.up3).mono ?_
  rintro ⟨e, ⟨⟩⟩ w5 ⟨h5, S⟩
  dsimp only at h5 ⊢
  subst h5
  have S := S.dn3
  obtain ⟨o1, o2, o3⟩ := eraC_ok h.ok (4 + b) (by omega)
  refine cond_eq (fun (h0 : (eraC C (4 + b)).2 = 0) => ?_) (fun (h0 : (eraC C (4 + b)).2 ≠ 0) => ?_)
  · refine S.ld0 (j := 7) rfl rfl ?_
    refine (Erased_e h.erL S.up2).mono ?_
    rintro ⟨(e2 : Int), ⟨⟩⟩ w8 ⟨-, S⟩
    have S := S.dn2
    refine cond_ne (fun (hne : (eraC C (4 + b)).2 ≠ 5) => ?_) (fun (hq : (eraC C (4 + b)).2 = 5) => ?_)
    · unfold dstP
      rw [if_neg hne, if_pos h0]
      exact ⟨rfl, S⟩
    · omega
  · refine cond_ne (fun (hne : (eraC C (4 + b)).2 ≠ 5) => ?_) (fun (hq : (eraC C (4 + b)).2 = 5) => ?_)
    · unfold dstP
      rw [if_neg hne, if_neg h0]
      exact ⟨rfl, S⟩
    · refine S.ld0 (j := 7) rfl rfl ?_
      refine (Failed_e S.up2).mono ?_
      rintro ⟨(e2 : Int), ⟨⟩⟩ w8 ⟨-, S⟩
      have S := S.dn2
      refine S.ld0 (j := 0) rfl rfl ⟨rg, ?_⟩
      refine (Scrub_e o1 S.up3).mono ?_
      rintro ⟨f, ⟨⟩⟩ w9 ⟨h9, S⟩
      dsimp only at h9 ⊢
      subst h9
      have S := S.dn3
      unfold dstP
      rw [if_pos hq]
      refine cond_eq (fun (h4 : (scrC (eraC C (4 + b)).1 (4 + b)).2 = 4) => ?_) (fun (h4 : (scrC (eraC C (4 + b)).1 (4 + b)).2 ≠ 4) => ?_)
      · rw [if_pos h4]
        exact ⟨h4, S⟩
      · rw [if_neg h4]
        refine S.ld0 (j := 7) rfl rfl ?_
        refine (Scrubbed_e S.up2).mono ?_
        rintro ⟨(e3 : Int), ⟨⟩⟩ w10 ⟨-, S⟩
        have S := S.dn2
        rw [chL_len] at S
        refine cond_eq (fun h6 => ?_) (fun h6 => ?_)
        · exact ⟨(if_pos h6).symm, S⟩
        · exact ⟨(if_neg h6).symm, S⟩
theorem Seal24_c {b : Int} (h : PI g n C L O) (ho : C.ops + 1 ≤ 1000000) (S : Sep E w0 w (plS pp p q g s O C L Rs)) :
    CallV Try.prog 14 #[.pointer (some ⟨pp, 0, none⟩), .int .i64 b] w [.one (.int .i64)] fun r w' => r.1 = (slC n C b).2 ∧ Sep E w0 w' (plS pp p q g s O (slC n C b).1 L Rs) := by
  apply pool_Pool_Seal.vc
  unfold pool_Pool_Seal.P
  simp only [Addr.add_lit, Nat.zero_add]
  have hn := plS_n S
  have hol := h.ol
  have hle := h.le
  have hR : Right g := by have := h.ok.g; rwa [h.gg] at this
  refine (has24_c (b := b) S).mono ?_
  rintro ⟨(r : Bool), ⟨⟩⟩ w2 ⟨h2, rfl⟩
  dsimp only at h2 ⊢
  subst h2
  by_cases hb : 0 ≤ b ∧ b < (n : Int)
  case neg => exact cond_t (by rw [decide_eq_false (by omega)]; rfl) (by unfold slC; rw [if_neg hb]; exact ⟨rfl, S⟩)
  refine cond_f (by rw [decide_eq_true (by omega)]; rfl) ?_
  rw [show slC n C b = selP C b from if_pos hb]
  refine S.lb0 (o := 1) rfl ?_
  refine (PCommit_c (g := g)).mono ?_
  rintro ⟨⟨va, vn, vc⟩, e, ⟨⟩⟩ w3 ⟨x3, h3, -⟩
  dsimp only at h3 ⊢
  obtain ⟨r3, h3⟩ := h3 hR
  subst h3
  refine cond_f rfl ?_
  have S := res_rdL S r3 (comL_byt g)
  have hvn : vn ≤ 100000 := by have h8 := r3.own.ints.len; have h9 := comL_len g; have h7 := hR.sec; dsimp only at h8; omega
  have S : Sep E w0 w3 ([chipE p _, RdL [⟨va, vn, vc, comL g⟩]] ++ (boxPl pp p q g s :: ordP s O :: ledE q L :: Rs)) := S.fro [4, 0] rfl
  refine Sep.regC [chipE p _, RdL [_]] S fun G D hG T S hDt hDo hkeep back => ?_
  refine ⟨hDt 0 _ _ _ rfl, S.ld2 (j := 0) rfl rfl ?_⟩
  refine (Place24_c (pp := pp) (b := b) (i := 0) (by omega)).mono ?_
  rintro ⟨x, ⟨⟩⟩ w4 ⟨h4, x4⟩
  dsimp only at h4 ⊢
  subst h4
  have T := T.stepE x4
  refine ⟨hkeep _ T.fr, ?_⟩
  refine (Program_e (bl := 4 + b) (pa := 0) h.ok hvn T).mono ?_
  rintro ⟨e, ⟨⟩⟩ w5 ⟨h5, T⟩
  dsimp only at h5 ⊢
  subst h5
  refine ⟨hkeep _ T.fr, ?_⟩
  unfold selP
  rw [h.gg]
  exact ⟨rfl, ((back _ _ T).fro [1, 1, 1, 1] rfl).tail⟩
end
end Go.Proofs.Ytlpeoaphdmfjdaa.Vc
/-! The contracts of pool (layer 24): begin, open. -/
namespace Go.Proofs.Ytlpeoaphdmfjdaa.Vc
open Go Go.Eng Go.RowKit
def opC (ns : Int) (o : Hd) (sl : Bool) (C : CD) (L : List Blk) (O : List Hd) : (CD × List Blk × List Hd) × Int × Int := if 0 ≤ ns ∧ ns < 4 then opnP ns o sl 128 C L O else ((C, L, O), 0, 2)
theorem mkL_len13 (g : Geo) (h : Hd) : (mkL g h [] []).length = g.s.toNat + 88 := by
  unfold mkL payL
  rw [List.length_append, endL_length _ (.inl rfl), if_pos (by rfl), List.length_replicate]
section
variable {E : Nat → Prop} {w0 w : World} {pp p q n : Nat} {g : Geo} {s : SlV} {O : List Hd} {C : CD} {L : List Blk} {Rs : List Asr}
theorem begin24_c {b ns : Int} {o : Hd} {sl : Bool} (h : PI g n C L O) (hn : 0 ≤ ns ∧ ns < 4) (hr : o.rng) (ho : C.ops + 2 ≤ 1000000) (hb : 0 ≤ b ∧ b < (n : Int)) (S : Sep E w0 w (plS pp p q g s O C L Rs)) :
    CallV Try.prog 79 #[.pointer (some ⟨pp, 0, none⟩), .int .i64 b, .int .i64 ns, o.val, .bool sl] w [.one (.int .i64)] fun r w' => r.1 = (begP C L O b ns o sl).2.2.2 ∧ Sep E w0 w' (plS pp p q g s (begP C L O b ns o sl).2.2.1 (begP C L O b ns o sl).1 (begP C L O b ns o sl).2.1 Rs) := by
  apply pool_Pool_begin.vc
  unfold pool_Pool_begin.P
  simp only [Addr.add_lit, Nat.zero_add]
  have hnn := plS_n S
  have hol := h.ol
  have hll := h.ll
  have hle := h.le
  have hg := h.gg
  subst hg
  have hR : Right C.g := h.ok.g
  refine S.newB fun b1 w1 S f1 _ => ?_
  have hh := begH_rng L b hn hr
  have hhR := begH_right L b (o := o) hn
  refine ⟨fun v w' => ∃ b2, v.1 = some ⟨b2, 0, none⟩ ∧ Sep E w0 w' (BoxA b2 25 (begH L b ns o).vs :: plS pp p q C.g s O C L Rs), ?_, ?_⟩
  case refine_2 =>
    have cl : ∀ {w' : World}, Sep E w0 w' (BoxA b1 25 o.vs :: plS pp p q C.g s O C L Rs) → CallV Try.prog 19 #[.pointer (some ⟨q, 0, none⟩), .int .i64 b] w' [.agg [.int .i64, .int .i64, .int .i64, .int .i64, .bool, .bool, .bool, .bool, .bool]] fun r w2 => r.1 = (gx L b.toNat).tup ∧ Ext w' w2 := fun S => At_e (S.fro [3] rfl) ⟨hb.1, by omega⟩
    refine S.reg fun D hD hkeep S T => ?_
    refine ⟨hD _ S.bl1, S.ld1 (j := 7) rfl rfl ⟨hD _ S.bl0, S.ld0 (j := 4) rfl rfl ⟨hD _ S.bl0, S.ld0 (j := 5) rfl rfl ⟨?_, ?_⟩⟩⟩⟩
    · refine (cl S).mono ?_
      rintro ⟨x, ⟨⟩⟩ w2 ⟨h2, x2⟩
      dsimp only at h2 ⊢
      subst h2
      have S := S.stepE x2
      have T := T.stepE x2
      refine ⟨hkeep _ T.fr, S.newB fun b2 w3 S f3 hb3 => ?_⟩
      have hz : w1.drew.heap.size ≤ b2 := Nat.le_trans T.fr.size hb3
      have T := T.step0 f3
      refine ⟨hkeep _ T.fr, S.st0 (by rfl) fun w4 S f4 => ?_⟩
      exact ⟨hkeep _ (T.fr.trans' f4 fun i hi => .inr (by rw [hi]; exact hz)), b2, rfl, (S.fro [1] rfl).tail⟩
    · refine S.newB fun b2 w3 S f3 hb3 => ?_
      have T := T.step0 f3
      refine ⟨hkeep _ T.fr, ?_⟩
      refine (cl S.tail).mono ?_
      rintro ⟨x, ⟨⟩⟩ w2 ⟨h2, x2⟩
      dsimp only at h2 ⊢
      subst h2
      have S := S.stepE x2
      have T := T.stepE x2
      refine ⟨hkeep _ T.fr, S.st0 (by rfl) fun w4 S f4 => ?_⟩
      exact ⟨hkeep _ (T.fr.trans' f4 fun i hi => .inr (by rw [hi]; exact hb3)), b2, rfl, (S.fro [1] rfl).tail⟩
  clear S
  rintro ⟨v, ⟨⟩⟩ w2 ⟨b2, hv, S⟩
  dsimp only at hv
  subst hv
  dsimp only
  refine S.reg fun D hD hkeep S T => ?_
  refine ⟨hD _ S.bl1, S.lb1 (o := 1) rfl ?_⟩
  refine PtrK.of rfl ⟨hD _ S.bl0, S.la0 rfl ?_⟩
  refine (Make_c (g := C.g) (h := begH L b ns o) hh intsNil intsNil).mono ?_
  rintro ⟨⟨va, vn, vc⟩, e, ⟨⟩⟩ w3 ⟨x3, h3, -⟩
  dsimp only at h3 ⊢
  have T := T.stepE x3
  refine ⟨hkeep _ T.fr, ?_⟩
  obtain ⟨r3, h3⟩ := h3 ⟨hR, ⟨hhR, .inl rfl⟩, .inl rfl⟩
  subst h3
  have bm : Byt (mkL C.g (begH L b ns o) [] []) := mkL_byt hh hhR Byt.nil Byt.nil
  have S := res_rdL S r3 bm
  have hvn : vn ≤ 100000 := by
    have h8 := r3.own.ints.len
    have h9 : (mkL C.g (begH L b ns o) [] []).length = C.g.s.toNat + 88 := by
      exact mkL_len13 _ _
    have h7 := hR.sec
    dsimp only at h8
    omega
  obtain ⟨h1, o1, o2⟩ := h.prog (4 + b) 0 bm (by omega)
  refine ⟨fun v w' => v.1 = (progC C (4 + b) 0 (mkL C.g (begH L b ns o) [] [])).2 ∧ Sep E w0 w' (BoxA b2 25 (begH L b ns o).vs :: plS pp p q C.g s O (progC C (4 + b) 0 (mkL C.g (begH L b ns o) [] [])).1 L Rs), ?_, ?_⟩
  case refine_2 =>
    refine cond_t rfl ?_
    have S : Sep E w0 w3 ([chipE p C, RdL [⟨va, vn, vc, mkL C.g (begH L b ns o) [] []⟩]] ++ (BoxA b2 25 (begH L b ns o).vs :: boxPl pp p q C.g s :: ordP s O :: ledE q L :: Rs)) := S.fro [5, 0] rfl
    refine Sep.regC [chipE p _, RdL [_]] S fun G D hG T S hDt hDo hkeep back => ?_
    refine ⟨hDt 1 _ _ _ rfl, S.ld3 (j := 0) rfl rfl ?_⟩
    refine (Place24_c (pp := pp) (b := b) (i := 0) (by omega)).mono ?_
    rintro ⟨x, ⟨⟩⟩ w4 ⟨h4, x4⟩
    dsimp only at h4 ⊢
    subst h4
    have T := T.stepE x4
    refine ⟨hkeep _ T.fr, ?_⟩
    refine (Program_e (bl := 4 + b) (pa := 0) h.ok hvn T).mono ?_
    rintro ⟨e, ⟨⟩⟩ w5 ⟨h5, T⟩
    dsimp only at h5 ⊢
    subst h5
    exact ⟨hkeep _ T.fr, rfl, ((back _ _ T).fro [1, 1, 1, 1, 1] rfl).tail⟩
  clear S T
  rintro ⟨v, ⟨⟩⟩ w4 ⟨hv, S⟩
  dsimp only at hv
  subst hv
  dsimp only
  obtain ⟨k1, k2, k3⟩ := h.fst b hh hhR sl (by omega)
  refine ⟨fun v w' => v.1 = (fstP C b (begH L b ns o) sl).2 ∧ Sep E w0 w' (BoxA b2 25 (begH L b ns o).vs :: plS pp p q C.g s O (fstP C b (begH L b ns o) sl).1 L Rs), ?_, ?_⟩
  case refine_2 =>
    have nos : ∀ {w' : World}, ¬ ((progC C (4 + b) 0 (mkL C.g (begH L b ns o) [] [])).2 = 0 ∧ sl = true) → Sep E w0 w' (BoxA b2 25 (begH L b ns o).vs :: plS pp p q C.g s O (progC C (4 + b) 0 (mkL C.g (begH L b ns o) [] [])).1 L Rs) →
        (progC C (4 + b) 0 (mkL C.g (begH L b ns o) [] [])).2 = (fstP C b (begH L b ns o) sl).2 ∧ Sep E w0 w' (BoxA b2 25 (begH L b ns o).vs :: plS pp p q C.g s O (fstP C b (begH L b ns o) sl).1 L Rs) := fun hno S => by
      unfold fstP
      rw [if_neg hno]
      exact ⟨rfl, S⟩
    refine cond_eq (fun h0 => ?_) (fun h0 => nos (fun x => h0 x.1) S)
    refine cond_of (fun hs => ?_) (fun hs => nos (fun x => by rw [hs] at x; cases x.2) S)
    refine (Seal24_c (b := b) h1 (by omega) (S.fro [1, 1, 1, 1] rfl)).mono ?_
    rintro ⟨e, ⟨⟩⟩ w5 ⟨h5, S⟩
    dsimp only at h5 ⊢
    subst h5
    have hq : slC n (progC C (4 + b) 0 (mkL C.g (begH L b ns o) [] [])).1 b = selP (progC C (4 + b) 0 (mkL C.g (begH L b ns o) [] [])).1 b := if_pos hb
    rw [hq] at S ⊢
    unfold fstP
    rw [if_pos ⟨h0, hs⟩]
    exact ⟨rfl, S.fro [4] rfl⟩
  clear S
  rintro ⟨v, ⟨⟩⟩ w5 ⟨hv, S⟩
  dsimp only at hv
  subst hv
  dsimp only
  refine cond_eq (fun (h0 : (fstP C b (begH L b ns o) sl).2 = 0) => ?_) (fun (h0 : (fstP C b (begH L b ns o) sl).2 ≠ 0) => ?_)
  case refine_2 =>
    unfold begP
    rw [if_neg h0]
    exact ⟨rfl, S.tail⟩
  refine S.ld1 (j := 7) rfl rfl ?_
  refine (Hold_e (b := b) (ns := ns) (S.fro [3] rfl)).mono ?_
  rintro ⟨(e : Int), ⟨⟩⟩ w6 ⟨-, S⟩
  rw [if_pos hn] at S
  have S : Sep E w0 w6 ([ordP s O] ++ (ledE q (chL b L.length (hB ns) L) :: BoxA b2 25 (begH L b ns o).vs :: boxPl pp p q C.g s :: chipE p (fstP C b (begH L b ns o) sl).1 :: Rs)) := S.fro [3] rfl
  refine Sep.regC [ordP s O] S fun G D hG T S hDt hDo hkeep back => ?_
  refine ⟨hDt 2 _ _ _ rfl, S.ld3 (j := 8) rfl rfl ?_⟩
  refine PtrK.of rfl ⟨hDt 1 _ _ _ rfl, S.la2 rfl ?_⟩
  refine ⟨⟨hb.1, by dsimp only; omega⟩, T.putF Hdv_len Hdv_one (by decide) ⟨hb.1, by omega⟩ (begH L b ns o) fun w7 T f7 => ⟨hkeep _ T.fr, ?_⟩⟩
  have S := (back _ _ T).fro [2, 2] rfl
  unfold begP
  rw [if_pos h0]
  exact ⟨h0, S.tail⟩
theorem open24_c {ns : Int} {o : Hd} {sl : Bool} (h : PI g n C L O) (hr : o.rng) (ho : C.ops + 768 ≤ 1000000) (S : Sep E w0 w (plS pp p q g s O C L Rs)) :
    CallV Try.prog 46 #[.pointer (some ⟨pp, 0, none⟩), .int .i64 ns, o.val, .bool sl] w [.one (.int .i64), .one (.int .i64)] fun r w' =>
      r.1 = (opC ns o sl C L O).2.1 ∧ r.2.1 = (opC ns o sl C L O).2.2 ∧ Sep E w0 w' (plS pp p q g s (opC ns o sl C L O).1.2.2 (opC ns o sl C L O).1.1 (opC ns o sl C L O).1.2.1 Rs) := by
  apply pool_Pool_open.vc
  unfold pool_Pool_open.P
  simp only [Addr.add_lit, Nat.zero_add]
  refine S.newB fun b1 w1 S f1 _ => ?_
  have no : ¬ (0 ≤ ns ∧ ns < 4) → opC ns o sl C L O = ((C, L, O), 0, 2) := fun hn => if_neg hn
  refine cond_d (fun h0 => by rw [no (by omega)]; exact ⟨rfl, rfl, S.tail⟩) (fun h0 => ?_)
  refine cond_d (fun h4 => by rw [no (by omega)]; exact ⟨rfl, rfl, S.tail⟩) (fun h4 => ?_)
  have hn : 0 ≤ ns ∧ ns < 4 := ⟨by omega, by omega⟩
  rw [show opC ns o sl C L O = opnP ns o sl 128 C L O from if_pos hn]
  generalize hX : opnP ns o sl 128 C L O = X
  refine Loop1 (fun (v : Int × Unit) w' => ∃ (k : Nat) (C' : CD) (L' : List Blk) (O' : List Hd), v.1 = 128 - (k : Int) ∧ k ≤ 128 ∧ PI g n C' L' O' ∧ C'.ops + 6 * k ≤ 1000000 ∧ opnP ns o sl k C' L' O' = X ∧ Sep E w0 w' (BoxA b1 25 o.vs :: plS pp p q g s O' C' L' Rs)) (fun (v : Int × Unit) _ => (128 - v.1).toNat)
    ⟨128, C, L, O, rfl, by omega, h, by omega, hX, S⟩ ?_
  clear S h hX ho
  rintro ⟨(v : Int), ⟨⟩⟩ w2 ⟨k, C, L, O, hv, hk, h, ho, hX, S⟩
  dsimp only at hv
  subst hv
  refine cond_d (fun hlt => ?_) (fun hge => ?_)
  case refine_2 =>
    have : k = 0 := by omega
    subst this
    rw [← hX]
    exact ⟨rfl, rfl, S.tail⟩
  obtain ⟨k, rfl⟩ : ∃ m, k = m + 1 := ⟨k - 1, by omega⟩
  have hll := h.ll
  have hle := h.le
  refine S.ld1 (j := 7) rfl rfl ?_
  refine (Pick_e (by omega) (S.fro [3] rfl)).mono ?_
  rintro ⟨(b : Int), ⟨⟩⟩ w3 ⟨h3, x3⟩
  dsimp only at h3 ⊢
  have S := S.stepE x3
  unfold opnP at hX
  have hbd := bestT_bd (L := L) (m := fun _ x => freeB x) (ah := fun x y => decide (x.er < y.er)) L.length
  have hbd : -1 ≤ pickT L L.length ∧ pickT L L.length < (L.length : Int) := hbd
  rw [← h3] at hX hbd
  clear h3
  refine cond_d (fun hneg => ?_) (fun hneg => ?_)
  · rw [if_pos hneg] at hX
    rw [← hX]
    exact ⟨rfl, rfl, S.tail⟩
  rw [if_neg hneg] at hX
  have hb : 0 ≤ b ∧ b < (n : Int) := ⟨by omega, by omega⟩
  refine S.ld1 (j := 7) rfl rfl ?_
  refine (At_e (b := b) (S.fro [3] rfl) ⟨hb.1, by omega⟩).mono ?_
  rintro ⟨x, ⟨⟩⟩ w4 ⟨h4, x4⟩
  dsimp only at h4 ⊢
  subst h4
  have S := S.stepE x4
  dsimp only
  have nxt : ∀ {w' : World} {C' : CD} {L' : List Blk} {O' : List Hd}, PI g n C' L' O' → C'.ops ≤ C.ops + 6 → opnP ns o sl k C' L' O' = X → Sep E w0 w' (BoxA b1 25 o.vs :: plS pp p q g s O' C' L' Rs) →
      Rng .i64 (128 - ((k + 1 : Nat) : Int) + 1) ∧ (∃ (k2 : Nat) (C' : CD) (L' : List Blk) (O' : List Hd), 128 - ((k + 1 : Nat) : Int) + 1 = 128 - (k2 : Int) ∧ k2 ≤ 128 ∧ PI g n C' L' O' ∧ C'.ops + 6 * k2 ≤ 1000000 ∧ opnP ns o sl k2 C' L' O' = X ∧ Sep E w0 w' (BoxA b1 25 o.vs :: plS pp p q g s O' C' L' Rs)) ∧ (128 - (128 - ((k + 1 : Nat) : Int) + 1)).toNat < (128 - (128 - ((k + 1 : Nat) : Int))).toNat :=
    fun h1 h2 h3 S => ⟨Rng.i64 (by omega) (by omega), ⟨k, _, _, _, by push_cast; omega, by omega, h1, by omega, h3, S⟩, by omega⟩
  refine cond_of (fun hcl => ?_) (fun hcl => ?_)
  · have hcl : (gx L b.toNat).cl = false := by simpa using hcl
    have hcl' : ¬ (gx L b.toNat).cl = true := by rw [hcl]; simp
    rw [if_neg hcl'] at hX
    refine (Destroy24_c (b := b) h (by omega) (S.fro [1, 1, 1, 1] rfl)).mono ?_
    rintro ⟨e, ⟨⟩⟩ w5 ⟨h5, S⟩
    dsimp only at h5 ⊢
    rw [show dsC n C L b = dstP C L b from if_pos hb] at h5 S
    obtain ⟨q1, q2, q3⟩ := h.dst b (by omega)
    generalize dstP C L b = R at hX h5 S q1 q2 q3
    obtain ⟨C1, L1, e1⟩ := R
    dsimp only at hX h5 S q1 q2 q3
    subst h5
    have S := S.fro [4] rfl
    refine cond_eq (fun h0 => ?_) (fun h0 => ?_)
    case refine_2 =>
      rw [if_neg h0] at hX
      refine cond_eq (fun h4 => ?_) (fun h4 => ?_)
      · rw [if_pos h4] at hX
        rw [← hX]
        exact ⟨rfl, h4, S.tail⟩
      · rw [if_neg h4] at hX
        exact nxt q1 (by omega) hX S
    rw [if_pos h0] at hX
    clear h0
    refine S.la0 rfl ?_
    refine (begin24_c (b := b) (sl := sl) q1 hn hr (by omega) hb (S.fro [1, 1, 1, 1] rfl)).mono ?_
    rintro ⟨e2, ⟨⟩⟩ w6 ⟨h6, S⟩
    dsimp only at h6 ⊢
    have S := S.fro [4] rfl
    obtain ⟨r1, r2, r3⟩ := q1.beg b hn hr sl (by omega)
    generalize begP C1 L1 O b ns o sl = Z at hX h6 S r1 r2 r3
    obtain ⟨C2, L2, O2, e3⟩ := Z
    dsimp only at hX h6 S r1 r2 r3
    subst h6
    refine cond_eq (fun h0 => ?_) (fun h0 => ?_)
    · rw [if_pos h0] at hX
      rw [← hX]
      exact ⟨rfl, h0, S.tail⟩
    rw [if_neg h0] at hX
    refine cond_eq (fun h4 => ?_) (fun h4 => ?_)
    · rw [if_pos h4] at hX
      rw [← hX]
      exact ⟨rfl, h4, S.tail⟩
    rw [if_neg h4] at hX
    refine S.ld1 (j := 7) rfl rfl ?_
    refine (Failed_e (b := b) (S.fro [3] rfl)).mono ?_
    rintro ⟨(e4 : Int), ⟨⟩⟩ w7 ⟨-, S⟩
    have S := S.fro [1, 1, 1] rfl
    have hl2 : L2.length = L.length := by rw [r1.ll, h.ll]
    have r1 := r1.chL b (φ := fB) (fun _ => rfl)
    rw [hl2] at S r1
    refine (Destroy24_c (b := b) r1 (by omega) (S.fro [1, 1, 1, 1] rfl)).mono ?_
    rintro ⟨e5, ⟨⟩⟩ w8 ⟨h8, S⟩
    dsimp only at h8 ⊢
    rw [show dsC n C2 (chL b L.length fB L2) b = dstP C2 (chL b L.length fB L2) b from if_pos hb] at h8 S
    obtain ⟨d1, d2, d3⟩ := r1.dst b (by omega)
    generalize dstP C2 (chL b L.length fB L2) b = Y at hX h8 S d1 d2 d3
    obtain ⟨C3, L3, e6⟩ := Y
    dsimp only at hX h8 S d1 d2 d3
    subst h8
    have S := S.fro [4] rfl
    refine cond_eq (fun h4 => ?_) (fun h4 => ?_)
    · rw [if_pos h4] at hX
      rw [← hX]
      exact ⟨rfl, h4, S.tail⟩
    · rw [if_neg h4] at hX
      exact nxt d1 (by omega) hX S
  · have hcl : (gx L b.toNat).cl = true := by simpa using hcl
    rw [if_pos hcl] at hX
    dsimp only at hX
    rw [if_pos rfl] at hX
    obtain ⟨C1, L1, q1, q2, q3, hX, S⟩ : ∃ C1 L1, PI g n C1 L1 O ∧ C1.ops ≤ C.ops + 2 ∧ C.ops ≤ C1.ops ∧ (let s := begP C1 L1 O b ns o sl
       if s.2.2.2 = 0 then ((s.1, s.2.1, s.2.2.1), b, 0) else
       if s.2.2.2 = 4 then ((s.1, s.2.1, s.2.2.1), 0, 4) else
       let d := dstP s.1 (chL b L.length fB s.2.1) b
       if d.2.2 = 4 then ((d.1, d.2.1, s.2.2.1), 0, 4) else opnP ns o sl k d.1 d.2.1 s.2.2.1) = X ∧ Sep E w0 w4 (BoxA b1 25 o.vs :: plS pp p q g s O C1 L1 Rs) := ⟨C, L, h, by omega, by omega, hX, S⟩
    refine S.la0 rfl ?_
    refine (begin24_c (b := b) (sl := sl) q1 hn hr (by omega) hb (S.fro [1, 1, 1, 1] rfl)).mono ?_
    rintro ⟨e2, ⟨⟩⟩ w6 ⟨h6, S⟩
    dsimp only at h6 ⊢
    have S := S.fro [4] rfl
    obtain ⟨r1, r2, r3⟩ := q1.beg b hn hr sl (by omega)
    generalize begP C1 L1 O b ns o sl = Z at hX h6 S r1 r2 r3
    obtain ⟨C2, L2, O2, e3⟩ := Z
    dsimp only at hX h6 S r1 r2 r3
    subst h6
    refine cond_eq (fun h0 => ?_) (fun h0 => ?_)
    · rw [if_pos h0] at hX
      rw [← hX]
      exact ⟨rfl, h0, S.tail⟩
    rw [if_neg h0] at hX
    refine cond_eq (fun h4 => ?_) (fun h4 => ?_)
    · rw [if_pos h4] at hX
      rw [← hX]
      exact ⟨rfl, h4, S.tail⟩
    rw [if_neg h4] at hX
    refine S.ld1 (j := 7) rfl rfl ?_
    refine (Failed_e (b := b) (S.fro [3] rfl)).mono ?_
    rintro ⟨(e4 : Int), ⟨⟩⟩ w7 ⟨-, S⟩
    have S := S.fro [1, 1, 1] rfl
    have hl2 : L2.length = L.length := by rw [r1.ll, h.ll]
    have r1 := r1.chL b (φ := fB) (fun _ => rfl)
    rw [hl2] at S r1
    refine (Destroy24_c (b := b) r1 (by omega) (S.fro [1, 1, 1, 1] rfl)).mono ?_
    rintro ⟨e5, ⟨⟩⟩ w8 ⟨h8, S⟩
    dsimp only at h8 ⊢
    rw [show dsC n C2 (chL b L.length fB L2) b = dstP C2 (chL b L.length fB L2) b from if_pos hb] at h8 S
    obtain ⟨d1, d2, d3⟩ := r1.dst b (by omega)
    generalize dstP C2 (chL b L.length fB L2) b = Y at hX h8 S d1 d2 d3
    obtain ⟨C3, L3, e6⟩ := Y
    dsimp only at hX h8 S d1 d2 d3
    subst h8
    have S := S.fro [4] rfl
    refine cond_eq (fun h4 => ?_) (fun h4 => ?_)
    · rw [if_pos h4] at hX
      rw [← hX]
      exact ⟨rfl, h4, S.tail⟩
    · rw [if_neg h4] at hX
      exact nxt d1 (by omega) hX S
end
end Go.Proofs.Ytlpeoaphdmfjdaa.Vc
/-! The contracts of pool (layer 24): new, opened, written, copied. -/
namespace Go.Proofs.Ytlpeoaphdmfjdaa.Vc
open Go Go.Eng Go.RowKit
section
variable {E : Nat → Prop} {w0 w : World} {pp p q n : Nat} {g : Geo} {s : SlV} {O : List Hd} {C : CD} {L : List Blk} {Rs : List Asr}
theorem Open24_c {ns : Int} {o : Hd} (h : PI g n C L O) (hr : o.rng) (ho : C.ops + 768 ≤ 1000000) (S : Sep E w0 w (plS pp p q g s O C L Rs)) :
    CallV Try.prog 10 #[.pointer (some ⟨pp, 0, none⟩), .int .i64 ns, o.val] w [.one (.int .i64), .one (.int .i64)] fun r w' =>
      r.1 = (opC ns o true C L O).2.1 ∧ r.2.1 = (opC ns o true C L O).2.2 ∧ Sep E w0 w' (plS pp p q g s (opC ns o true C L O).1.2.2 (opC ns o true C L O).1.1 (opC ns o true C L O).1.2.1 Rs) := by
  apply pool_Pool_Open.vc
  unfold pool_Pool_Open.P
  refine S.newB fun b1 w1 S f1 _ => S.la0 rfl ?_
  refine (open24_c (ns := ns) (sl := true) h hr ho (S.fro [1, 1, 1, 1] rfl)).mono ?_
  rintro ⟨a, e, ⟨⟩⟩ w2 ⟨h1, h2, S⟩
  exact ⟨h1, h2, (S.fro [4] rfl).tail⟩
theorem New24_c {y : SlV} (hC : COk C) (hl : L.length ≤ 100) (hy : y.n ≤ 1000) (hO : RdC w y.a (O.flatMap Hd.vs)) (hOl : O.length = y.n) (S : Sep E w0 w (chipE p C :: ledE q L :: Rs)) :
    CallV Try.prog 9 #[.pointer (some ⟨p, 0, none⟩), .pointer (some ⟨q, 0, none⟩), .slice y.a y.n y.c] w [.one .ptr, .one (.int .i64)] fun r w' =>
      (¬ ((L.length : Int) = C.g.b - 4 ∧ (y.n : Int) = C.g.b - 4) → r.1 = none ∧ r.2.1 = (2 : Int) ∧ Ext w w') ∧
      ((L.length : Int) = C.g.b - 4 ∧ (y.n : Int) = C.g.b - 4 → r.2.1 = (0 : Int) ∧ ∃ (pp : Nat) (s : SlV), r.1 = some (⟨pp, 0, none⟩ : Addr) ∧ Ext w w' ∧ Sep E w0 w' (plS pp p q C.g s O C L Rs)) := by
  apply pool_New.vc
  unfold pool_New.P
  have hR := hC.g
  have T := Sep.start NoB w
  refine (Geometry_e S).mono ?_
  rintro ⟨_, ⟨⟩⟩ w1 ⟨h1, x1⟩
  dsimp only at h1
  subst h1
  have S := S.stepE x1
  have X := x1
  refine S.newB fun b3 w3 S f3 z3 => ?_
  refine S.st0 (by rfl) fun w4 S f4 => S.la0 rfl ?_
  have X3 := (Fr.of X).trans f3
  have X4 : Fr NoB w w4 := X3.trans' f4 fun i hi => .inr (by rw [hi]; exact Nat.le_trans X.size z3)
  refine (Data_c (g := C.g)).mono ?_
  rintro ⟨(d : Int), ⟨⟩⟩ w5 ⟨h5, x5⟩
  dsimp only at h5 ⊢
  rw [if_pos hR] at h5
  subst h5
  obtain ⟨⟨n1, n2⟩, -⟩ := hC.num
  have S := S.stepE x5
  have X5 := X4.trans (.of x5)
  refine cond_f (by simp; omega) ?_
  refine (Len_e (S.fro [2] rfl)).mono ?_
  rintro ⟨(r : Int), ⟨⟩⟩ w6 ⟨h6, rfl⟩
  dsimp only at h6 ⊢
  subst h6
  refine cond_ne (fun hne => ⟨fun _ => ⟨rfl, rfl, X5.ext⟩, fun hh => absurd hh.1 hne⟩) (fun he => ?_)
  refine cond_ne (fun hne => ⟨fun _ => ⟨rfl, rfl, X5.ext⟩, fun hh => absurd hh.2 hne⟩) (fun he2 => ?_)
  refine S.reg fun D hD hkeep S T => ?_
  have X := T.fr
  clear T
  refine ⟨hD _ S.bl0, S.la0 rfl ?_⟩
  refine S.newB fun b13 w14 S f14 z14 => ?_
  have X := X.trans f14
  refine ⟨hkeep _ X, ?_⟩
  have S := S.asOwn (sz := 6) (n := 0) rfl (by omega) oneAll.nil
  have hO' : RdC w14 y.a (O.flatMap Hd.vs) := hO.imp id fun ⟨p, h1, h2⟩ => ⟨p, h1, ((X5.trans (.drew _ _)).trans X).ext.cells h2⟩
  refine AppS.of (news := O.flatMap Hd.vs) (by rw [flatF_len Hdv_len, hOl]) hO' ?_
  refine S.ap0 (by rw [flatF_len Hdv_len, hOl]) (flatF_one Hdv_one O) (by omega) (by omega) fun a' c' w18 S f18 => ?_
  have X : Fr NoB w6.drew w18 := X.trans' f18 fun i ⟨q, hq, hi⟩ => .inr (by cases hq; subst hi; exact z14)
  refine ⟨hkeep _ X, ?_⟩
  dsimp only [List.nil_append] at S ⊢
  rw [Nat.zero_add] at S ⊢
  refine S.newB fun b20 w21 S f21 z21 => ?_
  have X := X.trans f21
  refine ⟨hkeep _ X, fun hh => absurd ⟨he, he2⟩ hh, fun _ => ⟨rfl, b20, ⟨a', y.n, c'⟩, rfl, ((X5.trans (.drew _ _)).trans X).ext, ?_⟩⟩
  exact (S.fro [2] rfl).tail.fro [0, 0, 1] rfl
end
end Go.Proofs.Ytlpeoaphdmfjdaa.Vc
/-! The contracts of layer 24: the document's pool: a block changed, destroyed. -/
namespace Go.Proofs.Ytlpeoaphdmfjdaa.Vc
open Go Go.Eng Go.RowKit
abbrev plV (B : SlP TBd.T) (f : SlP TF.T) (C : CD) (l o : SlV) : List Value := [.int .i64 C.g.b, .int .i64 C.g.p, .int .i64 C.g.s, .int .i64 C.g.sp, .int .i64 C.g.wr, .int .i64 C.g.ro, .slice B.a B.n B.c, .slice f.a f.n f.c, .bool C.off, .int .i64 (C.ops : Int), .slice l.a l.n l.c, .slice o.a o.n o.c]
abbrev plT (B : SlP TBd.T) (f : SlP TF.T) (C : CD) (l o : SlV) : Int × Int × Int × Int × Int × Int × SlV × SlV × Bool × Int × SlV × SlV × Unit := (C.g.b, C.g.p, C.g.s, C.g.sp, C.g.wr, C.g.ro, ⟨B.a, B.n, B.c⟩, ⟨f.a, f.n, f.c⟩, C.off, (C.ops : Int), l, o, ())
abbrev SH12 : List SS := [.int .i64, .int .i64, .int .i64, .int .i64, .int .i64, .int .i64, .sl, .sl, .bool, .int .i64, .sl, .sl]
abbrev rpS (B : SlP TBd.T) (l o : SlV) (L : List Blk) (O : List Hd) (Rs : List Asr) : List Asr := RdT (Ty.sl TBd) B :: OwnA 173 9 l.a l.n l.c (bvs L) :: OwnA 25 6 o.a o.n o.c (O.flatMap Hd.vs) :: Rs
section
variable {E : Nat → Prop} {w0 w w' : World} {Rs : List Asr}
theorem Fr.nw {b : Nat} (h : Fr NoB w0 w) (hz : w.heap.size ≤ b) : w0.heap.size ≤ b := Nat.le_trans h.size hz
end
end Go.Proofs.Ytlpeoaphdmfjdaa.Vc
/-! The contracts of layer 24: the document's pool: a block begun, opened. -/
namespace Go.Proofs.Ytlpeoaphdmfjdaa.Vc
open Go Go.Eng Go.RowKit
section
variable {E : Nat → Prop} {w0 w : World} {g : Geo} {n : Nat} {C : CD} {L : List Blk} {O : List Hd} {B : SlP TBd.T} {f : SlP TF.T} {l o : SlV} {Rs : List Asr}
theorem dstP_k (C : CD) (L : List Blk) (b : Int) : (dstP C L b).1.pl = C.pl := by
  unfold dstP
  split
  · split
    · exact (scrC_k _ _).2.trans (eraC_k _ _).2
    · exact (scrC_k _ _).2.trans (eraC_k _ _).2
  · exact (eraC_k _ _).2
theorem fstP_k (C : CD) (b : Int) (h : Hd) (sl : Bool) : (fstP C b h sl).1.pl = C.pl := by
  unfold fstP
  split
  · exact (progC_k _ _ _ _).2.trans (progC_k _ _ _ _).2
  · exact (progC_k _ _ _ _).2
end
end Go.Proofs.Ytlpeoaphdmfjdaa.Vc
/-! What any parameter of a law is known to be, with the sizes of what it holds: structs, arrays and slices of whole numbers, texts, and of each other. -/
namespace Go.Proofs.Ytlpeoaphdmfjdaa.Vc
open Go Go.Eng Go.RowKit Go.ChangeShapes
def Ty.big : (t : Ty) → t.T → Prop
  | .int _, _ => True
  | .bool, _ => True
  | .str, (x : ByteArray) => x.size ≤ 140737488351232
  | .sl e, (x : SlP e.T) => x.n ≤ 140737488351232 ∧ ∀ y ∈ x.l, e.big y
  | .nil, _ => True
  | .cons a r, (x : a.T × r.T) => a.big x.1 ∧ r.big x.2
end Go.Proofs.Ytlpeoaphdmfjdaa.Vc
/-! What the laws of layer 13 share. -/
namespace Go.Proofs.Ytlpeoaphdmfjdaa.Vc
open Go Go.Eng Go.RowKit
theorem fds_byt {w : World} {G : Nat → Prop} {f : SlP TF.T} (hf : LF.rd w G f) : ∀ F ∈ fds f, Byt F.2.2.1 := fun F hF => by
  obtain ⟨x, hx, rfl⟩ := List.mem_map.1 hF
  rw [TF_dat]
  exact fun v hv => rng_u8 ((hf.2.2.2.2 x hx).2.2.1.2.2.2.2 v hv)
end Go.Proofs.Ytlpeoaphdmfjdaa.Vc
/-! The plans of functions as plain statements, printed by wip/tools/vcgen.py; the kernel holds each to the code. -/
namespace Go.Proofs.Ytlpeoaphdmfjdaa.Vc
open Go Go.Eng
def law24_made.A : Ann := .two .no (.two .no (.two .no (.two .no (.two .no (.join [2, 3, 37, 38, 39, 40, 41, 42, 43, 44, 45, 46, 47, 48] [(2, .one .ptr), (3, .one .ptr)] (.draw (.take 0 (.take 1 (.take 2 (.take 3 (.take 4 (.take 5 (.take 7 (.take 9 (.both 6 (.both 8 (.take 12 (.take 13 (.eff 10 (.take 11 (.eff 14 (.done)))))) 10 (.eff 8 (.take 11 (.take 12 (.take 13 (.eff 14 (.done))))))) 10 (.eff 6 (.eff 8 (.take 11 (.take 12 (.take 13 (.eff 14 (.done))))))))))))))))) .no)))))
def law24_made.P (p0_0 p0_1 p0_2 p0_3 p0_4 p0_5 : Int) (a0_6 : Option Addr) (n0_6 c0_6 : Nat) (a0_7 : Option Addr) (n0_7 c0_7 : Nat) (w : World) (K : (Option Addr) × (Option Addr) × (Int × Int × Int × Int × Int × Int × SlV × SlV × Bool × Int × SlV × SlV × Unit) × Unit → World → Prop) : Prop :=
  NewV #[.int .i64 p0_0, .int .i64 p0_1, .int .i64 p0_2, .int .i64 p0_3, .int .i64 p0_4, .int .i64 p0_5, .slice a0_6 n0_6 c0_6, .slice a0_7 n0_7 c0_7] 118 w fun b1 w2 =>
  NewV #[.int .i64 0, .int .i64 0, .int .i64 0, .int .i64 0, .int .i64 0, .int .i64 0, .slice none 0 0, .slice none 0 0, .bool false, .int .i64 0, .slice none 0 0, .slice none 0 0] 113 w2 fun b3 w4 =>
  LoadA w4 ⟨b1, 0, none⟩ [.int .i64, .int .i64, .int .i64, .int .i64, .int .i64, .int .i64] fun (x5 : Int × Int × Int × Int × Int × Int × Unit) =>
  LoadS w4 ⟨b1, 6, none⟩ .sl fun (x6 : SlV) =>
  CallV Try.prog 7 #[.agg #[.int .i64 x5.1, .int .i64 x5.2.1, .int .i64 x5.2.2.1, .int .i64 x5.2.2.2.1, .int .i64 x5.2.2.2.2.1, .int .i64 x5.2.2.2.2.2.1], .slice x6.a x6.n x6.c] w4 [.one .ptr, .one (.int .i64)] fun (r7 : (Option Addr) × Int × Unit) w8 =>
  LoadS w8 ⟨b1, 0, none⟩ (.int .i64) fun (x9 : Int) =>
  Rng .i64 (x9 - 4) ∧
  CallV Try.prog 8 #[.int .i64 (x9 - 4)] w8 [.one .ptr, .one (.int .i64)] fun (r10 : (Option Addr) × Int × Unit) w11 =>
  ((0 : Int) ≤ (x9 - 4 : Int) ∧ (x9 - 4 : Int) ≤ (x9 - 4 : Int) ∧ (x9 - 4 : Int) ≤ 9223372036854775807 ∧ ((48 : Nat) : Int) * (x9 - 4 : Int) ≤ 140737488355328) ∧
  NewV (List.replicate ((x9 - 4).toNat) [.int .i64 0, .int .i64 0, .int .i64 0, .int .u32 0, .int .u64 0, .int .u64 0]).flatten.toArray 25 w11 fun b12 w13 =>
  CallV Try.prog 9 #[.pointer r7.1, .pointer r10.1, .slice (some ⟨b12, 0, none⟩) ((x9 - 4).toNat) ((x9 - 4).toNat)] w13 [.one .ptr, .one (.int .i64)] fun (r14 : (Option Addr) × Int × Unit) w15 =>
  JoinV [.one .ptr, .one .ptr] (fun (v17 : (Option Addr) × (Option Addr) × Unit) w18 =>
  LoadA w18 ⟨b3, 0, none⟩ [.int .i64, .int .i64, .int .i64, .int .i64, .int .i64, .int .i64, .sl, .sl, .bool, .int .i64, .sl, .sl] fun (x19 : Int × Int × Int × Int × Int × Int × SlV × SlV × Bool × Int × SlV × SlV × Unit) =>
  K (v17.1, v17.2.1, (x19.1, x19.2.1, x19.2.2.1, x19.2.2.2.1, x19.2.2.2.2.1, x19.2.2.2.2.2.1, x19.2.2.2.2.2.2.1, x19.2.2.2.2.2.2.2.1, x19.2.2.2.2.2.2.2.2.1, x19.2.2.2.2.2.2.2.2.2.1, x19.2.2.2.2.2.2.2.2.2.2.1, x19.2.2.2.2.2.2.2.2.2.2.2.1, ()), ()) w18) fun (J16 : (Option Addr) × (Option Addr) × Unit → World → Prop) =>
  DrawV fun D20 =>
  (D20 b1 ∧ LoadA w15.drew ⟨b1, 0, none⟩ [.int .i64, .int .i64, .int .i64, .int .i64, .int .i64, .int .i64] fun (x21 : Int × Int × Int × Int × Int × Int × Unit) =>
  (D20 b1 ∧ LoadS w15.drew ⟨b1, 6, none⟩ .sl fun (x22 : SlV) =>
  ((CallV Try.prog 100 #[.agg #[.int .i64 x21.1, .int .i64 x21.2.1, .int .i64 x21.2.2.1, .int .i64 x21.2.2.2.1, .int .i64 x21.2.2.2.2.1, .int .i64 x21.2.2.2.2.2.1], .slice x22.a x22.n x22.c] w15.drew [.agg [.int .i64, .int .i64, .int .i64, .int .i64, .int .i64, .int .i64, .sl, .sl, .bool, .int .i64]] fun (r23 : (Int × Int × Int × Int × Int × Int × SlV × SlV × Bool × Int × Unit) × Unit) w24 =>
  KeepOn D20 w15.drew w24 ∧
  ((CallV Try.prog 101 #[.int .i64 (x9 - 4)] w24 [.one .sl] fun (r25 : SlV × Unit) w26 =>
  KeepOn D20 w15.drew w26 ∧
  ((0 : Int) ≤ (x9 - 4 : Int) ∧ (x9 - 4 : Int) ≤ (x9 - 4 : Int) ∧ (x9 - 4 : Int) ≤ 9223372036854775807 ∧ ((48 : Nat) : Int) * (x9 - 4 : Int) ≤ 140737488355328) ∧
  NewV (List.replicate ((x9 - 4).toNat) [.int .i64 0, .int .i64 0, .int .i64 0, .int .u32 0, .int .u64 0, .int .u64 0]).flatten.toArray 25 w26 fun b27 w28 =>
  KeepOn D20 w15.drew w28 ∧
  StoreV w28 ⟨b3, 0, none⟩ [.int .i64 r23.1.1, .int .i64 r23.1.2.1, .int .i64 r23.1.2.2.1, .int .i64 r23.1.2.2.2.1, .int .i64 r23.1.2.2.2.2.1, .int .i64 r23.1.2.2.2.2.2.1, .slice r23.1.2.2.2.2.2.2.1.a r23.1.2.2.2.2.2.2.1.n r23.1.2.2.2.2.2.2.1.c, .slice r23.1.2.2.2.2.2.2.2.1.a r23.1.2.2.2.2.2.2.2.1.n r23.1.2.2.2.2.2.2.2.1.c, .bool r23.1.2.2.2.2.2.2.2.2.1, .int .i64 r23.1.2.2.2.2.2.2.2.2.2.1, .slice r25.1.a r25.1.n r25.1.c, .slice (some ⟨b27, 0, none⟩) ((x9 - 4).toNat) ((x9 - 4).toNat)] fun w29 =>
  KeepOn D20 w15.drew w29 ∧
  J16 (r14.1, r7.1, ()) w29) ∧
  (((0 : Int) ≤ (x9 - 4 : Int) ∧ (x9 - 4 : Int) ≤ (x9 - 4 : Int) ∧ (x9 - 4 : Int) ≤ 9223372036854775807 ∧ ((48 : Nat) : Int) * (x9 - 4 : Int) ≤ 140737488355328) ∧
  NewV (List.replicate ((x9 - 4).toNat) [.int .i64 0, .int .i64 0, .int .i64 0, .int .u32 0, .int .u64 0, .int .u64 0]).flatten.toArray 25 w24 fun b30 w31 =>
  KeepOn D20 w15.drew w31 ∧
  CallV Try.prog 101 #[.int .i64 (x9 - 4)] w31 [.one .sl] fun (r32 : SlV × Unit) w33 =>
  KeepOn D20 w15.drew w33 ∧
  StoreV w33 ⟨b3, 0, none⟩ [.int .i64 r23.1.1, .int .i64 r23.1.2.1, .int .i64 r23.1.2.2.1, .int .i64 r23.1.2.2.2.1, .int .i64 r23.1.2.2.2.2.1, .int .i64 r23.1.2.2.2.2.2.1, .slice r23.1.2.2.2.2.2.2.1.a r23.1.2.2.2.2.2.2.1.n r23.1.2.2.2.2.2.2.1.c, .slice r23.1.2.2.2.2.2.2.2.1.a r23.1.2.2.2.2.2.2.2.1.n r23.1.2.2.2.2.2.2.2.1.c, .bool r23.1.2.2.2.2.2.2.2.2.1, .int .i64 r23.1.2.2.2.2.2.2.2.2.2.1, .slice r32.1.a r32.1.n r32.1.c, .slice (some ⟨b30, 0, none⟩) ((x9 - 4).toNat) ((x9 - 4).toNat)] fun w34 =>
  KeepOn D20 w15.drew w34 ∧
  J16 (r14.1, r7.1, ()) w34))) ∧
  (((0 : Int) ≤ (x9 - 4 : Int) ∧ (x9 - 4 : Int) ≤ (x9 - 4 : Int) ∧ (x9 - 4 : Int) ≤ 9223372036854775807 ∧ ((48 : Nat) : Int) * (x9 - 4 : Int) ≤ 140737488355328) ∧
  NewV (List.replicate ((x9 - 4).toNat) [.int .i64 0, .int .i64 0, .int .i64 0, .int .u32 0, .int .u64 0, .int .u64 0]).flatten.toArray 25 w15.drew fun b35 w36 =>
  KeepOn D20 w15.drew w36 ∧
  CallV Try.prog 100 #[.agg #[.int .i64 x21.1, .int .i64 x21.2.1, .int .i64 x21.2.2.1, .int .i64 x21.2.2.2.1, .int .i64 x21.2.2.2.2.1, .int .i64 x21.2.2.2.2.2.1], .slice x22.a x22.n x22.c] w36 [.agg [.int .i64, .int .i64, .int .i64, .int .i64, .int .i64, .int .i64, .sl, .sl, .bool, .int .i64]] fun (r37 : (Int × Int × Int × Int × Int × Int × SlV × SlV × Bool × Int × Unit) × Unit) w38 =>
  KeepOn D20 w15.drew w38 ∧
  CallV Try.prog 101 #[.int .i64 (x9 - 4)] w38 [.one .sl] fun (r39 : SlV × Unit) w40 =>
  KeepOn D20 w15.drew w40 ∧
  StoreV w40 ⟨b3, 0, none⟩ [.int .i64 r37.1.1, .int .i64 r37.1.2.1, .int .i64 r37.1.2.2.1, .int .i64 r37.1.2.2.2.1, .int .i64 r37.1.2.2.2.2.1, .int .i64 r37.1.2.2.2.2.2.1, .slice r37.1.2.2.2.2.2.2.1.a r37.1.2.2.2.2.2.2.1.n r37.1.2.2.2.2.2.2.1.c, .slice r37.1.2.2.2.2.2.2.2.1.a r37.1.2.2.2.2.2.2.2.1.n r37.1.2.2.2.2.2.2.2.1.c, .bool r37.1.2.2.2.2.2.2.2.2.1, .int .i64 r37.1.2.2.2.2.2.2.2.2.2.1, .slice r39.1.a r39.1.n r39.1.c, .slice (some ⟨b35, 0, none⟩) ((x9 - 4).toNat) ((x9 - 4).toNat)] fun w41 =>
  KeepOn D20 w15.drew w41 ∧
  J16 (r14.1, r7.1, ()) w41))))
theorem law24_made.vc (p0_0 p0_1 p0_2 p0_3 p0_4 p0_5 : Int) (a0_6 : Option Addr) (n0_6 c0_6 : Nat) (a0_7 : Option Addr) (n0_7 c0_7 : Nat) (w : World) (K : (Option Addr) × (Option Addr) × (Int × Int × Int × Int × Int × Int × SlV × SlV × Bool × Int × SlV × SlV × Unit) × Unit → World → Prop) (h : law24_made.P p0_0 p0_1 p0_2 p0_3 p0_4 p0_5 a0_6 n0_6 c0_6 a0_7 n0_7 c0_7 w K) : CallV Try.prog 57 #[.agg #[.int .i64 p0_0, .int .i64 p0_1, .int .i64 p0_2, .int .i64 p0_3, .int .i64 p0_4, .int .i64 p0_5, .slice a0_6 n0_6 c0_6, .slice a0_7 n0_7 c0_7]] w [.one .ptr, .one .ptr, .agg [.int .i64, .int .i64, .int .i64, .int .i64, .int .i64, .int .i64, .sl, .sl, .bool, .int .i64, .sl, .sl]] K := by
  refine vcFun.of (A := law24_made.A) (wr := false) okf_ok follows h Try.func57 ?_
  kernel_rfl
def law24_awake.A : Ann := .no
def law24_awake.P  (w : World) (K : Bool × Unit → World → Prop) : Prop :=
  CallV Try.prog 57 #[.agg #[.int .i64 7, .int .i64 10, .int .i64 64, .int .i64 0, .int .i64 1, .int .i64 1, .slice none 0 0, .slice none 0 0]] w [.one .ptr, .one .ptr, .agg [.int .i64, .int .i64, .int .i64, .int .i64, .int .i64, .int .i64, .sl, .sl, .bool, .int .i64, .sl, .sl]] fun (r1 : (Option Addr) × (Option Addr) × (Int × Int × Int × Int × Int × Int × SlV × SlV × Bool × Int × SlV × SlV × Unit) × Unit) w2 =>
  NewV #[.int .i64 0, .int .i64 0, .int .i64 0, .int .i64 0, .int .i64 0, .int .i64 0, .slice none 0 0, .slice none 0 0, .bool false, .int .i64 0, .slice none 0 0, .slice none 0 0] 113 w2 fun b3 w4 =>
  StoreV w4 ⟨b3, 0, none⟩ [.int .i64 r1.2.2.1.1, .int .i64 r1.2.2.1.2.1, .int .i64 r1.2.2.1.2.2.1, .int .i64 r1.2.2.1.2.2.2.1, .int .i64 r1.2.2.1.2.2.2.2.1, .int .i64 r1.2.2.1.2.2.2.2.2.1, .slice r1.2.2.1.2.2.2.2.2.2.1.a r1.2.2.1.2.2.2.2.2.2.1.n r1.2.2.1.2.2.2.2.2.2.1.c, .slice r1.2.2.1.2.2.2.2.2.2.2.1.a r1.2.2.1.2.2.2.2.2.2.2.1.n r1.2.2.1.2.2.2.2.2.2.2.1.c, .bool r1.2.2.1.2.2.2.2.2.2.2.2.1, .int .i64 r1.2.2.1.2.2.2.2.2.2.2.2.2.1, .slice r1.2.2.1.2.2.2.2.2.2.2.2.2.2.1.a r1.2.2.1.2.2.2.2.2.2.2.2.2.2.1.n r1.2.2.1.2.2.2.2.2.2.2.2.2.2.1.c, .slice r1.2.2.1.2.2.2.2.2.2.2.2.2.2.2.1.a r1.2.2.1.2.2.2.2.2.2.2.2.2.2.2.1.n r1.2.2.1.2.2.2.2.2.2.2.2.2.2.2.1.c] fun w5 =>
  CallV Try.prog 10 #[.pointer r1.1, .int .i64 1, .agg #[.int .i64 0, .int .i64 0, .int .i64 0, .int .u32 0, .int .u64 2, .int .u64 0]] w5 [.one (.int .i64), .one (.int .i64)] fun (r6 : Int × Int × Unit) w7 =>
  cond (r6.2.1 == 0)
  (cond (r6.1 == 0)
  (CallV Try.prog 27 #[.pointer r1.2.1] w7 [.one (.int .i64)] fun (r8 : Int × Unit) w9 =>
  cond (r8.1 == 3)
  (CallV Try.prog 16 #[.pointer r1.1, .int .i64 0] w9 [.agg [.int .i64, .int .i64, .int .i64, .int .u32, .int .u64, .int .u64]] fun (r10 : (Int × Int × Int × Int × Int × Int × Unit) × Unit) w11 =>
  K ((r10.1.2.2.2.2.1 == 2), ()) w11)
  (K (false, ()) w9))
  (K (false, ()) w7))
  (K (false, ()) w7)
theorem law24_awake.vc  (w : World) (K : Bool × Unit → World → Prop) (h : law24_awake.P  w K) : CallV Try.prog 17 #[] w [.one .bool] K := by
  refine vcFun.of (A := law24_awake.A) (wr := false) okf_ok follows h Try.func17 ?_
  kernel_rfl
def law24_PoolNews.A : Ann := .no
def law24_PoolNews.P (p0 p1 p2_0 p2_1 p2_2 p2_3 p2_4 p2_5 p2_6 p2_7 p2_8 p2_9 : Int) (w : World) (K : Bool × Unit → World → Prop) : Prop :=
  NewV #[.int .i64 p2_0, .int .i64 p2_1, .int .i64 p2_2, .int .i64 p2_3, .int .i64 p2_4, .int .i64 p2_5, .int .u32 p2_6, .int .u64 p2_7, .int .u64 p2_8, .int .u8 p2_9] 27 w fun b1 w2 =>
  CallV Try.prog 7 #[.agg #[.int .i64 9, .int .i64 10, .int .i64 64, .int .i64 0, .int .i64 1, .int .i64 1], .slice none 0 0] w2 [.one .ptr, .one (.int .i64)] fun (r3 : (Option Addr) × Int × Unit) w4 =>
  8 ≠ (0 : Int) ∧
  CallV Try.prog 8 #[.int .i64 (IntKind.i64.wrap (Int.tmod p0 8))] w4 [.one .ptr, .one (.int .i64)] fun (r5 : (Option Addr) × Int × Unit) w6 =>
  8 ≠ (0 : Int) ∧
  ((0 : Int) ≤ (IntKind.i64.wrap (Int.tmod p1 8) : Int) ∧ (IntKind.i64.wrap (Int.tmod p1 8) : Int) ≤ (IntKind.i64.wrap (Int.tmod p1 8) : Int) ∧ (IntKind.i64.wrap (Int.tmod p1 8) : Int) ≤ 9223372036854775807 ∧ ((48 : Nat) : Int) * (IntKind.i64.wrap (Int.tmod p1 8) : Int) ≤ 140737488355328) ∧
  NewV (List.replicate ((IntKind.i64.wrap (Int.tmod p1 8)).toNat) [.int .i64 0, .int .i64 0, .int .i64 0, .int .u32 0, .int .u64 0, .int .u64 0]).flatten.toArray 25 w6 fun b7 w8 =>
  CallV Try.prog 9 #[.pointer r3.1, .pointer r5.1, .slice (some ⟨b7, 0, none⟩) ((IntKind.i64.wrap (Int.tmod p1 8)).toNat) ((IntKind.i64.wrap (Int.tmod p1 8)).toNat)] w8 [.one .ptr, .one (.int .i64)] fun (r9 : (Option Addr) × Int × Unit) w10 =>
  CallV Try.prog 9 #[.pointer none, .pointer r5.1, .slice none 0 0] w10 [.one .ptr, .one (.int .i64)] fun (r11 : (Option Addr) × Int × Unit) w12 =>
  LoadA w12 ⟨b1, 3, none⟩ [.int .i64, .int .i64, .int .i64, .int .u32, .int .u64, .int .u64] fun (x13 : Int × Int × Int × Int × Int × Int × Unit) =>
  CallV Try.prog 10 #[.pointer none, .int .i64 1, .agg #[.int .i64 x13.1, .int .i64 x13.2.1, .int .i64 x13.2.2.1, .int .u32 x13.2.2.2.1, .int .u64 x13.2.2.2.2.1, .int .u64 x13.2.2.2.2.2.1]] w12 [.one (.int .i64), .one (.int .i64)] fun (r14 : Int × Int × Unit) w15 =>
  cond (r11.2.1 != 2)
  (K (false, ()) w15)
  (cond (r14.2.1 != 2)
  (K (false, ()) w15)
  (LoadS w15 ⟨b1, 1, none⟩ (.int .i64) fun (x16 : Int) =>
  CallV Try.prog 11 #[.pointer none, .int .i64 x16] w15 [.one (.int .i64)] fun (r17 : Int × Unit) w18 =>
  cond (r17.1 != 2)
  (K (false, ()) w18)
  (LoadS w18 ⟨b1, 1, none⟩ (.int .i64) fun (x19 : Int) =>
  LoadS w18 ⟨b1, 2, none⟩ (.int .i64) fun (x20 : Int) =>
  LoadA w18 ⟨b1, 3, none⟩ [.int .i64, .int .i64, .int .i64, .int .u32, .int .u64, .int .u64] fun (x21 : Int × Int × Int × Int × Int × Int × Unit) =>
  CallV Try.prog 12 #[.pointer none, .int .i64 x19, .int .i64 x20, .agg #[.int .i64 x21.1, .int .i64 x21.2.1, .int .i64 x21.2.2.1, .int .u32 x21.2.2.2.1, .int .u64 x21.2.2.2.2.1, .int .u64 x21.2.2.2.2.2.1], .slice none 0 0, .slice none 0 0] w18 [.one (.int .i64)] fun (r22 : Int × Unit) w23 =>
  cond (r22.1 != 2)
  (K (false, ()) w23)
  (LoadS w23 ⟨b1, 1, none⟩ (.int .i64) fun (x24 : Int) =>
  LoadS w23 ⟨b1, 2, none⟩ (.int .i64) fun (x25 : Int) =>
  CallV Try.prog 13 #[.pointer none, .int .i64 x24, .int .i64 x25, .agg #[.int .i64 0, .int .i64 0]] w23 [.one (.int .i64)] fun (r26 : Int × Unit) w27 =>
  cond (r26.1 != 2)
  (K (false, ()) w27)
  (LoadS w27 ⟨b1, 1, none⟩ (.int .i64) fun (x28 : Int) =>
  CallV Try.prog 14 #[.pointer none, .int .i64 x28] w27 [.one (.int .i64)] fun (r29 : Int × Unit) w30 =>
  cond (r29.1 != 2)
  (K (false, ()) w30)
  (CallV Try.prog 15 #[.pointer none] w30 [.one .ptr] fun (r31 : (Option Addr) × Unit) w32 =>
  cond (!r31.1.isNone)
  (K (false, ()) w32)
  (CallV Try.prog 16 #[.pointer none, .int .i64 0] w32 [.agg [.int .i64, .int .i64, .int .i64, .int .u32, .int .u64, .int .u64]] fun (r33 : (Int × Int × Int × Int × Int × Int × Unit) × Unit) w34 =>
  AggEq Try.prog 25 #[.int .i64 r33.1.1, .int .i64 r33.1.2.1, .int .i64 r33.1.2.2.1, .int .u32 r33.1.2.2.2.1, .int .u64 r33.1.2.2.2.2.1, .int .u64 r33.1.2.2.2.2.2.1] #[.int .i64 0, .int .i64 0, .int .i64 0, .int .u32 0, .int .u64 0, .int .u64 0] fun e35 =>
  cond (!e35)
  (K (false, ()) w34)
  (8 ≠ (0 : Int) ∧
  cond ((Int.tmod p0 8) != 5)
  (cond (r9.2.1 == 2)
  (cond r9.1.isNone
  (CallV Try.prog 17 #[] w34 [.one .bool] fun (r36 : Bool × Unit) w37 =>
  K (r36.1, ()) w37)
  (K (false, ()) w34))
  (K (false, ()) w34))
  (8 ≠ (0 : Int) ∧
  cond ((Int.tmod p1 8) != 5)
  (cond (r9.2.1 == 2)
  (cond r9.1.isNone
  (CallV Try.prog 17 #[] w34 [.one .bool] fun (r38 : Bool × Unit) w39 =>
  K (r38.1, ()) w39)
  (K (false, ()) w34))
  (K (false, ()) w34))
  (cond (r9.2.1 == 0)
  (CallV Try.prog 18 #[.pointer r5.1, .int .i64 1] w34 [.one (.int .i64)] fun (r40 : Int × Unit) w41 =>
  cond (r40.1 == 0)
  (CallV Try.prog 15 #[.pointer r9.1] w41 [.one .ptr] fun (r42 : (Option Addr) × Unit) w43 =>
  CallV Try.prog 19 #[.pointer r42.1, .int .i64 1] w43 [.agg [.int .i64, .int .i64, .int .i64, .int .i64, .bool, .bool, .bool, .bool, .bool]] fun (r44 : (Int × Int × Int × Int × Bool × Bool × Bool × Bool × Bool × Unit) × Unit) w45 =>
  cond r44.1.2.2.2.2.2.2.1
  (CallV Try.prog 20 #[.pointer r9.1, .int .i64 2, .int .i64 3] w45 [.agg [.int .i64, .int .i64]] fun (r46 : (Int × Int × Unit) × Unit) w47 =>
  AggEq Try.prog 47 #[.int .i64 r46.1.1, .int .i64 r46.1.2.1] #[.int .i64 6, .int .i64 3] fun e48 =>
  cond e48
  (CallV Try.prog 17 #[] w47 [.one .bool] fun (r49 : Bool × Unit) w50 =>
  K (r49.1, ()) w50)
  (K (false, ()) w47))
  (K (false, ()) w45))
  (K (false, ()) w41))
  (K (false, ()) w34)))))))))))
theorem law24_PoolNews.vc (p0 p1 p2_0 p2_1 p2_2 p2_3 p2_4 p2_5 p2_6 p2_7 p2_8 p2_9 : Int) (w : World) (K : Bool × Unit → World → Prop) (h : law24_PoolNews.P p0 p1 p2_0 p2_1 p2_2 p2_3 p2_4 p2_5 p2_6 p2_7 p2_8 p2_9 w K) : CallV Try.prog 3 #[.int .u8 p0, .int .u8 p1, .agg #[.int .i64 p2_0, .int .i64 p2_1, .int .i64 p2_2, .int .i64 p2_3, .int .i64 p2_4, .int .i64 p2_5, .int .u32 p2_6, .int .u64 p2_7, .int .u64 p2_8, .int .u8 p2_9]] w [.one .bool] K := by
  refine vcFun.of (A := law24_PoolNews.A) (wr := false) okf_ok follows h Try.func3 ?_
  kernel_rfl
end Go.Proofs.Ytlpeoaphdmfjdaa.Vc
/-! The contracts of layer 24: what the laws share: payloads, cases, and a new pool by both. -/
namespace Go.Proofs.Ytlpeoaphdmfjdaa.Vc
open Go Go.Eng Go.RowKit
abbrev casV24 (g : Geo) (f : SlP TF.T) (s : SlV) : List Value := [.int .i64 g.b, .int .i64 g.p, .int .i64 g.s, .int .i64 g.sp, .int .i64 g.wr, .int .i64 g.ro, .slice f.a f.n f.c, .slice s.a s.n s.c]
def Li24 (g : Geo) (f : SlP TF.T) (n : Nat) : Prop := Right g ∧ FRight (fds f) ∧ g.b ≤ 12 ∧ g.p ≤ 20 ∧ g.s ≤ 128 ∧ (n : Int) ≤ 25
abbrev C024 (g : Geo) (f : SlP TF.T) : CD := newC g (fds f)
abbrev n24 (g : Geo) : Nat := (g.b - 4).toNat
abbrev L024 (g : Geo) : List Blk := List.replicate (n24 g) Blk.new
abbrev O024 (g : Geo) : List Hd := List.replicate (n24 g) zHd
theorem zHd_rep (m : Nat) : (List.replicate m [Value.int .i64 0, .int .i64 0, .int .i64 0, .int .u32 0, .int .u64 0, .int .u64 0]).flatten = (List.replicate m zHd).flatMap Hd.vs := by
  rw [List.flatMap_def, List.map_replicate]
  rfl
theorem Li24.PI {g : Geo} {f : SlP TF.T} (hR : Right g) (hFR : FRight (fds f)) (h1 : g.b ≤ 16 ∧ g.p ≤ 20 ∧ g.s ≤ 128) (hb : ∀ F ∈ fds f, Byt F.2.2.1) : PI g (n24 g) (C024 g f) (L024 g) (O024 g) := by
  have hk := hR.1
  unfold Kept at hk
  refine ⟨newC_ok hR h1 fun F hF => ⟨hb F hF, hFR.fit F hF⟩, rfl, by show (((g.b - 4).toNat : Nat) : Int) = _; omega, List.length_replicate, List.length_replicate, fun x hx => ?_⟩
  rw [(List.mem_replicate.1 hx).2]
  exact ⟨Int.le_refl _, Int.le_refl _⟩
end Go.Proofs.Ytlpeoaphdmfjdaa.Vc
/-! The contracts of layer 24: a new pool by both. -/
namespace Go.Proofs.Ytlpeoaphdmfjdaa.Vc
open Go Go.Eng Go.RowKit
theorem made24_c {w : World} {g : Geo} {f : SlP TF.T} {s : SlV} (hf : LF.rd w All f) (hm : mFit (fds f)) (hR : Right g) (hFR : FRight (fds f)) (hg : g.b ≤ 16 ∧ g.p ≤ 20 ∧ g.s ≤ 128) :
    CallV Try.prog 57 #[.agg (casV24 g f s).toArray] w [.one .ptr, .one .ptr, .agg SH12] fun r w' =>
      ∃ (pp p q : Nat) (t : SlV) (B : SlP TBd.T) (l o : SlV), r.1 = some (⟨pp, 0, none⟩ : Addr) ∧ r.2.1 = some (⟨p, 0, none⟩ : Addr) ∧ r.2.2.1 = plT B f (C024 g f) l o ∧ B.l.map bdOf = (C024 g f).bs ∧ Sep NoB w w' (plS pp p q g t (O024 g) (C024 g f) (L024 g) (rpS B l o (L024 g) (O024 g) [])) := by
  apply law24_made.vc
  unfold law24_made.P
  have S := Sep.start NoB w
  have hk := hR.1
  unfold Kept at hk
  have hC0 : COk (C024 g f) := newC_ok hR hg fun F hF => ⟨fds_byt hf F hF, hFR.fit F hF⟩
  refine S.newB fun b1 w101 S f101 z101 => ?_
  refine S.newB fun b3 w102 S f102 z102 => ?_
  refine S.lb1 (o := 0) rfl ?_
  refine S.ld1 (j := 6) rfl rfl ?_
  refine (New13_c (g := g) (x := f) (Ty.rd_ext S.ext _ hf) hm).mono ?_
  rintro ⟨pv, (e : Int), ⟨⟩⟩ w5 ⟨x5, -, hgood⟩
  obtain ⟨-, p, y, hp, hyF, S7⟩ := hgood ⟨hR, hFR⟩
  dsimp only at hp
  subst hp
  have S := chipE_in (C := C024 g f) hyF (S.frame0 S7)
  clear S7
  refine S.ld2 (j := 0) rfl rfl ⟨Rng.i64 (by omega) (by omega), ?_⟩
  refine (New21_c (n := g.b - 4) (by omega)).mono ?_
  rintro ⟨qv, (e : Int), ⟨⟩⟩ w6 ⟨-, q, a6, c6, hq, S6⟩
  dsimp only at hq
  subst hq
  have S := ledE_in (q := q) (L := L024 g) (S.frame0 S6)
  clear S6
  refine ⟨⟨by omega, by omega, by omega, by push_cast; omega⟩, ?_⟩
  refine S.newB fun b12 w7 S f7 _ => ?_
  rw [zHd_rep] at S
  refine (New24_c (y := ⟨some ⟨b12, 0, none⟩, n24 g, n24 g⟩) (O := O024 g) hC0 (by rw [List.length_replicate]; show n24 g ≤ _; unfold n24; omega) (by show n24 g ≤ _; unfold n24; omega) (.inr ⟨_, rfl, S.cells 0 rfl⟩) List.length_replicate (S.fro [2, 1] rfl)).mono ?_
  rintro ⟨pv2, (e : Int), ⟨⟩⟩ w8 ⟨-, h8⟩
  have hn24 : ((n24 g : Nat) : Int) = g.b - 4 := by unfold n24; omega
  obtain ⟨-, pp, t, hpp, x8, S⟩ := h8 ⟨by rw [List.length_replicate]; exact hn24, hn24⟩
  dsimp only at hpp
  subst hpp
  have S := (S.fro [4] rfl).tail
  refine ⟨fun v w' => v.1 = some (⟨pp, 0, none⟩ : Addr) ∧ v.2.1 = some (⟨p, 0, none⟩ : Addr) ∧ ∃ (B : SlP TBd.T) (l o : SlV), B.l.map bdOf = (C024 g f).bs ∧ Sep NoB w w' (BoxA b3 113 (plV B f (C024 g f) l o) :: plS pp p q g t (O024 g) (C024 g f) (L024 g) (rpS B l o (L024 g) (O024 g) [])), ?_, ?_⟩
  case refine_1 =>
    rintro ⟨u, v, ⟨⟩⟩ w' ⟨hu, hv, B, l, o, hdb, S⟩
    exact S.la0 rfl ⟨pp, p, q, t, B, l, o, hu, hv, rfl, hdb, S.tail⟩
  have hf8 := Ty.rd_ext S.ext _ hf
  have hne : b1 ≠ b3 := fun h => S.ne 4 5 (by decide) rfl rfl h.symm
  refine S.regX (fun k => k = b3) fun D hD hkeep S T => ?_
  have X := T.fr
  clear T
  have hf8 := Ty.rd_ext (Ext.drew w8) _ hf8
  refine ⟨hD _ S.bl5 hne, S.lb5 (o := 0) rfl ⟨hD _ S.bl5 hne, S.ld5 (j := 6) rfl rfl ?_⟩⟩
  refine ⟨?_, ?_⟩
  · refine (rNew13_c (g := g) (f := f) hR (Ty.rd_ext X.ext _ hf8)).mono ?_
    rintro ⟨_, ⟨⟩⟩ w103 ⟨B, hB, hRf, x103⟩
    dsimp only at hB
    subst hB
    have S := S.push (R := RdT (Ty.sl TBd) B) (F := fun k => _ ≤ k ∧ k < w103.heap.size) (.of x103) ((Ty.sl TBd).rd_mono (fun k h1 h2 => ⟨h1, h2⟩) hRf.rb) fun k hk => hk
    have hdb := hRf.db
    have X := X.trans (.of x103)
    refine ⟨hkeep _ X.any, ?_⟩
    refine ⟨?_, ?_⟩
    · refine (rNew21_c (n := g.b - 4) (by omega)).mono ?_
      rintro ⟨⟨la, ln, lc⟩, ⟨⟩⟩ w104 ⟨hln, S104⟩
      dsimp only at hln S104
      subst hln
      have X := X.trans S104.fr
      have S := S.frame0 S104
      clear S104
      refine ⟨hkeep _ X.any, ?_⟩
      refine ⟨⟨by omega, by omega, by omega, by push_cast; omega⟩, ?_⟩
      refine S.newB fun bo w105 S f105 z105 => ?_
      have ybo := Fr.nw X z105
      have X := X.trans f105
      refine ⟨hkeep _ X.any, ?_⟩
      rw [zHd_rep] at S
      have S := S.asOwn (sz := 6) (n := n24 g) (by rw [flatF_len Hdv_len, List.length_replicate]) (by omega) (flatF_one Hdv_one _)
      refine S.st7 (by rfl) fun w106 S f106 => ?_
      have X : Fr (fun k => k = b3) _ _ := X.any.trans f106
      refine ⟨hkeep _ X, rfl, rfl, B, ⟨la, (g.b - 4).toNat, lc⟩, ⟨some ⟨bo, 0, none⟩, n24 g, n24 g⟩, hdb, ?_⟩
      have S := S.fro [7, 3, 3, 3, 3, 2, 1] rfl
      exact S.take (Rs := _ :: plS pp p q g t (O024 g) (C024 g f) (L024 g) (rpS B ⟨la, (g.b - 4).toNat, lc⟩ ⟨some ⟨bo, 0, none⟩, n24 g, n24 g⟩ (L024 g) (O024 g) []))
    · refine ⟨⟨by omega, by omega, by omega, by push_cast; omega⟩, ?_⟩
      refine S.newB fun bo w107 S f107 z107 => ?_
      have ybo := Fr.nw X z107
      have X := X.trans f107
      refine ⟨hkeep _ X.any, ?_⟩
      rw [zHd_rep] at S
      have S := S.asOwn (sz := 6) (n := n24 g) (by rw [flatF_len Hdv_len, List.length_replicate]) (by omega) (flatF_one Hdv_one _)
      refine (rNew21_c (n := g.b - 4) (by omega)).mono ?_
      rintro ⟨⟨la, ln, lc⟩, ⟨⟩⟩ w108 ⟨hln, S108⟩
      dsimp only at hln S108
      subst hln
      have X := X.trans S108.fr
      have S := S.frame0 S108
      clear S108
      refine ⟨hkeep _ X.any, ?_⟩
      refine S.st7 (by rfl) fun w109 S f109 => ?_
      have X : Fr (fun k => k = b3) _ _ := X.any.trans f109
      refine ⟨hkeep _ X, rfl, rfl, B, ⟨la, (g.b - 4).toNat, lc⟩, ⟨some ⟨bo, 0, none⟩, n24 g, n24 g⟩, hdb, ?_⟩
      have S := S.fro [7, 3, 3, 3, 3, 2] rfl
      exact S.take (Rs := _ :: plS pp p q g t (O024 g) (C024 g f) (L024 g) (rpS B ⟨la, (g.b - 4).toNat, lc⟩ ⟨some ⟨bo, 0, none⟩, n24 g, n24 g⟩ (L024 g) (O024 g) []))
  · refine ⟨⟨by omega, by omega, by omega, by push_cast; omega⟩, ?_⟩
    refine S.newB fun bo w110 S f110 z110 => ?_
    have ybo := Fr.nw X z110
    have X := X.trans f110
    refine ⟨hkeep _ X.any, ?_⟩
    rw [zHd_rep] at S
    have S := S.asOwn (sz := 6) (n := n24 g) (by rw [flatF_len Hdv_len, List.length_replicate]) (by omega) (flatF_one Hdv_one _)
    refine (rNew13_c (g := g) (f := f) hR (Ty.rd_ext X.ext _ hf8)).mono ?_
    rintro ⟨_, ⟨⟩⟩ w111 ⟨B, hB, hRf, x111⟩
    dsimp only at hB
    subst hB
    have S := S.push (R := RdT (Ty.sl TBd) B) (F := fun k => _ ≤ k ∧ k < w111.heap.size) (.of x111) ((Ty.sl TBd).rd_mono (fun k h1 h2 => ⟨h1, h2⟩) hRf.rb) fun k hk => hk
    have hdb := hRf.db
    have X := X.trans (.of x111)
    refine ⟨hkeep _ X.any, ?_⟩
    refine (rNew21_c (n := g.b - 4) (by omega)).mono ?_
    rintro ⟨⟨la, ln, lc⟩, ⟨⟩⟩ w112 ⟨hln, S112⟩
    dsimp only at hln S112
    subst hln
    have X := X.trans S112.fr
    have S := S.frame0 S112
    clear S112
    refine ⟨hkeep _ X.any, ?_⟩
    refine S.st7 (by rfl) fun w113 S f113 => ?_
    have X : Fr (fun k => k = b3) _ _ := X.any.trans f113
    refine ⟨hkeep _ X, rfl, rfl, B, ⟨la, (g.b - 4).toNat, lc⟩, ⟨some ⟨bo, 0, none⟩, n24 g, n24 g⟩, hdb, ?_⟩
    have S := S.fro [7, 3, 3, 3, 3, 1] rfl
    exact S.take (Rs := _ :: plS pp p q g t (O024 g) (C024 g f) (L024 g) (rpS B ⟨la, (g.b - 4).toNat, lc⟩ ⟨some ⟨bo, 0, none⟩, n24 g, n24 g⟩ (L024 g) (O024 g) []))
end Go.Proofs.Ytlpeoaphdmfjdaa.Vc
/-! Plain laws of layer 13: what a trace tells of programs. -/
namespace Go.Proofs.Ytlpeoaphdmfjdaa.Vc
open Go Go.Eng Go.RowKit
theorem ref_in {C : CD} {bl pa : Int} {n : Nat} (h : refC C bl pa n = 0) : inC C bl pa ∧ n = szP C.g ∧ usC C bl pa ≤ 1 := by
  unfold refC at h
  split at h
  · cases h
  split at h
  · cases h
  rename_i h2
  have h2 := Classical.not_not.1 h2
  split at h
  · cases h
  rename_i h3
  exact ⟨h2.1, h2.2, by omega⟩
end Go.Proofs.Ytlpeoaphdmfjdaa.Vc
/-! Plain laws of layer 24 (pool): what a block has that was destroyed, or opened. -/
namespace Go.Proofs.Ytlpeoaphdmfjdaa.Vc
open Go Go.Eng Go.RowKit
def BIn (C : CD) : Prop := ∀ x ∈ C.bs, x.sc = false → ∀ (i : Nat) (q : List Int), x.la < (i : Int) → x.pg[i]? = some q → q = List.replicate (szP C.g) 255
theorem BIn.upd {C C' : CD} {n : Int} {x : BD} (h : BIn C) (hg : C'.g = C.g) (hb : C'.bs = C.bs.set n.toNat x) (hx : x.sc = false → ∀ (i : Nat) (q : List Int), x.la < (i : Int) → x.pg[i]? = some q → q = List.replicate (szP C.g) 255) : BIn C' := fun y hy => by
  rw [hb] at hy
  rw [hg]
  rcases List.mem_or_eq_of_mem_set hy with k | k
  · exact h y k
  · rw [k]; exact hx
theorem BIn.new (g : Geo) (pl : List FD) : BIn (newC g pl) := fun x hx _ i q _ hq => by
  rw [(List.mem_replicate.1 hx).2] at hq
  exact (List.mem_replicate.1 (List.mem_of_getElem? hq)).2
theorem BIn.off {C : CD} (h : BIn C) (b : Bool) : BIn { C with off := b } := h
theorem BIn.prog {C : CD} (hC : COk C) (h : BIn C) (bl pa : Int) (xs : List Int) : BIn (progC C bl pa xs).1 := by
  unfold progC
  split
  case isFalse => exact h
  rename_i hr
  obtain ⟨hi, -, -⟩ := ref_in hr
  obtain ⟨hbk, -⟩ := hC.blk hi.1
  refine h.upd (C' := progX C bl pa xs) (n := bl) rfl rfl fun hs i q hla hq => ?_
  have hla : max (blkC C bl).la pa < (i : Int) := hla
  have hne : pa.toNat ≠ i := by have := hi.2.1; omega
  have hq : ((blkC C bl).pg.set pa.toNat _)[i]? = some q := hq
  rw [List.getElem?_set_ne hne] at hq
  exact h _ (List.mem_of_getElem? hbk) hs i q (by omega) hq
theorem BIn.scr {C : CD} (h : BIn C) (n : Int) : BIn (scrC C n).1 := by
  unfold scrC
  split
  · exact h.upd (C' := scrX C n) (n := n) rfl rfl fun hs => by cases hs
  · exact h
theorem turn_at {xs : List Int} {f : Nat → Bool} {k : Nat} (hf : ∀ i, i / 8 = k → f i = false) : ∀ m, (turn xs f m)[k]? = xs[k]?
  | 0 => rfl
  | m + 1 => by
    unfold turn
    split
    · rename_i hm
      unfold flip1
      rw [List.getElem?_set_ne (fun e => by rw [hf m e] at hm; cases hm)]
      exact turn_at hf m
    · exact turn_at hf m
theorem bit255 : ∀ j : Fin 8, bitB 255 j.val = true := by decide
theorem era_at {xs ms : List Int} {k : Nat} (h : xs[k]? = some 255) : (eraL xs ms)[k]? = some 255 := by
  unfold eraL
  rw [turn_at (fun i hi => ?_)]
  · exact h
  · unfold erF hasL
    subst hi
    rw [List.getD_eq_getElem?_getD, h]
    show (!bitB 255 (i % 8) && _) = false
    rw [bit255 ⟨i % 8, Nat.mod_lt _ (by decide)⟩]
    rfl
theorem BIn.era {C : CD} (hC : COk C) (h : BIn C) (n : Int) : BIn (eraC C n).1 := by
  unfold eraC
  split
  case isFalse => exact h
  rename_i hm
  obtain ⟨-, hn⟩ := may_zero hm
  obtain ⟨hbk, hbo⟩ := hC.blk hn
  obtain ⟨-, ⟨n3, n4⟩, -, n7, n8⟩ := hC.num
  by_cases hc : (codeC C).1 = 0
  · refine h.upd (C' := eraX C n) (n := n) (x := { blankB C.g with er := (blkC C n).er + 1 }) rfl (by show C.bs.set n.toNat (if (codeC C).1 = 0 then _ else _) = _; rw [if_pos hc]) fun _ i q _ hq => ?_
    exact (List.mem_replicate.1 (List.mem_of_getElem? hq)).2
  · refine h.upd (C' := eraX C n) (n := n) (x := { blkC C n with pg := cutL (eraL (blkC C n).pg.flatten (codeC C).2.1) C.g.p.toNat, er := (blkC C n).er + 1 }) rfl (by show C.bs.set n.toNat (if (codeC C).1 = 0 then _ else _) = _; rw [if_neg hc]) fun hs i q hla hq => ?_
    have hla : (blkC C n).la < (i : Int) := hla
    have hq : (cutL (eraL (blkC C n).pg.flatten (codeC C).2.1) C.g.p.toNat)[i]? = some q := hq
    have hlen : (eraL (blkC C n).pg.flatten (codeC C).2.1).length = C.g.p.toNat * szP C.g := by unfold eraL; rw [turn_len]; exact hbo.all.1
    have hz : C.g.p.toNat * szP C.g / C.g.p.toNat = szP C.g := Nat.mul_div_cancel_left _ (by omega)
    have hip : i < C.g.p.toNat := by
      have := (List.getElem?_eq_some_iff.1 hq).1
      rwa [(cutL_flat (z := szP C.g) (by omega) hlen).2.1] at this
    have hpi : i < (blkC C n).pg.length := by rw [hbo.pl]; exact hip
    have hold := h _ (List.mem_of_getElem? hbk) hs i _ hla (List.getElem?_eq_getElem hpi)
    have hql := (cutL_flat (z := szP C.g) (by omega) hlen).2.2 q (List.mem_of_getElem? hq)
    have hqe : q = ((eraL (blkC C n).pg.flatten (codeC C).2.1).drop (i * szP C.g)).take (szP C.g) := by
      unfold cutL at hq
      rw [List.getElem?_map, List.getElem?_range hip, hlen, hz] at hq
      exact (Option.some.inj hq).symm
    refine List.ext_getElem? fun j => ?_
    by_cases hj : j < szP C.g
    · rw [hqe, List.getElem?_take_of_lt hj, List.getElem?_drop, List.getElem?_replicate, if_pos hj]
      refine era_at ?_
      have hf := fl_get (f := id) (m := szP C.g) (l := (blkC C n).pg) (fun x hx => (hbo.pb x hx).1) (List.getElem?_eq_getElem hpi) hj
      rw [List.flatMap_id] at hf
      rw [hf, hold]
      show (List.replicate (szP C.g) (255 : Int))[j]? = _
      rw [List.getElem?_replicate, if_pos hj]
    · rw [List.getElem?_eq_none (by omega), List.getElem?_eq_none (by rw [List.length_replicate]; omega)]
theorem BIn.dst {C : CD} (hC : COk C) (ho : C.ops + 2 ≤ 1000000) (h : BIn C) (L : List Blk) (b : Int) : BIn (dstP C L b).1 := by
  obtain ⟨o1, -, -⟩ := eraC_ok hC (4 + b) (by omega)
  have h1 := h.era hC (4 + b)
  unfold dstP
  split
  · split
    · exact h1.scr _
    · exact h1.scr _
  · exact h1
theorem BIn.fst {C : CD} (hC : COk C) (ho : C.ops + 2 ≤ 1000000) (h : BIn C) (b : Int) {hd : Hd} (hr : hd.rng) (hR : HRight hd) (sl : Bool) : BIn (fstP C b hd sl).1 := by
  obtain ⟨o1, -, -⟩ := progC_ok hC (4 + b) 0 (mkL_byt (g := C.g) hr hR Byt.nil Byt.nil) (by omega)
  have h1 := h.prog hC (4 + b) 0 (mkL C.g hd [] [])
  unfold fstP
  split
  · exact h1.prog o1 _ _ _
  · exact h1
theorem begP_C (C : CD) (L : List Blk) (O : List Hd) (b ns : Int) (o : Hd) (sl : Bool) : (begP C L O b ns o sl).1 = (fstP C b (begH L b ns o) sl).1 := by unfold begP; split <;> rfl
theorem opn_ok {g : Geo} {n : Nat} {ns : Int} {o : Hd} (hn : 0 ≤ ns ∧ ns < 4) (hr : o.rng) (sl : Bool) : ∀ (k : Nat) {C : CD} {L : List Blk} {O : List Hd}, PI g n C L O → BIn C → C.ops + 6 * k ≤ 1000000 →
    BIn (opnP ns o sl k C L O).1.1 ∧ ((opnP ns o sl k C L O).2.2 = 0 → ∃ (C1 : CD) (L1 : List Blk) (O1 : List Hd) (b : Int), PI g n C1 L1 O1 ∧ BIn C1 ∧ C1.ops + 4 ≤ 1000000 ∧ (0 ≤ b ∧ b < (n : Int)) ∧ (gx L1 b.toNat).ba = false ∧ (begP C1 L1 O1 b ns o sl).2.2.2 = 0 ∧
      (opnP ns o sl k C L O).1 = ((begP C1 L1 O1 b ns o sl).1, (begP C1 L1 O1 b ns o sl).2.1, (begP C1 L1 O1 b ns o sl).2.2.1) ∧ (opnP ns o sl k C L O).2.1 = b) ∧ ((opnP ns o sl k C L O).2.2 ≠ 0 → (opnP ns o sl k C L O).2.1 = 0)
  | 0, C, L, O, h, hB, ho => ⟨hB, fun h => absurd h (by show ¬ (19 : Int) = 0; decide), fun _ => rfl⟩
  | k + 1, C, L, O, h, hB, ho => by
    have hbd := bestT_bd (L := L) (m := fun _ x => freeB x) (ah := fun x y => decide (x.er < y.er)) L.length
    have hbd : -1 ≤ pickT L L.length ∧ pickT L L.length < (L.length : Int) := hbd
    have hfree : 0 ≤ pickT L L.length → freeB (gx L (pickT L L.length).toNat) = true := bestT_is (L := L) (m := fun _ x => freeB x) (ah := fun x y => decide (x.er < y.er)) L.length
    have hll := h.ll
    unfold opnP
    generalize pickT L L.length = b at hbd hfree ⊢
    by_cases hneg : b < 0
    · rw [if_pos hneg]
      exact ⟨hB, fun h => absurd h (by dsimp only; decide), fun _ => rfl⟩
    rw [if_neg hneg]
    have hb : 0 ≤ b ∧ b < (n : Int) := ⟨by omega, by omega⟩
    have hba : (gx L b.toNat).ba = false := by
      have := hfree hb.1
      unfold freeB at this
      cases hq : (gx L b.toNat).ba
      · rfl
      · rw [hq] at this; simp at this
    have key : ∀ {C1 : CD} {L1 : List Blk}, PI g n C1 L1 O → BIn C1 → C1.ops ≤ C.ops + 2 → (gx L1 b.toNat).ba = false → ∀ {X : (CD × List Blk × List Hd) × Int × Int},
        X = (let s := begP C1 L1 O b ns o sl
          if s.2.2.2 = 0 then ((s.1, s.2.1, s.2.2.1), b, 0) else if s.2.2.2 = 4 then ((s.1, s.2.1, s.2.2.1), 0, 4) else
          let d := dstP s.1 (chL b L.length fB s.2.1) b
          if d.2.2 = 4 then ((d.1, d.2.1, s.2.2.1), 0, 4) else opnP ns o sl k d.1 d.2.1 s.2.2.1) →
        BIn X.1.1 ∧ (X.2.2 = 0 → ∃ (C1 : CD) (L1 : List Blk) (O1 : List Hd) (b : Int), PI g n C1 L1 O1 ∧ BIn C1 ∧ C1.ops + 4 ≤ 1000000 ∧ (0 ≤ b ∧ b < (n : Int)) ∧ (gx L1 b.toNat).ba = false ∧ (begP C1 L1 O1 b ns o sl).2.2.2 = 0 ∧
          X.1 = ((begP C1 L1 O1 b ns o sl).1, (begP C1 L1 O1 b ns o sl).2.1, (begP C1 L1 O1 b ns o sl).2.2.1) ∧ X.2.1 = b) ∧ (X.2.2 ≠ 0 → X.2.1 = 0) := by
      intro C1 L1 h1 hB1 ho1 hba1 X hX
      obtain ⟨s1, s2, s3⟩ := h1.beg b (o := o) hn hr sl (by omega)
      have hBs : BIn (begP C1 L1 O b ns o sl).1 := by rw [begP_C]; exact hB1.fst h1.ok (by omega) b (begH_rng L1 b hn hr) (begH_right L1 b hn) sl
      dsimp only at hX
      by_cases h0 : (begP C1 L1 O b ns o sl).2.2.2 = 0
      · rw [if_pos h0] at hX
        subst hX
        exact ⟨hBs, fun _ => ⟨C1, L1, O, b, h1, hB1, by omega, hb, hba1, h0, rfl, rfl⟩, fun x => absurd rfl x⟩
      rw [if_neg h0] at hX
      by_cases h4 : (begP C1 L1 O b ns o sl).2.2.2 = 4
      · rw [if_pos h4] at hX
        subst hX
        exact ⟨hBs, fun h => absurd h (by dsimp only; decide), fun _ => rfl⟩
      rw [if_neg h4] at hX
      have hl : (begP C1 L1 O b ns o sl).2.1.length = L.length := by rw [s1.ll, h.ll]
      have hk := s1.chL b (φ := fB) (fun _ => rfl)
      rw [hl] at hk
      obtain ⟨d1, d2, d3⟩ := hk.dst b (by omega)
      have hBd := BIn.dst hk.ok (by omega) hBs (chL b L.length fB (begP C1 L1 O b ns o sl).2.1) b
      split at hX
      · subst hX
        exact ⟨hBd, fun h => absurd h (by dsimp only; decide), fun _ => rfl⟩
      · subst hX
        exact opn_ok hn hr sl k d1 hBd (by omega)
    by_cases hcl : (gx L b.toNat).cl = true
    · simp only [if_pos hcl]
      exact key h hB (by omega) hba rfl
    · simp only [if_neg hcl]
      obtain ⟨q1, q2, q3⟩ := h.dst b (by omega)
      have hBd := BIn.dst h.ok (by omega) hB L b
      by_cases h0 : (dstP C L b).2.2 = 0
      · simp only [if_pos h0]
        refine key q1 hBd q2 ?_ rfl
        unfold dstP at h0 ⊢
        split at h0
        · split at h0
          · cases h0
          · dsimp only at h0; split at h0 <;> cases h0
        · rename_i h5
          have h0 : (eraC C (4 + b)).2 = 0 := h0
          rw [if_neg h5]
          dsimp only
          rw [if_pos h0]
          unfold chL
          rw [if_pos (show inB b L.length from ⟨hb.1, by omega⟩)]
          show (gx (L.set b.toNat (eB (gx L b.toNat))) b.toNat).ba = false
          unfold gx
          rw [List.getD_eq_getElem?_getD, List.getElem?_set_self (by omega)]
          exact hba
      · simp only [if_neg h0]
        by_cases h4 : (dstP C L b).2.2 = 4
        · simp only [if_pos h4]
          exact ⟨hBd, fun h => absurd h (by decide), fun _ => trivial⟩
        · simp only [if_neg h4]
          exact opn_ok hn hr sl k q1 hBd (by omega)
end Go.Proofs.Ytlpeoaphdmfjdaa.Vc
/-! What the laws of layer 24 share: a step keeps a pool right; does the program answer at all? -/
namespace Go.Proofs.Ytlpeoaphdmfjdaa.Vc
open Go Go.Eng Go.RowKit
theorem begP_k (C : CD) (L : List Blk) (O : List Hd) (b ns : Int) (o : Hd) (sl : Bool) : (begP C L O b ns o sl).1.pl = C.pl := by rw [begP_C]; exact fstP_k ..
theorem opnP_k (ns : Int) (o : Hd) (sl : Bool) : ∀ (k : Nat) (C : CD) (L : List Blk) (O : List Hd), (opnP ns o sl k C L O).1.1.pl = C.pl
  | 0, C, L, O => rfl
  | k + 1, C, L, O => by
    unfold opnP
    generalize pickT L L.length = b
    split
    · rfl
    dsimp only
    have hr : ∀ C1 L1 (e1 : Int), (if (gx L b.toNat).cl = true then (C, L, 0) else dstP C L b) = (C1, L1, e1) → C1.pl = C.pl := fun C1 L1 e1 hq => by
      split at hq
      · cases hq; rfl
      · have := dstP_k C L b; rw [hq] at this; exact this
    generalize hR : (if (gx L b.toNat).cl = true then (C, L, 0) else dstP C L b) = R
    obtain ⟨C1, L1, e1⟩ := R
    have h1 := hr C1 L1 e1 hR
    dsimp only
    split
    · split
      · exact (begP_k ..).trans h1
      split
      · exact (begP_k ..).trans h1
      split
      · exact ((dstP_k ..).trans (begP_k ..)).trans h1
      · exact (opnP_k ns o sl k _ _ _).trans (((dstP_k ..).trans (begP_k ..)).trans h1)
    · split
      · exact h1
      · exact (opnP_k ns o sl k _ _ _).trans h1
section
variable {g : Geo} {n : Nat} {C : CD} {L : List Blk} {O : List Hd}
theorem opC_ok {ns : Int} {o : Hd} (hr : o.rng) (sl : Bool) (h : PI g n C L O) (hB : BIn C) (ho : C.ops + 768 ≤ 1000000) :
    PI g n (opC ns o sl C L O).1.1 (opC ns o sl C L O).1.2.1 (opC ns o sl C L O).1.2.2 ∧ BIn (opC ns o sl C L O).1.1 ∧ (opC ns o sl C L O).1.1.ops ≤ C.ops + 768 ∧ (opC ns o sl C L O).1.1.pl = C.pl := by
  unfold opC
  split
  · rename_i hn
    obtain ⟨a1, a2, a3⟩ := PI.opn (o := o) hn hr sl 128 h (by omega)
    exact ⟨a1, (opn_ok hn hr sl 128 h hB (by omega)).1, by omega, opnP_k ..⟩
  · exact ⟨h, hB, by dsimp only; omega, rfl⟩
end
abbrev oA24 : Hd := ⟨0, 0, 0, 0, 2, 0⟩
abbrev gA24 : Geo := ⟨7, 10, 64, 0, 1, 1⟩
abbrev fA24 : SlP TF.T := ⟨none, 0, 0, []⟩
theorem aw24a : (opC 1 oA24 true (C024 gA24 fA24) (L024 gA24) (O024 gA24)).2 = (0, 0) := by decide +kernel
theorem aw24b : (opC 1 oA24 true (C024 gA24 fA24) (L024 gA24) (O024 gA24)).1.1.ops = 3 := by decide +kernel
theorem aw24c : ((opC 1 oA24 true (C024 gA24 fA24) (L024 gA24) (O024 gA24)).1.2.2.getD 0 zHd).e = 2 := by decide +kernel
theorem aw24d : (opC 1 oA24 true (C024 gA24 fA24) (L024 gA24) (O024 gA24)).1.2.2.length = 3 := by decide +kernel
theorem LF_nil {w : World} : LF.rd w All fA24 := ⟨rfl, Nat.le_refl _, Nat.zero_le _, .inl ⟨rfl, rfl⟩, fun y hy => (List.not_mem_nil hy).elim⟩
theorem awake24_c {w : World} : CallV Try.prog 17 #[] w [.one .bool] fun r w' => r.1 = true ∧ Ext w w' := by
  apply law24_awake.vc
  unfold law24_awake.P
  have hR : Right gA24 := by decide
  have hFR : FRight (fds fA24) := ⟨fun f hf => (List.not_mem_nil hf).elim, by decide⟩
  have hPI : PI gA24 (n24 gA24) (C024 gA24 fA24) (L024 gA24) (O024 gA24) := Li24.PI hR hFR (by decide) fun F hF => (List.not_mem_nil hF).elim
  refine (made24_c (g := gA24) (f := fA24) (s := ⟨none, 0, 0⟩) LF_nil (fun f hf => (List.not_mem_nil hf).elim) hR hFR (by decide)).mono ?_
  rintro ⟨_, _, _, ⟨⟩⟩ w1 ⟨pp, p, q, t, B, l, o, hp, hc, hr, hdb, S⟩
  dsimp only at hp hc hr
  subst hp; subst hc; subst hr
  dsimp only
  refine S.newB fun b3 w2 S f2 _ => S.st0 (by rfl) fun w3 S f3 => ?_
  have S := S.tail
  obtain ⟨a1, -, a3, -⟩ := opC_ok (ns := 1) (o := oA24) (by unfold Hd.rng oA24; dsimp only; omega) true hPI (BIn.new _ _) (by decide)
  refine (Open24_c (ns := 1) (o := oA24) hPI (by unfold Hd.rng oA24; dsimp only; omega) (by decide) S).mono ?_
  rintro ⟨(bb : Int), (e : Int), ⟨⟩⟩ w4 ⟨h1, h2, S⟩
  have ha := aw24a
  have hb := aw24b
  have hcc := aw24c
  have hd := aw24d
  generalize opC 1 oA24 true (C024 gA24 fA24) (L024 gA24) (O024 gA24) = Z at h1 h2 S ha hb hcc hd a1 a3
  obtain ⟨⟨C1, L1, O1⟩, b1, e1⟩ := Z
  cases ha
  dsimp only at h1 h2 S hb hcc hd a1 a3
  subst h1; subst h2
  refine cond_t rfl (cond_t rfl ?_)
  refine (Ops_e (S.fro [3] rfl)).mono ?_
  rintro ⟨(r : Int), ⟨⟩⟩ w5 ⟨h5, rfl⟩
  dsimp only at h5 ⊢
  subst h5
  refine cond_t (by rw [hb]; rfl) ?_
  refine (Order24_c (b := 0) S).mono ?_
  rintro ⟨x, ⟨⟩⟩ w6 ⟨h6, x6⟩
  dsimp only at h6
  subst h6
  refine ⟨?_, S.ext.trans x6⟩
  rw [if_pos ⟨by omega, by rw [hd]; omega⟩]
  exact decide_eq_true hcc
end Go.Proofs.Ytlpeoaphdmfjdaa.Vc
/-! The plans of functions as plain statements, printed by wip/tools/vcgen.py; the kernel holds each to the code. -/
namespace Go.Proofs.Ytlpeoaphdmfjdaa.Vc
open Go Go.Eng
def pool_Pool_Ledger_nil.A : Ann := .no
def pool_Pool_Ledger_nil.P  (w : World) (K : (Option Addr) × Unit → World → Prop) : Prop :=
  K (none, ()) w
theorem pool_Pool_Ledger_nil.vc  (w : World) (K : (Option Addr) × Unit → World → Prop) (h : pool_Pool_Ledger_nil.P  w K) : CallV Try.prog 15 #[.pointer none] w [.one .ptr] K := by
  refine vcFun.of (A := pool_Pool_Ledger_nil.A) (wr := false) okf_ok follows h Try.func15 ?_
  kernel_rfl
def pool_Pool_has_nil.A : Ann := .no
def pool_Pool_has_nil.P (p1 : Int) (w : World) (K : Bool × Unit → World → Prop) : Prop :=
  K (false, ()) w
theorem pool_Pool_has_nil.vc (p1 : Int) (w : World) (K : Bool × Unit → World → Prop) (h : pool_Pool_has_nil.P p1 w K) : CallV Try.prog 47 #[.pointer none, .int .i64 p1] w [.one .bool] K := by
  refine vcFun.of (A := pool_Pool_has_nil.A) (wr := false) okf_ok follows h Try.func47 ?_
  kernel_rfl
def pool_Pool_Order_nil.A : Ann := .no
def pool_Pool_Order_nil.P (p1 : Int) (w : World) (K : (Int × Int × Int × Int × Int × Int × Unit) × Unit → World → Prop) : Prop :=
  NewV #[.int .i64 0, .int .i64 0, .int .i64 0, .int .u32 0, .int .u64 0, .int .u64 0] 25 w fun b1 w2 =>
  CallV Try.prog 47 #[.pointer none, .int .i64 p1] w2 [.one .bool] fun (r3 : Bool × Unit) w4 =>
  cond (!r3.1)
  (StoreV w4 ⟨b1, 0, none⟩ [.int .i64 0, .int .i64 0, .int .i64 0, .int .u32 0, .int .u64 0, .int .u64 0] fun w5 =>
  LoadA w5 ⟨b1, 0, none⟩ [.int .i64, .int .i64, .int .i64, .int .u32, .int .u64, .int .u64] fun (x6 : Int × Int × Int × Int × Int × Int × Unit) =>
  K ((x6.1, x6.2.1, x6.2.2.1, x6.2.2.2.1, x6.2.2.2.2.1, x6.2.2.2.2.2.1, ()), ()) w5)
  (False)
theorem pool_Pool_Order_nil.vc (p1 : Int) (w : World) (K : (Int × Int × Int × Int × Int × Int × Unit) × Unit → World → Prop) (h : pool_Pool_Order_nil.P p1 w K) : CallV Try.prog 16 #[.pointer none, .int .i64 p1] w [.agg [.int .i64, .int .i64, .int .i64, .int .u32, .int .u64, .int .u64]] K := by
  refine vcFun.of (A := pool_Pool_Order_nil.A) (wr := false) okf_ok follows h Try.func16 ?_
  kernel_rfl
def pool_Pool_Destroy_nil.A : Ann := .no
def pool_Pool_Destroy_nil.P (p1 : Int) (w : World) (K : Int × Unit → World → Prop) : Prop :=
  CallV Try.prog 47 #[.pointer none, .int .i64 p1] w [.one .bool] fun (r1 : Bool × Unit) w2 =>
  cond (!r1.1)
  (K ((2 : Int), ()) w2)
  (False)
theorem pool_Pool_Destroy_nil.vc (p1 : Int) (w : World) (K : Int × Unit → World → Prop) (h : pool_Pool_Destroy_nil.P p1 w K) : CallV Try.prog 11 #[.pointer none, .int .i64 p1] w [.one (.int .i64)] K := by
  refine vcFun.of (A := pool_Pool_Destroy_nil.A) (wr := false) okf_ok follows h Try.func11 ?_
  kernel_rfl
def pool_Pool_Write_nil.A : Ann := .two .no (.two .no (.two (.draw (.take 0 (.take 1 (.take 2 (.take 3 (.take 4 (.take 5 (.take 6 (.eff 7 (.take 8 (.take 9 (.take 10 (.take 11 (.take 12 (.done))))))))))))))) .no))
def pool_Pool_Write_nil.P (p1 p2 p3_0 p3_1 p3_2 p3_3 p3_4 p3_5 : Int) (a4 : Option Addr) (n4 c4 : Nat) (a5 : Option Addr) (n5 c5 : Nat) (w : World) (K : Int × Unit → World → Prop) : Prop :=
  NewV #[.int .i64 p3_0, .int .i64 p3_1, .int .i64 p3_2, .int .u32 p3_3, .int .u64 p3_4, .int .u64 p3_5] 25 w fun b1 w2 =>
  CallV Try.prog 47 #[.pointer none, .int .i64 p1] w2 [.one .bool] fun (r3 : Bool × Unit) w4 =>
  cond (!r3.1)
  (K ((2 : Int), ()) w4)
  (DrawV fun D5 =>
  False)
theorem pool_Pool_Write_nil.vc (p1 p2 p3_0 p3_1 p3_2 p3_3 p3_4 p3_5 : Int) (a4 : Option Addr) (n4 c4 : Nat) (a5 : Option Addr) (n5 c5 : Nat) (w : World) (K : Int × Unit → World → Prop) (h : pool_Pool_Write_nil.P p1 p2 p3_0 p3_1 p3_2 p3_3 p3_4 p3_5 a4 n4 c4 a5 n5 c5 w K) : CallV Try.prog 12 #[.pointer none, .int .i64 p1, .int .i64 p2, .agg #[.int .i64 p3_0, .int .i64 p3_1, .int .i64 p3_2, .int .u32 p3_3, .int .u64 p3_4, .int .u64 p3_5], .slice a4 n4 c4, .slice a5 n5 c5] w [.one (.int .i64)] K := by
  refine vcFun.of (A := pool_Pool_Write_nil.A) (wr := false) okf_ok follows h Try.func12 ?_
  kernel_rfl
def pool_Pool_Copy_nil.A : Ann := .two .no (.two .no (.two (.draw (.take 0 (.take 1 (.take 2 (.take 3 (.take 4 (.eff 5 (.take 6 (.take 7 (.take 8 (.take 9 (.take 10 (.done))))))))))))) .no))
def pool_Pool_Copy_nil.P (p1 p2 p3_0 p3_1 : Int) (w : World) (K : Int × Unit → World → Prop) : Prop :=
  NewV #[.int .i64 p3_0, .int .i64 p3_1] 47 w fun b1 w2 =>
  CallV Try.prog 47 #[.pointer none, .int .i64 p1] w2 [.one .bool] fun (r3 : Bool × Unit) w4 =>
  cond (!r3.1)
  (K ((2 : Int), ()) w4)
  (DrawV fun D5 =>
  False)
theorem pool_Pool_Copy_nil.vc (p1 p2 p3_0 p3_1 : Int) (w : World) (K : Int × Unit → World → Prop) (h : pool_Pool_Copy_nil.P p1 p2 p3_0 p3_1 w K) : CallV Try.prog 13 #[.pointer none, .int .i64 p1, .int .i64 p2, .agg #[.int .i64 p3_0, .int .i64 p3_1]] w [.one (.int .i64)] K := by
  refine vcFun.of (A := pool_Pool_Copy_nil.A) (wr := false) okf_ok follows h Try.func13 ?_
  kernel_rfl
def pool_Pool_Seal_nil.A : Ann := .no
def pool_Pool_Seal_nil.P (p1 : Int) (w : World) (K : Int × Unit → World → Prop) : Prop :=
  CallV Try.prog 47 #[.pointer none, .int .i64 p1] w [.one .bool] fun (r1 : Bool × Unit) w2 =>
  cond (!r1.1)
  (K ((2 : Int), ()) w2)
  (False)
theorem pool_Pool_Seal_nil.vc (p1 : Int) (w : World) (K : Int × Unit → World → Prop) (h : pool_Pool_Seal_nil.P p1 w K) : CallV Try.prog 14 #[.pointer none, .int .i64 p1] w [.one (.int .i64)] K := by
  refine vcFun.of (A := pool_Pool_Seal_nil.A) (wr := false) okf_ok follows h Try.func14 ?_
  kernel_rfl
def pool_Pool_open_nil.A : Ann := .no
def pool_Pool_open_nil.P (p1 p2_0 p2_1 p2_2 p2_3 p2_4 p2_5 : Int) (p3 : Bool) (w : World) (K : Int × Int × Unit → World → Prop) : Prop :=
  NewV #[.int .i64 p2_0, .int .i64 p2_1, .int .i64 p2_2, .int .u32 p2_3, .int .u64 p2_4, .int .u64 p2_5] 25 w fun b1 w2 =>
  K ((0 : Int), (2 : Int), ()) w2
theorem pool_Pool_open_nil.vc (p1 p2_0 p2_1 p2_2 p2_3 p2_4 p2_5 : Int) (p3 : Bool) (w : World) (K : Int × Int × Unit → World → Prop) (h : pool_Pool_open_nil.P p1 p2_0 p2_1 p2_2 p2_3 p2_4 p2_5 p3 w K) : CallV Try.prog 46 #[.pointer none, .int .i64 p1, .agg #[.int .i64 p2_0, .int .i64 p2_1, .int .i64 p2_2, .int .u32 p2_3, .int .u64 p2_4, .int .u64 p2_5], .bool p3] w [.one (.int .i64), .one (.int .i64)] K := by
  refine vcFun.of (A := pool_Pool_open_nil.A) (wr := false) okf_ok follows h Try.func46 ?_
  kernel_rfl
def pool_Pool_Open_nil.A : Ann := .no
def pool_Pool_Open_nil.P (p1 p2_0 p2_1 p2_2 p2_3 p2_4 p2_5 : Int) (w : World) (K : Int × Int × Unit → World → Prop) : Prop :=
  NewV #[.int .i64 p2_0, .int .i64 p2_1, .int .i64 p2_2, .int .u32 p2_3, .int .u64 p2_4, .int .u64 p2_5] 25 w fun b1 w2 =>
  LoadA w2 ⟨b1, 0, none⟩ [.int .i64, .int .i64, .int .i64, .int .u32, .int .u64, .int .u64] fun (x3 : Int × Int × Int × Int × Int × Int × Unit) =>
  CallV Try.prog 46 #[.pointer none, .int .i64 p1, .agg #[.int .i64 x3.1, .int .i64 x3.2.1, .int .i64 x3.2.2.1, .int .u32 x3.2.2.2.1, .int .u64 x3.2.2.2.2.1, .int .u64 x3.2.2.2.2.2.1], .bool true] w2 [.one (.int .i64), .one (.int .i64)] fun (r4 : Int × Int × Unit) w5 =>
  K (r4.1, r4.2.1, ()) w5
theorem pool_Pool_Open_nil.vc (p1 p2_0 p2_1 p2_2 p2_3 p2_4 p2_5 : Int) (w : World) (K : Int × Int × Unit → World → Prop) (h : pool_Pool_Open_nil.P p1 p2_0 p2_1 p2_2 p2_3 p2_4 p2_5 w K) : CallV Try.prog 10 #[.pointer none, .int .i64 p1, .agg #[.int .i64 p2_0, .int .i64 p2_1, .int .i64 p2_2, .int .u32 p2_3, .int .u64 p2_4, .int .u64 p2_5]] w [.one (.int .i64), .one (.int .i64)] K := by
  refine vcFun.of (A := pool_Pool_Open_nil.A) (wr := false) okf_ok follows h Try.func10 ?_
  kernel_rfl
def pool_New_nil.A : Ann := .two .no (.two .no (.two .no (.two .no (.two (.draw (.take 0 (.take 1 (.take 2 (.take 4 (.eff 3 (.eff 5 (.take 6 (.eff 7 (.take 8 (.take 9 (.done)))))))))))) .no))))
def pool_New_nil.P (p1 : Addr) (a2 : Option Addr) (n2 c2 : Nat) (w : World) (K : (Option Addr) × Int × Unit → World → Prop) : Prop :=
  CallV Try.prog 30 #[.pointer none] w [.agg [.int .i64, .int .i64, .int .i64, .int .i64, .int .i64, .int .i64]] fun (r1 : (Int × Int × Int × Int × Int × Int × Unit) × Unit) w2 =>
  NewV #[.int .i64 0, .int .i64 0, .int .i64 0, .int .i64 0, .int .i64 0, .int .i64 0] 33 w2 fun b3 w4 =>
  StoreV w4 ⟨b3, 0, none⟩ [.int .i64 r1.1.1, .int .i64 r1.1.2.1, .int .i64 r1.1.2.2.1, .int .i64 r1.1.2.2.2.1, .int .i64 r1.1.2.2.2.2.1, .int .i64 r1.1.2.2.2.2.2.1] fun w5 =>
  LoadA w5 ⟨b3, 0, none⟩ [.int .i64, .int .i64, .int .i64, .int .i64, .int .i64, .int .i64] fun (x6 : Int × Int × Int × Int × Int × Int × Unit) =>
  CallV Try.prog 44 #[.agg #[.int .i64 x6.1, .int .i64 x6.2.1, .int .i64 x6.2.2.1, .int .i64 x6.2.2.2.1, .int .i64 x6.2.2.2.2.1, .int .i64 x6.2.2.2.2.2.1]] w5 [.one (.int .i64)] fun (r7 : Int × Unit) w8 =>
  cond (r7.1 == 0)
  (K (none, (2 : Int), ()) w8)
  (CallV Try.prog 45 #[.pointer (some p1)] w8 [.one (.int .i64)] fun (r9 : Int × Unit) w10 =>
  cond (r9.1 != r7.1)
  (K (none, (2 : Int), ()) w10)
  (cond (((n2 : Nat) : Int) != r7.1)
  (K (none, (2 : Int), ()) w10)
  (DrawV fun D11 =>
  (D11 b3 ∧ LoadA w10.drew ⟨b3, 0, none⟩ [.int .i64, .int .i64, .int .i64, .int .i64, .int .i64, .int .i64] fun (x12 : Int × Int × Int × Int × Int × Int × Unit) =>
  NewV #[] 25 w10.drew fun b13 w14 =>
  KeepOn D11 w10.drew w14 ∧
  AppS w14 a2 n2 6 fun ns19 =>
  AppV w14 25 6 48 (some ⟨b13, 0, none⟩) 0 0 ns19 n2 fun a15 n16 c17 w18 =>
  KeepOn D11 w10.drew w18 ∧
  NewV #[.pointer none, .int .i64 x12.1, .int .i64 x12.2.1, .int .i64 x12.2.2.1, .int .i64 x12.2.2.2.1, .int .i64 x12.2.2.2.2.1, .int .i64 x12.2.2.2.2.2.1, .pointer (some p1), .slice a15 n16 c17] 100 w18 fun b20 w21 =>
  KeepOn D11 w10.drew w21 ∧
  K ((some ⟨b20, 0, none⟩), (0 : Int), ()) w21))))
theorem pool_New_nil.vc (p1 : Addr) (a2 : Option Addr) (n2 c2 : Nat) (w : World) (K : (Option Addr) × Int × Unit → World → Prop) (h : pool_New_nil.P p1 a2 n2 c2 w K) : CallV Try.prog 9 #[.pointer none, .pointer (some p1), .slice a2 n2 c2] w [.one .ptr, .one (.int .i64)] K := by
  refine vcFun.of (A := pool_New_nil.A) (wr := false) okf_ok follows h Try.func9 ?_
  kernel_rfl
def nand_Chip_Geometry_nil.A : Ann := .no
def nand_Chip_Geometry_nil.P  (w : World) (K : (Int × Int × Int × Int × Int × Int × Unit) × Unit → World → Prop) : Prop :=
  NewV #[.int .i64 0, .int .i64 0, .int .i64 0, .int .i64 0, .int .i64 0, .int .i64 0] 33 w fun b1 w2 =>
  StoreV w2 ⟨b1, 0, none⟩ [.int .i64 0, .int .i64 0, .int .i64 0, .int .i64 0, .int .i64 0, .int .i64 0] fun w3 =>
  LoadA w3 ⟨b1, 0, none⟩ [.int .i64, .int .i64, .int .i64, .int .i64, .int .i64, .int .i64] fun (x4 : Int × Int × Int × Int × Int × Int × Unit) =>
  K ((x4.1, x4.2.1, x4.2.2.1, x4.2.2.2.1, x4.2.2.2.2.1, x4.2.2.2.2.2.1, ()), ()) w3
theorem nand_Chip_Geometry_nil.vc  (w : World) (K : (Int × Int × Int × Int × Int × Int × Unit) × Unit → World → Prop) (h : nand_Chip_Geometry_nil.P  w K) : CallV Try.prog 30 #[.pointer none] w [.agg [.int .i64, .int .i64, .int .i64, .int .i64, .int .i64, .int .i64]] K := by
  refine vcFun.of (A := nand_Chip_Geometry_nil.A) (wr := false) okf_ok follows h Try.func30 ?_
  kernel_rfl
end Go.Proofs.Ytlpeoaphdmfjdaa.Vc
/-! Places are the same where all their numbers are. -/
namespace Go.Proofs.Ytlpeoaphdmfjdaa.Vc
open Go Go.Eng Go.RowKit
set_option maxRecDepth 100000 in
theorem eqPl0 (a1 a2 b1 b2 : Int) (w : World) : (Op.equalIn 10000 47 (.agg #[.int .i64 a1, .int .i64 a2]) (.agg #[.int .i64 b1, .int .i64 b2])).run Try.prog w = .ok (a1 == b1 && a2 == b2) w := by
  have u1 := Try.underlying3
  have v1 := Try.isAgg3
  have z1 := Try.sizeOf3
  have hS : Try.prog.underlying 47 = some (.struct (Try.prog.fieldsOf 47)) := by kernel_rfl
  rw [show (10000 : Nat) = 9999 + 1 from rfl, run_equalIn_agg w 9999 47 _ _ hS (by kernel_rfl)]
  simp only [Program.fieldsOf, Try.underlying47]
  go_simp
  repeat' split
  all_goals simp_all
theorem eqPl {a b c d : Int} {K : Bool → Prop} (hk : K (decide (a = c ∧ b = d))) : AggEq Try.prog 47 #[.int .i64 a, .int .i64 b] #[.int .i64 c, .int .i64 d] K := by
  refine ⟨_, fun w => eqPl0 _ _ _ _ w, by kernel_rfl, ?_⟩
  have : (a == c && b == d) = decide (a = c ∧ b = d) := by
    apply Bool.eq_iff_iff.2
    simp
  rw [this]
  exact hk
end Go.Proofs.Ytlpeoaphdmfjdaa.Vc
/-! The law PoolNews of layer 24: each call gives true, and what it read stays. -/
namespace Go.Proofs.Ytlpeoaphdmfjdaa.Vc
open Go Go.Eng Go.RowKit
theorem geoNil_c {w : World} : CallV Try.prog 30 #[.pointer none] w [.agg [.int .i64, .int .i64, .int .i64, .int .i64, .int .i64, .int .i64]] fun r w' => r.1 = (⟨0, 0, 0, 0, 0, 0⟩ : Geo).tup ∧ Ext w w' := by
  apply nand_Chip_Geometry_nil.vc
  unfold nand_Chip_Geometry_nil.P
  have S := Sep.start NoB w
  (repeat ((first | refine S.newB fun _ _ S f _ => ?_ | refine S.la0 rfl ?_ | refine S.la1 rfl ?_ | refine S.la2 rfl ?_ | refine S.la3 rfl ?_ | refine S.la4 rfl ?_ | refine S.la5 rfl ?_ | refine S.ld0 rfl rfl ?_ | refine S.ld1 rfl rfl ?_ | refine S.ld2 rfl rfl ?_ | refine S.ld3 rfl rfl ?_ | refine S.ld4 rfl rfl ?_ | refine S.ld5 rfl rfl ?_ | refine S.st0 (by rfl) fun _ S f => ?_ | refine S.st1 (by rfl) fun _ S f => ?_ | refine S.st2 (by rfl) fun _ S f => ?_ | refine S.st3 (by rfl) fun _ S f => ?_ | refine S.st4 (by rfl) fun _ S f => ?_ | refine S.st5 (by rfl) fun _ S f => ?_ | refine S.su0 (by rfl) fun _ S f => ?_ | refine S.su1 (by rfl) fun _ S f => ?_ | refine S.su2 (by rfl) fun _ S f => ?_ | refine S.su3 (by rfl) fun _ S f => ?_ | refine S.su4 (by rfl) fun _ S f => ?_ | refine S.su5 (by rfl) fun _ S f => ?_ | refine ⟨by decide, ?_⟩); try dsimp only [List.set_cons_zero, List.set_cons_succ, cond_true, cond_false, Bool.not_true, Bool.not_false]))
  exact ⟨rfl, S.ext⟩
theorem newNil24_c {w : World} {q : Nat} : CallV Try.prog 9 #[.pointer none, .pointer (some ⟨q, 0, none⟩), .slice none 0 0] w [.one .ptr, .one (.int .i64)] fun r w' => r.2.1 = (2 : Int) ∧ Ext w w' := by
  apply pool_New_nil.vc
  unfold pool_New_nil.P
  refine geoNil_c.mono ?_
  rintro ⟨_, ⟨⟩⟩ w1 ⟨h1, x1⟩
  dsimp only at h1
  subst h1
  have S := (Sep.start NoB w).stepE x1
  refine S.newB fun b w2 S f2 _ => S.st0 (by rfl) fun w3 S f3 => S.la0 rfl ?_
  refine (Data_c (g := ⟨0, 0, 0, 0, 0, 0⟩)).mono ?_
  rintro ⟨(d : Int), ⟨⟩⟩ w4 ⟨h4, x4⟩
  dsimp only at h4
  rw [if_neg (by decide)] at h4
  subst h4
  exact cond_t rfl ⟨rfl, (S.stepE x4).ext⟩
theorem hasNil24_c {w : World} {b : Int} : CallV Try.prog 47 #[.pointer none, .int .i64 b] w [.one .bool] fun r w' => r.1 = false ∧ w' = w := by
  apply pool_Pool_has_nil.vc
  unfold pool_Pool_has_nil.P
  exact ⟨rfl, rfl⟩
theorem desNil24_c {w : World} {b : Int} : CallV Try.prog 11 #[.pointer none, .int .i64 b] w [.one (.int .i64)] fun r w' => r.1 = (2 : Int) ∧ w' = w := by
  apply pool_Pool_Destroy_nil.vc
  unfold pool_Pool_Destroy_nil.P
  refine hasNil24_c.mono ?_
  rintro ⟨(r : Bool), ⟨⟩⟩ w1 ⟨h1, rfl⟩
  dsimp only at h1
  subst h1
  exact cond_t rfl ⟨rfl, rfl⟩
theorem seaNil24_c {w : World} {b : Int} : CallV Try.prog 14 #[.pointer none, .int .i64 b] w [.one (.int .i64)] fun r w' => r.1 = (2 : Int) ∧ w' = w := by
  apply pool_Pool_Seal_nil.vc
  unfold pool_Pool_Seal_nil.P
  refine hasNil24_c.mono ?_
  rintro ⟨(r : Bool), ⟨⟩⟩ w1 ⟨h1, rfl⟩
  dsimp only at h1
  subst h1
  exact cond_t rfl ⟨rfl, rfl⟩
theorem wriNil24_c {w : World} {b n : Int} {h : Hd} : CallV Try.prog 12 #[.pointer none, .int .i64 b, .int .i64 n, h.val, .slice none 0 0, .slice none 0 0] w [.one (.int .i64)] fun r w' => r.1 = (2 : Int) ∧ Ext w w' := by
  apply pool_Pool_Write_nil.vc
  unfold pool_Pool_Write_nil.P
  have S := Sep.start NoB w
  refine S.newB fun b1 w1 S f1 _ => ?_
  refine hasNil24_c.mono ?_
  rintro ⟨(r : Bool), ⟨⟩⟩ w2 ⟨h2, rfl⟩
  dsimp only at h2
  subst h2
  exact cond_t rfl ⟨rfl, S.ext⟩
theorem copNil24_c {w : World} {b n b2 n2 : Int} : CallV Try.prog 13 #[.pointer none, .int .i64 b, .int .i64 n, .agg #[.int .i64 b2, .int .i64 n2]] w [.one (.int .i64)] fun r w' => r.1 = (2 : Int) ∧ Ext w w' := by
  apply pool_Pool_Copy_nil.vc
  unfold pool_Pool_Copy_nil.P
  have S := Sep.start NoB w
  refine S.newB fun b1 w1 S f1 _ => ?_
  refine hasNil24_c.mono ?_
  rintro ⟨(r : Bool), ⟨⟩⟩ w2 ⟨h2, rfl⟩
  dsimp only at h2
  subst h2
  exact cond_t rfl ⟨rfl, S.ext⟩
theorem ledNil24_c {w : World} : CallV Try.prog 15 #[.pointer none] w [.one .ptr] fun r w' => r.1 = none ∧ w' = w := by
  apply pool_Pool_Ledger_nil.vc
  unfold pool_Pool_Ledger_nil.P
  exact ⟨rfl, rfl⟩
theorem ordNil24_c {w : World} {b : Int} : CallV Try.prog 16 #[.pointer none, .int .i64 b] w [.agg [.int .i64, .int .i64, .int .i64, .int .u32, .int .u64, .int .u64]] fun r w' => r.1 = zHd.tup ∧ Ext w w' := by
  apply pool_Pool_Order_nil.vc
  unfold pool_Pool_Order_nil.P
  have S := Sep.start NoB w
  refine S.newB fun b1 w1 S f1 _ => ?_
  refine hasNil24_c.mono ?_
  rintro ⟨(r : Bool), ⟨⟩⟩ w2 ⟨h2, rfl⟩
  dsimp only at h2
  subst h2
  refine cond_t rfl ?_
  (repeat ((first | refine S.newB fun _ _ S f _ => ?_ | refine S.la0 rfl ?_ | refine S.la1 rfl ?_ | refine S.la2 rfl ?_ | refine S.la3 rfl ?_ | refine S.la4 rfl ?_ | refine S.la5 rfl ?_ | refine S.ld0 rfl rfl ?_ | refine S.ld1 rfl rfl ?_ | refine S.ld2 rfl rfl ?_ | refine S.ld3 rfl rfl ?_ | refine S.ld4 rfl rfl ?_ | refine S.ld5 rfl rfl ?_ | refine S.st0 (by rfl) fun _ S f => ?_ | refine S.st1 (by rfl) fun _ S f => ?_ | refine S.st2 (by rfl) fun _ S f => ?_ | refine S.st3 (by rfl) fun _ S f => ?_ | refine S.st4 (by rfl) fun _ S f => ?_ | refine S.st5 (by rfl) fun _ S f => ?_ | refine S.su0 (by rfl) fun _ S f => ?_ | refine S.su1 (by rfl) fun _ S f => ?_ | refine S.su2 (by rfl) fun _ S f => ?_ | refine S.su3 (by rfl) fun _ S f => ?_ | refine S.su4 (by rfl) fun _ S f => ?_ | refine S.su5 (by rfl) fun _ S f => ?_ | refine ⟨by decide, ?_⟩); try dsimp only [List.set_cons_zero, List.set_cons_succ, cond_true, cond_false, Bool.not_true, Bool.not_false]))
  exact ⟨rfl, S.ext⟩
theorem opnNil24_c {w : World} {ns : Int} {h : Hd} : CallV Try.prog 10 #[.pointer none, .int .i64 ns, h.val] w [.one (.int .i64), .one (.int .i64)] fun r w' => r.2.1 = (2 : Int) ∧ Ext w w' := by
  apply pool_Pool_Open_nil.vc
  unfold pool_Pool_Open_nil.P
  have S := Sep.start NoB w
  refine S.newB fun b1 w1 S f1 _ => S.la0 rfl ?_
  apply pool_Pool_open_nil.vc
  unfold pool_Pool_open_nil.P
  refine S.newB fun b2 w2 S f2 _ => ?_
  exact ⟨rfl, S.ext⟩
abbrev g9 : Geo := ⟨9, 10, 64, 0, 1, 1⟩
theorem PoolNews_law {w : World} {n0 n1 k b pa sd : Int} {hd : Hd} (h0 : 0 ≤ n0 ∧ n0 < 256) (h1 : 0 ≤ n1 ∧ n1 < 256) :
    CallV Try.prog 3 #[.int .u8 n0, .int .u8 n1, .agg #[.int .i64 k, .int .i64 b, .int .i64 pa, .int .i64 hd.k, .int .i64 hd.n, .int .i64 hd.c, .int .u32 hd.l, .int .u64 hd.e, .int .u64 hd.t, .int .u8 sd]] w [.one .bool] fun r w' => r.1 = true ∧ Ext w w' := by
  apply law24_PoolNews.vc
  unfold law24_PoolNews.P
  have m0 : Int.tmod n0 8 = n0 % 8 := Int.tmod_eq_emod_of_nonneg h0.1
  have m1 : Int.tmod n1 8 = n1 % 8 := Int.tmod_eq_emod_of_nonneg h1.1
  rw [m0, m1]
  have w0 : IntKind.i64.wrap (n0 % 8) = n0 % 8 := wrap_rng (Rng.i64 (by omega) (by omega))
  have w1' : IntKind.i64.wrap (n1 % 8) = n1 % 8 := wrap_rng (Rng.i64 (by omega) (by omega))
  rw [w0, w1']
  have b0 : 0 ≤ n0 % 8 ∧ n0 % 8 < 8 := by omega
  have b1' : 0 ≤ n1 % 8 ∧ n1 % 8 < 8 := by omega
  generalize n0 % 8 = x0 at b0 ⊢
  generalize n1 % 8 = x1 at b1' ⊢
  have S := Sep.start NoB w
  refine S.newB fun b1 w1 S f1 _ => ?_
  have hR : Right g9 := by decide
  have hFR : FRight (fds fA24) := ⟨fun f hf => (List.not_mem_nil hf).elim, by decide⟩
  refine (New13_c (g := g9) (x := fA24) (G := All) LF_nil (fun f hf => (List.not_mem_nil hf).elim)).mono ?_
  rintro ⟨_, (e : Int), ⟨⟩⟩ w2 ⟨x2, -, hg⟩
  obtain ⟨-, p, y, hp, hyF, S2⟩ := hg ⟨hR, hFR⟩
  dsimp only at hp
  subst hp
  have S := chipE_in (C := newC g9 (fds fA24)) hyF (S.frame0 S2)
  clear S2
  refine ⟨by decide, ?_⟩
  refine (New21_c (n := x0) (by omega)).mono ?_
  rintro ⟨_, (e2 : Int), ⟨⟩⟩ w3 ⟨-, q, a6, c6, hq, S3⟩
  dsimp only at hq
  subst hq
  have S := ledE_in (q := q) (L := List.replicate x0.toNat Blk.new) (S.frame0 S3)
  clear S3
  refine ⟨by decide, ⟨by omega, by omega, by omega, by push_cast; omega⟩, ?_⟩
  refine S.newB fun b7 w4 S f4 _ => ?_
  rw [zHd_rep] at S
  have hC : COk (newC g9 (fds fA24)) := newC_ok hR (by decide) (fun f hf => (List.not_mem_nil hf).elim)
  refine (New24_c (y := ⟨some ⟨b7, 0, none⟩, x1.toNat, x1.toNat⟩) (O := List.replicate x1.toNat zHd) hC (by rw [List.length_replicate]; omega) (by dsimp only; omega) (.inr ⟨_, rfl, S.cells 0 rfl⟩) List.length_replicate (S.fro [2, 1] rfl)).mono ?_
  rintro ⟨pv, (e3 : Int), ⟨⟩⟩ w5 ⟨hbad, hgood⟩
  rw [List.length_replicate] at hbad hgood
  dsimp only at hbad hgood
  have hgb : (newC g9 (fds fA24)).g.b = 9 := rfl
  rw [hgb] at hbad hgood
  obtain ⟨Rs, S, hP⟩ : ∃ Rs, Sep NoB w w5 (BoxA b1 27 [.int .i64 k, .int .i64 b, .int .i64 pa, .int .i64 hd.k, .int .i64 hd.n, .int .i64 hd.c, .int .u32 hd.l, .int .u64 hd.e, .int .u64 hd.t, .int .u8 sd] :: Rs) ∧
      ((x0 = 5 ∧ x1 = 5 ∧ e3 = 0 ∧ ∃ (pp : Nat) (s : SlV) (R7 : Asr), pv = some (⟨pp, 0, none⟩ : Addr) ∧ Rs = plS pp p q g9 s (List.replicate x1.toNat zHd) (newC g9 (fds fA24)) (List.replicate x0.toNat Blk.new) [R7]) ∨ (¬ (x0 = 5 ∧ x1 = 5) ∧ pv = none ∧ e3 = 2)) := by
    by_cases hx : ((x0.toNat : Nat) : Int) = 9 - 4 ∧ ((x1.toNat : Nat) : Int) = 9 - 4
    · obtain ⟨he, pp, s, hp, -, S⟩ := hgood hx
      exact ⟨_, S.fro [5] rfl, .inl ⟨by omega, by omega, he, pp, s, _, hp, rfl⟩⟩
    · obtain ⟨hp, he, x5⟩ := hbad hx
      exact ⟨_, (S.stepE x5).fro [3] rfl, .inr ⟨by omega, hp, he⟩⟩
  clear hbad hgood
  refine (newNil24_c (q := q)).mono ?_
  rintro ⟨_, (e4 : Int), ⟨⟩⟩ w6 ⟨h6, x6⟩
  dsimp only at h6
  subst h6
  have S := S.stepE x6
  refine S.lb0 (o := 3) rfl ?_
  refine (opnNil24_c (ns := 1) (h := hd)).mono ?_
  rintro ⟨_, (e5 : Int), ⟨⟩⟩ w7 ⟨h7, x7⟩
  dsimp only at h7
  subst h7
  have S := S.stepE x7
  refine cond_f rfl (cond_f rfl (S.ld0 (j := 1) rfl rfl ?_))
  refine (desNil24_c (b := b)).mono ?_
  rintro ⟨(e6 : Int), ⟨⟩⟩ w8 ⟨h8, rfl⟩
  dsimp only at h8
  subst h8
  refine cond_f rfl (S.ld0 (j := 1) rfl rfl (S.ld0 (j := 2) rfl rfl (S.lb0 (o := 3) rfl ?_)))
  refine (wriNil24_c (b := b) (n := pa) (h := hd)).mono ?_
  rintro ⟨(e7 : Int), ⟨⟩⟩ w9 ⟨h9, x9⟩
  dsimp only at h9
  subst h9
  have S := S.stepE x9
  refine cond_f rfl (S.ld0 (j := 1) rfl rfl (S.ld0 (j := 2) rfl rfl ?_))
  refine (copNil24_c (b := b) (n := pa) (b2 := 0) (n2 := 0)).mono ?_
  rintro ⟨(e8 : Int), ⟨⟩⟩ w10 ⟨h10, x10⟩
  dsimp only at h10
  subst h10
  have S := S.stepE x10
  refine cond_f rfl (S.ld0 (j := 1) rfl rfl ?_)
  refine (seaNil24_c (b := b)).mono ?_
  rintro ⟨(e9 : Int), ⟨⟩⟩ w11 ⟨h11, rfl⟩
  dsimp only at h11
  subst h11
  refine cond_f rfl ?_
  refine ledNil24_c.mono ?_
  rintro ⟨_, ⟨⟩⟩ w12 ⟨h12, rfl⟩
  dsimp only at h12
  subst h12
  refine cond_f rfl ?_
  refine (ordNil24_c (b := 0)).mono ?_
  rintro ⟨_, ⟨⟩⟩ w13 ⟨h13, x13⟩
  dsimp only at h13
  subst h13
  have S := S.stepE x13
  refine eqHd (g := zHd) (h := zHd) (cond_f (by simp) ⟨by decide, ?_⟩)
  have fin : ∀ {w' : World}, Ext w w' → CallV Try.prog 17 #[] w' [.one .bool] fun r w2 => r.1 = true ∧ Ext w w2 := fun x => awake24_c.mono fun r w5 ⟨h5, x5⟩ => ⟨h5, x.trans x5⟩
  rcases hP with ⟨q0, q1, he, pp, s, R7, hp, hRs⟩ | ⟨hx, hp, he⟩
  case inr =>
    subst hp; subst he
    refine cond_ne (fun _ => cond_t rfl (cond_t rfl (fin S.ext))) fun e0 => ⟨by decide, cond_ne (fun _ => cond_t rfl (cond_t rfl (fin S.ext))) fun e1 => absurd ⟨e0, e1⟩ hx⟩
  subst q0; subst q1; subst he; subst hp; subst hRs
  refine cond_f rfl ⟨by decide, cond_f rfl (cond_t rfl ?_)⟩
  refine (Failed_e (b := 1) (S.fro [3] rfl)).mono ?_
  rintro ⟨(e10 : Int), ⟨⟩⟩ w14 ⟨h14, S⟩
  dsimp only at h14
  subst h14
  refine cond_t rfl ?_
  have S := (S.fro [1] rfl).tail.fro [1, 1] rfl
  refine (Ledger24_c S).mono ?_
  rintro ⟨_, ⟨⟩⟩ w15 ⟨h15, rfl⟩
  dsimp only at h15
  subst h15
  refine (At_e (b := 1) (S.fro [2] rfl) (by decide)).mono ?_
  rintro ⟨_, ⟨⟩⟩ w16 ⟨h16, x16⟩
  dsimp only at h16
  subst h16
  have S := S.stepE x16
  refine cond_t rfl ?_
  refine (Place24_c (pp := pp) (b := 2) (i := 3) (by omega)).mono ?_
  rintro ⟨_, ⟨⟩⟩ w17 ⟨h17, x17⟩
  dsimp only at h17
  subst h17
  have S := S.stepE x17
  exact eqPl (a := 4 + 2) (b := 3) (c := 6) (d := 3) (cond_t (by decide) (fin S.ext))
abbrev TSt24 : Ty := .cons (.int .i64) (.cons (.int .i64) (.cons (.int .i64) (.cons THd (.cons (.int .u8) .nil))))
theorem PoolNews_of {w : World} {n0 n1 : Int} {y : TSt24.T} (g0 : Rng .u8 n0) (g1 : Rng .u8 n1) (g2 : TSt24.ok w y) :
    CallV Try.prog 3 #[.int .u8 n0, .int .u8 n1, .agg (TSt24.vs y).toArray] w [.one .bool] fun r w' => r.1 = true ∧ Ext w w' := by
  obtain ⟨k, b, pa, ⟨hk, hn, hc, hl, he, ht, ⟨⟩⟩, sd, ⟨⟩⟩ := y
  exact PoolNews_law (hd := ⟨hk, hn, hc, hl, he, ht⟩) (rng_u8 g0) (rng_u8 g1)
end Go.Proofs.Ytlpeoaphdmfjdaa.Vc
