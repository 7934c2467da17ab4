/- Texts in one: The contracts of keybox (layer 20): a record written. The contracts of keybox (layer 20): Commit. The plans of functions as plain statements, printed by wip/tools/vcgen.py; the kernel holds each to the code. The contracts of layer 13: one step, done by both: the walk. The contracts of layer 20 (keybox), the document's: a block destroyed, a record written. The contracts of layer 20 (keybox), the document's: a record written. The contracts of layer 20 (keybox), the document's: try, others. The contracts of keybox (layer 20): Open. The contracts of layer 20 (keybox), the document's: Commit. Plain data of layer 24 (pool): what each of its operations makes. The contracts of pool (layer 24): destroy, program, seal, begin. -/
import Derived.Test.YtlpeoaphdmfjdaaGreatZKeyboxRunse

set_option linter.unusedVariables false
set_option linter.unusedSimpArgs false
/-! The contracts of keybox (layer 20): a record written. -/
namespace Go.Proofs.YtlpeoaphdmfjdaaGreat.Vc
open Go Go.Eng Go.RowKit
abbrev pgP (y : SlP (SlP Int)) (Rs : List Asr) : List Asr := OwnA 51 1 y.a y.n y.c (y.l.map slV) :: RdL y.l :: Rs
theorem comL_byt20 (g : Geo) : Byt (comL g) := by
  unfold comL
  exact (Byt.replicate (by decide) (by decide) _).append (Byt.replicate (by decide) (by decide) _)
theorem comL_len20 (g : Geo) : (comL g).length = (g.s + 80).toNat + 8 := by unfold comL; rw [List.length_append, List.length_replicate, List.length_replicate]
section
variable {E : Nat → Prop} {w0 w : World} {Rs : List Asr} {kb p : Nat} {g : Geo} {B : KB} {k : Int} {y : SlP (SlP Int)}
theorem write20_c (h : KI g B) (hy : ∀ x ∈ y.l, x.n ≤ 100000) (hyn : y.n ≤ 100) (ho : B.C.ops + y.n + 1 ≤ 1000000) (S : Sep E w0 w (kbS kb p g B (pgP y Rs))) :
    CallV Tryz.prog 130 #[.pointer (some ⟨kb, 0, none⟩), .int .i64 k, .slice y.a y.n y.c] w [.one (.int .i64)] fun r w' => r.1 = (wrK B.C k (y.l.map (·.l))).2 ∧ Sep E w0 w' (kbS kb p g { B with C := (wrK B.C k (y.l.map (·.l))).1 } (pgP y Rs)) := by
  apply keybox_Box_write.vc
  unfold keybox_Box_write.P
  have hR : Right g := by have := h.ok.g; rwa [h.gg] at this
  have hyl : y.l.length = y.n := by have := (S.own 2 rfl).len; simpa using this
  have hbt : ∀ x ∈ y.l, Byt x.l := fun x hx => by
    obtain ⟨G, hG, -⟩ := S.get (i := 3) rfl
    exact Ty.byt (hG x hx)
  generalize hX : wrPg k (y.l.map (·.l)) 0 B.C = X
  refine Loop1 (fun (v : Int × Unit) w' => ∃ (i : Nat) (C : CD), v.1 = (i : Int) ∧ i ≤ y.n ∧ COk C ∧ C.g = g ∧ C.pl = B.C.pl ∧ C.ops ≤ B.C.ops + i ∧ wrPg k ((y.l.drop i).map (·.l)) (i : Int) C = X ∧ Sep E w0 w' (kbS kb p g { B with C := C } (pgP y Rs))) (fun (v : Int × Unit) _ => ((y.n : Int) - v.1).toNat)
    ⟨0, B.C, rfl, by omega, h.ok, h.gg, rfl, by omega, hX, S⟩ ?_
  clear S
  rintro ⟨(v : Int), ⟨⟩⟩ w2 ⟨i, C, hv, hi, hC, hg, hpl, hops, hw, S⟩
  dsimp only at hv
  subst hv
  refine cond_d (fun hlt => ?_) (fun hge => ?_)
  · obtain ⟨q, x, hq, hx, hc, hr, -, -⟩ := TBB_nth (lst_rd (S.fro [2, 2] rfl)) (i := (i : Int)) (by omega) hlt
    have hx' : y.l[i]? = some x := by rw [Int.toNat_natCast] at hx; exact hx
    have hi' : i < y.l.length := by omega
    have hdrop : y.l.drop i = x :: y.l.drop (i + 1) := by
      rw [List.drop_eq_getElem_cons hi']
      congr 1
      exact (List.getElem?_eq_some_iff.1 hx').2
    rw [hdrop, List.map_cons] at hw
    unfold wrPg at hw
    have hm := List.mem_of_getElem? hx'
    refine ⟨⟨by omega, hlt⟩, q, hq, ldp0 hc (h := .sl) (x := ⟨x.a, x.n, x.c⟩) rfl (S.ld0 (j := 0) rfl rfl ?_)⟩
    refine (Program_eL (bl := k) (pa := (i : Int)) (dd := x) hC (hy x hm) hm (S.fro [1, 2] rfl)).mono ?_
    rintro ⟨(e : Int), ⟨⟩⟩ w3 ⟨h3, S⟩
    dsimp only at h3 ⊢
    subst h3
    have S := S.fro [2, 0, 1] rfl
    refine cond_ne (fun (hne : (progC C k (i : Int) x.l).2 ≠ 0) => ?_) (fun (h0 : (progC C k (i : Int) x.l).2 = 0) => ?_)
    · rw [if_neg hne] at hw
      have hk : wrK B.C k (y.l.map (·.l)) = progC C k (i : Int) x.l := by unfold wrK; rw [hX, ← hw, if_neg hne]
      rw [hk]
      exact ⟨rfl, S⟩
    · rw [if_pos h0] at hw
      obtain ⟨a1, a2, a3⟩ := progC_ok hC k (i : Int) (hbt x hm) (by omega)
      obtain ⟨b1, b2⟩ := progC_k C k (i : Int) x.l
      exact ⟨Rng.i64 (by omega) (by omega), ⟨i + 1, _, by push_cast; rfl, by omega, a1, b1.trans hg, b2.trans hpl, by omega, by push_cast; exact hw, S⟩, by omega⟩
  have hiy : i = y.n := by omega
  subst hiy
  rw [List.drop_eq_nil_of_le (by omega), List.map_nil] at hw
  have hw : (C, (0 : Int)) = X := hw
  refine S.lb0 (o := 1) rfl ?_
  refine (PCommit_c (g := g)).mono ?_
  rintro ⟨⟨va, vn, vc⟩, (e : Int), ⟨⟩⟩ w3 ⟨x3, h3, -⟩
  dsimp only at h3 ⊢
  obtain ⟨r3, h3⟩ := h3 hR
  subst h3
  refine cond_f rfl ?_
  have S := res_rdL S r3 (comL_byt20 g)
  have hvn : vn ≤ 100000 := by have h8 := r3.own.ints.len; have h9 := comL_len20 g; have h7 := hR.sec; dsimp only at h8; omega
  refine S.ld1 (j := 0) rfl rfl ⟨Rng.i64 (by omega) (by omega), ?_⟩
  refine (Program_e (bl := k) (pa := (y.n : Int) - 1) (dd := ⟨va, vn, vc, comL g⟩) hC hvn (S.fro [2] rfl)).mono ?_
  rintro ⟨(e : Int), ⟨⟩⟩ w4 ⟨h4, S⟩
  dsimp only at h4 S ⊢
  subst h4
  have hk : wrK B.C k (y.l.map (·.l)) = progC C k ((y.n : Int) - 1) (comL g) := by
    unfold wrK
    rw [hX, ← hw, if_pos rfl, List.length_map, hyl, h.gg]
  rw [hk]
  exact ⟨rfl, (S.fro [1] rfl).tail.fro [1] rfl⟩
theorem ty20_c (h : KI g B) (hk : 0 ≤ k ∧ k < 4) (hy : ∀ x ∈ y.l, x.n ≤ 100000) (hyn : y.n ≤ 100) (ho : B.C.ops + y.n + 5 ≤ 1000000) (S : Sep E w0 w (kbS kb p g B (pgP y Rs))) :
    CallV Tryz.prog 72 #[.pointer (some ⟨kb, 0, none⟩), .int .i64 k, .slice y.a y.n y.c] w [.one (.int .i64)] fun r w' => r.1 = (tyK B k (y.l.map (·.l))).2 ∧ Sep E w0 w' (kbS kb p g (tyK B k (y.l.map (·.l))).1 (pgP y Rs)) := by
  apply keybox_Box_try.vc
  unfold keybox_Box_try.P
  have hyl : y.l.length = y.n := by have := (S.own 2 rfl).len; simpa using this
  have hbt : ∀ x ∈ y.l.map (·.l), Byt x := fun z hz => by
    obtain ⟨x, hx, rfl⟩ := List.mem_map.1 hz
    obtain ⟨G, hG, -⟩ := S.get (i := 3) rfl
    exact Ty.byt (hG x hx)
  refine ⟨hk, kb_gc S h.cl hk ?_⟩
  refine cond_of (fun hc => ?_) (fun hc => ?_)
  · have hc' : B.c k = false := by simpa using hc
    refine (destroy20_c h (by omega) hk S).mono ?_
    rintro ⟨(e : Int), ⟨⟩⟩ w3 ⟨h3, S⟩
    dsimp only at h3 ⊢
    subst h3
    obtain ⟨a1, a2, a3, a4⟩ := h.ds k (by omega)
    have ht : tyK B k (y.l.map (·.l)) = if (dsK B k).2 = 0 then ty2K (dsK B k).1 k (y.l.map (·.l)) else dsK B k := by unfold tyK; rw [if_neg (by rw [hc']; simp)]
    rw [ht]
    refine cond_ne (fun (hne : (dsK B k).2 ≠ 0) => by rw [if_neg hne]; exact ⟨rfl, S⟩) (fun (h0 : (dsK B k).2 = 0) => ?_)
    rw [if_pos h0]
    generalize (dsK B k).1 = B at a1 a2 a3 S ⊢
    clear ht h0 hc hc' a3 a4
    have ho : B.C.ops + y.n + 3 ≤ 1000000 := by omega
    have h := a1
    clear a1 a2
    refine ⟨hk, kb_cl S h.cl hk fun w4 S f4 => ?_⟩
    have h1 : KI g { B with cl := B.cl.set k.toNat false } := ⟨h.ok, h.gg, h.cu, by rw [List.length_set]; exact h.cl, h.bd, h.lk⟩
    refine (write20_c (k := k) h1 hy hyn (by dsimp only; omega) S).mono ?_
    rintro ⟨(e : Int), ⟨⟩⟩ w5 ⟨h5, S⟩
    dsimp only at h5 S ⊢
    subst h5
    obtain ⟨c1, c2, c3, c4, c5⟩ := wrK_ok h.ok k hbt (by rw [List.length_map, hyl]; omega)
    rw [List.length_map, hyl] at c4
    unfold ty2K
    refine cond_eq (fun (h0 : (wrK B.C k (y.l.map (·.l))).2 = 0) => by rw [if_pos (.inl h0)]; exact ⟨rfl, S⟩) (fun (h0 : (wrK B.C k (y.l.map (·.l))).2 ≠ 0) => ?_)
    refine cond_eq (fun (h4 : (wrK B.C k (y.l.map (·.l))).2 = 4) => by rw [if_pos (.inr h4)]; exact ⟨rfl, S⟩) (fun (h4 : (wrK B.C k (y.l.map (·.l))).2 ≠ 4) => ?_)
    rw [if_neg (fun x => x.elim h0 h4)]
    refine ⟨hk, kb_bd S (by rw [List.length_set]; exact h.cl) h.bd hk fun w6 S f6 => ?_⟩
    have h2 : KI g { B with C := (wrK B.C k (y.l.map (·.l))).1, cl := B.cl.set k.toNat false, bd := B.bd.set k.toNat true } := ⟨c1, c2.trans h.gg, h.cu, by rw [List.length_set]; exact h.cl, by rw [List.length_set]; exact h.bd, h.lk⟩
    refine (destroy20_c h2 (by dsimp only; omega) hk S).mono ?_
    rintro ⟨(e : Int), ⟨⟩⟩ w7 ⟨h7, S⟩
    dsimp only at h7 S ⊢
    subst h7
    refine cond_eq (fun h4 => ?_) (fun h4 => ?_)
    · exact ⟨h4.trans (if_pos h4).symm, S⟩
    · exact ⟨(if_neg h4).symm, S⟩
  · have hc' : B.c k = true := by simpa using hc
    have ht : tyK B k (y.l.map (·.l)) = ty2K B k (y.l.map (·.l)) := by unfold tyK; rw [if_pos hc']
    rw [ht]
    have ho : B.C.ops + y.n + 3 ≤ 1000000 := by omega
    refine ⟨hk, kb_cl S h.cl hk fun w4 S f4 => ?_⟩
    have h1 : KI g { B with cl := B.cl.set k.toNat false } := ⟨h.ok, h.gg, h.cu, by rw [List.length_set]; exact h.cl, h.bd, h.lk⟩
    refine (write20_c (k := k) h1 hy hyn (by dsimp only; omega) S).mono ?_
    rintro ⟨(e : Int), ⟨⟩⟩ w5 ⟨h5, S⟩
    dsimp only at h5 S ⊢
    subst h5
    obtain ⟨c1, c2, c3, c4, c5⟩ := wrK_ok h.ok k hbt (by rw [List.length_map, hyl]; omega)
    rw [List.length_map, hyl] at c4
    unfold ty2K
    refine cond_eq (fun (h0 : (wrK B.C k (y.l.map (·.l))).2 = 0) => by rw [if_pos (.inl h0)]; exact ⟨rfl, S⟩) (fun (h0 : (wrK B.C k (y.l.map (·.l))).2 ≠ 0) => ?_)
    refine cond_eq (fun (h4 : (wrK B.C k (y.l.map (·.l))).2 = 4) => by rw [if_pos (.inr h4)]; exact ⟨rfl, S⟩) (fun (h4 : (wrK B.C k (y.l.map (·.l))).2 ≠ 4) => ?_)
    rw [if_neg (fun x => x.elim h0 h4)]
    refine ⟨hk, kb_bd S (by rw [List.length_set]; exact h.cl) h.bd hk fun w6 S f6 => ?_⟩
    have h2 : KI g { B with C := (wrK B.C k (y.l.map (·.l))).1, cl := B.cl.set k.toNat false, bd := B.bd.set k.toNat true } := ⟨c1, c2.trans h.gg, h.cu, by rw [List.length_set]; exact h.cl, by rw [List.length_set]; exact h.bd, h.lk⟩
    refine (destroy20_c h2 (by dsimp only; omega) hk S).mono ?_
    rintro ⟨(e : Int), ⟨⟩⟩ w7 ⟨h7, S⟩
    dsimp only at h7 S ⊢
    subst h7
    refine cond_eq (fun h4 => ?_) (fun h4 => ?_)
    · exact ⟨h4.trans (if_pos h4).symm, S⟩
    · exact ⟨(if_neg h4).symm, S⟩
theorem others20_c (h : KI g B) (ho : B.C.ops + 8 ≤ 1000000) (S : Sep E w0 w (kbS kb p g B Rs)) :
    CallV Tryz.prog 73 #[.pointer (some ⟨kb, 0, none⟩)] w [.one (.int .i64)] fun r w' => r.1 = (otK 4 B).2 ∧ Sep E w0 w' (kbS kb p g (otK 4 B).1 Rs) := by
  apply keybox_Box_others.vc
  unfold keybox_Box_others.P
  generalize hX : otK 4 B = X
  refine Loop1 (fun (v : Int × Unit) w' => ∃ (n : Nat) (B : KB), v.1 = 4 - (n : Int) ∧ n ≤ 4 ∧ KI g B ∧ B.C.ops + 2 * n ≤ 1000000 ∧ otK n B = X ∧ Sep E w0 w' (kbS kb p g B Rs)) (fun (v : Int × Unit) _ => (4 - v.1).toNat) ⟨4, B, rfl, by omega, h, by omega, hX, S⟩ ?_
  clear S h hX ho
  rintro ⟨(v : Int), ⟨⟩⟩ w2 ⟨n, B, hv, hn, h, ho, hX, S⟩
  dsimp only at hv
  subst hv
  refine cond_d (fun hlt => ?_) (fun hge => ?_)
  case refine_2 =>
    have : n = 0 := by omega
    subst this
    rw [← hX]
    exact ⟨rfl, S⟩
  obtain ⟨n, rfl⟩ : ∃ m, n = m + 1 := ⟨n - 1, by omega⟩
  have e : (4 : Int) - ((n + 1 : Nat) : Int) = 3 - n := by push_cast; omega
  rw [e]
  unfold otK at hX
  have hk : 0 ≤ (3 : Int) - n ∧ (3 : Int) - n < 4 := by omega
  have nxt : ∀ {w' : World} {B' : KB}, KI g B' → B'.C.ops ≤ B.C.ops + 2 → otK n B' = X → Sep E w0 w' (kbS kb p g B' Rs) → Rng .i64 ((3 : Int) - n + 1) ∧ (∃ (m : Nat) (B : KB), (3 : Int) - n + 1 = 4 - (m : Int) ∧ m ≤ 4 ∧ KI g B ∧ B.C.ops + 2 * m ≤ 1000000 ∧ otK m B = X ∧ Sep E w0 w' (kbS kb p g B Rs)) ∧ (4 - ((3 : Int) - n + 1)).toNat < (4 - ((3 : Int) - n)).toNat :=
    fun h1 h2 h3 S => ⟨Rng.i64 (by omega) (by omega), ⟨n, _, by omega, by omega, h1, by omega, h3, S⟩, by omega⟩
  have skip : skK B (3 - n) → Rng .i64 ((3 : Int) - n + 1) ∧ (∃ (m : Nat) (B : KB), (3 : Int) - n + 1 = 4 - (m : Int) ∧ m ≤ 4 ∧ KI g B ∧ B.C.ops + 2 * m ≤ 1000000 ∧ otK m B = X ∧ Sep E w0 w2 (kbS kb p g B Rs)) ∧ (4 - ((3 : Int) - n + 1)).toNat < (4 - ((3 : Int) - n)).toNat :=
    fun hs => nxt h (by omega) (by rw [if_pos hs] at hX; exact hX) S
  refine S.ld0 (j := 7) rfl rfl (cond_eq (fun hcu => skip (.inl hcu)) (fun hcu => ?_))
  refine ⟨hk, kb_gc S h.cl hk (cond_of (fun hc => skip (.inr (.inl hc))) (fun hc => ?_))⟩
  refine ⟨hk, kb_gb S h.cl h.bd hk (cond_of (fun hb => ?_) (fun hb => ?_))⟩
  · refine ⟨hk, kb_gl S h.cl h.bd h.lk hk (cond_of (fun hl => skip (.inr (.inr ⟨hb, by simpa using hl⟩))) (fun hl => ?_))⟩
    have hs : ¬ skK B (3 - n) := fun x => x.elim hcu fun x => x.elim (fun y => by rw [hc] at y; cases y) fun y => by rw [y.2] at hl; cases hl
    rw [if_neg hs] at hX
    refine (destroy20_c h (by omega) hk S).mono ?_
    rintro ⟨(e : Int), ⟨⟩⟩ w5 ⟨h5, S⟩
    dsimp only at h5 ⊢
    subst h5
    obtain ⟨a1, a2, a3, a4⟩ := h.ds (3 - n) (by omega)
    refine cond_eq (fun (h4 : (dsK B (3 - n)).2 = 4) => ?_) (fun (h4 : (dsK B (3 - n)).2 ≠ 4) => ?_)
    · rw [if_pos h4] at hX
      rw [← hX]
      exact ⟨rfl, S⟩
    · rw [if_neg h4] at hX
      exact nxt a1 a2 hX S
  · have hs : ¬ skK B (3 - n) := fun x => x.elim hcu fun x => x.elim (fun y => by rw [hc] at y; cases y) fun y => by rw [y.1] at hb; cases hb
    rw [if_neg hs] at hX
    refine (destroy20_c h (by omega) hk S).mono ?_
    rintro ⟨(e : Int), ⟨⟩⟩ w5 ⟨h5, S⟩
    dsimp only at h5 ⊢
    subst h5
    obtain ⟨a1, a2, a3, a4⟩ := h.ds (3 - n) (by omega)
    refine cond_eq (fun (h4 : (dsK B (3 - n)).2 = 4) => ?_) (fun (h4 : (dsK B (3 - n)).2 ≠ 4) => ?_)
    · rw [if_pos h4] at hX
      rw [← hX]
      exact ⟨rfl, S⟩
    · rw [if_neg h4] at hX
      exact nxt a1 a2 hX S
end
end Go.Proofs.YtlpeoaphdmfjdaaGreat.Vc
/-! The contracts of keybox (layer 20): Commit. -/
namespace Go.Proofs.YtlpeoaphdmfjdaaGreat.Vc
open Go Go.Eng Go.RowKit
section
variable {E : Nat → Prop} {w0 w : World} {Rs : List Asr} {kb p : Nat} {g : Geo} {B : KB} {k : Int}
theorem pgL_len20 {g : Geo} (h : Right g) {rec : List Int} (hr : rec.length = 624) {gen : Int} {i : Nat} (hi : i < (nCh g).toNat) : (pgOf g rec gen i).length = g.s.toNat + 88 := by
  have hs := h.sec
  have hc := chk_length h hr hi
  unfold pgOf mkL payL
  rw [List.length_append, endL_length _ (.inl rfl), if_neg (by omega), hc]
theorem pages_few {g : Geo} (h : Right g) {rec : List Int} (hr : rec.length = 624) {gen : Int} {y : SlP (SlP Int)} (e : y.l.map (·.l) = pagesL g rec gen) {w : World} (hy : TBB.rd w All y) : (∀ x ∈ y.l, x.n ≤ 100000) ∧ y.n = (nCh g).toNat ∧ y.n ≤ 32 := by
  have hl : y.l.length = y.n := hy.1
  have hn := (nCh_bd h)
  have e1 := congrArg List.length e
  rw [List.length_map, pagesL_length] at e1
  refine ⟨fun x hx => ?_, by omega, by omega⟩
  have hx2 := (hy.2.2.2.2 x hx).1
  have hm : x.l ∈ pagesL g rec gen := by rw [← e]; exact List.mem_map.2 ⟨x, hx, rfl⟩
  obtain ⟨i, hi, e2⟩ := List.mem_map.1 hm
  have hi := List.mem_range.1 hi
  have := pgL_len20 h hr hi (gen := gen)
  rw [e2] at this
  have h7 := h.sec
  omega
theorem Commit20_c {a : Option Addr} {n c : Nat} {gen : Int} {rec : List Int} (h : KI g B) (hx : Ints w .u8 a n c rec) (br : Byt rec) (hgen : 0 ≤ gen ∧ gen < 18446744073709551616) (ho : B.C.ops + 200 ≤ 1000000) (S : Sep E w0 w (kbS kb p g B Rs)) :
    CallV Tryz.prog 28 #[.pointer (some ⟨kb, 0, none⟩), .slice a n c, .int .u64 gen] w [.one (.int .i64)] fun r w' => r.1 = (coK B rec gen).2 ∧ Sep E w0 w' (kbS kb p g (coK B rec gen).1 Rs) := by
  apply keybox_Box_Commit.vc
  unfold keybox_Box_Commit.P
  have hR : Right g := by have := h.ok.g; rwa [h.gg] at this
  have hln : rec.length = n := hx.len
  refine S.ld0 (j := 0) rfl rfl ?_
  refine (On_e h.ok S.up1).mono ?_
  rintro ⟨(r : Bool), ⟨⟩⟩ w1 ⟨h1, rfl⟩
  dsimp only at h1 ⊢
  subst h1
  cases hoff : B.C.off
  case true =>
    refine cond_t rfl ?_
    have e : coK B rec gen = (B, 4) := by unfold coK; rw [if_pos hoff]
    rw [e]
    exact ⟨rfl, S⟩
  refine cond_f rfl ?_
  refine S.lb0 (o := 1) rfl ?_
  refine (Pages_c (g := g) hx br hgen).mono ?_
  rintro ⟨⟨ya, yn, yc⟩, (e : Int), ⟨⟩⟩ w2 ⟨e2, hno, hyes⟩
  dsimp only at hno hyes ⊢
  by_cases h624 : n = 624
  case neg =>
    obtain ⟨-, h2⟩ := hno (fun x => h624 x.2)
    subst h2
    have e : coK B rec gen = (B, 2) := by unfold coK; rw [if_neg (by rw [hoff]; simp), if_neg (by omega)]
    rw [e]
    exact cond_t rfl ⟨rfl, S.stepE e2⟩
  obtain ⟨h0, y, hy, hl, T⟩ := hyes ⟨hR, h624⟩
  subst h0
  refine cond_f rfl ?_
  have hyy : (⟨ya, yn, yc⟩ : SlV) = ⟨y.a, y.n, y.c⟩ := hy
  rw [SlV.mk.injEq] at hyy
  obtain ⟨rfl, rfl, rfl⟩ := hyy
  obtain ⟨f1, f2, f3⟩ := pages_few hR (by omega) hl (lst_rd T)
  have S := (S.frame0 T).fro [2, 2] rfl
  clear T hno hyes hy e2 hx
  have hX : coK B rec gen = cmK (y.l.map (·.l)) gen 4 B := by unfold coK; rw [if_neg (by rw [hoff]; simp), if_pos (by omega), h.gg, hl]
  have hbt : ∀ x ∈ y.l.map (·.l), Byt x := by rw [hl]; exact pagesL_byt hR br hgen
  have hll : (y.l.map (·.l)).length = y.n := by rw [hl, pagesL_length]; omega
  rw [hX]
  generalize hXX : cmK (y.l.map (·.l)) gen 4 B = X
  refine Loop1 (fun (v : Int × Unit) w' => ∃ (n : Nat) (B : KB), v.1 = 4 - (n : Int) ∧ n ≤ 4 ∧ KI g B ∧ B.C.ops + n * (y.n + 5) + 8 ≤ 1000000 ∧ cmK (y.l.map (·.l)) gen n B = X ∧ Sep E w0 w' (kbS kb p g B (pgP y Rs))) (fun (v : Int × Unit) _ => (4 - v.1).toNat) ⟨4, B, rfl, by omega, h, by omega, hXX, S⟩ ?_
  clear S h hX hXX ho hoff
  rintro ⟨(v : Int), ⟨⟩⟩ w2 ⟨n, B, hv, hn, h, ho, hX, S⟩
  dsimp only at hv
  subst hv
  refine cond_d (fun hlt => ?_) (fun hge => ?_)
  case refine_2 =>
    have : n = 0 := by omega
    subst this
    rw [← hX]
    exact ⟨rfl, (S.fro [2, 2] rfl).tail.tail⟩
  obtain ⟨n, rfl⟩ : ∃ m, n = m + 1 := ⟨n - 1, by omega⟩
  rw [Nat.add_mul, Nat.one_mul] at ho
  have e : (4 : Int) - ((n + 1 : Nat) : Int) = 3 - n := by push_cast; omega
  rw [e]
  unfold cmK at hX
  have hcu := h.cu
  have et : Int.tmod ((B.cu + 1) + (3 - (n : Int))) 4 = (B.cu + 1 + (3 - n)) % 4 := Int.tmod_eq_emod_of_nonneg (by omega)
  have hk : 0 ≤ (B.cu + 1 + (3 - n)) % 4 ∧ (B.cu + 1 + (3 - n)) % 4 < 4 := by omega
  refine S.ld0 (j := 7) rfl rfl ⟨Rng.i64 (by omega) (by omega), Rng.i64 (by omega) (by omega), by decide, S.ld0 (j := 7) rfl rfl ?_⟩
  rw [et]
  generalize (B.cu + 1 + (3 - n)) % 4 = k at hk hX ⊢
  have nxt : ∀ {w' : World} {B' : KB}, KI g B' → B'.C.ops ≤ B.C.ops + (y.n + 5) → cmK (y.l.map (·.l)) gen n B' = X → Sep E w0 w' (kbS kb p g B' (pgP y Rs)) → Rng .i64 ((3 : Int) - n + 1) ∧ (∃ (m : Nat) (B : KB), (3 : Int) - n + 1 = 4 - (m : Int) ∧ m ≤ 4 ∧ KI g B ∧ B.C.ops + m * (y.n + 5) + 8 ≤ 1000000 ∧ cmK (y.l.map (·.l)) gen m B = X ∧ Sep E w0 w' (kbS kb p g B (pgP y Rs))) ∧ (4 - ((3 : Int) - n + 1)).toNat < (4 - ((3 : Int) - n)).toNat :=
    fun h1 h2 h3 S => ⟨Rng.i64 (by omega) (by omega), ⟨n, _, by omega, by omega, h1, by omega, h3, S⟩, by omega⟩
  refine cond_eq (fun hc => nxt h (by omega) (by rw [if_pos (.inl hc)] at hX; exact hX) S) (fun hc => ?_)
  refine ⟨hk, kb_gb S h.cl h.bd hk (cond_of (fun hb => nxt h (by omega) (by rw [if_pos (.inr hb)] at hX; exact hX) S) (fun hb => ?_))⟩
  rw [if_neg (fun x => x.elim hc fun y => by rw [hb] at y; cases y)] at hX
  obtain ⟨a1, a2, a3, a4⟩ := h.ty k hbt (by rw [hll]; omega)
  rw [hll] at a2
  refine (ty20_c h hk f1 (by omega) (by omega) S).mono ?_
  rintro ⟨(e : Int), ⟨⟩⟩ w3 ⟨h3, S⟩
  dsimp only at h3 ⊢
  subst h3
  refine cond_eq (fun h0 => ?_) (fun h0 => ?_)
  · rw [if_pos h0] at hX
    refine S.su0 (j := 7) rfl fun w4 S f4 => S.su0 (j := 8) rfl fun w5 S f5 => ?_
    have h1 : KI g ((tyK B k (y.l.map (·.l))).1.at k gen) := ⟨a1.ok, a1.gg, by show -1 ≤ k ∧ k < 4; omega, a1.cl, a1.bd, a1.lk⟩
    have S : Sep E w0 w5 (kbS kb p g ((tyK B k (y.l.map (·.l))).1.at k gen) (pgP y Rs)) := S
    refine (others20_c h1 (by show (tyK B k (y.l.map (·.l))).1.C.ops + _ ≤ _; omega) S).mono ?_
    rintro ⟨(e : Int), ⟨⟩⟩ w6 ⟨h6, S⟩
    dsimp only at h6 ⊢
    rw [← hX]
    exact ⟨h6, (S.fro [2, 2] rfl).tail.tail⟩
  rw [if_neg h0] at hX
  refine cond_eq (fun h4 => ?_) (fun h4 => ?_)
  · rw [if_pos h4] at hX
    rw [← hX]
    exact ⟨rfl, (S.fro [2, 2] rfl).tail.tail⟩
  · rw [if_neg h4] at hX
    exact nxt a1 a2 hX S
end
end Go.Proofs.YtlpeoaphdmfjdaaGreat.Vc
/-! The plans of functions as plain statements, printed by wip/tools/vcgen.py; the kernel holds each to the code. -/
namespace Go.Proofs.YtlpeoaphdmfjdaaGreat.Vc
open Go Go.Eng
def ref20_Open.A : Ann := .two .no (.two .no (.two (.two .no (.one (.loop [4, 5, 9, 10, 11, 12, 13, 14, 15, 16, 17, 18, 19, 20, 21] [(4, .one .sl), (5, .one (.int .i64))] .no))) (.two .no (.two (.draw (.take 0 (.take 1 (.take 2 (.take 3 (.take 4 (.take 5 (.take 6 (.eff 7 (.take 8 (.done))))))))))) .no))))
def ref20_Open.P (p0_0 p0_1 p0_2 p0_3 p0_4 p0_5 : Int) (a0_6 : Option Addr) (n0_6 c0_6 : Nat) (a0_7 : Option Addr) (n0_7 c0_7 : Nat) (p0_8 : Bool) (p0_9 : Int) (w : World) (K : (Int × Int × Int × Int × Int × Int × SlV × SlV × Bool × Int × Int × Int × Bool × Bool × Bool × Bool × Bool × Bool × Bool × Bool × Bool × Bool × Bool × Bool × Unit) × SlV × Unit → World → Prop) : Prop :=
  NewV #[.int .i64 p0_0, .int .i64 p0_1, .int .i64 p0_2, .int .i64 p0_3, .int .i64 p0_4, .int .i64 p0_5, .slice a0_6 n0_6 c0_6, .slice a0_7 n0_7 c0_7, .bool p0_8, .int .i64 p0_9] 34 w fun b1 w2 =>
  NewV #[.int .i64 0, .int .i64 0, .int .i64 0, .int .i64 0, .int .i64 0, .int .i64 0, .slice none 0 0, .slice none 0 0, .bool false, .int .i64 0, .int .i64 0, .int .u64 0, .bool false, .bool false, .bool false, .bool false, .bool false, .bool false, .bool false, .bool false, .bool false, .bool false, .bool false, .bool false] 77 w2 fun b3 w4 =>
  NewV #[] 127 w4 fun b5 w6 =>
  LoopV [.one .sl, .one (.int .i64)] ((⟨(some ⟨b5, 0, none⟩), 0, 0⟩ : SlV), (0 : Int), ()) w6 fun (z7 : SlV × Int × Unit) w8 (K9 : SlV × Int × Unit → World → Prop) =>
  cond (decide (z7.2.1 < 4))
  (LoadS w8 ⟨b1, 6, none⟩ .sl fun (x10 : SlV) =>
  (0 ≤ z7.2.1 ∧ z7.2.1 < ((x10.n : Nat) : Int)) ∧ ∃ q11 : Addr, x10.a = some q11 ∧
  LoadS w8 (q11.add (z7.2.1.toNat * 5)) .sl fun (x12 : SlV) =>
  NewV #[.slice x12.a x12.n x12.c] 127 w8 fun b13 w14 =>
  AppS w14 (some ⟨b13, 0, none⟩) 1 1 fun ns19 =>
  AppV w14 127 1 24 z7.1.a z7.1.n z7.1.c ns19 1 fun a15 n16 c17 w18 =>
  Rng .i64 (z7.2.1 + 1) ∧
  K9 ((⟨a15, n16, c17⟩ : SlV), z7.2.1 + 1, ()) w18)
  (LoadA w8 ⟨b1, 0, none⟩ [.int .i64, .int .i64, .int .i64, .int .i64, .int .i64, .int .i64] fun (x20 : Int × Int × Int × Int × Int × Int × Unit) =>
  CallV Tryz.prog 64 #[.agg #[.int .i64 x20.1, .int .i64 x20.2.1, .int .i64 x20.2.2.1, .int .i64 x20.2.2.2.1, .int .i64 x20.2.2.2.2.1, .int .i64 x20.2.2.2.2.2.1], .slice z7.1.a z7.1.n z7.1.c] w8 [.one (.int .i64), .agg [.int .u64, .sl, .bool]] fun (r21 : Int × (Int × SlV × Bool × Unit) × Unit) w22 =>
  NewV #[.int .u64 0, .slice none 0 0, .bool false] 135 w22 fun b23 w24 =>
  StoreV w24 ⟨b23, 0, none⟩ [.int .u64 r21.2.1.1, .slice r21.2.1.2.1.a r21.2.1.2.1.n r21.2.1.2.1.c, .bool r21.2.1.2.2.1] fun w25 =>
  DrawV fun D26 =>
  (D26 b1 ∧ LoadA w25.drew ⟨b1, 0, none⟩ [.int .i64, .int .i64, .int .i64, .int .i64, .int .i64, .int .i64, .sl, .sl, .bool, .int .i64] fun (x27 : Int × Int × Int × Int × Int × Int × SlV × SlV × Bool × Int × Unit) =>
  (D26 b23 ∧ LoadS w25.drew ⟨b23, 0, none⟩ (.int .u64) fun (x28 : Int) =>
  (D26 b23 ∧ LoadS w25.drew ⟨b23, 1, none⟩ .sl fun (x29 : SlV) =>
  StoreV w25.drew ⟨b3, 0, none⟩ [.int .i64 x27.1, .int .i64 x27.2.1, .int .i64 x27.2.2.1, .int .i64 x27.2.2.2.1, .int .i64 x27.2.2.2.2.1, .int .i64 x27.2.2.2.2.2.1, .slice x27.2.2.2.2.2.2.1.a x27.2.2.2.2.2.2.1.n x27.2.2.2.2.2.2.1.c, .slice x27.2.2.2.2.2.2.2.1.a x27.2.2.2.2.2.2.2.1.n x27.2.2.2.2.2.2.2.1.c, .bool x27.2.2.2.2.2.2.2.2.1, .int .i64 x27.2.2.2.2.2.2.2.2.2.1, .int .i64 r21.1, .int .u64 x28, .bool false, .bool false, .bool false, .bool false, .bool false, .bool false, .bool false, .bool false, .bool false, .bool false, .bool false, .bool false] fun w30 =>
  KeepOn D26 w25.drew w30 ∧
  LoadA w30 ⟨b3, 0, none⟩ [.int .i64, .int .i64, .int .i64, .int .i64, .int .i64, .int .i64, .sl, .sl, .bool, .int .i64, .int .i64, .int .u64, .bool, .bool, .bool, .bool, .bool, .bool, .bool, .bool, .bool, .bool, .bool, .bool] fun (x31 : Int × Int × Int × Int × Int × Int × SlV × SlV × Bool × Int × Int × Int × Bool × Bool × Bool × Bool × Bool × Bool × Bool × Bool × Bool × Bool × Bool × Bool × Unit) =>
  K ((x31.1, x31.2.1, x31.2.2.1, x31.2.2.2.1, x31.2.2.2.2.1, x31.2.2.2.2.2.1, x31.2.2.2.2.2.2.1, x31.2.2.2.2.2.2.2.1, x31.2.2.2.2.2.2.2.2.1, x31.2.2.2.2.2.2.2.2.2.1, x31.2.2.2.2.2.2.2.2.2.2.1, x31.2.2.2.2.2.2.2.2.2.2.2.1, x31.2.2.2.2.2.2.2.2.2.2.2.2.1, x31.2.2.2.2.2.2.2.2.2.2.2.2.2.1, x31.2.2.2.2.2.2.2.2.2.2.2.2.2.2.1, x31.2.2.2.2.2.2.2.2.2.2.2.2.2.2.2.1, x31.2.2.2.2.2.2.2.2.2.2.2.2.2.2.2.2.1, x31.2.2.2.2.2.2.2.2.2.2.2.2.2.2.2.2.2.1, x31.2.2.2.2.2.2.2.2.2.2.2.2.2.2.2.2.2.2.1, x31.2.2.2.2.2.2.2.2.2.2.2.2.2.2.2.2.2.2.2.1, x31.2.2.2.2.2.2.2.2.2.2.2.2.2.2.2.2.2.2.2.2.1, x31.2.2.2.2.2.2.2.2.2.2.2.2.2.2.2.2.2.2.2.2.2.1, x31.2.2.2.2.2.2.2.2.2.2.2.2.2.2.2.2.2.2.2.2.2.2.1, x31.2.2.2.2.2.2.2.2.2.2.2.2.2.2.2.2.2.2.2.2.2.2.2.1, ()), x29, ()) w30))))
theorem ref20_Open.vc (p0_0 p0_1 p0_2 p0_3 p0_4 p0_5 : Int) (a0_6 : Option Addr) (n0_6 c0_6 : Nat) (a0_7 : Option Addr) (n0_7 c0_7 : Nat) (p0_8 : Bool) (p0_9 : Int) (w : World) (K : (Int × Int × Int × Int × Int × Int × SlV × SlV × Bool × Int × Int × Int × Bool × Bool × Bool × Bool × Bool × Bool × Bool × Bool × Bool × Bool × Bool × Bool × Unit) × SlV × Unit → World → Prop) (h : ref20_Open.P p0_0 p0_1 p0_2 p0_3 p0_4 p0_5 a0_6 n0_6 c0_6 a0_7 n0_7 c0_7 p0_8 p0_9 w K) : CallV Tryz.prog 21 #[.agg #[.int .i64 p0_0, .int .i64 p0_1, .int .i64 p0_2, .int .i64 p0_3, .int .i64 p0_4, .int .i64 p0_5, .slice a0_6 n0_6 c0_6, .slice a0_7 n0_7 c0_7, .bool p0_8, .int .i64 p0_9]] w [.agg [.int .i64, .int .i64, .int .i64, .int .i64, .int .i64, .int .i64, .sl, .sl, .bool, .int .i64, .int .i64, .int .u64, .bool, .bool, .bool, .bool, .bool, .bool, .bool, .bool, .bool, .bool, .bool, .bool], .one .sl] K := by
  refine vcFun.of (A := ref20_Open.A) (wr := false) okf_ok follows h Tryz.func21 ?_
  kernel_rfl
def ref20_Destroy.A : Ann := .no
def ref20_Destroy.P (p0_0 p0_1 p0_2 p0_3 p0_4 p0_5 : Int) (a0_6 : Option Addr) (n0_6 c0_6 : Nat) (a0_7 : Option Addr) (n0_7 c0_7 : Nat) (p0_8 : Bool) (p0_9 p0_10 p0_11 : Int) (p0_12 p0_13 p0_14 p0_15 p0_16 p0_17 p0_18 p0_19 p0_20 p0_21 p0_22 p0_23 : Bool) (p1 : Int) (w : World) (K : (Int × Int × Int × Int × Int × Int × SlV × SlV × Bool × Int × Int × Int × Bool × Bool × Bool × Bool × Bool × Bool × Bool × Bool × Bool × Bool × Bool × Bool × Unit) × Int × Unit → World → Prop) : Prop :=
  NewV #[.int .i64 p0_0, .int .i64 p0_1, .int .i64 p0_2, .int .i64 p0_3, .int .i64 p0_4, .int .i64 p0_5, .slice a0_6 n0_6 c0_6, .slice a0_7 n0_7 c0_7, .bool p0_8, .int .i64 p0_9, .int .i64 p0_10, .int .u64 p0_11, .bool p0_12, .bool p0_13, .bool p0_14, .bool p0_15, .bool p0_16, .bool p0_17, .bool p0_18, .bool p0_19, .bool p0_20, .bool p0_21, .bool p0_22, .bool p0_23] 77 w fun b1 w2 =>
  NewV #[.int .i64 0, .int .i64 0, .int .i64 0, .int .i64 0, .int .i64 0, .int .i64 0, .slice none 0 0, .slice none 0 0, .bool false, .int .i64 0, .int .i64 0, .int .u64 0, .bool false, .bool false, .bool false, .bool false, .bool false, .bool false, .bool false, .bool false, .bool false, .bool false, .bool false, .bool false] 77 w2 fun b3 w4 =>
  LoadA w4 ⟨b1, 0, none⟩ [.int .i64, .int .i64, .int .i64, .int .i64, .int .i64, .int .i64, .sl, .sl, .bool, .int .i64] fun (x5 : Int × Int × Int × Int × Int × Int × SlV × SlV × Bool × Int × Unit) =>
  CallV Tryz.prog 79 #[.agg #[.int .i64 x5.1, .int .i64 x5.2.1, .int .i64 x5.2.2.1, .int .i64 x5.2.2.2.1, .int .i64 x5.2.2.2.2.1, .int .i64 x5.2.2.2.2.2.1, .slice x5.2.2.2.2.2.2.1.a x5.2.2.2.2.2.2.1.n x5.2.2.2.2.2.2.1.c, .slice x5.2.2.2.2.2.2.2.1.a x5.2.2.2.2.2.2.2.1.n x5.2.2.2.2.2.2.2.1.c, .bool x5.2.2.2.2.2.2.2.2.1, .int .i64 x5.2.2.2.2.2.2.2.2.2.1], .int .i64 p1] w4 [.agg [.int .i64, .int .i64, .int .i64, .int .i64, .int .i64, .int .i64, .sl, .sl, .bool, .int .i64], .one (.int .i64)] fun (r6 : (Int × Int × Int × Int × Int × Int × SlV × SlV × Bool × Int × Unit) × Int × Unit) w7 =>
  NewV #[.int .i64 0, .int .i64 0, .int .i64 0, .int .i64 0, .int .i64 0, .int .i64 0, .slice none 0 0, .slice none 0 0, .bool false, .int .i64 0] 34 w7 fun b8 w9 =>
  StoreV w9 ⟨b8, 0, none⟩ [.int .i64 r6.1.1, .int .i64 r6.1.2.1, .int .i64 r6.1.2.2.1, .int .i64 r6.1.2.2.2.1, .int .i64 r6.1.2.2.2.2.1, .int .i64 r6.1.2.2.2.2.2.1, .slice r6.1.2.2.2.2.2.2.1.a r6.1.2.2.2.2.2.2.1.n r6.1.2.2.2.2.2.2.1.c, .slice r6.1.2.2.2.2.2.2.2.1.a r6.1.2.2.2.2.2.2.2.1.n r6.1.2.2.2.2.2.2.2.1.c, .bool r6.1.2.2.2.2.2.2.2.2.1, .int .i64 r6.1.2.2.2.2.2.2.2.2.2.1] fun w10 =>
  LoadA w10 ⟨b8, 0, none⟩ [.int .i64, .int .i64, .int .i64, .int .i64, .int .i64, .int .i64, .sl, .sl, .bool, .int .i64] fun (x11 : Int × Int × Int × Int × Int × Int × SlV × SlV × Bool × Int × Unit) =>
  StoreV w10 ⟨b1, 0, none⟩ [.int .i64 x11.1, .int .i64 x11.2.1, .int .i64 x11.2.2.1, .int .i64 x11.2.2.2.1, .int .i64 x11.2.2.2.2.1, .int .i64 x11.2.2.2.2.2.1, .slice x11.2.2.2.2.2.2.1.a x11.2.2.2.2.2.2.1.n x11.2.2.2.2.2.2.1.c, .slice x11.2.2.2.2.2.2.2.1.a x11.2.2.2.2.2.2.2.1.n x11.2.2.2.2.2.2.2.1.c, .bool x11.2.2.2.2.2.2.2.2.1, .int .i64 x11.2.2.2.2.2.2.2.2.2.1] fun w12 =>
  cond (r6.2.1 == 0)
  ((0 ≤ p1 ∧ p1 < (4 : Int)) ∧
  StoreV w12 ((⟨b1, 12, none⟩ : Addr).add (p1.toNat * 1)) [.bool true] fun w13 =>
  (0 ≤ p1 ∧ p1 < (4 : Int)) ∧
  StoreV w13 ((⟨b1, 20, none⟩ : Addr).add (p1.toNat * 1)) [.bool false] fun w14 =>
  cond (r6.2.1 != 5)
  (LoadA w14 ⟨b1, 0, none⟩ [.int .i64, .int .i64, .int .i64, .int .i64, .int .i64, .int .i64, .sl, .sl, .bool, .int .i64, .int .i64, .int .u64, .bool, .bool, .bool, .bool, .bool, .bool, .bool, .bool, .bool, .bool, .bool, .bool] fun (x15 : Int × Int × Int × Int × Int × Int × SlV × SlV × Bool × Int × Int × Int × Bool × Bool × Bool × Bool × Bool × Bool × Bool × Bool × Bool × Bool × Bool × Bool × Unit) =>
  StoreV w14 ⟨b3, 0, none⟩ [.int .i64 x15.1, .int .i64 x15.2.1, .int .i64 x15.2.2.1, .int .i64 x15.2.2.2.1, .int .i64 x15.2.2.2.2.1, .int .i64 x15.2.2.2.2.2.1, .slice x15.2.2.2.2.2.2.1.a x15.2.2.2.2.2.2.1.n x15.2.2.2.2.2.2.1.c, .slice x15.2.2.2.2.2.2.2.1.a x15.2.2.2.2.2.2.2.1.n x15.2.2.2.2.2.2.2.1.c, .bool x15.2.2.2.2.2.2.2.2.1, .int .i64 x15.2.2.2.2.2.2.2.2.2.1, .int .i64 x15.2.2.2.2.2.2.2.2.2.2.1, .int .u64 x15.2.2.2.2.2.2.2.2.2.2.2.1, .bool x15.2.2.2.2.2.2.2.2.2.2.2.2.1, .bool x15.2.2.2.2.2.2.2.2.2.2.2.2.2.1, .bool x15.2.2.2.2.2.2.2.2.2.2.2.2.2.2.1, .bool x15.2.2.2.2.2.2.2.2.2.2.2.2.2.2.2.1, .bool x15.2.2.2.2.2.2.2.2.2.2.2.2.2.2.2.2.1, .bool x15.2.2.2.2.2.2.2.2.2.2.2.2.2.2.2.2.2.1, .bool x15.2.2.2.2.2.2.2.2.2.2.2.2.2.2.2.2.2.2.1, .bool x15.2.2.2.2.2.2.2.2.2.2.2.2.2.2.2.2.2.2.2.1, .bool x15.2.2.2.2.2.2.2.2.2.2.2.2.2.2.2.2.2.2.2.2.1, .bool x15.2.2.2.2.2.2.2.2.2.2.2.2.2.2.2.2.2.2.2.2.2.1, .bool x15.2.2.2.2.2.2.2.2.2.2.2.2.2.2.2.2.2.2.2.2.2.2.1, .bool x15.2.2.2.2.2.2.2.2.2.2.2.2.2.2.2.2.2.2.2.2.2.2.2.1] fun w16 =>
  LoadA w16 ⟨b3, 0, none⟩ [.int .i64, .int .i64, .int .i64, .int .i64, .int .i64, .int .i64, .sl, .sl, .bool, .int .i64, .int .i64, .int .u64, .bool, .bool, .bool, .bool, .bool, .bool, .bool, .bool, .bool, .bool, .bool, .bool] fun (x17 : Int × Int × Int × Int × Int × Int × SlV × SlV × Bool × Int × Int × Int × Bool × Bool × Bool × Bool × Bool × Bool × Bool × Bool × Bool × Bool × Bool × Bool × Unit) =>
  K ((x17.1, x17.2.1, x17.2.2.1, x17.2.2.2.1, x17.2.2.2.2.1, x17.2.2.2.2.2.1, x17.2.2.2.2.2.2.1, x17.2.2.2.2.2.2.2.1, x17.2.2.2.2.2.2.2.2.1, x17.2.2.2.2.2.2.2.2.2.1, x17.2.2.2.2.2.2.2.2.2.2.1, x17.2.2.2.2.2.2.2.2.2.2.2.1, x17.2.2.2.2.2.2.2.2.2.2.2.2.1, x17.2.2.2.2.2.2.2.2.2.2.2.2.2.1, x17.2.2.2.2.2.2.2.2.2.2.2.2.2.2.1, x17.2.2.2.2.2.2.2.2.2.2.2.2.2.2.2.1, x17.2.2.2.2.2.2.2.2.2.2.2.2.2.2.2.2.1, x17.2.2.2.2.2.2.2.2.2.2.2.2.2.2.2.2.2.1, x17.2.2.2.2.2.2.2.2.2.2.2.2.2.2.2.2.2.2.1, x17.2.2.2.2.2.2.2.2.2.2.2.2.2.2.2.2.2.2.2.1, x17.2.2.2.2.2.2.2.2.2.2.2.2.2.2.2.2.2.2.2.2.1, x17.2.2.2.2.2.2.2.2.2.2.2.2.2.2.2.2.2.2.2.2.2.1, x17.2.2.2.2.2.2.2.2.2.2.2.2.2.2.2.2.2.2.2.2.2.2.1, x17.2.2.2.2.2.2.2.2.2.2.2.2.2.2.2.2.2.2.2.2.2.2.2.1, ()), r6.2.1, ()) w16)
  ((0 ≤ p1 ∧ p1 < (4 : Int)) ∧
  StoreV w14 ((⟨b1, 16, none⟩ : Addr).add (p1.toNat * 1)) [.bool true] fun w18 =>
  (0 ≤ p1 ∧ p1 < (4 : Int)) ∧
  StoreV w18 ((⟨b1, 12, none⟩ : Addr).add (p1.toNat * 1)) [.bool false] fun w19 =>
  LoadA w19 ⟨b1, 0, none⟩ [.int .i64, .int .i64, .int .i64, .int .i64, .int .i64, .int .i64, .sl, .sl, .bool, .int .i64] fun (x20 : Int × Int × Int × Int × Int × Int × SlV × SlV × Bool × Int × Unit) =>
  CallV Tryz.prog 81 #[.agg #[.int .i64 x20.1, .int .i64 x20.2.1, .int .i64 x20.2.2.1, .int .i64 x20.2.2.2.1, .int .i64 x20.2.2.2.2.1, .int .i64 x20.2.2.2.2.2.1, .slice x20.2.2.2.2.2.2.1.a x20.2.2.2.2.2.2.1.n x20.2.2.2.2.2.2.1.c, .slice x20.2.2.2.2.2.2.2.1.a x20.2.2.2.2.2.2.2.1.n x20.2.2.2.2.2.2.2.1.c, .bool x20.2.2.2.2.2.2.2.2.1, .int .i64 x20.2.2.2.2.2.2.2.2.2.1], .int .i64 p1] w19 [.agg [.int .i64, .int .i64, .int .i64, .int .i64, .int .i64, .int .i64, .sl, .sl, .bool, .int .i64], .one (.int .i64)] fun (r21 : (Int × Int × Int × Int × Int × Int × SlV × SlV × Bool × Int × Unit) × Int × Unit) w22 =>
  NewV #[.int .i64 0, .int .i64 0, .int .i64 0, .int .i64 0, .int .i64 0, .int .i64 0, .slice none 0 0, .slice none 0 0, .bool false, .int .i64 0] 34 w22 fun b23 w24 =>
  StoreV w24 ⟨b23, 0, none⟩ [.int .i64 r21.1.1, .int .i64 r21.1.2.1, .int .i64 r21.1.2.2.1, .int .i64 r21.1.2.2.2.1, .int .i64 r21.1.2.2.2.2.1, .int .i64 r21.1.2.2.2.2.2.1, .slice r21.1.2.2.2.2.2.2.1.a r21.1.2.2.2.2.2.2.1.n r21.1.2.2.2.2.2.2.1.c, .slice r21.1.2.2.2.2.2.2.2.1.a r21.1.2.2.2.2.2.2.2.1.n r21.1.2.2.2.2.2.2.2.1.c, .bool r21.1.2.2.2.2.2.2.2.2.1, .int .i64 r21.1.2.2.2.2.2.2.2.2.2.1] fun w25 =>
  LoadA w25 ⟨b23, 0, none⟩ [.int .i64, .int .i64, .int .i64, .int .i64, .int .i64, .int .i64, .sl, .sl, .bool, .int .i64] fun (x26 : Int × Int × Int × Int × Int × Int × SlV × SlV × Bool × Int × Unit) =>
  StoreV w25 ⟨b1, 0, none⟩ [.int .i64 x26.1, .int .i64 x26.2.1, .int .i64 x26.2.2.1, .int .i64 x26.2.2.2.1, .int .i64 x26.2.2.2.2.1, .int .i64 x26.2.2.2.2.2.1, .slice x26.2.2.2.2.2.2.1.a x26.2.2.2.2.2.2.1.n x26.2.2.2.2.2.2.1.c, .slice x26.2.2.2.2.2.2.2.1.a x26.2.2.2.2.2.2.2.1.n x26.2.2.2.2.2.2.2.1.c, .bool x26.2.2.2.2.2.2.2.2.1, .int .i64 x26.2.2.2.2.2.2.2.2.2.1] fun w27 =>
  cond (r21.2.1 == 4)
  (LoadA w27 ⟨b1, 0, none⟩ [.int .i64, .int .i64, .int .i64, .int .i64, .int .i64, .int .i64, .sl, .sl, .bool, .int .i64, .int .i64, .int .u64, .bool, .bool, .bool, .bool, .bool, .bool, .bool, .bool, .bool, .bool, .bool, .bool] fun (x28 : Int × Int × Int × Int × Int × Int × SlV × SlV × Bool × Int × Int × Int × Bool × Bool × Bool × Bool × Bool × Bool × Bool × Bool × Bool × Bool × Bool × Bool × Unit) =>
  StoreV w27 ⟨b3, 0, none⟩ [.int .i64 x28.1, .int .i64 x28.2.1, .int .i64 x28.2.2.1, .int .i64 x28.2.2.2.1, .int .i64 x28.2.2.2.2.1, .int .i64 x28.2.2.2.2.2.1, .slice x28.2.2.2.2.2.2.1.a x28.2.2.2.2.2.2.1.n x28.2.2.2.2.2.2.1.c, .slice x28.2.2.2.2.2.2.2.1.a x28.2.2.2.2.2.2.2.1.n x28.2.2.2.2.2.2.2.1.c, .bool x28.2.2.2.2.2.2.2.2.1, .int .i64 x28.2.2.2.2.2.2.2.2.2.1, .int .i64 x28.2.2.2.2.2.2.2.2.2.2.1, .int .u64 x28.2.2.2.2.2.2.2.2.2.2.2.1, .bool x28.2.2.2.2.2.2.2.2.2.2.2.2.1, .bool x28.2.2.2.2.2.2.2.2.2.2.2.2.2.1, .bool x28.2.2.2.2.2.2.2.2.2.2.2.2.2.2.1, .bool x28.2.2.2.2.2.2.2.2.2.2.2.2.2.2.2.1, .bool x28.2.2.2.2.2.2.2.2.2.2.2.2.2.2.2.2.1, .bool x28.2.2.2.2.2.2.2.2.2.2.2.2.2.2.2.2.2.1, .bool x28.2.2.2.2.2.2.2.2.2.2.2.2.2.2.2.2.2.2.1, .bool x28.2.2.2.2.2.2.2.2.2.2.2.2.2.2.2.2.2.2.2.1, .bool x28.2.2.2.2.2.2.2.2.2.2.2.2.2.2.2.2.2.2.2.2.1, .bool x28.2.2.2.2.2.2.2.2.2.2.2.2.2.2.2.2.2.2.2.2.2.1, .bool x28.2.2.2.2.2.2.2.2.2.2.2.2.2.2.2.2.2.2.2.2.2.2.1, .bool x28.2.2.2.2.2.2.2.2.2.2.2.2.2.2.2.2.2.2.2.2.2.2.2.1] fun w29 =>
  LoadA w29 ⟨b3, 0, none⟩ [.int .i64, .int .i64, .int .i64, .int .i64, .int .i64, .int .i64, .sl, .sl, .bool, .int .i64, .int .i64, .int .u64, .bool, .bool, .bool, .bool, .bool, .bool, .bool, .bool, .bool, .bool, .bool, .bool] fun (x30 : Int × Int × Int × Int × Int × Int × SlV × SlV × Bool × Int × Int × Int × Bool × Bool × Bool × Bool × Bool × Bool × Bool × Bool × Bool × Bool × Bool × Bool × Unit) =>
  K ((x30.1, x30.2.1, x30.2.2.1, x30.2.2.2.1, x30.2.2.2.2.1, x30.2.2.2.2.2.1, x30.2.2.2.2.2.2.1, x30.2.2.2.2.2.2.2.1, x30.2.2.2.2.2.2.2.2.1, x30.2.2.2.2.2.2.2.2.2.1, x30.2.2.2.2.2.2.2.2.2.2.1, x30.2.2.2.2.2.2.2.2.2.2.2.1, x30.2.2.2.2.2.2.2.2.2.2.2.2.1, x30.2.2.2.2.2.2.2.2.2.2.2.2.2.1, x30.2.2.2.2.2.2.2.2.2.2.2.2.2.2.1, x30.2.2.2.2.2.2.2.2.2.2.2.2.2.2.2.1, x30.2.2.2.2.2.2.2.2.2.2.2.2.2.2.2.2.1, x30.2.2.2.2.2.2.2.2.2.2.2.2.2.2.2.2.2.1, x30.2.2.2.2.2.2.2.2.2.2.2.2.2.2.2.2.2.2.1, x30.2.2.2.2.2.2.2.2.2.2.2.2.2.2.2.2.2.2.2.1, x30.2.2.2.2.2.2.2.2.2.2.2.2.2.2.2.2.2.2.2.2.1, x30.2.2.2.2.2.2.2.2.2.2.2.2.2.2.2.2.2.2.2.2.2.1, x30.2.2.2.2.2.2.2.2.2.2.2.2.2.2.2.2.2.2.2.2.2.2.1, x30.2.2.2.2.2.2.2.2.2.2.2.2.2.2.2.2.2.2.2.2.2.2.2.1, ()), r21.2.1, ()) w29)
  ((0 ≤ p1 ∧ p1 < (4 : Int)) ∧
  StoreV w27 ((⟨b1, 20, none⟩ : Addr).add (p1.toNat * 1)) [.bool (r21.2.1 != 0)] fun w31 =>
  LoadA w31 ⟨b1, 0, none⟩ [.int .i64, .int .i64, .int .i64, .int .i64, .int .i64, .int .i64, .sl, .sl, .bool, .int .i64, .int .i64, .int .u64, .bool, .bool, .bool, .bool, .bool, .bool, .bool, .bool, .bool, .bool, .bool, .bool] fun (x32 : Int × Int × Int × Int × Int × Int × SlV × SlV × Bool × Int × Int × Int × Bool × Bool × Bool × Bool × Bool × Bool × Bool × Bool × Bool × Bool × Bool × Bool × Unit) =>
  StoreV w31 ⟨b3, 0, none⟩ [.int .i64 x32.1, .int .i64 x32.2.1, .int .i64 x32.2.2.1, .int .i64 x32.2.2.2.1, .int .i64 x32.2.2.2.2.1, .int .i64 x32.2.2.2.2.2.1, .slice x32.2.2.2.2.2.2.1.a x32.2.2.2.2.2.2.1.n x32.2.2.2.2.2.2.1.c, .slice x32.2.2.2.2.2.2.2.1.a x32.2.2.2.2.2.2.2.1.n x32.2.2.2.2.2.2.2.1.c, .bool x32.2.2.2.2.2.2.2.2.1, .int .i64 x32.2.2.2.2.2.2.2.2.2.1, .int .i64 x32.2.2.2.2.2.2.2.2.2.2.1, .int .u64 x32.2.2.2.2.2.2.2.2.2.2.2.1, .bool x32.2.2.2.2.2.2.2.2.2.2.2.2.1, .bool x32.2.2.2.2.2.2.2.2.2.2.2.2.2.1, .bool x32.2.2.2.2.2.2.2.2.2.2.2.2.2.2.1, .bool x32.2.2.2.2.2.2.2.2.2.2.2.2.2.2.2.1, .bool x32.2.2.2.2.2.2.2.2.2.2.2.2.2.2.2.2.1, .bool x32.2.2.2.2.2.2.2.2.2.2.2.2.2.2.2.2.2.1, .bool x32.2.2.2.2.2.2.2.2.2.2.2.2.2.2.2.2.2.2.1, .bool x32.2.2.2.2.2.2.2.2.2.2.2.2.2.2.2.2.2.2.2.1, .bool x32.2.2.2.2.2.2.2.2.2.2.2.2.2.2.2.2.2.2.2.2.1, .bool x32.2.2.2.2.2.2.2.2.2.2.2.2.2.2.2.2.2.2.2.2.2.1, .bool x32.2.2.2.2.2.2.2.2.2.2.2.2.2.2.2.2.2.2.2.2.2.2.1, .bool x32.2.2.2.2.2.2.2.2.2.2.2.2.2.2.2.2.2.2.2.2.2.2.2.1] fun w33 =>
  LoadA w33 ⟨b3, 0, none⟩ [.int .i64, .int .i64, .int .i64, .int .i64, .int .i64, .int .i64, .sl, .sl, .bool, .int .i64, .int .i64, .int .u64, .bool, .bool, .bool, .bool, .bool, .bool, .bool, .bool, .bool, .bool, .bool, .bool] fun (x34 : Int × Int × Int × Int × Int × Int × SlV × SlV × Bool × Int × Int × Int × Bool × Bool × Bool × Bool × Bool × Bool × Bool × Bool × Bool × Bool × Bool × Bool × Unit) =>
  K ((x34.1, x34.2.1, x34.2.2.1, x34.2.2.2.1, x34.2.2.2.2.1, x34.2.2.2.2.2.1, x34.2.2.2.2.2.2.1, x34.2.2.2.2.2.2.2.1, x34.2.2.2.2.2.2.2.2.1, x34.2.2.2.2.2.2.2.2.2.1, x34.2.2.2.2.2.2.2.2.2.2.1, x34.2.2.2.2.2.2.2.2.2.2.2.1, x34.2.2.2.2.2.2.2.2.2.2.2.2.1, x34.2.2.2.2.2.2.2.2.2.2.2.2.2.1, x34.2.2.2.2.2.2.2.2.2.2.2.2.2.2.1, x34.2.2.2.2.2.2.2.2.2.2.2.2.2.2.2.1, x34.2.2.2.2.2.2.2.2.2.2.2.2.2.2.2.2.1, x34.2.2.2.2.2.2.2.2.2.2.2.2.2.2.2.2.2.1, x34.2.2.2.2.2.2.2.2.2.2.2.2.2.2.2.2.2.2.1, x34.2.2.2.2.2.2.2.2.2.2.2.2.2.2.2.2.2.2.2.1, x34.2.2.2.2.2.2.2.2.2.2.2.2.2.2.2.2.2.2.2.2.1, x34.2.2.2.2.2.2.2.2.2.2.2.2.2.2.2.2.2.2.2.2.2.1, x34.2.2.2.2.2.2.2.2.2.2.2.2.2.2.2.2.2.2.2.2.2.2.1, x34.2.2.2.2.2.2.2.2.2.2.2.2.2.2.2.2.2.2.2.2.2.2.2.1, ()), (5 : Int), ()) w33)))
  (cond (r6.2.1 != 5)
  (LoadA w12 ⟨b1, 0, none⟩ [.int .i64, .int .i64, .int .i64, .int .i64, .int .i64, .int .i64, .sl, .sl, .bool, .int .i64, .int .i64, .int .u64, .bool, .bool, .bool, .bool, .bool, .bool, .bool, .bool, .bool, .bool, .bool, .bool] fun (x35 : Int × Int × Int × Int × Int × Int × SlV × SlV × Bool × Int × Int × Int × Bool × Bool × Bool × Bool × Bool × Bool × Bool × Bool × Bool × Bool × Bool × Bool × Unit) =>
  StoreV w12 ⟨b3, 0, none⟩ [.int .i64 x35.1, .int .i64 x35.2.1, .int .i64 x35.2.2.1, .int .i64 x35.2.2.2.1, .int .i64 x35.2.2.2.2.1, .int .i64 x35.2.2.2.2.2.1, .slice x35.2.2.2.2.2.2.1.a x35.2.2.2.2.2.2.1.n x35.2.2.2.2.2.2.1.c, .slice x35.2.2.2.2.2.2.2.1.a x35.2.2.2.2.2.2.2.1.n x35.2.2.2.2.2.2.2.1.c, .bool x35.2.2.2.2.2.2.2.2.1, .int .i64 x35.2.2.2.2.2.2.2.2.2.1, .int .i64 x35.2.2.2.2.2.2.2.2.2.2.1, .int .u64 x35.2.2.2.2.2.2.2.2.2.2.2.1, .bool x35.2.2.2.2.2.2.2.2.2.2.2.2.1, .bool x35.2.2.2.2.2.2.2.2.2.2.2.2.2.1, .bool x35.2.2.2.2.2.2.2.2.2.2.2.2.2.2.1, .bool x35.2.2.2.2.2.2.2.2.2.2.2.2.2.2.2.1, .bool x35.2.2.2.2.2.2.2.2.2.2.2.2.2.2.2.2.1, .bool x35.2.2.2.2.2.2.2.2.2.2.2.2.2.2.2.2.2.1, .bool x35.2.2.2.2.2.2.2.2.2.2.2.2.2.2.2.2.2.2.1, .bool x35.2.2.2.2.2.2.2.2.2.2.2.2.2.2.2.2.2.2.2.1, .bool x35.2.2.2.2.2.2.2.2.2.2.2.2.2.2.2.2.2.2.2.2.1, .bool x35.2.2.2.2.2.2.2.2.2.2.2.2.2.2.2.2.2.2.2.2.2.1, .bool x35.2.2.2.2.2.2.2.2.2.2.2.2.2.2.2.2.2.2.2.2.2.2.1, .bool x35.2.2.2.2.2.2.2.2.2.2.2.2.2.2.2.2.2.2.2.2.2.2.2.1] fun w36 =>
  LoadA w36 ⟨b3, 0, none⟩ [.int .i64, .int .i64, .int .i64, .int .i64, .int .i64, .int .i64, .sl, .sl, .bool, .int .i64, .int .i64, .int .u64, .bool, .bool, .bool, .bool, .bool, .bool, .bool, .bool, .bool, .bool, .bool, .bool] fun (x37 : Int × Int × Int × Int × Int × Int × SlV × SlV × Bool × Int × Int × Int × Bool × Bool × Bool × Bool × Bool × Bool × Bool × Bool × Bool × Bool × Bool × Bool × Unit) =>
  K ((x37.1, x37.2.1, x37.2.2.1, x37.2.2.2.1, x37.2.2.2.2.1, x37.2.2.2.2.2.1, x37.2.2.2.2.2.2.1, x37.2.2.2.2.2.2.2.1, x37.2.2.2.2.2.2.2.2.1, x37.2.2.2.2.2.2.2.2.2.1, x37.2.2.2.2.2.2.2.2.2.2.1, x37.2.2.2.2.2.2.2.2.2.2.2.1, x37.2.2.2.2.2.2.2.2.2.2.2.2.1, x37.2.2.2.2.2.2.2.2.2.2.2.2.2.1, x37.2.2.2.2.2.2.2.2.2.2.2.2.2.2.1, x37.2.2.2.2.2.2.2.2.2.2.2.2.2.2.2.1, x37.2.2.2.2.2.2.2.2.2.2.2.2.2.2.2.2.1, x37.2.2.2.2.2.2.2.2.2.2.2.2.2.2.2.2.2.1, x37.2.2.2.2.2.2.2.2.2.2.2.2.2.2.2.2.2.2.1, x37.2.2.2.2.2.2.2.2.2.2.2.2.2.2.2.2.2.2.2.1, x37.2.2.2.2.2.2.2.2.2.2.2.2.2.2.2.2.2.2.2.2.1, x37.2.2.2.2.2.2.2.2.2.2.2.2.2.2.2.2.2.2.2.2.2.1, x37.2.2.2.2.2.2.2.2.2.2.2.2.2.2.2.2.2.2.2.2.2.2.1, x37.2.2.2.2.2.2.2.2.2.2.2.2.2.2.2.2.2.2.2.2.2.2.2.1, ()), r6.2.1, ()) w36)
  ((0 ≤ p1 ∧ p1 < (4 : Int)) ∧
  StoreV w12 ((⟨b1, 16, none⟩ : Addr).add (p1.toNat * 1)) [.bool true] fun w38 =>
  (0 ≤ p1 ∧ p1 < (4 : Int)) ∧
  StoreV w38 ((⟨b1, 12, none⟩ : Addr).add (p1.toNat * 1)) [.bool false] fun w39 =>
  LoadA w39 ⟨b1, 0, none⟩ [.int .i64, .int .i64, .int .i64, .int .i64, .int .i64, .int .i64, .sl, .sl, .bool, .int .i64] fun (x40 : Int × Int × Int × Int × Int × Int × SlV × SlV × Bool × Int × Unit) =>
  CallV Tryz.prog 81 #[.agg #[.int .i64 x40.1, .int .i64 x40.2.1, .int .i64 x40.2.2.1, .int .i64 x40.2.2.2.1, .int .i64 x40.2.2.2.2.1, .int .i64 x40.2.2.2.2.2.1, .slice x40.2.2.2.2.2.2.1.a x40.2.2.2.2.2.2.1.n x40.2.2.2.2.2.2.1.c, .slice x40.2.2.2.2.2.2.2.1.a x40.2.2.2.2.2.2.2.1.n x40.2.2.2.2.2.2.2.1.c, .bool x40.2.2.2.2.2.2.2.2.1, .int .i64 x40.2.2.2.2.2.2.2.2.2.1], .int .i64 p1] w39 [.agg [.int .i64, .int .i64, .int .i64, .int .i64, .int .i64, .int .i64, .sl, .sl, .bool, .int .i64], .one (.int .i64)] fun (r41 : (Int × Int × Int × Int × Int × Int × SlV × SlV × Bool × Int × Unit) × Int × Unit) w42 =>
  NewV #[.int .i64 0, .int .i64 0, .int .i64 0, .int .i64 0, .int .i64 0, .int .i64 0, .slice none 0 0, .slice none 0 0, .bool false, .int .i64 0] 34 w42 fun b43 w44 =>
  StoreV w44 ⟨b43, 0, none⟩ [.int .i64 r41.1.1, .int .i64 r41.1.2.1, .int .i64 r41.1.2.2.1, .int .i64 r41.1.2.2.2.1, .int .i64 r41.1.2.2.2.2.1, .int .i64 r41.1.2.2.2.2.2.1, .slice r41.1.2.2.2.2.2.2.1.a r41.1.2.2.2.2.2.2.1.n r41.1.2.2.2.2.2.2.1.c, .slice r41.1.2.2.2.2.2.2.2.1.a r41.1.2.2.2.2.2.2.2.1.n r41.1.2.2.2.2.2.2.2.1.c, .bool r41.1.2.2.2.2.2.2.2.2.1, .int .i64 r41.1.2.2.2.2.2.2.2.2.2.1] fun w45 =>
  LoadA w45 ⟨b43, 0, none⟩ [.int .i64, .int .i64, .int .i64, .int .i64, .int .i64, .int .i64, .sl, .sl, .bool, .int .i64] fun (x46 : Int × Int × Int × Int × Int × Int × SlV × SlV × Bool × Int × Unit) =>
  StoreV w45 ⟨b1, 0, none⟩ [.int .i64 x46.1, .int .i64 x46.2.1, .int .i64 x46.2.2.1, .int .i64 x46.2.2.2.1, .int .i64 x46.2.2.2.2.1, .int .i64 x46.2.2.2.2.2.1, .slice x46.2.2.2.2.2.2.1.a x46.2.2.2.2.2.2.1.n x46.2.2.2.2.2.2.1.c, .slice x46.2.2.2.2.2.2.2.1.a x46.2.2.2.2.2.2.2.1.n x46.2.2.2.2.2.2.2.1.c, .bool x46.2.2.2.2.2.2.2.2.1, .int .i64 x46.2.2.2.2.2.2.2.2.2.1] fun w47 =>
  cond (r41.2.1 == 4)
  (LoadA w47 ⟨b1, 0, none⟩ [.int .i64, .int .i64, .int .i64, .int .i64, .int .i64, .int .i64, .sl, .sl, .bool, .int .i64, .int .i64, .int .u64, .bool, .bool, .bool, .bool, .bool, .bool, .bool, .bool, .bool, .bool, .bool, .bool] fun (x48 : Int × Int × Int × Int × Int × Int × SlV × SlV × Bool × Int × Int × Int × Bool × Bool × Bool × Bool × Bool × Bool × Bool × Bool × Bool × Bool × Bool × Bool × Unit) =>
  StoreV w47 ⟨b3, 0, none⟩ [.int .i64 x48.1, .int .i64 x48.2.1, .int .i64 x48.2.2.1, .int .i64 x48.2.2.2.1, .int .i64 x48.2.2.2.2.1, .int .i64 x48.2.2.2.2.2.1, .slice x48.2.2.2.2.2.2.1.a x48.2.2.2.2.2.2.1.n x48.2.2.2.2.2.2.1.c, .slice x48.2.2.2.2.2.2.2.1.a x48.2.2.2.2.2.2.2.1.n x48.2.2.2.2.2.2.2.1.c, .bool x48.2.2.2.2.2.2.2.2.1, .int .i64 x48.2.2.2.2.2.2.2.2.2.1, .int .i64 x48.2.2.2.2.2.2.2.2.2.2.1, .int .u64 x48.2.2.2.2.2.2.2.2.2.2.2.1, .bool x48.2.2.2.2.2.2.2.2.2.2.2.2.1, .bool x48.2.2.2.2.2.2.2.2.2.2.2.2.2.1, .bool x48.2.2.2.2.2.2.2.2.2.2.2.2.2.2.1, .bool x48.2.2.2.2.2.2.2.2.2.2.2.2.2.2.2.1, .bool x48.2.2.2.2.2.2.2.2.2.2.2.2.2.2.2.2.1, .bool x48.2.2.2.2.2.2.2.2.2.2.2.2.2.2.2.2.2.1, .bool x48.2.2.2.2.2.2.2.2.2.2.2.2.2.2.2.2.2.2.1, .bool x48.2.2.2.2.2.2.2.2.2.2.2.2.2.2.2.2.2.2.2.1, .bool x48.2.2.2.2.2.2.2.2.2.2.2.2.2.2.2.2.2.2.2.2.1, .bool x48.2.2.2.2.2.2.2.2.2.2.2.2.2.2.2.2.2.2.2.2.2.1, .bool x48.2.2.2.2.2.2.2.2.2.2.2.2.2.2.2.2.2.2.2.2.2.2.1, .bool x48.2.2.2.2.2.2.2.2.2.2.2.2.2.2.2.2.2.2.2.2.2.2.2.1] fun w49 =>
  LoadA w49 ⟨b3, 0, none⟩ [.int .i64, .int .i64, .int .i64, .int .i64, .int .i64, .int .i64, .sl, .sl, .bool, .int .i64, .int .i64, .int .u64, .bool, .bool, .bool, .bool, .bool, .bool, .bool, .bool, .bool, .bool, .bool, .bool] fun (x50 : Int × Int × Int × Int × Int × Int × SlV × SlV × Bool × Int × Int × Int × Bool × Bool × Bool × Bool × Bool × Bool × Bool × Bool × Bool × Bool × Bool × Bool × Unit) =>
  K ((x50.1, x50.2.1, x50.2.2.1, x50.2.2.2.1, x50.2.2.2.2.1, x50.2.2.2.2.2.1, x50.2.2.2.2.2.2.1, x50.2.2.2.2.2.2.2.1, x50.2.2.2.2.2.2.2.2.1, x50.2.2.2.2.2.2.2.2.2.1, x50.2.2.2.2.2.2.2.2.2.2.1, x50.2.2.2.2.2.2.2.2.2.2.2.1, x50.2.2.2.2.2.2.2.2.2.2.2.2.1, x50.2.2.2.2.2.2.2.2.2.2.2.2.2.1, x50.2.2.2.2.2.2.2.2.2.2.2.2.2.2.1, x50.2.2.2.2.2.2.2.2.2.2.2.2.2.2.2.1, x50.2.2.2.2.2.2.2.2.2.2.2.2.2.2.2.2.1, x50.2.2.2.2.2.2.2.2.2.2.2.2.2.2.2.2.2.1, x50.2.2.2.2.2.2.2.2.2.2.2.2.2.2.2.2.2.2.1, x50.2.2.2.2.2.2.2.2.2.2.2.2.2.2.2.2.2.2.2.1, x50.2.2.2.2.2.2.2.2.2.2.2.2.2.2.2.2.2.2.2.2.1, x50.2.2.2.2.2.2.2.2.2.2.2.2.2.2.2.2.2.2.2.2.2.1, x50.2.2.2.2.2.2.2.2.2.2.2.2.2.2.2.2.2.2.2.2.2.2.1, x50.2.2.2.2.2.2.2.2.2.2.2.2.2.2.2.2.2.2.2.2.2.2.2.1, ()), r41.2.1, ()) w49)
  ((0 ≤ p1 ∧ p1 < (4 : Int)) ∧
  StoreV w47 ((⟨b1, 20, none⟩ : Addr).add (p1.toNat * 1)) [.bool (r41.2.1 != 0)] fun w51 =>
  LoadA w51 ⟨b1, 0, none⟩ [.int .i64, .int .i64, .int .i64, .int .i64, .int .i64, .int .i64, .sl, .sl, .bool, .int .i64, .int .i64, .int .u64, .bool, .bool, .bool, .bool, .bool, .bool, .bool, .bool, .bool, .bool, .bool, .bool] fun (x52 : Int × Int × Int × Int × Int × Int × SlV × SlV × Bool × Int × Int × Int × Bool × Bool × Bool × Bool × Bool × Bool × Bool × Bool × Bool × Bool × Bool × Bool × Unit) =>
  StoreV w51 ⟨b3, 0, none⟩ [.int .i64 x52.1, .int .i64 x52.2.1, .int .i64 x52.2.2.1, .int .i64 x52.2.2.2.1, .int .i64 x52.2.2.2.2.1, .int .i64 x52.2.2.2.2.2.1, .slice x52.2.2.2.2.2.2.1.a x52.2.2.2.2.2.2.1.n x52.2.2.2.2.2.2.1.c, .slice x52.2.2.2.2.2.2.2.1.a x52.2.2.2.2.2.2.2.1.n x52.2.2.2.2.2.2.2.1.c, .bool x52.2.2.2.2.2.2.2.2.1, .int .i64 x52.2.2.2.2.2.2.2.2.2.1, .int .i64 x52.2.2.2.2.2.2.2.2.2.2.1, .int .u64 x52.2.2.2.2.2.2.2.2.2.2.2.1, .bool x52.2.2.2.2.2.2.2.2.2.2.2.2.1, .bool x52.2.2.2.2.2.2.2.2.2.2.2.2.2.1, .bool x52.2.2.2.2.2.2.2.2.2.2.2.2.2.2.1, .bool x52.2.2.2.2.2.2.2.2.2.2.2.2.2.2.2.1, .bool x52.2.2.2.2.2.2.2.2.2.2.2.2.2.2.2.2.1, .bool x52.2.2.2.2.2.2.2.2.2.2.2.2.2.2.2.2.2.1, .bool x52.2.2.2.2.2.2.2.2.2.2.2.2.2.2.2.2.2.2.1, .bool x52.2.2.2.2.2.2.2.2.2.2.2.2.2.2.2.2.2.2.2.1, .bool x52.2.2.2.2.2.2.2.2.2.2.2.2.2.2.2.2.2.2.2.2.1, .bool x52.2.2.2.2.2.2.2.2.2.2.2.2.2.2.2.2.2.2.2.2.2.1, .bool x52.2.2.2.2.2.2.2.2.2.2.2.2.2.2.2.2.2.2.2.2.2.2.1, .bool x52.2.2.2.2.2.2.2.2.2.2.2.2.2.2.2.2.2.2.2.2.2.2.2.1] fun w53 =>
  LoadA w53 ⟨b3, 0, none⟩ [.int .i64, .int .i64, .int .i64, .int .i64, .int .i64, .int .i64, .sl, .sl, .bool, .int .i64, .int .i64, .int .u64, .bool, .bool, .bool, .bool, .bool, .bool, .bool, .bool, .bool, .bool, .bool, .bool] fun (x54 : Int × Int × Int × Int × Int × Int × SlV × SlV × Bool × Int × Int × Int × Bool × Bool × Bool × Bool × Bool × Bool × Bool × Bool × Bool × Bool × Bool × Bool × Unit) =>
  K ((x54.1, x54.2.1, x54.2.2.1, x54.2.2.2.1, x54.2.2.2.2.1, x54.2.2.2.2.2.1, x54.2.2.2.2.2.2.1, x54.2.2.2.2.2.2.2.1, x54.2.2.2.2.2.2.2.2.1, x54.2.2.2.2.2.2.2.2.2.1, x54.2.2.2.2.2.2.2.2.2.2.1, x54.2.2.2.2.2.2.2.2.2.2.2.1, x54.2.2.2.2.2.2.2.2.2.2.2.2.1, x54.2.2.2.2.2.2.2.2.2.2.2.2.2.1, x54.2.2.2.2.2.2.2.2.2.2.2.2.2.2.1, x54.2.2.2.2.2.2.2.2.2.2.2.2.2.2.2.1, x54.2.2.2.2.2.2.2.2.2.2.2.2.2.2.2.2.1, x54.2.2.2.2.2.2.2.2.2.2.2.2.2.2.2.2.2.1, x54.2.2.2.2.2.2.2.2.2.2.2.2.2.2.2.2.2.2.1, x54.2.2.2.2.2.2.2.2.2.2.2.2.2.2.2.2.2.2.2.1, x54.2.2.2.2.2.2.2.2.2.2.2.2.2.2.2.2.2.2.2.2.1, x54.2.2.2.2.2.2.2.2.2.2.2.2.2.2.2.2.2.2.2.2.2.1, x54.2.2.2.2.2.2.2.2.2.2.2.2.2.2.2.2.2.2.2.2.2.2.1, x54.2.2.2.2.2.2.2.2.2.2.2.2.2.2.2.2.2.2.2.2.2.2.2.1, ()), (5 : Int), ()) w53)))
theorem ref20_Destroy.vc (p0_0 p0_1 p0_2 p0_3 p0_4 p0_5 : Int) (a0_6 : Option Addr) (n0_6 c0_6 : Nat) (a0_7 : Option Addr) (n0_7 c0_7 : Nat) (p0_8 : Bool) (p0_9 p0_10 p0_11 : Int) (p0_12 p0_13 p0_14 p0_15 p0_16 p0_17 p0_18 p0_19 p0_20 p0_21 p0_22 p0_23 : Bool) (p1 : Int) (w : World) (K : (Int × Int × Int × Int × Int × Int × SlV × SlV × Bool × Int × Int × Int × Bool × Bool × Bool × Bool × Bool × Bool × Bool × Bool × Bool × Bool × Bool × Bool × Unit) × Int × Unit → World → Prop) (h : ref20_Destroy.P p0_0 p0_1 p0_2 p0_3 p0_4 p0_5 a0_6 n0_6 c0_6 a0_7 n0_7 c0_7 p0_8 p0_9 p0_10 p0_11 p0_12 p0_13 p0_14 p0_15 p0_16 p0_17 p0_18 p0_19 p0_20 p0_21 p0_22 p0_23 p1 w K) : CallV Tryz.prog 124 #[.agg #[.int .i64 p0_0, .int .i64 p0_1, .int .i64 p0_2, .int .i64 p0_3, .int .i64 p0_4, .int .i64 p0_5, .slice a0_6 n0_6 c0_6, .slice a0_7 n0_7 c0_7, .bool p0_8, .int .i64 p0_9, .int .i64 p0_10, .int .u64 p0_11, .bool p0_12, .bool p0_13, .bool p0_14, .bool p0_15, .bool p0_16, .bool p0_17, .bool p0_18, .bool p0_19, .bool p0_20, .bool p0_21, .bool p0_22, .bool p0_23], .int .i64 p1] w [.agg [.int .i64, .int .i64, .int .i64, .int .i64, .int .i64, .int .i64, .sl, .sl, .bool, .int .i64, .int .i64, .int .u64, .bool, .bool, .bool, .bool, .bool, .bool, .bool, .bool, .bool, .bool, .bool, .bool], .one (.int .i64)] K := by
  refine vcFun.of (A := ref20_Destroy.A) (wr := false) okf_ok follows h Tryz.func124 ?_
  kernel_rfl
def ref20_write.A : Ann := .two .no (.two (.two .no (.one (.loop [7, 8, 9, 10, 11, 12, 13, 14, 15, 16, 17, 18, 19, 20, 21, 22, 23, 24, 25, 26, 27, 28, 29, 30, 31, 32, 33, 34, 35, 36, 37, 38, 39, 40, 41, 42, 43, 44, 45, 46, 47, 48, 49, 50, 51] [(8, .one (.int .i64))] .no))) .no)
def ref20_write.P (p0_0 p0_1 p0_2 p0_3 p0_4 p0_5 : Int) (a0_6 : Option Addr) (n0_6 c0_6 : Nat) (a0_7 : Option Addr) (n0_7 c0_7 : Nat) (p0_8 : Bool) (p0_9 p0_10 p0_11 : Int) (p0_12 p0_13 p0_14 p0_15 p0_16 p0_17 p0_18 p0_19 p0_20 p0_21 p0_22 p0_23 : Bool) (p1 : Int) (a2 : Option Addr) (n2 c2 : Nat) (w : World) (K : (Int × Int × Int × Int × Int × Int × SlV × SlV × Bool × Int × Int × Int × Bool × Bool × Bool × Bool × Bool × Bool × Bool × Bool × Bool × Bool × Bool × Bool × Unit) × Int × Unit → World → Prop) : Prop :=
  NewV #[.int .i64 p0_0, .int .i64 p0_1, .int .i64 p0_2, .int .i64 p0_3, .int .i64 p0_4, .int .i64 p0_5, .slice a0_6 n0_6 c0_6, .slice a0_7 n0_7 c0_7, .bool p0_8, .int .i64 p0_9, .int .i64 p0_10, .int .u64 p0_11, .bool p0_12, .bool p0_13, .bool p0_14, .bool p0_15, .bool p0_16, .bool p0_17, .bool p0_18, .bool p0_19, .bool p0_20, .bool p0_21, .bool p0_22, .bool p0_23] 77 w fun b1 w2 =>
  NewV #[.int .i64 0, .int .i64 0, .int .i64 0, .int .i64 0, .int .i64 0, .int .i64 0, .slice none 0 0, .slice none 0 0, .bool false, .int .i64 0, .int .i64 0, .int .u64 0, .bool false, .bool false, .bool false, .bool false, .bool false, .bool false, .bool false, .bool false, .bool false, .bool false, .bool false, .bool false] 77 w2 fun b3 w4 =>
  LoopV [.one (.int .i64)] ((0 : Int), ()) w4 fun (z5 : Int × Unit) w6 (K7 : Int × Unit → World → Prop) =>
  cond (decide (z5.1 ≤ ((n2 : Nat) : Int)))
  (Rng .i64 (((n2 : Nat) : Int) - 1) ∧
  NameI (min z5.1 (((n2 : Nat) : Int) - 1)) fun z8 =>
  NewV #[.int .i64 0, .int .i64 0] 160 w6 fun b9 w10 =>
  StoreV w10 ⟨b9, 0, none⟩ [.int .i64 p1, .int .i64 z8] fun w11 =>
  LoadA w11 ⟨b1, 0, none⟩ [.int .i64, .int .i64, .int .i64, .int .i64, .int .i64, .int .i64] fun (x12 : Int × Int × Int × Int × Int × Int × Unit) =>
  CallV Tryz.prog 95 #[.agg #[.int .i64 x12.1, .int .i64 x12.2.1, .int .i64 x12.2.2.1, .int .i64 x12.2.2.2.1, .int .i64 x12.2.2.2.2.1, .int .i64 x12.2.2.2.2.2.1]] w11 [.one .sl] fun (r13 : SlV × Unit) w14 =>
  cond (decide (z5.1 < ((n2 : Nat) : Int)))
  ((0 ≤ z5.1 ∧ z5.1 < ((n2 : Nat) : Int)) ∧ ∃ q15 : Addr, a2 = some q15 ∧
  LoadS w14 (q15.add (z5.1.toNat * 1)) .sl fun (x16 : SlV) =>
  LoadA w14 ⟨b1, 0, none⟩ [.int .i64, .int .i64, .int .i64, .int .i64, .int .i64, .int .i64, .sl, .sl, .bool, .int .i64] fun (x17 : Int × Int × Int × Int × Int × Int × SlV × SlV × Bool × Int × Unit) =>
  LoadA w14 ⟨b9, 0, none⟩ [.int .i64, .int .i64] fun (x18 : Int × Int × Unit) =>
  CallV Tryz.prog 94 #[.agg #[.int .i64 x17.1, .int .i64 x17.2.1, .int .i64 x17.2.2.1, .int .i64 x17.2.2.2.1, .int .i64 x17.2.2.2.2.1, .int .i64 x17.2.2.2.2.2.1, .slice x17.2.2.2.2.2.2.1.a x17.2.2.2.2.2.2.1.n x17.2.2.2.2.2.2.1.c, .slice x17.2.2.2.2.2.2.2.1.a x17.2.2.2.2.2.2.2.1.n x17.2.2.2.2.2.2.2.1.c, .bool x17.2.2.2.2.2.2.2.2.1, .int .i64 x17.2.2.2.2.2.2.2.2.2.1], .agg #[.int .i64 x18.1, .int .i64 x18.2.1], .slice x16.a x16.n x16.c] w14 [.agg [.int .i64, .int .i64, .int .i64, .int .i64, .int .i64, .int .i64, .sl, .sl, .bool, .int .i64], .one (.int .i64)] fun (r19 : (Int × Int × Int × Int × Int × Int × SlV × SlV × Bool × Int × Unit) × Int × Unit) w20 =>
  NewV #[.int .i64 0, .int .i64 0, .int .i64 0, .int .i64 0, .int .i64 0, .int .i64 0, .slice none 0 0, .slice none 0 0, .bool false, .int .i64 0] 34 w20 fun b21 w22 =>
  StoreV w22 ⟨b21, 0, none⟩ [.int .i64 r19.1.1, .int .i64 r19.1.2.1, .int .i64 r19.1.2.2.1, .int .i64 r19.1.2.2.2.1, .int .i64 r19.1.2.2.2.2.1, .int .i64 r19.1.2.2.2.2.2.1, .slice r19.1.2.2.2.2.2.2.1.a r19.1.2.2.2.2.2.2.1.n r19.1.2.2.2.2.2.2.1.c, .slice r19.1.2.2.2.2.2.2.2.1.a r19.1.2.2.2.2.2.2.2.1.n r19.1.2.2.2.2.2.2.2.1.c, .bool r19.1.2.2.2.2.2.2.2.2.1, .int .i64 r19.1.2.2.2.2.2.2.2.2.2.1] fun w23 =>
  LoadA w23 ⟨b21, 0, none⟩ [.int .i64, .int .i64, .int .i64, .int .i64, .int .i64, .int .i64, .sl, .sl, .bool, .int .i64] fun (x24 : Int × Int × Int × Int × Int × Int × SlV × SlV × Bool × Int × Unit) =>
  StoreV w23 ⟨b1, 0, none⟩ [.int .i64 x24.1, .int .i64 x24.2.1, .int .i64 x24.2.2.1, .int .i64 x24.2.2.2.1, .int .i64 x24.2.2.2.2.1, .int .i64 x24.2.2.2.2.2.1, .slice x24.2.2.2.2.2.2.1.a x24.2.2.2.2.2.2.1.n x24.2.2.2.2.2.2.1.c, .slice x24.2.2.2.2.2.2.2.1.a x24.2.2.2.2.2.2.2.1.n x24.2.2.2.2.2.2.2.1.c, .bool x24.2.2.2.2.2.2.2.2.1, .int .i64 x24.2.2.2.2.2.2.2.2.2.1] fun w25 =>
  cond (r19.2.1 != 0)
  (LoadA w25 ⟨b1, 0, none⟩ [.int .i64, .int .i64, .int .i64, .int .i64, .int .i64, .int .i64, .sl, .sl, .bool, .int .i64, .int .i64, .int .u64, .bool, .bool, .bool, .bool, .bool, .bool, .bool, .bool, .bool, .bool, .bool, .bool] fun (x26 : Int × Int × Int × Int × Int × Int × SlV × SlV × Bool × Int × Int × Int × Bool × Bool × Bool × Bool × Bool × Bool × Bool × Bool × Bool × Bool × Bool × Bool × Unit) =>
  StoreV w25 ⟨b3, 0, none⟩ [.int .i64 x26.1, .int .i64 x26.2.1, .int .i64 x26.2.2.1, .int .i64 x26.2.2.2.1, .int .i64 x26.2.2.2.2.1, .int .i64 x26.2.2.2.2.2.1, .slice x26.2.2.2.2.2.2.1.a x26.2.2.2.2.2.2.1.n x26.2.2.2.2.2.2.1.c, .slice x26.2.2.2.2.2.2.2.1.a x26.2.2.2.2.2.2.2.1.n x26.2.2.2.2.2.2.2.1.c, .bool x26.2.2.2.2.2.2.2.2.1, .int .i64 x26.2.2.2.2.2.2.2.2.2.1, .int .i64 x26.2.2.2.2.2.2.2.2.2.2.1, .int .u64 x26.2.2.2.2.2.2.2.2.2.2.2.1, .bool x26.2.2.2.2.2.2.2.2.2.2.2.2.1, .bool x26.2.2.2.2.2.2.2.2.2.2.2.2.2.1, .bool x26.2.2.2.2.2.2.2.2.2.2.2.2.2.2.1, .bool x26.2.2.2.2.2.2.2.2.2.2.2.2.2.2.2.1, .bool x26.2.2.2.2.2.2.2.2.2.2.2.2.2.2.2.2.1, .bool x26.2.2.2.2.2.2.2.2.2.2.2.2.2.2.2.2.2.1, .bool x26.2.2.2.2.2.2.2.2.2.2.2.2.2.2.2.2.2.2.1, .bool x26.2.2.2.2.2.2.2.2.2.2.2.2.2.2.2.2.2.2.2.1, .bool x26.2.2.2.2.2.2.2.2.2.2.2.2.2.2.2.2.2.2.2.2.1, .bool x26.2.2.2.2.2.2.2.2.2.2.2.2.2.2.2.2.2.2.2.2.2.1, .bool x26.2.2.2.2.2.2.2.2.2.2.2.2.2.2.2.2.2.2.2.2.2.2.1, .bool x26.2.2.2.2.2.2.2.2.2.2.2.2.2.2.2.2.2.2.2.2.2.2.2.1] fun w27 =>
  LoadA w27 ⟨b3, 0, none⟩ [.int .i64, .int .i64, .int .i64, .int .i64, .int .i64, .int .i64, .sl, .sl, .bool, .int .i64, .int .i64, .int .u64, .bool, .bool, .bool, .bool, .bool, .bool, .bool, .bool, .bool, .bool, .bool, .bool] fun (x28 : Int × Int × Int × Int × Int × Int × SlV × SlV × Bool × Int × Int × Int × Bool × Bool × Bool × Bool × Bool × Bool × Bool × Bool × Bool × Bool × Bool × Bool × Unit) =>
  K ((x28.1, x28.2.1, x28.2.2.1, x28.2.2.2.1, x28.2.2.2.2.1, x28.2.2.2.2.2.1, x28.2.2.2.2.2.2.1, x28.2.2.2.2.2.2.2.1, x28.2.2.2.2.2.2.2.2.1, x28.2.2.2.2.2.2.2.2.2.1, x28.2.2.2.2.2.2.2.2.2.2.1, x28.2.2.2.2.2.2.2.2.2.2.2.1, x28.2.2.2.2.2.2.2.2.2.2.2.2.1, x28.2.2.2.2.2.2.2.2.2.2.2.2.2.1, x28.2.2.2.2.2.2.2.2.2.2.2.2.2.2.1, x28.2.2.2.2.2.2.2.2.2.2.2.2.2.2.2.1, x28.2.2.2.2.2.2.2.2.2.2.2.2.2.2.2.2.1, x28.2.2.2.2.2.2.2.2.2.2.2.2.2.2.2.2.2.1, x28.2.2.2.2.2.2.2.2.2.2.2.2.2.2.2.2.2.2.1, x28.2.2.2.2.2.2.2.2.2.2.2.2.2.2.2.2.2.2.2.1, x28.2.2.2.2.2.2.2.2.2.2.2.2.2.2.2.2.2.2.2.2.1, x28.2.2.2.2.2.2.2.2.2.2.2.2.2.2.2.2.2.2.2.2.2.1, x28.2.2.2.2.2.2.2.2.2.2.2.2.2.2.2.2.2.2.2.2.2.2.1, x28.2.2.2.2.2.2.2.2.2.2.2.2.2.2.2.2.2.2.2.2.2.2.2.1, ()), r19.2.1, ()) w27)
  (Rng .i64 (z5.1 + 1) ∧
  K7 (z5.1 + 1, ()) w25))
  (LoadA w14 ⟨b1, 0, none⟩ [.int .i64, .int .i64, .int .i64, .int .i64, .int .i64, .int .i64, .sl, .sl, .bool, .int .i64] fun (x29 : Int × Int × Int × Int × Int × Int × SlV × SlV × Bool × Int × Unit) =>
  LoadA w14 ⟨b9, 0, none⟩ [.int .i64, .int .i64] fun (x30 : Int × Int × Unit) =>
  CallV Tryz.prog 94 #[.agg #[.int .i64 x29.1, .int .i64 x29.2.1, .int .i64 x29.2.2.1, .int .i64 x29.2.2.2.1, .int .i64 x29.2.2.2.2.1, .int .i64 x29.2.2.2.2.2.1, .slice x29.2.2.2.2.2.2.1.a x29.2.2.2.2.2.2.1.n x29.2.2.2.2.2.2.1.c, .slice x29.2.2.2.2.2.2.2.1.a x29.2.2.2.2.2.2.2.1.n x29.2.2.2.2.2.2.2.1.c, .bool x29.2.2.2.2.2.2.2.2.1, .int .i64 x29.2.2.2.2.2.2.2.2.2.1], .agg #[.int .i64 x30.1, .int .i64 x30.2.1], .slice r13.1.a r13.1.n r13.1.c] w14 [.agg [.int .i64, .int .i64, .int .i64, .int .i64, .int .i64, .int .i64, .sl, .sl, .bool, .int .i64], .one (.int .i64)] fun (r31 : (Int × Int × Int × Int × Int × Int × SlV × SlV × Bool × Int × Unit) × Int × Unit) w32 =>
  NewV #[.int .i64 0, .int .i64 0, .int .i64 0, .int .i64 0, .int .i64 0, .int .i64 0, .slice none 0 0, .slice none 0 0, .bool false, .int .i64 0] 34 w32 fun b33 w34 =>
  StoreV w34 ⟨b33, 0, none⟩ [.int .i64 r31.1.1, .int .i64 r31.1.2.1, .int .i64 r31.1.2.2.1, .int .i64 r31.1.2.2.2.1, .int .i64 r31.1.2.2.2.2.1, .int .i64 r31.1.2.2.2.2.2.1, .slice r31.1.2.2.2.2.2.2.1.a r31.1.2.2.2.2.2.2.1.n r31.1.2.2.2.2.2.2.1.c, .slice r31.1.2.2.2.2.2.2.2.1.a r31.1.2.2.2.2.2.2.2.1.n r31.1.2.2.2.2.2.2.2.1.c, .bool r31.1.2.2.2.2.2.2.2.2.1, .int .i64 r31.1.2.2.2.2.2.2.2.2.2.1] fun w35 =>
  LoadA w35 ⟨b33, 0, none⟩ [.int .i64, .int .i64, .int .i64, .int .i64, .int .i64, .int .i64, .sl, .sl, .bool, .int .i64] fun (x36 : Int × Int × Int × Int × Int × Int × SlV × SlV × Bool × Int × Unit) =>
  StoreV w35 ⟨b1, 0, none⟩ [.int .i64 x36.1, .int .i64 x36.2.1, .int .i64 x36.2.2.1, .int .i64 x36.2.2.2.1, .int .i64 x36.2.2.2.2.1, .int .i64 x36.2.2.2.2.2.1, .slice x36.2.2.2.2.2.2.1.a x36.2.2.2.2.2.2.1.n x36.2.2.2.2.2.2.1.c, .slice x36.2.2.2.2.2.2.2.1.a x36.2.2.2.2.2.2.2.1.n x36.2.2.2.2.2.2.2.1.c, .bool x36.2.2.2.2.2.2.2.2.1, .int .i64 x36.2.2.2.2.2.2.2.2.2.1] fun w37 =>
  cond (r31.2.1 != 0)
  (LoadA w37 ⟨b1, 0, none⟩ [.int .i64, .int .i64, .int .i64, .int .i64, .int .i64, .int .i64, .sl, .sl, .bool, .int .i64, .int .i64, .int .u64, .bool, .bool, .bool, .bool, .bool, .bool, .bool, .bool, .bool, .bool, .bool, .bool] fun (x38 : Int × Int × Int × Int × Int × Int × SlV × SlV × Bool × Int × Int × Int × Bool × Bool × Bool × Bool × Bool × Bool × Bool × Bool × Bool × Bool × Bool × Bool × Unit) =>
  StoreV w37 ⟨b3, 0, none⟩ [.int .i64 x38.1, .int .i64 x38.2.1, .int .i64 x38.2.2.1, .int .i64 x38.2.2.2.1, .int .i64 x38.2.2.2.2.1, .int .i64 x38.2.2.2.2.2.1, .slice x38.2.2.2.2.2.2.1.a x38.2.2.2.2.2.2.1.n x38.2.2.2.2.2.2.1.c, .slice x38.2.2.2.2.2.2.2.1.a x38.2.2.2.2.2.2.2.1.n x38.2.2.2.2.2.2.2.1.c, .bool x38.2.2.2.2.2.2.2.2.1, .int .i64 x38.2.2.2.2.2.2.2.2.2.1, .int .i64 x38.2.2.2.2.2.2.2.2.2.2.1, .int .u64 x38.2.2.2.2.2.2.2.2.2.2.2.1, .bool x38.2.2.2.2.2.2.2.2.2.2.2.2.1, .bool x38.2.2.2.2.2.2.2.2.2.2.2.2.2.1, .bool x38.2.2.2.2.2.2.2.2.2.2.2.2.2.2.1, .bool x38.2.2.2.2.2.2.2.2.2.2.2.2.2.2.2.1, .bool x38.2.2.2.2.2.2.2.2.2.2.2.2.2.2.2.2.1, .bool x38.2.2.2.2.2.2.2.2.2.2.2.2.2.2.2.2.2.1, .bool x38.2.2.2.2.2.2.2.2.2.2.2.2.2.2.2.2.2.2.1, .bool x38.2.2.2.2.2.2.2.2.2.2.2.2.2.2.2.2.2.2.2.1, .bool x38.2.2.2.2.2.2.2.2.2.2.2.2.2.2.2.2.2.2.2.2.1, .bool x38.2.2.2.2.2.2.2.2.2.2.2.2.2.2.2.2.2.2.2.2.2.1, .bool x38.2.2.2.2.2.2.2.2.2.2.2.2.2.2.2.2.2.2.2.2.2.2.1, .bool x38.2.2.2.2.2.2.2.2.2.2.2.2.2.2.2.2.2.2.2.2.2.2.2.1] fun w39 =>
  LoadA w39 ⟨b3, 0, none⟩ [.int .i64, .int .i64, .int .i64, .int .i64, .int .i64, .int .i64, .sl, .sl, .bool, .int .i64, .int .i64, .int .u64, .bool, .bool, .bool, .bool, .bool, .bool, .bool, .bool, .bool, .bool, .bool, .bool] fun (x40 : Int × Int × Int × Int × Int × Int × SlV × SlV × Bool × Int × Int × Int × Bool × Bool × Bool × Bool × Bool × Bool × Bool × Bool × Bool × Bool × Bool × Bool × Unit) =>
  K ((x40.1, x40.2.1, x40.2.2.1, x40.2.2.2.1, x40.2.2.2.2.1, x40.2.2.2.2.2.1, x40.2.2.2.2.2.2.1, x40.2.2.2.2.2.2.2.1, x40.2.2.2.2.2.2.2.2.1, x40.2.2.2.2.2.2.2.2.2.1, x40.2.2.2.2.2.2.2.2.2.2.1, x40.2.2.2.2.2.2.2.2.2.2.2.1, x40.2.2.2.2.2.2.2.2.2.2.2.2.1, x40.2.2.2.2.2.2.2.2.2.2.2.2.2.1, x40.2.2.2.2.2.2.2.2.2.2.2.2.2.2.1, x40.2.2.2.2.2.2.2.2.2.2.2.2.2.2.2.1, x40.2.2.2.2.2.2.2.2.2.2.2.2.2.2.2.2.1, x40.2.2.2.2.2.2.2.2.2.2.2.2.2.2.2.2.2.1, x40.2.2.2.2.2.2.2.2.2.2.2.2.2.2.2.2.2.2.1, x40.2.2.2.2.2.2.2.2.2.2.2.2.2.2.2.2.2.2.2.1, x40.2.2.2.2.2.2.2.2.2.2.2.2.2.2.2.2.2.2.2.2.1, x40.2.2.2.2.2.2.2.2.2.2.2.2.2.2.2.2.2.2.2.2.2.1, x40.2.2.2.2.2.2.2.2.2.2.2.2.2.2.2.2.2.2.2.2.2.2.1, x40.2.2.2.2.2.2.2.2.2.2.2.2.2.2.2.2.2.2.2.2.2.2.2.1, ()), r31.2.1, ()) w39)
  (Rng .i64 (z5.1 + 1) ∧
  K7 (z5.1 + 1, ()) w37)))
  (LoadA w6 ⟨b1, 0, none⟩ [.int .i64, .int .i64, .int .i64, .int .i64, .int .i64, .int .i64, .sl, .sl, .bool, .int .i64, .int .i64, .int .u64, .bool, .bool, .bool, .bool, .bool, .bool, .bool, .bool, .bool, .bool, .bool, .bool] fun (x41 : Int × Int × Int × Int × Int × Int × SlV × SlV × Bool × Int × Int × Int × Bool × Bool × Bool × Bool × Bool × Bool × Bool × Bool × Bool × Bool × Bool × Bool × Unit) =>
  StoreV w6 ⟨b3, 0, none⟩ [.int .i64 x41.1, .int .i64 x41.2.1, .int .i64 x41.2.2.1, .int .i64 x41.2.2.2.1, .int .i64 x41.2.2.2.2.1, .int .i64 x41.2.2.2.2.2.1, .slice x41.2.2.2.2.2.2.1.a x41.2.2.2.2.2.2.1.n x41.2.2.2.2.2.2.1.c, .slice x41.2.2.2.2.2.2.2.1.a x41.2.2.2.2.2.2.2.1.n x41.2.2.2.2.2.2.2.1.c, .bool x41.2.2.2.2.2.2.2.2.1, .int .i64 x41.2.2.2.2.2.2.2.2.2.1, .int .i64 x41.2.2.2.2.2.2.2.2.2.2.1, .int .u64 x41.2.2.2.2.2.2.2.2.2.2.2.1, .bool x41.2.2.2.2.2.2.2.2.2.2.2.2.1, .bool x41.2.2.2.2.2.2.2.2.2.2.2.2.2.1, .bool x41.2.2.2.2.2.2.2.2.2.2.2.2.2.2.1, .bool x41.2.2.2.2.2.2.2.2.2.2.2.2.2.2.2.1, .bool x41.2.2.2.2.2.2.2.2.2.2.2.2.2.2.2.2.1, .bool x41.2.2.2.2.2.2.2.2.2.2.2.2.2.2.2.2.2.1, .bool x41.2.2.2.2.2.2.2.2.2.2.2.2.2.2.2.2.2.2.1, .bool x41.2.2.2.2.2.2.2.2.2.2.2.2.2.2.2.2.2.2.2.1, .bool x41.2.2.2.2.2.2.2.2.2.2.2.2.2.2.2.2.2.2.2.2.1, .bool x41.2.2.2.2.2.2.2.2.2.2.2.2.2.2.2.2.2.2.2.2.2.1, .bool x41.2.2.2.2.2.2.2.2.2.2.2.2.2.2.2.2.2.2.2.2.2.2.1, .bool x41.2.2.2.2.2.2.2.2.2.2.2.2.2.2.2.2.2.2.2.2.2.2.2.1] fun w42 =>
  LoadA w42 ⟨b3, 0, none⟩ [.int .i64, .int .i64, .int .i64, .int .i64, .int .i64, .int .i64, .sl, .sl, .bool, .int .i64, .int .i64, .int .u64, .bool, .bool, .bool, .bool, .bool, .bool, .bool, .bool, .bool, .bool, .bool, .bool] fun (x43 : Int × Int × Int × Int × Int × Int × SlV × SlV × Bool × Int × Int × Int × Bool × Bool × Bool × Bool × Bool × Bool × Bool × Bool × Bool × Bool × Bool × Bool × Unit) =>
  K ((x43.1, x43.2.1, x43.2.2.1, x43.2.2.2.1, x43.2.2.2.2.1, x43.2.2.2.2.2.1, x43.2.2.2.2.2.2.1, x43.2.2.2.2.2.2.2.1, x43.2.2.2.2.2.2.2.2.1, x43.2.2.2.2.2.2.2.2.2.1, x43.2.2.2.2.2.2.2.2.2.2.1, x43.2.2.2.2.2.2.2.2.2.2.2.1, x43.2.2.2.2.2.2.2.2.2.2.2.2.1, x43.2.2.2.2.2.2.2.2.2.2.2.2.2.1, x43.2.2.2.2.2.2.2.2.2.2.2.2.2.2.1, x43.2.2.2.2.2.2.2.2.2.2.2.2.2.2.2.1, x43.2.2.2.2.2.2.2.2.2.2.2.2.2.2.2.2.1, x43.2.2.2.2.2.2.2.2.2.2.2.2.2.2.2.2.2.1, x43.2.2.2.2.2.2.2.2.2.2.2.2.2.2.2.2.2.2.1, x43.2.2.2.2.2.2.2.2.2.2.2.2.2.2.2.2.2.2.2.1, x43.2.2.2.2.2.2.2.2.2.2.2.2.2.2.2.2.2.2.2.2.1, x43.2.2.2.2.2.2.2.2.2.2.2.2.2.2.2.2.2.2.2.2.2.1, x43.2.2.2.2.2.2.2.2.2.2.2.2.2.2.2.2.2.2.2.2.2.2.1, x43.2.2.2.2.2.2.2.2.2.2.2.2.2.2.2.2.2.2.2.2.2.2.2.1, ()), (0 : Int), ()) w42)
theorem ref20_write.vc (p0_0 p0_1 p0_2 p0_3 p0_4 p0_5 : Int) (a0_6 : Option Addr) (n0_6 c0_6 : Nat) (a0_7 : Option Addr) (n0_7 c0_7 : Nat) (p0_8 : Bool) (p0_9 p0_10 p0_11 : Int) (p0_12 p0_13 p0_14 p0_15 p0_16 p0_17 p0_18 p0_19 p0_20 p0_21 p0_22 p0_23 : Bool) (p1 : Int) (a2 : Option Addr) (n2 c2 : Nat) (w : World) (K : (Int × Int × Int × Int × Int × Int × SlV × SlV × Bool × Int × Int × Int × Bool × Bool × Bool × Bool × Bool × Bool × Bool × Bool × Bool × Bool × Bool × Bool × Unit) × Int × Unit → World → Prop) (h : ref20_write.P p0_0 p0_1 p0_2 p0_3 p0_4 p0_5 a0_6 n0_6 c0_6 a0_7 n0_7 c0_7 p0_8 p0_9 p0_10 p0_11 p0_12 p0_13 p0_14 p0_15 p0_16 p0_17 p0_18 p0_19 p0_20 p0_21 p0_22 p0_23 p1 a2 n2 c2 w K) : CallV Tryz.prog 125 #[.agg #[.int .i64 p0_0, .int .i64 p0_1, .int .i64 p0_2, .int .i64 p0_3, .int .i64 p0_4, .int .i64 p0_5, .slice a0_6 n0_6 c0_6, .slice a0_7 n0_7 c0_7, .bool p0_8, .int .i64 p0_9, .int .i64 p0_10, .int .u64 p0_11, .bool p0_12, .bool p0_13, .bool p0_14, .bool p0_15, .bool p0_16, .bool p0_17, .bool p0_18, .bool p0_19, .bool p0_20, .bool p0_21, .bool p0_22, .bool p0_23], .int .i64 p1, .slice a2 n2 c2] w [.agg [.int .i64, .int .i64, .int .i64, .int .i64, .int .i64, .int .i64, .sl, .sl, .bool, .int .i64, .int .i64, .int .u64, .bool, .bool, .bool, .bool, .bool, .bool, .bool, .bool, .bool, .bool, .bool, .bool], .one (.int .i64)] K := by
  refine vcFun.of (A := ref20_write.A) (wr := false) okf_ok follows h Tryz.func125 ?_
  kernel_rfl
def ref20_try.A : Ann := .no
def ref20_try.P (p0_0 p0_1 p0_2 p0_3 p0_4 p0_5 : Int) (a0_6 : Option Addr) (n0_6 c0_6 : Nat) (a0_7 : Option Addr) (n0_7 c0_7 : Nat) (p0_8 : Bool) (p0_9 p0_10 p0_11 : Int) (p0_12 p0_13 p0_14 p0_15 p0_16 p0_17 p0_18 p0_19 p0_20 p0_21 p0_22 p0_23 : Bool) (p1 : Int) (a2 : Option Addr) (n2 c2 : Nat) (w : World) (K : (Int × Int × Int × Int × Int × Int × SlV × SlV × Bool × Int × Int × Int × Bool × Bool × Bool × Bool × Bool × Bool × Bool × Bool × Bool × Bool × Bool × Bool × Unit) × Int × Unit → World → Prop) : Prop :=
  NewV #[.int .i64 p0_0, .int .i64 p0_1, .int .i64 p0_2, .int .i64 p0_3, .int .i64 p0_4, .int .i64 p0_5, .slice a0_6 n0_6 c0_6, .slice a0_7 n0_7 c0_7, .bool p0_8, .int .i64 p0_9, .int .i64 p0_10, .int .u64 p0_11, .bool p0_12, .bool p0_13, .bool p0_14, .bool p0_15, .bool p0_16, .bool p0_17, .bool p0_18, .bool p0_19, .bool p0_20, .bool p0_21, .bool p0_22, .bool p0_23] 77 w fun b1 w2 =>
  NewV #[.int .i64 0, .int .i64 0, .int .i64 0, .int .i64 0, .int .i64 0, .int .i64 0, .slice none 0 0, .slice none 0 0, .bool false, .int .i64 0, .int .i64 0, .int .u64 0, .bool false, .bool false, .bool false, .bool false, .bool false, .bool false, .bool false, .bool false, .bool false, .bool false, .bool false, .bool false] 77 w2 fun b3 w4 =>
  (0 ≤ p1 ∧ p1 < (4 : Int)) ∧
  LoadS w4 ((⟨b1, 12, none⟩ : Addr).add (p1.toNat * 1)) .bool fun (x5 : Bool) =>
  cond (!x5)
  (LoadA w4 ⟨b1, 0, none⟩ [.int .i64, .int .i64, .int .i64, .int .i64, .int .i64, .int .i64, .sl, .sl, .bool, .int .i64, .int .i64, .int .u64, .bool, .bool, .bool, .bool, .bool, .bool, .bool, .bool, .bool, .bool, .bool, .bool] fun (x6 : Int × Int × Int × Int × Int × Int × SlV × SlV × Bool × Int × Int × Int × Bool × Bool × Bool × Bool × Bool × Bool × Bool × Bool × Bool × Bool × Bool × Bool × Unit) =>
  CallV Tryz.prog 124 #[.agg #[.int .i64 x6.1, .int .i64 x6.2.1, .int .i64 x6.2.2.1, .int .i64 x6.2.2.2.1, .int .i64 x6.2.2.2.2.1, .int .i64 x6.2.2.2.2.2.1, .slice x6.2.2.2.2.2.2.1.a x6.2.2.2.2.2.2.1.n x6.2.2.2.2.2.2.1.c, .slice x6.2.2.2.2.2.2.2.1.a x6.2.2.2.2.2.2.2.1.n x6.2.2.2.2.2.2.2.1.c, .bool x6.2.2.2.2.2.2.2.2.1, .int .i64 x6.2.2.2.2.2.2.2.2.2.1, .int .i64 x6.2.2.2.2.2.2.2.2.2.2.1, .int .u64 x6.2.2.2.2.2.2.2.2.2.2.2.1, .bool x6.2.2.2.2.2.2.2.2.2.2.2.2.1, .bool x6.2.2.2.2.2.2.2.2.2.2.2.2.2.1, .bool x6.2.2.2.2.2.2.2.2.2.2.2.2.2.2.1, .bool x6.2.2.2.2.2.2.2.2.2.2.2.2.2.2.2.1, .bool x6.2.2.2.2.2.2.2.2.2.2.2.2.2.2.2.2.1, .bool x6.2.2.2.2.2.2.2.2.2.2.2.2.2.2.2.2.2.1, .bool x6.2.2.2.2.2.2.2.2.2.2.2.2.2.2.2.2.2.2.1, .bool x6.2.2.2.2.2.2.2.2.2.2.2.2.2.2.2.2.2.2.2.1, .bool x6.2.2.2.2.2.2.2.2.2.2.2.2.2.2.2.2.2.2.2.2.1, .bool x6.2.2.2.2.2.2.2.2.2.2.2.2.2.2.2.2.2.2.2.2.2.1, .bool x6.2.2.2.2.2.2.2.2.2.2.2.2.2.2.2.2.2.2.2.2.2.2.1, .bool x6.2.2.2.2.2.2.2.2.2.2.2.2.2.2.2.2.2.2.2.2.2.2.2.1], .int .i64 p1] w4 [.agg [.int .i64, .int .i64, .int .i64, .int .i64, .int .i64, .int .i64, .sl, .sl, .bool, .int .i64, .int .i64, .int .u64, .bool, .bool, .bool, .bool, .bool, .bool, .bool, .bool, .bool, .bool, .bool, .bool], .one (.int .i64)] fun (r7 : (Int × Int × Int × Int × Int × Int × SlV × SlV × Bool × Int × Int × Int × Bool × Bool × Bool × Bool × Bool × Bool × Bool × Bool × Bool × Bool × Bool × Bool × Unit) × Int × Unit) w8 =>
  NewV #[.int .i64 0, .int .i64 0, .int .i64 0, .int .i64 0, .int .i64 0, .int .i64 0, .slice none 0 0, .slice none 0 0, .bool false, .int .i64 0, .int .i64 0, .int .u64 0, .bool false, .bool false, .bool false, .bool false, .bool false, .bool false, .bool false, .bool false, .bool false, .bool false, .bool false, .bool false] 77 w8 fun b9 w10 =>
  StoreV w10 ⟨b9, 0, none⟩ [.int .i64 r7.1.1, .int .i64 r7.1.2.1, .int .i64 r7.1.2.2.1, .int .i64 r7.1.2.2.2.1, .int .i64 r7.1.2.2.2.2.1, .int .i64 r7.1.2.2.2.2.2.1, .slice r7.1.2.2.2.2.2.2.1.a r7.1.2.2.2.2.2.2.1.n r7.1.2.2.2.2.2.2.1.c, .slice r7.1.2.2.2.2.2.2.2.1.a r7.1.2.2.2.2.2.2.2.1.n r7.1.2.2.2.2.2.2.2.1.c, .bool r7.1.2.2.2.2.2.2.2.2.1, .int .i64 r7.1.2.2.2.2.2.2.2.2.2.1, .int .i64 r7.1.2.2.2.2.2.2.2.2.2.2.1, .int .u64 r7.1.2.2.2.2.2.2.2.2.2.2.2.1, .bool r7.1.2.2.2.2.2.2.2.2.2.2.2.2.1, .bool r7.1.2.2.2.2.2.2.2.2.2.2.2.2.2.1, .bool r7.1.2.2.2.2.2.2.2.2.2.2.2.2.2.2.1, .bool r7.1.2.2.2.2.2.2.2.2.2.2.2.2.2.2.2.1, .bool r7.1.2.2.2.2.2.2.2.2.2.2.2.2.2.2.2.2.1, .bool r7.1.2.2.2.2.2.2.2.2.2.2.2.2.2.2.2.2.2.1, .bool r7.1.2.2.2.2.2.2.2.2.2.2.2.2.2.2.2.2.2.2.1, .bool r7.1.2.2.2.2.2.2.2.2.2.2.2.2.2.2.2.2.2.2.2.1, .bool r7.1.2.2.2.2.2.2.2.2.2.2.2.2.2.2.2.2.2.2.2.2.1, .bool r7.1.2.2.2.2.2.2.2.2.2.2.2.2.2.2.2.2.2.2.2.2.2.1, .bool r7.1.2.2.2.2.2.2.2.2.2.2.2.2.2.2.2.2.2.2.2.2.2.2.1, .bool r7.1.2.2.2.2.2.2.2.2.2.2.2.2.2.2.2.2.2.2.2.2.2.2.2.1] fun w11 =>
  LoadA w11 ⟨b9, 0, none⟩ [.int .i64, .int .i64, .int .i64, .int .i64, .int .i64, .int .i64, .sl, .sl, .bool, .int .i64, .int .i64, .int .u64, .bool, .bool, .bool, .bool, .bool, .bool, .bool, .bool, .bool, .bool, .bool, .bool] fun (x12 : Int × Int × Int × Int × Int × Int × SlV × SlV × Bool × Int × Int × Int × Bool × Bool × Bool × Bool × Bool × Bool × Bool × Bool × Bool × Bool × Bool × Bool × Unit) =>
  StoreV w11 ⟨b1, 0, none⟩ [.int .i64 x12.1, .int .i64 x12.2.1, .int .i64 x12.2.2.1, .int .i64 x12.2.2.2.1, .int .i64 x12.2.2.2.2.1, .int .i64 x12.2.2.2.2.2.1, .slice x12.2.2.2.2.2.2.1.a x12.2.2.2.2.2.2.1.n x12.2.2.2.2.2.2.1.c, .slice x12.2.2.2.2.2.2.2.1.a x12.2.2.2.2.2.2.2.1.n x12.2.2.2.2.2.2.2.1.c, .bool x12.2.2.2.2.2.2.2.2.1, .int .i64 x12.2.2.2.2.2.2.2.2.2.1, .int .i64 x12.2.2.2.2.2.2.2.2.2.2.1, .int .u64 x12.2.2.2.2.2.2.2.2.2.2.2.1, .bool x12.2.2.2.2.2.2.2.2.2.2.2.2.1, .bool x12.2.2.2.2.2.2.2.2.2.2.2.2.2.1, .bool x12.2.2.2.2.2.2.2.2.2.2.2.2.2.2.1, .bool x12.2.2.2.2.2.2.2.2.2.2.2.2.2.2.2.1, .bool x12.2.2.2.2.2.2.2.2.2.2.2.2.2.2.2.2.1, .bool x12.2.2.2.2.2.2.2.2.2.2.2.2.2.2.2.2.2.1, .bool x12.2.2.2.2.2.2.2.2.2.2.2.2.2.2.2.2.2.2.1, .bool x12.2.2.2.2.2.2.2.2.2.2.2.2.2.2.2.2.2.2.2.1, .bool x12.2.2.2.2.2.2.2.2.2.2.2.2.2.2.2.2.2.2.2.2.1, .bool x12.2.2.2.2.2.2.2.2.2.2.2.2.2.2.2.2.2.2.2.2.2.1, .bool x12.2.2.2.2.2.2.2.2.2.2.2.2.2.2.2.2.2.2.2.2.2.2.1, .bool x12.2.2.2.2.2.2.2.2.2.2.2.2.2.2.2.2.2.2.2.2.2.2.2.1] fun w13 =>
  cond (r7.2.1 != 0)
  (LoadA w13 ⟨b1, 0, none⟩ [.int .i64, .int .i64, .int .i64, .int .i64, .int .i64, .int .i64, .sl, .sl, .bool, .int .i64, .int .i64, .int .u64, .bool, .bool, .bool, .bool, .bool, .bool, .bool, .bool, .bool, .bool, .bool, .bool] fun (x14 : Int × Int × Int × Int × Int × Int × SlV × SlV × Bool × Int × Int × Int × Bool × Bool × Bool × Bool × Bool × Bool × Bool × Bool × Bool × Bool × Bool × Bool × Unit) =>
  StoreV w13 ⟨b3, 0, none⟩ [.int .i64 x14.1, .int .i64 x14.2.1, .int .i64 x14.2.2.1, .int .i64 x14.2.2.2.1, .int .i64 x14.2.2.2.2.1, .int .i64 x14.2.2.2.2.2.1, .slice x14.2.2.2.2.2.2.1.a x14.2.2.2.2.2.2.1.n x14.2.2.2.2.2.2.1.c, .slice x14.2.2.2.2.2.2.2.1.a x14.2.2.2.2.2.2.2.1.n x14.2.2.2.2.2.2.2.1.c, .bool x14.2.2.2.2.2.2.2.2.1, .int .i64 x14.2.2.2.2.2.2.2.2.2.1, .int .i64 x14.2.2.2.2.2.2.2.2.2.2.1, .int .u64 x14.2.2.2.2.2.2.2.2.2.2.2.1, .bool x14.2.2.2.2.2.2.2.2.2.2.2.2.1, .bool x14.2.2.2.2.2.2.2.2.2.2.2.2.2.1, .bool x14.2.2.2.2.2.2.2.2.2.2.2.2.2.2.1, .bool x14.2.2.2.2.2.2.2.2.2.2.2.2.2.2.2.1, .bool x14.2.2.2.2.2.2.2.2.2.2.2.2.2.2.2.2.1, .bool x14.2.2.2.2.2.2.2.2.2.2.2.2.2.2.2.2.2.1, .bool x14.2.2.2.2.2.2.2.2.2.2.2.2.2.2.2.2.2.2.1, .bool x14.2.2.2.2.2.2.2.2.2.2.2.2.2.2.2.2.2.2.2.1, .bool x14.2.2.2.2.2.2.2.2.2.2.2.2.2.2.2.2.2.2.2.2.1, .bool x14.2.2.2.2.2.2.2.2.2.2.2.2.2.2.2.2.2.2.2.2.2.1, .bool x14.2.2.2.2.2.2.2.2.2.2.2.2.2.2.2.2.2.2.2.2.2.2.1, .bool x14.2.2.2.2.2.2.2.2.2.2.2.2.2.2.2.2.2.2.2.2.2.2.2.1] fun w15 =>
  LoadA w15 ⟨b3, 0, none⟩ [.int .i64, .int .i64, .int .i64, .int .i64, .int .i64, .int .i64, .sl, .sl, .bool, .int .i64, .int .i64, .int .u64, .bool, .bool, .bool, .bool, .bool, .bool, .bool, .bool, .bool, .bool, .bool, .bool] fun (x16 : Int × Int × Int × Int × Int × Int × SlV × SlV × Bool × Int × Int × Int × Bool × Bool × Bool × Bool × Bool × Bool × Bool × Bool × Bool × Bool × Bool × Bool × Unit) =>
  K ((x16.1, x16.2.1, x16.2.2.1, x16.2.2.2.1, x16.2.2.2.2.1, x16.2.2.2.2.2.1, x16.2.2.2.2.2.2.1, x16.2.2.2.2.2.2.2.1, x16.2.2.2.2.2.2.2.2.1, x16.2.2.2.2.2.2.2.2.2.1, x16.2.2.2.2.2.2.2.2.2.2.1, x16.2.2.2.2.2.2.2.2.2.2.2.1, x16.2.2.2.2.2.2.2.2.2.2.2.2.1, x16.2.2.2.2.2.2.2.2.2.2.2.2.2.1, x16.2.2.2.2.2.2.2.2.2.2.2.2.2.2.1, x16.2.2.2.2.2.2.2.2.2.2.2.2.2.2.2.1, x16.2.2.2.2.2.2.2.2.2.2.2.2.2.2.2.2.1, x16.2.2.2.2.2.2.2.2.2.2.2.2.2.2.2.2.2.1, x16.2.2.2.2.2.2.2.2.2.2.2.2.2.2.2.2.2.2.1, x16.2.2.2.2.2.2.2.2.2.2.2.2.2.2.2.2.2.2.2.1, x16.2.2.2.2.2.2.2.2.2.2.2.2.2.2.2.2.2.2.2.2.1, x16.2.2.2.2.2.2.2.2.2.2.2.2.2.2.2.2.2.2.2.2.2.1, x16.2.2.2.2.2.2.2.2.2.2.2.2.2.2.2.2.2.2.2.2.2.2.1, x16.2.2.2.2.2.2.2.2.2.2.2.2.2.2.2.2.2.2.2.2.2.2.2.1, ()), r7.2.1, ()) w15)
  ((0 ≤ p1 ∧ p1 < (4 : Int)) ∧
  StoreV w13 ((⟨b1, 12, none⟩ : Addr).add (p1.toNat * 1)) [.bool false] fun w17 =>
  LoadA w17 ⟨b1, 0, none⟩ [.int .i64, .int .i64, .int .i64, .int .i64, .int .i64, .int .i64, .sl, .sl, .bool, .int .i64, .int .i64, .int .u64, .bool, .bool, .bool, .bool, .bool, .bool, .bool, .bool, .bool, .bool, .bool, .bool] fun (x18 : Int × Int × Int × Int × Int × Int × SlV × SlV × Bool × Int × Int × Int × Bool × Bool × Bool × Bool × Bool × Bool × Bool × Bool × Bool × Bool × Bool × Bool × Unit) =>
  CallV Tryz.prog 125 #[.agg #[.int .i64 x18.1, .int .i64 x18.2.1, .int .i64 x18.2.2.1, .int .i64 x18.2.2.2.1, .int .i64 x18.2.2.2.2.1, .int .i64 x18.2.2.2.2.2.1, .slice x18.2.2.2.2.2.2.1.a x18.2.2.2.2.2.2.1.n x18.2.2.2.2.2.2.1.c, .slice x18.2.2.2.2.2.2.2.1.a x18.2.2.2.2.2.2.2.1.n x18.2.2.2.2.2.2.2.1.c, .bool x18.2.2.2.2.2.2.2.2.1, .int .i64 x18.2.2.2.2.2.2.2.2.2.1, .int .i64 x18.2.2.2.2.2.2.2.2.2.2.1, .int .u64 x18.2.2.2.2.2.2.2.2.2.2.2.1, .bool x18.2.2.2.2.2.2.2.2.2.2.2.2.1, .bool x18.2.2.2.2.2.2.2.2.2.2.2.2.2.1, .bool x18.2.2.2.2.2.2.2.2.2.2.2.2.2.2.1, .bool x18.2.2.2.2.2.2.2.2.2.2.2.2.2.2.2.1, .bool x18.2.2.2.2.2.2.2.2.2.2.2.2.2.2.2.2.1, .bool x18.2.2.2.2.2.2.2.2.2.2.2.2.2.2.2.2.2.1, .bool x18.2.2.2.2.2.2.2.2.2.2.2.2.2.2.2.2.2.2.1, .bool x18.2.2.2.2.2.2.2.2.2.2.2.2.2.2.2.2.2.2.2.1, .bool x18.2.2.2.2.2.2.2.2.2.2.2.2.2.2.2.2.2.2.2.2.1, .bool x18.2.2.2.2.2.2.2.2.2.2.2.2.2.2.2.2.2.2.2.2.2.1, .bool x18.2.2.2.2.2.2.2.2.2.2.2.2.2.2.2.2.2.2.2.2.2.2.1, .bool x18.2.2.2.2.2.2.2.2.2.2.2.2.2.2.2.2.2.2.2.2.2.2.2.1], .int .i64 p1, .slice a2 n2 c2] w17 [.agg [.int .i64, .int .i64, .int .i64, .int .i64, .int .i64, .int .i64, .sl, .sl, .bool, .int .i64, .int .i64, .int .u64, .bool, .bool, .bool, .bool, .bool, .bool, .bool, .bool, .bool, .bool, .bool, .bool], .one (.int .i64)] fun (r19 : (Int × Int × Int × Int × Int × Int × SlV × SlV × Bool × Int × Int × Int × Bool × Bool × Bool × Bool × Bool × Bool × Bool × Bool × Bool × Bool × Bool × Bool × Unit) × Int × Unit) w20 =>
  NewV #[.int .i64 0, .int .i64 0, .int .i64 0, .int .i64 0, .int .i64 0, .int .i64 0, .slice none 0 0, .slice none 0 0, .bool false, .int .i64 0, .int .i64 0, .int .u64 0, .bool false, .bool false, .bool false, .bool false, .bool false, .bool false, .bool false, .bool false, .bool false, .bool false, .bool false, .bool false] 77 w20 fun b21 w22 =>
  StoreV w22 ⟨b21, 0, none⟩ [.int .i64 r19.1.1, .int .i64 r19.1.2.1, .int .i64 r19.1.2.2.1, .int .i64 r19.1.2.2.2.1, .int .i64 r19.1.2.2.2.2.1, .int .i64 r19.1.2.2.2.2.2.1, .slice r19.1.2.2.2.2.2.2.1.a r19.1.2.2.2.2.2.2.1.n r19.1.2.2.2.2.2.2.1.c, .slice r19.1.2.2.2.2.2.2.2.1.a r19.1.2.2.2.2.2.2.2.1.n r19.1.2.2.2.2.2.2.2.1.c, .bool r19.1.2.2.2.2.2.2.2.2.1, .int .i64 r19.1.2.2.2.2.2.2.2.2.2.1, .int .i64 r19.1.2.2.2.2.2.2.2.2.2.2.1, .int .u64 r19.1.2.2.2.2.2.2.2.2.2.2.2.1, .bool r19.1.2.2.2.2.2.2.2.2.2.2.2.2.1, .bool r19.1.2.2.2.2.2.2.2.2.2.2.2.2.2.1, .bool r19.1.2.2.2.2.2.2.2.2.2.2.2.2.2.2.1, .bool r19.1.2.2.2.2.2.2.2.2.2.2.2.2.2.2.2.1, .bool r19.1.2.2.2.2.2.2.2.2.2.2.2.2.2.2.2.2.1, .bool r19.1.2.2.2.2.2.2.2.2.2.2.2.2.2.2.2.2.2.1, .bool r19.1.2.2.2.2.2.2.2.2.2.2.2.2.2.2.2.2.2.2.1, .bool r19.1.2.2.2.2.2.2.2.2.2.2.2.2.2.2.2.2.2.2.2.1, .bool r19.1.2.2.2.2.2.2.2.2.2.2.2.2.2.2.2.2.2.2.2.2.1, .bool r19.1.2.2.2.2.2.2.2.2.2.2.2.2.2.2.2.2.2.2.2.2.2.1, .bool r19.1.2.2.2.2.2.2.2.2.2.2.2.2.2.2.2.2.2.2.2.2.2.2.1, .bool r19.1.2.2.2.2.2.2.2.2.2.2.2.2.2.2.2.2.2.2.2.2.2.2.2.1] fun w23 =>
  cond (r19.2.1 == 0)
  (LoadA w23 ⟨b21, 0, none⟩ [.int .i64, .int .i64, .int .i64, .int .i64, .int .i64, .int .i64, .sl, .sl, .bool, .int .i64, .int .i64, .int .u64, .bool, .bool, .bool, .bool, .bool, .bool, .bool, .bool, .bool, .bool, .bool, .bool] fun (x24 : Int × Int × Int × Int × Int × Int × SlV × SlV × Bool × Int × Int × Int × Bool × Bool × Bool × Bool × Bool × Bool × Bool × Bool × Bool × Bool × Bool × Bool × Unit) =>
  StoreV w23 ⟨b3, 0, none⟩ [.int .i64 x24.1, .int .i64 x24.2.1, .int .i64 x24.2.2.1, .int .i64 x24.2.2.2.1, .int .i64 x24.2.2.2.2.1, .int .i64 x24.2.2.2.2.2.1, .slice x24.2.2.2.2.2.2.1.a x24.2.2.2.2.2.2.1.n x24.2.2.2.2.2.2.1.c, .slice x24.2.2.2.2.2.2.2.1.a x24.2.2.2.2.2.2.2.1.n x24.2.2.2.2.2.2.2.1.c, .bool x24.2.2.2.2.2.2.2.2.1, .int .i64 x24.2.2.2.2.2.2.2.2.2.1, .int .i64 x24.2.2.2.2.2.2.2.2.2.2.1, .int .u64 x24.2.2.2.2.2.2.2.2.2.2.2.1, .bool x24.2.2.2.2.2.2.2.2.2.2.2.2.1, .bool x24.2.2.2.2.2.2.2.2.2.2.2.2.2.1, .bool x24.2.2.2.2.2.2.2.2.2.2.2.2.2.2.1, .bool x24.2.2.2.2.2.2.2.2.2.2.2.2.2.2.2.1, .bool x24.2.2.2.2.2.2.2.2.2.2.2.2.2.2.2.2.1, .bool x24.2.2.2.2.2.2.2.2.2.2.2.2.2.2.2.2.2.1, .bool x24.2.2.2.2.2.2.2.2.2.2.2.2.2.2.2.2.2.2.1, .bool x24.2.2.2.2.2.2.2.2.2.2.2.2.2.2.2.2.2.2.2.1, .bool x24.2.2.2.2.2.2.2.2.2.2.2.2.2.2.2.2.2.2.2.2.1, .bool x24.2.2.2.2.2.2.2.2.2.2.2.2.2.2.2.2.2.2.2.2.2.1, .bool x24.2.2.2.2.2.2.2.2.2.2.2.2.2.2.2.2.2.2.2.2.2.2.1, .bool x24.2.2.2.2.2.2.2.2.2.2.2.2.2.2.2.2.2.2.2.2.2.2.2.1] fun w25 =>
  LoadA w25 ⟨b3, 0, none⟩ [.int .i64, .int .i64, .int .i64, .int .i64, .int .i64, .int .i64, .sl, .sl, .bool, .int .i64, .int .i64, .int .u64, .bool, .bool, .bool, .bool, .bool, .bool, .bool, .bool, .bool, .bool, .bool, .bool] fun (x26 : Int × Int × Int × Int × Int × Int × SlV × SlV × Bool × Int × Int × Int × Bool × Bool × Bool × Bool × Bool × Bool × Bool × Bool × Bool × Bool × Bool × Bool × Unit) =>
  K ((x26.1, x26.2.1, x26.2.2.1, x26.2.2.2.1, x26.2.2.2.2.1, x26.2.2.2.2.2.1, x26.2.2.2.2.2.2.1, x26.2.2.2.2.2.2.2.1, x26.2.2.2.2.2.2.2.2.1, x26.2.2.2.2.2.2.2.2.2.1, x26.2.2.2.2.2.2.2.2.2.2.1, x26.2.2.2.2.2.2.2.2.2.2.2.1, x26.2.2.2.2.2.2.2.2.2.2.2.2.1, x26.2.2.2.2.2.2.2.2.2.2.2.2.2.1, x26.2.2.2.2.2.2.2.2.2.2.2.2.2.2.1, x26.2.2.2.2.2.2.2.2.2.2.2.2.2.2.2.1, x26.2.2.2.2.2.2.2.2.2.2.2.2.2.2.2.2.1, x26.2.2.2.2.2.2.2.2.2.2.2.2.2.2.2.2.2.1, x26.2.2.2.2.2.2.2.2.2.2.2.2.2.2.2.2.2.2.1, x26.2.2.2.2.2.2.2.2.2.2.2.2.2.2.2.2.2.2.2.1, x26.2.2.2.2.2.2.2.2.2.2.2.2.2.2.2.2.2.2.2.2.1, x26.2.2.2.2.2.2.2.2.2.2.2.2.2.2.2.2.2.2.2.2.2.1, x26.2.2.2.2.2.2.2.2.2.2.2.2.2.2.2.2.2.2.2.2.2.2.1, x26.2.2.2.2.2.2.2.2.2.2.2.2.2.2.2.2.2.2.2.2.2.2.2.1, ()), r19.2.1, ()) w25)
  (cond (r19.2.1 == 4)
  (LoadA w23 ⟨b21, 0, none⟩ [.int .i64, .int .i64, .int .i64, .int .i64, .int .i64, .int .i64, .sl, .sl, .bool, .int .i64, .int .i64, .int .u64, .bool, .bool, .bool, .bool, .bool, .bool, .bool, .bool, .bool, .bool, .bool, .bool] fun (x27 : Int × Int × Int × Int × Int × Int × SlV × SlV × Bool × Int × Int × Int × Bool × Bool × Bool × Bool × Bool × Bool × Bool × Bool × Bool × Bool × Bool × Bool × Unit) =>
  StoreV w23 ⟨b3, 0, none⟩ [.int .i64 x27.1, .int .i64 x27.2.1, .int .i64 x27.2.2.1, .int .i64 x27.2.2.2.1, .int .i64 x27.2.2.2.2.1, .int .i64 x27.2.2.2.2.2.1, .slice x27.2.2.2.2.2.2.1.a x27.2.2.2.2.2.2.1.n x27.2.2.2.2.2.2.1.c, .slice x27.2.2.2.2.2.2.2.1.a x27.2.2.2.2.2.2.2.1.n x27.2.2.2.2.2.2.2.1.c, .bool x27.2.2.2.2.2.2.2.2.1, .int .i64 x27.2.2.2.2.2.2.2.2.2.1, .int .i64 x27.2.2.2.2.2.2.2.2.2.2.1, .int .u64 x27.2.2.2.2.2.2.2.2.2.2.2.1, .bool x27.2.2.2.2.2.2.2.2.2.2.2.2.1, .bool x27.2.2.2.2.2.2.2.2.2.2.2.2.2.1, .bool x27.2.2.2.2.2.2.2.2.2.2.2.2.2.2.1, .bool x27.2.2.2.2.2.2.2.2.2.2.2.2.2.2.2.1, .bool x27.2.2.2.2.2.2.2.2.2.2.2.2.2.2.2.2.1, .bool x27.2.2.2.2.2.2.2.2.2.2.2.2.2.2.2.2.2.1, .bool x27.2.2.2.2.2.2.2.2.2.2.2.2.2.2.2.2.2.2.1, .bool x27.2.2.2.2.2.2.2.2.2.2.2.2.2.2.2.2.2.2.2.1, .bool x27.2.2.2.2.2.2.2.2.2.2.2.2.2.2.2.2.2.2.2.2.1, .bool x27.2.2.2.2.2.2.2.2.2.2.2.2.2.2.2.2.2.2.2.2.2.1, .bool x27.2.2.2.2.2.2.2.2.2.2.2.2.2.2.2.2.2.2.2.2.2.2.1, .bool x27.2.2.2.2.2.2.2.2.2.2.2.2.2.2.2.2.2.2.2.2.2.2.2.1] fun w28 =>
  LoadA w28 ⟨b3, 0, none⟩ [.int .i64, .int .i64, .int .i64, .int .i64, .int .i64, .int .i64, .sl, .sl, .bool, .int .i64, .int .i64, .int .u64, .bool, .bool, .bool, .bool, .bool, .bool, .bool, .bool, .bool, .bool, .bool, .bool] fun (x29 : Int × Int × Int × Int × Int × Int × SlV × SlV × Bool × Int × Int × Int × Bool × Bool × Bool × Bool × Bool × Bool × Bool × Bool × Bool × Bool × Bool × Bool × Unit) =>
  K ((x29.1, x29.2.1, x29.2.2.1, x29.2.2.2.1, x29.2.2.2.2.1, x29.2.2.2.2.2.1, x29.2.2.2.2.2.2.1, x29.2.2.2.2.2.2.2.1, x29.2.2.2.2.2.2.2.2.1, x29.2.2.2.2.2.2.2.2.2.1, x29.2.2.2.2.2.2.2.2.2.2.1, x29.2.2.2.2.2.2.2.2.2.2.2.1, x29.2.2.2.2.2.2.2.2.2.2.2.2.1, x29.2.2.2.2.2.2.2.2.2.2.2.2.2.1, x29.2.2.2.2.2.2.2.2.2.2.2.2.2.2.1, x29.2.2.2.2.2.2.2.2.2.2.2.2.2.2.2.1, x29.2.2.2.2.2.2.2.2.2.2.2.2.2.2.2.2.1, x29.2.2.2.2.2.2.2.2.2.2.2.2.2.2.2.2.2.1, x29.2.2.2.2.2.2.2.2.2.2.2.2.2.2.2.2.2.2.1, x29.2.2.2.2.2.2.2.2.2.2.2.2.2.2.2.2.2.2.2.1, x29.2.2.2.2.2.2.2.2.2.2.2.2.2.2.2.2.2.2.2.2.1, x29.2.2.2.2.2.2.2.2.2.2.2.2.2.2.2.2.2.2.2.2.2.1, x29.2.2.2.2.2.2.2.2.2.2.2.2.2.2.2.2.2.2.2.2.2.2.1, x29.2.2.2.2.2.2.2.2.2.2.2.2.2.2.2.2.2.2.2.2.2.2.2.1, ()), r19.2.1, ()) w28)
  ((0 ≤ p1 ∧ p1 < (4 : Int)) ∧
  StoreV w23 ((⟨b21, 16, none⟩ : Addr).add (p1.toNat * 1)) [.bool true] fun w30 =>
  LoadA w30 ⟨b21, 0, none⟩ [.int .i64, .int .i64, .int .i64, .int .i64, .int .i64, .int .i64, .sl, .sl, .bool, .int .i64, .int .i64, .int .u64, .bool, .bool, .bool, .bool, .bool, .bool, .bool, .bool, .bool, .bool, .bool, .bool] fun (x31 : Int × Int × Int × Int × Int × Int × SlV × SlV × Bool × Int × Int × Int × Bool × Bool × Bool × Bool × Bool × Bool × Bool × Bool × Bool × Bool × Bool × Bool × Unit) =>
  CallV Tryz.prog 124 #[.agg #[.int .i64 x31.1, .int .i64 x31.2.1, .int .i64 x31.2.2.1, .int .i64 x31.2.2.2.1, .int .i64 x31.2.2.2.2.1, .int .i64 x31.2.2.2.2.2.1, .slice x31.2.2.2.2.2.2.1.a x31.2.2.2.2.2.2.1.n x31.2.2.2.2.2.2.1.c, .slice x31.2.2.2.2.2.2.2.1.a x31.2.2.2.2.2.2.2.1.n x31.2.2.2.2.2.2.2.1.c, .bool x31.2.2.2.2.2.2.2.2.1, .int .i64 x31.2.2.2.2.2.2.2.2.2.1, .int .i64 x31.2.2.2.2.2.2.2.2.2.2.1, .int .u64 x31.2.2.2.2.2.2.2.2.2.2.2.1, .bool x31.2.2.2.2.2.2.2.2.2.2.2.2.1, .bool x31.2.2.2.2.2.2.2.2.2.2.2.2.2.1, .bool x31.2.2.2.2.2.2.2.2.2.2.2.2.2.2.1, .bool x31.2.2.2.2.2.2.2.2.2.2.2.2.2.2.2.1, .bool x31.2.2.2.2.2.2.2.2.2.2.2.2.2.2.2.2.1, .bool x31.2.2.2.2.2.2.2.2.2.2.2.2.2.2.2.2.2.1, .bool x31.2.2.2.2.2.2.2.2.2.2.2.2.2.2.2.2.2.2.1, .bool x31.2.2.2.2.2.2.2.2.2.2.2.2.2.2.2.2.2.2.2.1, .bool x31.2.2.2.2.2.2.2.2.2.2.2.2.2.2.2.2.2.2.2.2.1, .bool x31.2.2.2.2.2.2.2.2.2.2.2.2.2.2.2.2.2.2.2.2.2.1, .bool x31.2.2.2.2.2.2.2.2.2.2.2.2.2.2.2.2.2.2.2.2.2.2.1, .bool x31.2.2.2.2.2.2.2.2.2.2.2.2.2.2.2.2.2.2.2.2.2.2.2.1], .int .i64 p1] w30 [.agg [.int .i64, .int .i64, .int .i64, .int .i64, .int .i64, .int .i64, .sl, .sl, .bool, .int .i64, .int .i64, .int .u64, .bool, .bool, .bool, .bool, .bool, .bool, .bool, .bool, .bool, .bool, .bool, .bool], .one (.int .i64)] fun (r32 : (Int × Int × Int × Int × Int × Int × SlV × SlV × Bool × Int × Int × Int × Bool × Bool × Bool × Bool × Bool × Bool × Bool × Bool × Bool × Bool × Bool × Bool × Unit) × Int × Unit) w33 =>
  NewV #[.int .i64 0, .int .i64 0, .int .i64 0, .int .i64 0, .int .i64 0, .int .i64 0, .slice none 0 0, .slice none 0 0, .bool false, .int .i64 0, .int .i64 0, .int .u64 0, .bool false, .bool false, .bool false, .bool false, .bool false, .bool false, .bool false, .bool false, .bool false, .bool false, .bool false, .bool false] 77 w33 fun b34 w35 =>
  StoreV w35 ⟨b34, 0, none⟩ [.int .i64 r32.1.1, .int .i64 r32.1.2.1, .int .i64 r32.1.2.2.1, .int .i64 r32.1.2.2.2.1, .int .i64 r32.1.2.2.2.2.1, .int .i64 r32.1.2.2.2.2.2.1, .slice r32.1.2.2.2.2.2.2.1.a r32.1.2.2.2.2.2.2.1.n r32.1.2.2.2.2.2.2.1.c, .slice r32.1.2.2.2.2.2.2.2.1.a r32.1.2.2.2.2.2.2.2.1.n r32.1.2.2.2.2.2.2.2.1.c, .bool r32.1.2.2.2.2.2.2.2.2.1, .int .i64 r32.1.2.2.2.2.2.2.2.2.2.1, .int .i64 r32.1.2.2.2.2.2.2.2.2.2.2.1, .int .u64 r32.1.2.2.2.2.2.2.2.2.2.2.2.1, .bool r32.1.2.2.2.2.2.2.2.2.2.2.2.2.1, .bool r32.1.2.2.2.2.2.2.2.2.2.2.2.2.2.1, .bool r32.1.2.2.2.2.2.2.2.2.2.2.2.2.2.2.1, .bool r32.1.2.2.2.2.2.2.2.2.2.2.2.2.2.2.2.1, .bool r32.1.2.2.2.2.2.2.2.2.2.2.2.2.2.2.2.2.1, .bool r32.1.2.2.2.2.2.2.2.2.2.2.2.2.2.2.2.2.2.1, .bool r32.1.2.2.2.2.2.2.2.2.2.2.2.2.2.2.2.2.2.2.1, .bool r32.1.2.2.2.2.2.2.2.2.2.2.2.2.2.2.2.2.2.2.2.1, .bool r32.1.2.2.2.2.2.2.2.2.2.2.2.2.2.2.2.2.2.2.2.2.1, .bool r32.1.2.2.2.2.2.2.2.2.2.2.2.2.2.2.2.2.2.2.2.2.2.1, .bool r32.1.2.2.2.2.2.2.2.2.2.2.2.2.2.2.2.2.2.2.2.2.2.2.1, .bool r32.1.2.2.2.2.2.2.2.2.2.2.2.2.2.2.2.2.2.2.2.2.2.2.2.1] fun w36 =>
  cond (r32.2.1 == 4)
  (LoadA w36 ⟨b34, 0, none⟩ [.int .i64, .int .i64, .int .i64, .int .i64, .int .i64, .int .i64, .sl, .sl, .bool, .int .i64, .int .i64, .int .u64, .bool, .bool, .bool, .bool, .bool, .bool, .bool, .bool, .bool, .bool, .bool, .bool] fun (x37 : Int × Int × Int × Int × Int × Int × SlV × SlV × Bool × Int × Int × Int × Bool × Bool × Bool × Bool × Bool × Bool × Bool × Bool × Bool × Bool × Bool × Bool × Unit) =>
  StoreV w36 ⟨b3, 0, none⟩ [.int .i64 x37.1, .int .i64 x37.2.1, .int .i64 x37.2.2.1, .int .i64 x37.2.2.2.1, .int .i64 x37.2.2.2.2.1, .int .i64 x37.2.2.2.2.2.1, .slice x37.2.2.2.2.2.2.1.a x37.2.2.2.2.2.2.1.n x37.2.2.2.2.2.2.1.c, .slice x37.2.2.2.2.2.2.2.1.a x37.2.2.2.2.2.2.2.1.n x37.2.2.2.2.2.2.2.1.c, .bool x37.2.2.2.2.2.2.2.2.1, .int .i64 x37.2.2.2.2.2.2.2.2.2.1, .int .i64 x37.2.2.2.2.2.2.2.2.2.2.1, .int .u64 x37.2.2.2.2.2.2.2.2.2.2.2.1, .bool x37.2.2.2.2.2.2.2.2.2.2.2.2.1, .bool x37.2.2.2.2.2.2.2.2.2.2.2.2.2.1, .bool x37.2.2.2.2.2.2.2.2.2.2.2.2.2.2.1, .bool x37.2.2.2.2.2.2.2.2.2.2.2.2.2.2.2.1, .bool x37.2.2.2.2.2.2.2.2.2.2.2.2.2.2.2.2.1, .bool x37.2.2.2.2.2.2.2.2.2.2.2.2.2.2.2.2.2.1, .bool x37.2.2.2.2.2.2.2.2.2.2.2.2.2.2.2.2.2.2.1, .bool x37.2.2.2.2.2.2.2.2.2.2.2.2.2.2.2.2.2.2.2.1, .bool x37.2.2.2.2.2.2.2.2.2.2.2.2.2.2.2.2.2.2.2.2.1, .bool x37.2.2.2.2.2.2.2.2.2.2.2.2.2.2.2.2.2.2.2.2.2.1, .bool x37.2.2.2.2.2.2.2.2.2.2.2.2.2.2.2.2.2.2.2.2.2.2.1, .bool x37.2.2.2.2.2.2.2.2.2.2.2.2.2.2.2.2.2.2.2.2.2.2.2.1] fun w38 =>
  LoadA w38 ⟨b3, 0, none⟩ [.int .i64, .int .i64, .int .i64, .int .i64, .int .i64, .int .i64, .sl, .sl, .bool, .int .i64, .int .i64, .int .u64, .bool, .bool, .bool, .bool, .bool, .bool, .bool, .bool, .bool, .bool, .bool, .bool] fun (x39 : Int × Int × Int × Int × Int × Int × SlV × SlV × Bool × Int × Int × Int × Bool × Bool × Bool × Bool × Bool × Bool × Bool × Bool × Bool × Bool × Bool × Bool × Unit) =>
  K ((x39.1, x39.2.1, x39.2.2.1, x39.2.2.2.1, x39.2.2.2.2.1, x39.2.2.2.2.2.1, x39.2.2.2.2.2.2.1, x39.2.2.2.2.2.2.2.1, x39.2.2.2.2.2.2.2.2.1, x39.2.2.2.2.2.2.2.2.2.1, x39.2.2.2.2.2.2.2.2.2.2.1, x39.2.2.2.2.2.2.2.2.2.2.2.1, x39.2.2.2.2.2.2.2.2.2.2.2.2.1, x39.2.2.2.2.2.2.2.2.2.2.2.2.2.1, x39.2.2.2.2.2.2.2.2.2.2.2.2.2.2.1, x39.2.2.2.2.2.2.2.2.2.2.2.2.2.2.2.1, x39.2.2.2.2.2.2.2.2.2.2.2.2.2.2.2.2.1, x39.2.2.2.2.2.2.2.2.2.2.2.2.2.2.2.2.2.1, x39.2.2.2.2.2.2.2.2.2.2.2.2.2.2.2.2.2.2.1, x39.2.2.2.2.2.2.2.2.2.2.2.2.2.2.2.2.2.2.2.1, x39.2.2.2.2.2.2.2.2.2.2.2.2.2.2.2.2.2.2.2.2.1, x39.2.2.2.2.2.2.2.2.2.2.2.2.2.2.2.2.2.2.2.2.2.1, x39.2.2.2.2.2.2.2.2.2.2.2.2.2.2.2.2.2.2.2.2.2.2.1, x39.2.2.2.2.2.2.2.2.2.2.2.2.2.2.2.2.2.2.2.2.2.2.2.1, ()), r32.2.1, ()) w38)
  (LoadA w36 ⟨b34, 0, none⟩ [.int .i64, .int .i64, .int .i64, .int .i64, .int .i64, .int .i64, .sl, .sl, .bool, .int .i64, .int .i64, .int .u64, .bool, .bool, .bool, .bool, .bool, .bool, .bool, .bool, .bool, .bool, .bool, .bool] fun (x40 : Int × Int × Int × Int × Int × Int × SlV × SlV × Bool × Int × Int × Int × Bool × Bool × Bool × Bool × Bool × Bool × Bool × Bool × Bool × Bool × Bool × Bool × Unit) =>
  StoreV w36 ⟨b3, 0, none⟩ [.int .i64 x40.1, .int .i64 x40.2.1, .int .i64 x40.2.2.1, .int .i64 x40.2.2.2.1, .int .i64 x40.2.2.2.2.1, .int .i64 x40.2.2.2.2.2.1, .slice x40.2.2.2.2.2.2.1.a x40.2.2.2.2.2.2.1.n x40.2.2.2.2.2.2.1.c, .slice x40.2.2.2.2.2.2.2.1.a x40.2.2.2.2.2.2.2.1.n x40.2.2.2.2.2.2.2.1.c, .bool x40.2.2.2.2.2.2.2.2.1, .int .i64 x40.2.2.2.2.2.2.2.2.2.1, .int .i64 x40.2.2.2.2.2.2.2.2.2.2.1, .int .u64 x40.2.2.2.2.2.2.2.2.2.2.2.1, .bool x40.2.2.2.2.2.2.2.2.2.2.2.2.1, .bool x40.2.2.2.2.2.2.2.2.2.2.2.2.2.1, .bool x40.2.2.2.2.2.2.2.2.2.2.2.2.2.2.1, .bool x40.2.2.2.2.2.2.2.2.2.2.2.2.2.2.2.1, .bool x40.2.2.2.2.2.2.2.2.2.2.2.2.2.2.2.2.1, .bool x40.2.2.2.2.2.2.2.2.2.2.2.2.2.2.2.2.2.1, .bool x40.2.2.2.2.2.2.2.2.2.2.2.2.2.2.2.2.2.2.1, .bool x40.2.2.2.2.2.2.2.2.2.2.2.2.2.2.2.2.2.2.2.1, .bool x40.2.2.2.2.2.2.2.2.2.2.2.2.2.2.2.2.2.2.2.2.1, .bool x40.2.2.2.2.2.2.2.2.2.2.2.2.2.2.2.2.2.2.2.2.2.1, .bool x40.2.2.2.2.2.2.2.2.2.2.2.2.2.2.2.2.2.2.2.2.2.2.1, .bool x40.2.2.2.2.2.2.2.2.2.2.2.2.2.2.2.2.2.2.2.2.2.2.2.1] fun w41 =>
  LoadA w41 ⟨b3, 0, none⟩ [.int .i64, .int .i64, .int .i64, .int .i64, .int .i64, .int .i64, .sl, .sl, .bool, .int .i64, .int .i64, .int .u64, .bool, .bool, .bool, .bool, .bool, .bool, .bool, .bool, .bool, .bool, .bool, .bool] fun (x42 : Int × Int × Int × Int × Int × Int × SlV × SlV × Bool × Int × Int × Int × Bool × Bool × Bool × Bool × Bool × Bool × Bool × Bool × Bool × Bool × Bool × Bool × Unit) =>
  K ((x42.1, x42.2.1, x42.2.2.1, x42.2.2.2.1, x42.2.2.2.2.1, x42.2.2.2.2.2.1, x42.2.2.2.2.2.2.1, x42.2.2.2.2.2.2.2.1, x42.2.2.2.2.2.2.2.2.1, x42.2.2.2.2.2.2.2.2.2.1, x42.2.2.2.2.2.2.2.2.2.2.1, x42.2.2.2.2.2.2.2.2.2.2.2.1, x42.2.2.2.2.2.2.2.2.2.2.2.2.1, x42.2.2.2.2.2.2.2.2.2.2.2.2.2.1, x42.2.2.2.2.2.2.2.2.2.2.2.2.2.2.1, x42.2.2.2.2.2.2.2.2.2.2.2.2.2.2.2.1, x42.2.2.2.2.2.2.2.2.2.2.2.2.2.2.2.2.1, x42.2.2.2.2.2.2.2.2.2.2.2.2.2.2.2.2.2.1, x42.2.2.2.2.2.2.2.2.2.2.2.2.2.2.2.2.2.2.1, x42.2.2.2.2.2.2.2.2.2.2.2.2.2.2.2.2.2.2.2.1, x42.2.2.2.2.2.2.2.2.2.2.2.2.2.2.2.2.2.2.2.2.1, x42.2.2.2.2.2.2.2.2.2.2.2.2.2.2.2.2.2.2.2.2.2.1, x42.2.2.2.2.2.2.2.2.2.2.2.2.2.2.2.2.2.2.2.2.2.2.1, x42.2.2.2.2.2.2.2.2.2.2.2.2.2.2.2.2.2.2.2.2.2.2.2.1, ()), (5 : Int), ()) w41)))))
  ((0 ≤ p1 ∧ p1 < (4 : Int)) ∧
  StoreV w4 ((⟨b1, 12, none⟩ : Addr).add (p1.toNat * 1)) [.bool false] fun w43 =>
  LoadA w43 ⟨b1, 0, none⟩ [.int .i64, .int .i64, .int .i64, .int .i64, .int .i64, .int .i64, .sl, .sl, .bool, .int .i64, .int .i64, .int .u64, .bool, .bool, .bool, .bool, .bool, .bool, .bool, .bool, .bool, .bool, .bool, .bool] fun (x44 : Int × Int × Int × Int × Int × Int × SlV × SlV × Bool × Int × Int × Int × Bool × Bool × Bool × Bool × Bool × Bool × Bool × Bool × Bool × Bool × Bool × Bool × Unit) =>
  CallV Tryz.prog 125 #[.agg #[.int .i64 x44.1, .int .i64 x44.2.1, .int .i64 x44.2.2.1, .int .i64 x44.2.2.2.1, .int .i64 x44.2.2.2.2.1, .int .i64 x44.2.2.2.2.2.1, .slice x44.2.2.2.2.2.2.1.a x44.2.2.2.2.2.2.1.n x44.2.2.2.2.2.2.1.c, .slice x44.2.2.2.2.2.2.2.1.a x44.2.2.2.2.2.2.2.1.n x44.2.2.2.2.2.2.2.1.c, .bool x44.2.2.2.2.2.2.2.2.1, .int .i64 x44.2.2.2.2.2.2.2.2.2.1, .int .i64 x44.2.2.2.2.2.2.2.2.2.2.1, .int .u64 x44.2.2.2.2.2.2.2.2.2.2.2.1, .bool x44.2.2.2.2.2.2.2.2.2.2.2.2.1, .bool x44.2.2.2.2.2.2.2.2.2.2.2.2.2.1, .bool x44.2.2.2.2.2.2.2.2.2.2.2.2.2.2.1, .bool x44.2.2.2.2.2.2.2.2.2.2.2.2.2.2.2.1, .bool x44.2.2.2.2.2.2.2.2.2.2.2.2.2.2.2.2.1, .bool x44.2.2.2.2.2.2.2.2.2.2.2.2.2.2.2.2.2.1, .bool x44.2.2.2.2.2.2.2.2.2.2.2.2.2.2.2.2.2.2.1, .bool x44.2.2.2.2.2.2.2.2.2.2.2.2.2.2.2.2.2.2.2.1, .bool x44.2.2.2.2.2.2.2.2.2.2.2.2.2.2.2.2.2.2.2.2.1, .bool x44.2.2.2.2.2.2.2.2.2.2.2.2.2.2.2.2.2.2.2.2.2.1, .bool x44.2.2.2.2.2.2.2.2.2.2.2.2.2.2.2.2.2.2.2.2.2.2.1, .bool x44.2.2.2.2.2.2.2.2.2.2.2.2.2.2.2.2.2.2.2.2.2.2.2.1], .int .i64 p1, .slice a2 n2 c2] w43 [.agg [.int .i64, .int .i64, .int .i64, .int .i64, .int .i64, .int .i64, .sl, .sl, .bool, .int .i64, .int .i64, .int .u64, .bool, .bool, .bool, .bool, .bool, .bool, .bool, .bool, .bool, .bool, .bool, .bool], .one (.int .i64)] fun (r45 : (Int × Int × Int × Int × Int × Int × SlV × SlV × Bool × Int × Int × Int × Bool × Bool × Bool × Bool × Bool × Bool × Bool × Bool × Bool × Bool × Bool × Bool × Unit) × Int × Unit) w46 =>
  NewV #[.int .i64 0, .int .i64 0, .int .i64 0, .int .i64 0, .int .i64 0, .int .i64 0, .slice none 0 0, .slice none 0 0, .bool false, .int .i64 0, .int .i64 0, .int .u64 0, .bool false, .bool false, .bool false, .bool false, .bool false, .bool false, .bool false, .bool false, .bool false, .bool false, .bool false, .bool false] 77 w46 fun b47 w48 =>
  StoreV w48 ⟨b47, 0, none⟩ [.int .i64 r45.1.1, .int .i64 r45.1.2.1, .int .i64 r45.1.2.2.1, .int .i64 r45.1.2.2.2.1, .int .i64 r45.1.2.2.2.2.1, .int .i64 r45.1.2.2.2.2.2.1, .slice r45.1.2.2.2.2.2.2.1.a r45.1.2.2.2.2.2.2.1.n r45.1.2.2.2.2.2.2.1.c, .slice r45.1.2.2.2.2.2.2.2.1.a r45.1.2.2.2.2.2.2.2.1.n r45.1.2.2.2.2.2.2.2.1.c, .bool r45.1.2.2.2.2.2.2.2.2.1, .int .i64 r45.1.2.2.2.2.2.2.2.2.2.1, .int .i64 r45.1.2.2.2.2.2.2.2.2.2.2.1, .int .u64 r45.1.2.2.2.2.2.2.2.2.2.2.2.1, .bool r45.1.2.2.2.2.2.2.2.2.2.2.2.2.1, .bool r45.1.2.2.2.2.2.2.2.2.2.2.2.2.2.1, .bool r45.1.2.2.2.2.2.2.2.2.2.2.2.2.2.2.1, .bool r45.1.2.2.2.2.2.2.2.2.2.2.2.2.2.2.2.1, .bool r45.1.2.2.2.2.2.2.2.2.2.2.2.2.2.2.2.2.1, .bool r45.1.2.2.2.2.2.2.2.2.2.2.2.2.2.2.2.2.2.1, .bool r45.1.2.2.2.2.2.2.2.2.2.2.2.2.2.2.2.2.2.2.1, .bool r45.1.2.2.2.2.2.2.2.2.2.2.2.2.2.2.2.2.2.2.2.1, .bool r45.1.2.2.2.2.2.2.2.2.2.2.2.2.2.2.2.2.2.2.2.2.1, .bool r45.1.2.2.2.2.2.2.2.2.2.2.2.2.2.2.2.2.2.2.2.2.2.1, .bool r45.1.2.2.2.2.2.2.2.2.2.2.2.2.2.2.2.2.2.2.2.2.2.2.1, .bool r45.1.2.2.2.2.2.2.2.2.2.2.2.2.2.2.2.2.2.2.2.2.2.2.2.1] fun w49 =>
  cond (r45.2.1 == 0)
  (LoadA w49 ⟨b47, 0, none⟩ [.int .i64, .int .i64, .int .i64, .int .i64, .int .i64, .int .i64, .sl, .sl, .bool, .int .i64, .int .i64, .int .u64, .bool, .bool, .bool, .bool, .bool, .bool, .bool, .bool, .bool, .bool, .bool, .bool] fun (x50 : Int × Int × Int × Int × Int × Int × SlV × SlV × Bool × Int × Int × Int × Bool × Bool × Bool × Bool × Bool × Bool × Bool × Bool × Bool × Bool × Bool × Bool × Unit) =>
  StoreV w49 ⟨b3, 0, none⟩ [.int .i64 x50.1, .int .i64 x50.2.1, .int .i64 x50.2.2.1, .int .i64 x50.2.2.2.1, .int .i64 x50.2.2.2.2.1, .int .i64 x50.2.2.2.2.2.1, .slice x50.2.2.2.2.2.2.1.a x50.2.2.2.2.2.2.1.n x50.2.2.2.2.2.2.1.c, .slice x50.2.2.2.2.2.2.2.1.a x50.2.2.2.2.2.2.2.1.n x50.2.2.2.2.2.2.2.1.c, .bool x50.2.2.2.2.2.2.2.2.1, .int .i64 x50.2.2.2.2.2.2.2.2.2.1, .int .i64 x50.2.2.2.2.2.2.2.2.2.2.1, .int .u64 x50.2.2.2.2.2.2.2.2.2.2.2.1, .bool x50.2.2.2.2.2.2.2.2.2.2.2.2.1, .bool x50.2.2.2.2.2.2.2.2.2.2.2.2.2.1, .bool x50.2.2.2.2.2.2.2.2.2.2.2.2.2.2.1, .bool x50.2.2.2.2.2.2.2.2.2.2.2.2.2.2.2.1, .bool x50.2.2.2.2.2.2.2.2.2.2.2.2.2.2.2.2.1, .bool x50.2.2.2.2.2.2.2.2.2.2.2.2.2.2.2.2.2.1, .bool x50.2.2.2.2.2.2.2.2.2.2.2.2.2.2.2.2.2.2.1, .bool x50.2.2.2.2.2.2.2.2.2.2.2.2.2.2.2.2.2.2.2.1, .bool x50.2.2.2.2.2.2.2.2.2.2.2.2.2.2.2.2.2.2.2.2.1, .bool x50.2.2.2.2.2.2.2.2.2.2.2.2.2.2.2.2.2.2.2.2.2.1, .bool x50.2.2.2.2.2.2.2.2.2.2.2.2.2.2.2.2.2.2.2.2.2.2.1, .bool x50.2.2.2.2.2.2.2.2.2.2.2.2.2.2.2.2.2.2.2.2.2.2.2.1] fun w51 =>
  LoadA w51 ⟨b3, 0, none⟩ [.int .i64, .int .i64, .int .i64, .int .i64, .int .i64, .int .i64, .sl, .sl, .bool, .int .i64, .int .i64, .int .u64, .bool, .bool, .bool, .bool, .bool, .bool, .bool, .bool, .bool, .bool, .bool, .bool] fun (x52 : Int × Int × Int × Int × Int × Int × SlV × SlV × Bool × Int × Int × Int × Bool × Bool × Bool × Bool × Bool × Bool × Bool × Bool × Bool × Bool × Bool × Bool × Unit) =>
  K ((x52.1, x52.2.1, x52.2.2.1, x52.2.2.2.1, x52.2.2.2.2.1, x52.2.2.2.2.2.1, x52.2.2.2.2.2.2.1, x52.2.2.2.2.2.2.2.1, x52.2.2.2.2.2.2.2.2.1, x52.2.2.2.2.2.2.2.2.2.1, x52.2.2.2.2.2.2.2.2.2.2.1, x52.2.2.2.2.2.2.2.2.2.2.2.1, x52.2.2.2.2.2.2.2.2.2.2.2.2.1, x52.2.2.2.2.2.2.2.2.2.2.2.2.2.1, x52.2.2.2.2.2.2.2.2.2.2.2.2.2.2.1, x52.2.2.2.2.2.2.2.2.2.2.2.2.2.2.2.1, x52.2.2.2.2.2.2.2.2.2.2.2.2.2.2.2.2.1, x52.2.2.2.2.2.2.2.2.2.2.2.2.2.2.2.2.2.1, x52.2.2.2.2.2.2.2.2.2.2.2.2.2.2.2.2.2.2.1, x52.2.2.2.2.2.2.2.2.2.2.2.2.2.2.2.2.2.2.2.1, x52.2.2.2.2.2.2.2.2.2.2.2.2.2.2.2.2.2.2.2.2.1, x52.2.2.2.2.2.2.2.2.2.2.2.2.2.2.2.2.2.2.2.2.2.1, x52.2.2.2.2.2.2.2.2.2.2.2.2.2.2.2.2.2.2.2.2.2.2.1, x52.2.2.2.2.2.2.2.2.2.2.2.2.2.2.2.2.2.2.2.2.2.2.2.1, ()), r45.2.1, ()) w51)
  (cond (r45.2.1 == 4)
  (LoadA w49 ⟨b47, 0, none⟩ [.int .i64, .int .i64, .int .i64, .int .i64, .int .i64, .int .i64, .sl, .sl, .bool, .int .i64, .int .i64, .int .u64, .bool, .bool, .bool, .bool, .bool, .bool, .bool, .bool, .bool, .bool, .bool, .bool] fun (x53 : Int × Int × Int × Int × Int × Int × SlV × SlV × Bool × Int × Int × Int × Bool × Bool × Bool × Bool × Bool × Bool × Bool × Bool × Bool × Bool × Bool × Bool × Unit) =>
  StoreV w49 ⟨b3, 0, none⟩ [.int .i64 x53.1, .int .i64 x53.2.1, .int .i64 x53.2.2.1, .int .i64 x53.2.2.2.1, .int .i64 x53.2.2.2.2.1, .int .i64 x53.2.2.2.2.2.1, .slice x53.2.2.2.2.2.2.1.a x53.2.2.2.2.2.2.1.n x53.2.2.2.2.2.2.1.c, .slice x53.2.2.2.2.2.2.2.1.a x53.2.2.2.2.2.2.2.1.n x53.2.2.2.2.2.2.2.1.c, .bool x53.2.2.2.2.2.2.2.2.1, .int .i64 x53.2.2.2.2.2.2.2.2.2.1, .int .i64 x53.2.2.2.2.2.2.2.2.2.2.1, .int .u64 x53.2.2.2.2.2.2.2.2.2.2.2.1, .bool x53.2.2.2.2.2.2.2.2.2.2.2.2.1, .bool x53.2.2.2.2.2.2.2.2.2.2.2.2.2.1, .bool x53.2.2.2.2.2.2.2.2.2.2.2.2.2.2.1, .bool x53.2.2.2.2.2.2.2.2.2.2.2.2.2.2.2.1, .bool x53.2.2.2.2.2.2.2.2.2.2.2.2.2.2.2.2.1, .bool x53.2.2.2.2.2.2.2.2.2.2.2.2.2.2.2.2.2.1, .bool x53.2.2.2.2.2.2.2.2.2.2.2.2.2.2.2.2.2.2.1, .bool x53.2.2.2.2.2.2.2.2.2.2.2.2.2.2.2.2.2.2.2.1, .bool x53.2.2.2.2.2.2.2.2.2.2.2.2.2.2.2.2.2.2.2.2.1, .bool x53.2.2.2.2.2.2.2.2.2.2.2.2.2.2.2.2.2.2.2.2.2.1, .bool x53.2.2.2.2.2.2.2.2.2.2.2.2.2.2.2.2.2.2.2.2.2.2.1, .bool x53.2.2.2.2.2.2.2.2.2.2.2.2.2.2.2.2.2.2.2.2.2.2.2.1] fun w54 =>
  LoadA w54 ⟨b3, 0, none⟩ [.int .i64, .int .i64, .int .i64, .int .i64, .int .i64, .int .i64, .sl, .sl, .bool, .int .i64, .int .i64, .int .u64, .bool, .bool, .bool, .bool, .bool, .bool, .bool, .bool, .bool, .bool, .bool, .bool] fun (x55 : Int × Int × Int × Int × Int × Int × SlV × SlV × Bool × Int × Int × Int × Bool × Bool × Bool × Bool × Bool × Bool × Bool × Bool × Bool × Bool × Bool × Bool × Unit) =>
  K ((x55.1, x55.2.1, x55.2.2.1, x55.2.2.2.1, x55.2.2.2.2.1, x55.2.2.2.2.2.1, x55.2.2.2.2.2.2.1, x55.2.2.2.2.2.2.2.1, x55.2.2.2.2.2.2.2.2.1, x55.2.2.2.2.2.2.2.2.2.1, x55.2.2.2.2.2.2.2.2.2.2.1, x55.2.2.2.2.2.2.2.2.2.2.2.1, x55.2.2.2.2.2.2.2.2.2.2.2.2.1, x55.2.2.2.2.2.2.2.2.2.2.2.2.2.1, x55.2.2.2.2.2.2.2.2.2.2.2.2.2.2.1, x55.2.2.2.2.2.2.2.2.2.2.2.2.2.2.2.1, x55.2.2.2.2.2.2.2.2.2.2.2.2.2.2.2.2.1, x55.2.2.2.2.2.2.2.2.2.2.2.2.2.2.2.2.2.1, x55.2.2.2.2.2.2.2.2.2.2.2.2.2.2.2.2.2.2.1, x55.2.2.2.2.2.2.2.2.2.2.2.2.2.2.2.2.2.2.2.1, x55.2.2.2.2.2.2.2.2.2.2.2.2.2.2.2.2.2.2.2.2.1, x55.2.2.2.2.2.2.2.2.2.2.2.2.2.2.2.2.2.2.2.2.2.1, x55.2.2.2.2.2.2.2.2.2.2.2.2.2.2.2.2.2.2.2.2.2.2.1, x55.2.2.2.2.2.2.2.2.2.2.2.2.2.2.2.2.2.2.2.2.2.2.2.1, ()), r45.2.1, ()) w54)
  ((0 ≤ p1 ∧ p1 < (4 : Int)) ∧
  StoreV w49 ((⟨b47, 16, none⟩ : Addr).add (p1.toNat * 1)) [.bool true] fun w56 =>
  LoadA w56 ⟨b47, 0, none⟩ [.int .i64, .int .i64, .int .i64, .int .i64, .int .i64, .int .i64, .sl, .sl, .bool, .int .i64, .int .i64, .int .u64, .bool, .bool, .bool, .bool, .bool, .bool, .bool, .bool, .bool, .bool, .bool, .bool] fun (x57 : Int × Int × Int × Int × Int × Int × SlV × SlV × Bool × Int × Int × Int × Bool × Bool × Bool × Bool × Bool × Bool × Bool × Bool × Bool × Bool × Bool × Bool × Unit) =>
  CallV Tryz.prog 124 #[.agg #[.int .i64 x57.1, .int .i64 x57.2.1, .int .i64 x57.2.2.1, .int .i64 x57.2.2.2.1, .int .i64 x57.2.2.2.2.1, .int .i64 x57.2.2.2.2.2.1, .slice x57.2.2.2.2.2.2.1.a x57.2.2.2.2.2.2.1.n x57.2.2.2.2.2.2.1.c, .slice x57.2.2.2.2.2.2.2.1.a x57.2.2.2.2.2.2.2.1.n x57.2.2.2.2.2.2.2.1.c, .bool x57.2.2.2.2.2.2.2.2.1, .int .i64 x57.2.2.2.2.2.2.2.2.2.1, .int .i64 x57.2.2.2.2.2.2.2.2.2.2.1, .int .u64 x57.2.2.2.2.2.2.2.2.2.2.2.1, .bool x57.2.2.2.2.2.2.2.2.2.2.2.2.1, .bool x57.2.2.2.2.2.2.2.2.2.2.2.2.2.1, .bool x57.2.2.2.2.2.2.2.2.2.2.2.2.2.2.1, .bool x57.2.2.2.2.2.2.2.2.2.2.2.2.2.2.2.1, .bool x57.2.2.2.2.2.2.2.2.2.2.2.2.2.2.2.2.1, .bool x57.2.2.2.2.2.2.2.2.2.2.2.2.2.2.2.2.2.1, .bool x57.2.2.2.2.2.2.2.2.2.2.2.2.2.2.2.2.2.2.1, .bool x57.2.2.2.2.2.2.2.2.2.2.2.2.2.2.2.2.2.2.2.1, .bool x57.2.2.2.2.2.2.2.2.2.2.2.2.2.2.2.2.2.2.2.2.1, .bool x57.2.2.2.2.2.2.2.2.2.2.2.2.2.2.2.2.2.2.2.2.2.1, .bool x57.2.2.2.2.2.2.2.2.2.2.2.2.2.2.2.2.2.2.2.2.2.2.1, .bool x57.2.2.2.2.2.2.2.2.2.2.2.2.2.2.2.2.2.2.2.2.2.2.2.1], .int .i64 p1] w56 [.agg [.int .i64, .int .i64, .int .i64, .int .i64, .int .i64, .int .i64, .sl, .sl, .bool, .int .i64, .int .i64, .int .u64, .bool, .bool, .bool, .bool, .bool, .bool, .bool, .bool, .bool, .bool, .bool, .bool], .one (.int .i64)] fun (r58 : (Int × Int × Int × Int × Int × Int × SlV × SlV × Bool × Int × Int × Int × Bool × Bool × Bool × Bool × Bool × Bool × Bool × Bool × Bool × Bool × Bool × Bool × Unit) × Int × Unit) w59 =>
  NewV #[.int .i64 0, .int .i64 0, .int .i64 0, .int .i64 0, .int .i64 0, .int .i64 0, .slice none 0 0, .slice none 0 0, .bool false, .int .i64 0, .int .i64 0, .int .u64 0, .bool false, .bool false, .bool false, .bool false, .bool false, .bool false, .bool false, .bool false, .bool false, .bool false, .bool false, .bool false] 77 w59 fun b60 w61 =>
  StoreV w61 ⟨b60, 0, none⟩ [.int .i64 r58.1.1, .int .i64 r58.1.2.1, .int .i64 r58.1.2.2.1, .int .i64 r58.1.2.2.2.1, .int .i64 r58.1.2.2.2.2.1, .int .i64 r58.1.2.2.2.2.2.1, .slice r58.1.2.2.2.2.2.2.1.a r58.1.2.2.2.2.2.2.1.n r58.1.2.2.2.2.2.2.1.c, .slice r58.1.2.2.2.2.2.2.2.1.a r58.1.2.2.2.2.2.2.2.1.n r58.1.2.2.2.2.2.2.2.1.c, .bool r58.1.2.2.2.2.2.2.2.2.1, .int .i64 r58.1.2.2.2.2.2.2.2.2.2.1, .int .i64 r58.1.2.2.2.2.2.2.2.2.2.2.1, .int .u64 r58.1.2.2.2.2.2.2.2.2.2.2.2.1, .bool r58.1.2.2.2.2.2.2.2.2.2.2.2.2.1, .bool r58.1.2.2.2.2.2.2.2.2.2.2.2.2.2.1, .bool r58.1.2.2.2.2.2.2.2.2.2.2.2.2.2.2.1, .bool r58.1.2.2.2.2.2.2.2.2.2.2.2.2.2.2.2.1, .bool r58.1.2.2.2.2.2.2.2.2.2.2.2.2.2.2.2.2.1, .bool r58.1.2.2.2.2.2.2.2.2.2.2.2.2.2.2.2.2.2.1, .bool r58.1.2.2.2.2.2.2.2.2.2.2.2.2.2.2.2.2.2.2.1, .bool r58.1.2.2.2.2.2.2.2.2.2.2.2.2.2.2.2.2.2.2.2.1, .bool r58.1.2.2.2.2.2.2.2.2.2.2.2.2.2.2.2.2.2.2.2.2.1, .bool r58.1.2.2.2.2.2.2.2.2.2.2.2.2.2.2.2.2.2.2.2.2.2.1, .bool r58.1.2.2.2.2.2.2.2.2.2.2.2.2.2.2.2.2.2.2.2.2.2.2.1, .bool r58.1.2.2.2.2.2.2.2.2.2.2.2.2.2.2.2.2.2.2.2.2.2.2.2.1] fun w62 =>
  cond (r58.2.1 == 4)
  (LoadA w62 ⟨b60, 0, none⟩ [.int .i64, .int .i64, .int .i64, .int .i64, .int .i64, .int .i64, .sl, .sl, .bool, .int .i64, .int .i64, .int .u64, .bool, .bool, .bool, .bool, .bool, .bool, .bool, .bool, .bool, .bool, .bool, .bool] fun (x63 : Int × Int × Int × Int × Int × Int × SlV × SlV × Bool × Int × Int × Int × Bool × Bool × Bool × Bool × Bool × Bool × Bool × Bool × Bool × Bool × Bool × Bool × Unit) =>
  StoreV w62 ⟨b3, 0, none⟩ [.int .i64 x63.1, .int .i64 x63.2.1, .int .i64 x63.2.2.1, .int .i64 x63.2.2.2.1, .int .i64 x63.2.2.2.2.1, .int .i64 x63.2.2.2.2.2.1, .slice x63.2.2.2.2.2.2.1.a x63.2.2.2.2.2.2.1.n x63.2.2.2.2.2.2.1.c, .slice x63.2.2.2.2.2.2.2.1.a x63.2.2.2.2.2.2.2.1.n x63.2.2.2.2.2.2.2.1.c, .bool x63.2.2.2.2.2.2.2.2.1, .int .i64 x63.2.2.2.2.2.2.2.2.2.1, .int .i64 x63.2.2.2.2.2.2.2.2.2.2.1, .int .u64 x63.2.2.2.2.2.2.2.2.2.2.2.1, .bool x63.2.2.2.2.2.2.2.2.2.2.2.2.1, .bool x63.2.2.2.2.2.2.2.2.2.2.2.2.2.1, .bool x63.2.2.2.2.2.2.2.2.2.2.2.2.2.2.1, .bool x63.2.2.2.2.2.2.2.2.2.2.2.2.2.2.2.1, .bool x63.2.2.2.2.2.2.2.2.2.2.2.2.2.2.2.2.1, .bool x63.2.2.2.2.2.2.2.2.2.2.2.2.2.2.2.2.2.1, .bool x63.2.2.2.2.2.2.2.2.2.2.2.2.2.2.2.2.2.2.1, .bool x63.2.2.2.2.2.2.2.2.2.2.2.2.2.2.2.2.2.2.2.1, .bool x63.2.2.2.2.2.2.2.2.2.2.2.2.2.2.2.2.2.2.2.2.1, .bool x63.2.2.2.2.2.2.2.2.2.2.2.2.2.2.2.2.2.2.2.2.2.1, .bool x63.2.2.2.2.2.2.2.2.2.2.2.2.2.2.2.2.2.2.2.2.2.2.1, .bool x63.2.2.2.2.2.2.2.2.2.2.2.2.2.2.2.2.2.2.2.2.2.2.2.1] fun w64 =>
  LoadA w64 ⟨b3, 0, none⟩ [.int .i64, .int .i64, .int .i64, .int .i64, .int .i64, .int .i64, .sl, .sl, .bool, .int .i64, .int .i64, .int .u64, .bool, .bool, .bool, .bool, .bool, .bool, .bool, .bool, .bool, .bool, .bool, .bool] fun (x65 : Int × Int × Int × Int × Int × Int × SlV × SlV × Bool × Int × Int × Int × Bool × Bool × Bool × Bool × Bool × Bool × Bool × Bool × Bool × Bool × Bool × Bool × Unit) =>
  K ((x65.1, x65.2.1, x65.2.2.1, x65.2.2.2.1, x65.2.2.2.2.1, x65.2.2.2.2.2.1, x65.2.2.2.2.2.2.1, x65.2.2.2.2.2.2.2.1, x65.2.2.2.2.2.2.2.2.1, x65.2.2.2.2.2.2.2.2.2.1, x65.2.2.2.2.2.2.2.2.2.2.1, x65.2.2.2.2.2.2.2.2.2.2.2.1, x65.2.2.2.2.2.2.2.2.2.2.2.2.1, x65.2.2.2.2.2.2.2.2.2.2.2.2.2.1, x65.2.2.2.2.2.2.2.2.2.2.2.2.2.2.1, x65.2.2.2.2.2.2.2.2.2.2.2.2.2.2.2.1, x65.2.2.2.2.2.2.2.2.2.2.2.2.2.2.2.2.1, x65.2.2.2.2.2.2.2.2.2.2.2.2.2.2.2.2.2.1, x65.2.2.2.2.2.2.2.2.2.2.2.2.2.2.2.2.2.2.1, x65.2.2.2.2.2.2.2.2.2.2.2.2.2.2.2.2.2.2.2.1, x65.2.2.2.2.2.2.2.2.2.2.2.2.2.2.2.2.2.2.2.2.1, x65.2.2.2.2.2.2.2.2.2.2.2.2.2.2.2.2.2.2.2.2.2.1, x65.2.2.2.2.2.2.2.2.2.2.2.2.2.2.2.2.2.2.2.2.2.2.1, x65.2.2.2.2.2.2.2.2.2.2.2.2.2.2.2.2.2.2.2.2.2.2.2.1, ()), r58.2.1, ()) w64)
  (LoadA w62 ⟨b60, 0, none⟩ [.int .i64, .int .i64, .int .i64, .int .i64, .int .i64, .int .i64, .sl, .sl, .bool, .int .i64, .int .i64, .int .u64, .bool, .bool, .bool, .bool, .bool, .bool, .bool, .bool, .bool, .bool, .bool, .bool] fun (x66 : Int × Int × Int × Int × Int × Int × SlV × SlV × Bool × Int × Int × Int × Bool × Bool × Bool × Bool × Bool × Bool × Bool × Bool × Bool × Bool × Bool × Bool × Unit) =>
  StoreV w62 ⟨b3, 0, none⟩ [.int .i64 x66.1, .int .i64 x66.2.1, .int .i64 x66.2.2.1, .int .i64 x66.2.2.2.1, .int .i64 x66.2.2.2.2.1, .int .i64 x66.2.2.2.2.2.1, .slice x66.2.2.2.2.2.2.1.a x66.2.2.2.2.2.2.1.n x66.2.2.2.2.2.2.1.c, .slice x66.2.2.2.2.2.2.2.1.a x66.2.2.2.2.2.2.2.1.n x66.2.2.2.2.2.2.2.1.c, .bool x66.2.2.2.2.2.2.2.2.1, .int .i64 x66.2.2.2.2.2.2.2.2.2.1, .int .i64 x66.2.2.2.2.2.2.2.2.2.2.1, .int .u64 x66.2.2.2.2.2.2.2.2.2.2.2.1, .bool x66.2.2.2.2.2.2.2.2.2.2.2.2.1, .bool x66.2.2.2.2.2.2.2.2.2.2.2.2.2.1, .bool x66.2.2.2.2.2.2.2.2.2.2.2.2.2.2.1, .bool x66.2.2.2.2.2.2.2.2.2.2.2.2.2.2.2.1, .bool x66.2.2.2.2.2.2.2.2.2.2.2.2.2.2.2.2.1, .bool x66.2.2.2.2.2.2.2.2.2.2.2.2.2.2.2.2.2.1, .bool x66.2.2.2.2.2.2.2.2.2.2.2.2.2.2.2.2.2.2.1, .bool x66.2.2.2.2.2.2.2.2.2.2.2.2.2.2.2.2.2.2.2.1, .bool x66.2.2.2.2.2.2.2.2.2.2.2.2.2.2.2.2.2.2.2.2.1, .bool x66.2.2.2.2.2.2.2.2.2.2.2.2.2.2.2.2.2.2.2.2.2.1, .bool x66.2.2.2.2.2.2.2.2.2.2.2.2.2.2.2.2.2.2.2.2.2.2.1, .bool x66.2.2.2.2.2.2.2.2.2.2.2.2.2.2.2.2.2.2.2.2.2.2.2.1] fun w67 =>
  LoadA w67 ⟨b3, 0, none⟩ [.int .i64, .int .i64, .int .i64, .int .i64, .int .i64, .int .i64, .sl, .sl, .bool, .int .i64, .int .i64, .int .u64, .bool, .bool, .bool, .bool, .bool, .bool, .bool, .bool, .bool, .bool, .bool, .bool] fun (x68 : Int × Int × Int × Int × Int × Int × SlV × SlV × Bool × Int × Int × Int × Bool × Bool × Bool × Bool × Bool × Bool × Bool × Bool × Bool × Bool × Bool × Bool × Unit) =>
  K ((x68.1, x68.2.1, x68.2.2.1, x68.2.2.2.1, x68.2.2.2.2.1, x68.2.2.2.2.2.1, x68.2.2.2.2.2.2.1, x68.2.2.2.2.2.2.2.1, x68.2.2.2.2.2.2.2.2.1, x68.2.2.2.2.2.2.2.2.2.1, x68.2.2.2.2.2.2.2.2.2.2.1, x68.2.2.2.2.2.2.2.2.2.2.2.1, x68.2.2.2.2.2.2.2.2.2.2.2.2.1, x68.2.2.2.2.2.2.2.2.2.2.2.2.2.1, x68.2.2.2.2.2.2.2.2.2.2.2.2.2.2.1, x68.2.2.2.2.2.2.2.2.2.2.2.2.2.2.2.1, x68.2.2.2.2.2.2.2.2.2.2.2.2.2.2.2.2.1, x68.2.2.2.2.2.2.2.2.2.2.2.2.2.2.2.2.2.1, x68.2.2.2.2.2.2.2.2.2.2.2.2.2.2.2.2.2.2.1, x68.2.2.2.2.2.2.2.2.2.2.2.2.2.2.2.2.2.2.2.1, x68.2.2.2.2.2.2.2.2.2.2.2.2.2.2.2.2.2.2.2.2.1, x68.2.2.2.2.2.2.2.2.2.2.2.2.2.2.2.2.2.2.2.2.2.1, x68.2.2.2.2.2.2.2.2.2.2.2.2.2.2.2.2.2.2.2.2.2.2.1, x68.2.2.2.2.2.2.2.2.2.2.2.2.2.2.2.2.2.2.2.2.2.2.2.1, ()), (5 : Int), ()) w67))))
theorem ref20_try.vc (p0_0 p0_1 p0_2 p0_3 p0_4 p0_5 : Int) (a0_6 : Option Addr) (n0_6 c0_6 : Nat) (a0_7 : Option Addr) (n0_7 c0_7 : Nat) (p0_8 : Bool) (p0_9 p0_10 p0_11 : Int) (p0_12 p0_13 p0_14 p0_15 p0_16 p0_17 p0_18 p0_19 p0_20 p0_21 p0_22 p0_23 : Bool) (p1 : Int) (a2 : Option Addr) (n2 c2 : Nat) (w : World) (K : (Int × Int × Int × Int × Int × Int × SlV × SlV × Bool × Int × Int × Int × Bool × Bool × Bool × Bool × Bool × Bool × Bool × Bool × Bool × Bool × Bool × Bool × Unit) × Int × Unit → World → Prop) (h : ref20_try.P p0_0 p0_1 p0_2 p0_3 p0_4 p0_5 a0_6 n0_6 c0_6 a0_7 n0_7 c0_7 p0_8 p0_9 p0_10 p0_11 p0_12 p0_13 p0_14 p0_15 p0_16 p0_17 p0_18 p0_19 p0_20 p0_21 p0_22 p0_23 p1 a2 n2 c2 w K) : CallV Tryz.prog 69 #[.agg #[.int .i64 p0_0, .int .i64 p0_1, .int .i64 p0_2, .int .i64 p0_3, .int .i64 p0_4, .int .i64 p0_5, .slice a0_6 n0_6 c0_6, .slice a0_7 n0_7 c0_7, .bool p0_8, .int .i64 p0_9, .int .i64 p0_10, .int .u64 p0_11, .bool p0_12, .bool p0_13, .bool p0_14, .bool p0_15, .bool p0_16, .bool p0_17, .bool p0_18, .bool p0_19, .bool p0_20, .bool p0_21, .bool p0_22, .bool p0_23], .int .i64 p1, .slice a2 n2 c2] w [.agg [.int .i64, .int .i64, .int .i64, .int .i64, .int .i64, .int .i64, .sl, .sl, .bool, .int .i64, .int .i64, .int .u64, .bool, .bool, .bool, .bool, .bool, .bool, .bool, .bool, .bool, .bool, .bool, .bool], .one (.int .i64)] K := by
  refine vcFun.of (A := ref20_try.A) (wr := false) okf_ok follows h Tryz.func69 ?_
  kernel_rfl
def ref20_others.A : Ann := .two .no (.two (.two .no (.one (.loop [3, 4, 5, 6, 7, 8, 9, 10, 11, 12, 13, 14, 15, 16, 17, 18, 19, 20, 21, 22, 23, 24, 25, 26, 27, 28, 29, 30, 31, 32, 33, 34, 35, 36, 37, 38, 39, 40, 41, 42, 43, 44] [(4, .one (.int .i64))] .no))) .no)
def ref20_others.P (p0_0 p0_1 p0_2 p0_3 p0_4 p0_5 : Int) (a0_6 : Option Addr) (n0_6 c0_6 : Nat) (a0_7 : Option Addr) (n0_7 c0_7 : Nat) (p0_8 : Bool) (p0_9 p0_10 p0_11 : Int) (p0_12 p0_13 p0_14 p0_15 p0_16 p0_17 p0_18 p0_19 p0_20 p0_21 p0_22 p0_23 : Bool) (w : World) (K : (Int × Int × Int × Int × Int × Int × SlV × SlV × Bool × Int × Int × Int × Bool × Bool × Bool × Bool × Bool × Bool × Bool × Bool × Bool × Bool × Bool × Bool × Unit) × Int × Unit → World → Prop) : Prop :=
  NewV #[.int .i64 p0_0, .int .i64 p0_1, .int .i64 p0_2, .int .i64 p0_3, .int .i64 p0_4, .int .i64 p0_5, .slice a0_6 n0_6 c0_6, .slice a0_7 n0_7 c0_7, .bool p0_8, .int .i64 p0_9, .int .i64 p0_10, .int .u64 p0_11, .bool p0_12, .bool p0_13, .bool p0_14, .bool p0_15, .bool p0_16, .bool p0_17, .bool p0_18, .bool p0_19, .bool p0_20, .bool p0_21, .bool p0_22, .bool p0_23] 77 w fun b1 w2 =>
  NewV #[.int .i64 0, .int .i64 0, .int .i64 0, .int .i64 0, .int .i64 0, .int .i64 0, .slice none 0 0, .slice none 0 0, .bool false, .int .i64 0, .int .i64 0, .int .u64 0, .bool false, .bool false, .bool false, .bool false, .bool false, .bool false, .bool false, .bool false, .bool false, .bool false, .bool false, .bool false] 77 w2 fun b3 w4 =>
  LoopV [.one (.int .i64)] ((0 : Int), ()) w4 fun (z5 : Int × Unit) w6 (K7 : Int × Unit → World → Prop) =>
  cond (decide (z5.1 < 4))
  (LoadS w6 ⟨b1, 10, none⟩ (.int .i64) fun (x8 : Int) =>
  cond (z5.1 == x8)
  (Rng .i64 (z5.1 + 1) ∧
  K7 (z5.1 + 1, ()) w6)
  ((0 ≤ z5.1 ∧ z5.1 < (4 : Int)) ∧
  LoadS w6 ((⟨b1, 12, none⟩ : Addr).add (z5.1.toNat * 1)) .bool fun (x9 : Bool) =>
  cond x9
  (Rng .i64 (z5.1 + 1) ∧
  K7 (z5.1 + 1, ()) w6)
  ((0 ≤ z5.1 ∧ z5.1 < (4 : Int)) ∧
  LoadS w6 ((⟨b1, 16, none⟩ : Addr).add (z5.1.toNat * 1)) .bool fun (x10 : Bool) =>
  cond x10
  ((0 ≤ z5.1 ∧ z5.1 < (4 : Int)) ∧
  LoadS w6 ((⟨b1, 20, none⟩ : Addr).add (z5.1.toNat * 1)) .bool fun (x11 : Bool) =>
  cond (!x11)
  (Rng .i64 (z5.1 + 1) ∧
  K7 (z5.1 + 1, ()) w6)
  (LoadA w6 ⟨b1, 0, none⟩ [.int .i64, .int .i64, .int .i64, .int .i64, .int .i64, .int .i64, .sl, .sl, .bool, .int .i64, .int .i64, .int .u64, .bool, .bool, .bool, .bool, .bool, .bool, .bool, .bool, .bool, .bool, .bool, .bool] fun (x12 : Int × Int × Int × Int × Int × Int × SlV × SlV × Bool × Int × Int × Int × Bool × Bool × Bool × Bool × Bool × Bool × Bool × Bool × Bool × Bool × Bool × Bool × Unit) =>
  CallV Tryz.prog 124 #[.agg #[.int .i64 x12.1, .int .i64 x12.2.1, .int .i64 x12.2.2.1, .int .i64 x12.2.2.2.1, .int .i64 x12.2.2.2.2.1, .int .i64 x12.2.2.2.2.2.1, .slice x12.2.2.2.2.2.2.1.a x12.2.2.2.2.2.2.1.n x12.2.2.2.2.2.2.1.c, .slice x12.2.2.2.2.2.2.2.1.a x12.2.2.2.2.2.2.2.1.n x12.2.2.2.2.2.2.2.1.c, .bool x12.2.2.2.2.2.2.2.2.1, .int .i64 x12.2.2.2.2.2.2.2.2.2.1, .int .i64 x12.2.2.2.2.2.2.2.2.2.2.1, .int .u64 x12.2.2.2.2.2.2.2.2.2.2.2.1, .bool x12.2.2.2.2.2.2.2.2.2.2.2.2.1, .bool x12.2.2.2.2.2.2.2.2.2.2.2.2.2.1, .bool x12.2.2.2.2.2.2.2.2.2.2.2.2.2.2.1, .bool x12.2.2.2.2.2.2.2.2.2.2.2.2.2.2.2.1, .bool x12.2.2.2.2.2.2.2.2.2.2.2.2.2.2.2.2.1, .bool x12.2.2.2.2.2.2.2.2.2.2.2.2.2.2.2.2.2.1, .bool x12.2.2.2.2.2.2.2.2.2.2.2.2.2.2.2.2.2.2.1, .bool x12.2.2.2.2.2.2.2.2.2.2.2.2.2.2.2.2.2.2.2.1, .bool x12.2.2.2.2.2.2.2.2.2.2.2.2.2.2.2.2.2.2.2.2.1, .bool x12.2.2.2.2.2.2.2.2.2.2.2.2.2.2.2.2.2.2.2.2.2.1, .bool x12.2.2.2.2.2.2.2.2.2.2.2.2.2.2.2.2.2.2.2.2.2.2.1, .bool x12.2.2.2.2.2.2.2.2.2.2.2.2.2.2.2.2.2.2.2.2.2.2.2.1], .int .i64 z5.1] w6 [.agg [.int .i64, .int .i64, .int .i64, .int .i64, .int .i64, .int .i64, .sl, .sl, .bool, .int .i64, .int .i64, .int .u64, .bool, .bool, .bool, .bool, .bool, .bool, .bool, .bool, .bool, .bool, .bool, .bool], .one (.int .i64)] fun (r13 : (Int × Int × Int × Int × Int × Int × SlV × SlV × Bool × Int × Int × Int × Bool × Bool × Bool × Bool × Bool × Bool × Bool × Bool × Bool × Bool × Bool × Bool × Unit) × Int × Unit) w14 =>
  NewV #[.int .i64 0, .int .i64 0, .int .i64 0, .int .i64 0, .int .i64 0, .int .i64 0, .slice none 0 0, .slice none 0 0, .bool false, .int .i64 0, .int .i64 0, .int .u64 0, .bool false, .bool false, .bool false, .bool false, .bool false, .bool false, .bool false, .bool false, .bool false, .bool false, .bool false, .bool false] 77 w14 fun b15 w16 =>
  StoreV w16 ⟨b15, 0, none⟩ [.int .i64 r13.1.1, .int .i64 r13.1.2.1, .int .i64 r13.1.2.2.1, .int .i64 r13.1.2.2.2.1, .int .i64 r13.1.2.2.2.2.1, .int .i64 r13.1.2.2.2.2.2.1, .slice r13.1.2.2.2.2.2.2.1.a r13.1.2.2.2.2.2.2.1.n r13.1.2.2.2.2.2.2.1.c, .slice r13.1.2.2.2.2.2.2.2.1.a r13.1.2.2.2.2.2.2.2.1.n r13.1.2.2.2.2.2.2.2.1.c, .bool r13.1.2.2.2.2.2.2.2.2.1, .int .i64 r13.1.2.2.2.2.2.2.2.2.2.1, .int .i64 r13.1.2.2.2.2.2.2.2.2.2.2.1, .int .u64 r13.1.2.2.2.2.2.2.2.2.2.2.2.1, .bool r13.1.2.2.2.2.2.2.2.2.2.2.2.2.1, .bool r13.1.2.2.2.2.2.2.2.2.2.2.2.2.2.1, .bool r13.1.2.2.2.2.2.2.2.2.2.2.2.2.2.2.1, .bool r13.1.2.2.2.2.2.2.2.2.2.2.2.2.2.2.2.1, .bool r13.1.2.2.2.2.2.2.2.2.2.2.2.2.2.2.2.2.1, .bool r13.1.2.2.2.2.2.2.2.2.2.2.2.2.2.2.2.2.2.1, .bool r13.1.2.2.2.2.2.2.2.2.2.2.2.2.2.2.2.2.2.2.1, .bool r13.1.2.2.2.2.2.2.2.2.2.2.2.2.2.2.2.2.2.2.2.1, .bool r13.1.2.2.2.2.2.2.2.2.2.2.2.2.2.2.2.2.2.2.2.2.1, .bool r13.1.2.2.2.2.2.2.2.2.2.2.2.2.2.2.2.2.2.2.2.2.2.1, .bool r13.1.2.2.2.2.2.2.2.2.2.2.2.2.2.2.2.2.2.2.2.2.2.2.1, .bool r13.1.2.2.2.2.2.2.2.2.2.2.2.2.2.2.2.2.2.2.2.2.2.2.2.1] fun w17 =>
  LoadA w17 ⟨b15, 0, none⟩ [.int .i64, .int .i64, .int .i64, .int .i64, .int .i64, .int .i64, .sl, .sl, .bool, .int .i64, .int .i64, .int .u64, .bool, .bool, .bool, .bool, .bool, .bool, .bool, .bool, .bool, .bool, .bool, .bool] fun (x18 : Int × Int × Int × Int × Int × Int × SlV × SlV × Bool × Int × Int × Int × Bool × Bool × Bool × Bool × Bool × Bool × Bool × Bool × Bool × Bool × Bool × Bool × Unit) =>
  StoreV w17 ⟨b1, 0, none⟩ [.int .i64 x18.1, .int .i64 x18.2.1, .int .i64 x18.2.2.1, .int .i64 x18.2.2.2.1, .int .i64 x18.2.2.2.2.1, .int .i64 x18.2.2.2.2.2.1, .slice x18.2.2.2.2.2.2.1.a x18.2.2.2.2.2.2.1.n x18.2.2.2.2.2.2.1.c, .slice x18.2.2.2.2.2.2.2.1.a x18.2.2.2.2.2.2.2.1.n x18.2.2.2.2.2.2.2.1.c, .bool x18.2.2.2.2.2.2.2.2.1, .int .i64 x18.2.2.2.2.2.2.2.2.2.1, .int .i64 x18.2.2.2.2.2.2.2.2.2.2.1, .int .u64 x18.2.2.2.2.2.2.2.2.2.2.2.1, .bool x18.2.2.2.2.2.2.2.2.2.2.2.2.1, .bool x18.2.2.2.2.2.2.2.2.2.2.2.2.2.1, .bool x18.2.2.2.2.2.2.2.2.2.2.2.2.2.2.1, .bool x18.2.2.2.2.2.2.2.2.2.2.2.2.2.2.2.1, .bool x18.2.2.2.2.2.2.2.2.2.2.2.2.2.2.2.2.1, .bool x18.2.2.2.2.2.2.2.2.2.2.2.2.2.2.2.2.2.1, .bool x18.2.2.2.2.2.2.2.2.2.2.2.2.2.2.2.2.2.2.1, .bool x18.2.2.2.2.2.2.2.2.2.2.2.2.2.2.2.2.2.2.2.1, .bool x18.2.2.2.2.2.2.2.2.2.2.2.2.2.2.2.2.2.2.2.2.1, .bool x18.2.2.2.2.2.2.2.2.2.2.2.2.2.2.2.2.2.2.2.2.2.1, .bool x18.2.2.2.2.2.2.2.2.2.2.2.2.2.2.2.2.2.2.2.2.2.2.1, .bool x18.2.2.2.2.2.2.2.2.2.2.2.2.2.2.2.2.2.2.2.2.2.2.2.1] fun w19 =>
  cond (r13.2.1 == 4)
  (LoadA w19 ⟨b1, 0, none⟩ [.int .i64, .int .i64, .int .i64, .int .i64, .int .i64, .int .i64, .sl, .sl, .bool, .int .i64, .int .i64, .int .u64, .bool, .bool, .bool, .bool, .bool, .bool, .bool, .bool, .bool, .bool, .bool, .bool] fun (x20 : Int × Int × Int × Int × Int × Int × SlV × SlV × Bool × Int × Int × Int × Bool × Bool × Bool × Bool × Bool × Bool × Bool × Bool × Bool × Bool × Bool × Bool × Unit) =>
  StoreV w19 ⟨b3, 0, none⟩ [.int .i64 x20.1, .int .i64 x20.2.1, .int .i64 x20.2.2.1, .int .i64 x20.2.2.2.1, .int .i64 x20.2.2.2.2.1, .int .i64 x20.2.2.2.2.2.1, .slice x20.2.2.2.2.2.2.1.a x20.2.2.2.2.2.2.1.n x20.2.2.2.2.2.2.1.c, .slice x20.2.2.2.2.2.2.2.1.a x20.2.2.2.2.2.2.2.1.n x20.2.2.2.2.2.2.2.1.c, .bool x20.2.2.2.2.2.2.2.2.1, .int .i64 x20.2.2.2.2.2.2.2.2.2.1, .int .i64 x20.2.2.2.2.2.2.2.2.2.2.1, .int .u64 x20.2.2.2.2.2.2.2.2.2.2.2.1, .bool x20.2.2.2.2.2.2.2.2.2.2.2.2.1, .bool x20.2.2.2.2.2.2.2.2.2.2.2.2.2.1, .bool x20.2.2.2.2.2.2.2.2.2.2.2.2.2.2.1, .bool x20.2.2.2.2.2.2.2.2.2.2.2.2.2.2.2.1, .bool x20.2.2.2.2.2.2.2.2.2.2.2.2.2.2.2.2.1, .bool x20.2.2.2.2.2.2.2.2.2.2.2.2.2.2.2.2.2.1, .bool x20.2.2.2.2.2.2.2.2.2.2.2.2.2.2.2.2.2.2.1, .bool x20.2.2.2.2.2.2.2.2.2.2.2.2.2.2.2.2.2.2.2.1, .bool x20.2.2.2.2.2.2.2.2.2.2.2.2.2.2.2.2.2.2.2.2.1, .bool x20.2.2.2.2.2.2.2.2.2.2.2.2.2.2.2.2.2.2.2.2.2.1, .bool x20.2.2.2.2.2.2.2.2.2.2.2.2.2.2.2.2.2.2.2.2.2.2.1, .bool x20.2.2.2.2.2.2.2.2.2.2.2.2.2.2.2.2.2.2.2.2.2.2.2.1] fun w21 =>
  LoadA w21 ⟨b3, 0, none⟩ [.int .i64, .int .i64, .int .i64, .int .i64, .int .i64, .int .i64, .sl, .sl, .bool, .int .i64, .int .i64, .int .u64, .bool, .bool, .bool, .bool, .bool, .bool, .bool, .bool, .bool, .bool, .bool, .bool] fun (x22 : Int × Int × Int × Int × Int × Int × SlV × SlV × Bool × Int × Int × Int × Bool × Bool × Bool × Bool × Bool × Bool × Bool × Bool × Bool × Bool × Bool × Bool × Unit) =>
  K ((x22.1, x22.2.1, x22.2.2.1, x22.2.2.2.1, x22.2.2.2.2.1, x22.2.2.2.2.2.1, x22.2.2.2.2.2.2.1, x22.2.2.2.2.2.2.2.1, x22.2.2.2.2.2.2.2.2.1, x22.2.2.2.2.2.2.2.2.2.1, x22.2.2.2.2.2.2.2.2.2.2.1, x22.2.2.2.2.2.2.2.2.2.2.2.1, x22.2.2.2.2.2.2.2.2.2.2.2.2.1, x22.2.2.2.2.2.2.2.2.2.2.2.2.2.1, x22.2.2.2.2.2.2.2.2.2.2.2.2.2.2.1, x22.2.2.2.2.2.2.2.2.2.2.2.2.2.2.2.1, x22.2.2.2.2.2.2.2.2.2.2.2.2.2.2.2.2.1, x22.2.2.2.2.2.2.2.2.2.2.2.2.2.2.2.2.2.1, x22.2.2.2.2.2.2.2.2.2.2.2.2.2.2.2.2.2.2.1, x22.2.2.2.2.2.2.2.2.2.2.2.2.2.2.2.2.2.2.2.1, x22.2.2.2.2.2.2.2.2.2.2.2.2.2.2.2.2.2.2.2.2.1, x22.2.2.2.2.2.2.2.2.2.2.2.2.2.2.2.2.2.2.2.2.2.1, x22.2.2.2.2.2.2.2.2.2.2.2.2.2.2.2.2.2.2.2.2.2.2.1, x22.2.2.2.2.2.2.2.2.2.2.2.2.2.2.2.2.2.2.2.2.2.2.2.1, ()), r13.2.1, ()) w21)
  (Rng .i64 (z5.1 + 1) ∧
  K7 (z5.1 + 1, ()) w19)))
  (LoadA w6 ⟨b1, 0, none⟩ [.int .i64, .int .i64, .int .i64, .int .i64, .int .i64, .int .i64, .sl, .sl, .bool, .int .i64, .int .i64, .int .u64, .bool, .bool, .bool, .bool, .bool, .bool, .bool, .bool, .bool, .bool, .bool, .bool] fun (x23 : Int × Int × Int × Int × Int × Int × SlV × SlV × Bool × Int × Int × Int × Bool × Bool × Bool × Bool × Bool × Bool × Bool × Bool × Bool × Bool × Bool × Bool × Unit) =>
  CallV Tryz.prog 124 #[.agg #[.int .i64 x23.1, .int .i64 x23.2.1, .int .i64 x23.2.2.1, .int .i64 x23.2.2.2.1, .int .i64 x23.2.2.2.2.1, .int .i64 x23.2.2.2.2.2.1, .slice x23.2.2.2.2.2.2.1.a x23.2.2.2.2.2.2.1.n x23.2.2.2.2.2.2.1.c, .slice x23.2.2.2.2.2.2.2.1.a x23.2.2.2.2.2.2.2.1.n x23.2.2.2.2.2.2.2.1.c, .bool x23.2.2.2.2.2.2.2.2.1, .int .i64 x23.2.2.2.2.2.2.2.2.2.1, .int .i64 x23.2.2.2.2.2.2.2.2.2.2.1, .int .u64 x23.2.2.2.2.2.2.2.2.2.2.2.1, .bool x23.2.2.2.2.2.2.2.2.2.2.2.2.1, .bool x23.2.2.2.2.2.2.2.2.2.2.2.2.2.1, .bool x23.2.2.2.2.2.2.2.2.2.2.2.2.2.2.1, .bool x23.2.2.2.2.2.2.2.2.2.2.2.2.2.2.2.1, .bool x23.2.2.2.2.2.2.2.2.2.2.2.2.2.2.2.2.1, .bool x23.2.2.2.2.2.2.2.2.2.2.2.2.2.2.2.2.2.1, .bool x23.2.2.2.2.2.2.2.2.2.2.2.2.2.2.2.2.2.2.1, .bool x23.2.2.2.2.2.2.2.2.2.2.2.2.2.2.2.2.2.2.2.1, .bool x23.2.2.2.2.2.2.2.2.2.2.2.2.2.2.2.2.2.2.2.2.1, .bool x23.2.2.2.2.2.2.2.2.2.2.2.2.2.2.2.2.2.2.2.2.2.1, .bool x23.2.2.2.2.2.2.2.2.2.2.2.2.2.2.2.2.2.2.2.2.2.2.1, .bool x23.2.2.2.2.2.2.2.2.2.2.2.2.2.2.2.2.2.2.2.2.2.2.2.1], .int .i64 z5.1] w6 [.agg [.int .i64, .int .i64, .int .i64, .int .i64, .int .i64, .int .i64, .sl, .sl, .bool, .int .i64, .int .i64, .int .u64, .bool, .bool, .bool, .bool, .bool, .bool, .bool, .bool, .bool, .bool, .bool, .bool], .one (.int .i64)] fun (r24 : (Int × Int × Int × Int × Int × Int × SlV × SlV × Bool × Int × Int × Int × Bool × Bool × Bool × Bool × Bool × Bool × Bool × Bool × Bool × Bool × Bool × Bool × Unit) × Int × Unit) w25 =>
  NewV #[.int .i64 0, .int .i64 0, .int .i64 0, .int .i64 0, .int .i64 0, .int .i64 0, .slice none 0 0, .slice none 0 0, .bool false, .int .i64 0, .int .i64 0, .int .u64 0, .bool false, .bool false, .bool false, .bool false, .bool false, .bool false, .bool false, .bool false, .bool false, .bool false, .bool false, .bool false] 77 w25 fun b26 w27 =>
  StoreV w27 ⟨b26, 0, none⟩ [.int .i64 r24.1.1, .int .i64 r24.1.2.1, .int .i64 r24.1.2.2.1, .int .i64 r24.1.2.2.2.1, .int .i64 r24.1.2.2.2.2.1, .int .i64 r24.1.2.2.2.2.2.1, .slice r24.1.2.2.2.2.2.2.1.a r24.1.2.2.2.2.2.2.1.n r24.1.2.2.2.2.2.2.1.c, .slice r24.1.2.2.2.2.2.2.2.1.a r24.1.2.2.2.2.2.2.2.1.n r24.1.2.2.2.2.2.2.2.1.c, .bool r24.1.2.2.2.2.2.2.2.2.1, .int .i64 r24.1.2.2.2.2.2.2.2.2.2.1, .int .i64 r24.1.2.2.2.2.2.2.2.2.2.2.1, .int .u64 r24.1.2.2.2.2.2.2.2.2.2.2.2.1, .bool r24.1.2.2.2.2.2.2.2.2.2.2.2.2.1, .bool r24.1.2.2.2.2.2.2.2.2.2.2.2.2.2.1, .bool r24.1.2.2.2.2.2.2.2.2.2.2.2.2.2.2.1, .bool r24.1.2.2.2.2.2.2.2.2.2.2.2.2.2.2.2.1, .bool r24.1.2.2.2.2.2.2.2.2.2.2.2.2.2.2.2.2.1, .bool r24.1.2.2.2.2.2.2.2.2.2.2.2.2.2.2.2.2.2.1, .bool r24.1.2.2.2.2.2.2.2.2.2.2.2.2.2.2.2.2.2.2.1, .bool r24.1.2.2.2.2.2.2.2.2.2.2.2.2.2.2.2.2.2.2.2.1, .bool r24.1.2.2.2.2.2.2.2.2.2.2.2.2.2.2.2.2.2.2.2.2.1, .bool r24.1.2.2.2.2.2.2.2.2.2.2.2.2.2.2.2.2.2.2.2.2.2.1, .bool r24.1.2.2.2.2.2.2.2.2.2.2.2.2.2.2.2.2.2.2.2.2.2.2.1, .bool r24.1.2.2.2.2.2.2.2.2.2.2.2.2.2.2.2.2.2.2.2.2.2.2.2.1] fun w28 =>
  LoadA w28 ⟨b26, 0, none⟩ [.int .i64, .int .i64, .int .i64, .int .i64, .int .i64, .int .i64, .sl, .sl, .bool, .int .i64, .int .i64, .int .u64, .bool, .bool, .bool, .bool, .bool, .bool, .bool, .bool, .bool, .bool, .bool, .bool] fun (x29 : Int × Int × Int × Int × Int × Int × SlV × SlV × Bool × Int × Int × Int × Bool × Bool × Bool × Bool × Bool × Bool × Bool × Bool × Bool × Bool × Bool × Bool × Unit) =>
  StoreV w28 ⟨b1, 0, none⟩ [.int .i64 x29.1, .int .i64 x29.2.1, .int .i64 x29.2.2.1, .int .i64 x29.2.2.2.1, .int .i64 x29.2.2.2.2.1, .int .i64 x29.2.2.2.2.2.1, .slice x29.2.2.2.2.2.2.1.a x29.2.2.2.2.2.2.1.n x29.2.2.2.2.2.2.1.c, .slice x29.2.2.2.2.2.2.2.1.a x29.2.2.2.2.2.2.2.1.n x29.2.2.2.2.2.2.2.1.c, .bool x29.2.2.2.2.2.2.2.2.1, .int .i64 x29.2.2.2.2.2.2.2.2.2.1, .int .i64 x29.2.2.2.2.2.2.2.2.2.2.1, .int .u64 x29.2.2.2.2.2.2.2.2.2.2.2.1, .bool x29.2.2.2.2.2.2.2.2.2.2.2.2.1, .bool x29.2.2.2.2.2.2.2.2.2.2.2.2.2.1, .bool x29.2.2.2.2.2.2.2.2.2.2.2.2.2.2.1, .bool x29.2.2.2.2.2.2.2.2.2.2.2.2.2.2.2.1, .bool x29.2.2.2.2.2.2.2.2.2.2.2.2.2.2.2.2.1, .bool x29.2.2.2.2.2.2.2.2.2.2.2.2.2.2.2.2.2.1, .bool x29.2.2.2.2.2.2.2.2.2.2.2.2.2.2.2.2.2.2.1, .bool x29.2.2.2.2.2.2.2.2.2.2.2.2.2.2.2.2.2.2.2.1, .bool x29.2.2.2.2.2.2.2.2.2.2.2.2.2.2.2.2.2.2.2.2.1, .bool x29.2.2.2.2.2.2.2.2.2.2.2.2.2.2.2.2.2.2.2.2.2.1, .bool x29.2.2.2.2.2.2.2.2.2.2.2.2.2.2.2.2.2.2.2.2.2.2.1, .bool x29.2.2.2.2.2.2.2.2.2.2.2.2.2.2.2.2.2.2.2.2.2.2.2.1] fun w30 =>
  cond (r24.2.1 == 4)
  (LoadA w30 ⟨b1, 0, none⟩ [.int .i64, .int .i64, .int .i64, .int .i64, .int .i64, .int .i64, .sl, .sl, .bool, .int .i64, .int .i64, .int .u64, .bool, .bool, .bool, .bool, .bool, .bool, .bool, .bool, .bool, .bool, .bool, .bool] fun (x31 : Int × Int × Int × Int × Int × Int × SlV × SlV × Bool × Int × Int × Int × Bool × Bool × Bool × Bool × Bool × Bool × Bool × Bool × Bool × Bool × Bool × Bool × Unit) =>
  StoreV w30 ⟨b3, 0, none⟩ [.int .i64 x31.1, .int .i64 x31.2.1, .int .i64 x31.2.2.1, .int .i64 x31.2.2.2.1, .int .i64 x31.2.2.2.2.1, .int .i64 x31.2.2.2.2.2.1, .slice x31.2.2.2.2.2.2.1.a x31.2.2.2.2.2.2.1.n x31.2.2.2.2.2.2.1.c, .slice x31.2.2.2.2.2.2.2.1.a x31.2.2.2.2.2.2.2.1.n x31.2.2.2.2.2.2.2.1.c, .bool x31.2.2.2.2.2.2.2.2.1, .int .i64 x31.2.2.2.2.2.2.2.2.2.1, .int .i64 x31.2.2.2.2.2.2.2.2.2.2.1, .int .u64 x31.2.2.2.2.2.2.2.2.2.2.2.1, .bool x31.2.2.2.2.2.2.2.2.2.2.2.2.1, .bool x31.2.2.2.2.2.2.2.2.2.2.2.2.2.1, .bool x31.2.2.2.2.2.2.2.2.2.2.2.2.2.2.1, .bool x31.2.2.2.2.2.2.2.2.2.2.2.2.2.2.2.1, .bool x31.2.2.2.2.2.2.2.2.2.2.2.2.2.2.2.2.1, .bool x31.2.2.2.2.2.2.2.2.2.2.2.2.2.2.2.2.2.1, .bool x31.2.2.2.2.2.2.2.2.2.2.2.2.2.2.2.2.2.2.1, .bool x31.2.2.2.2.2.2.2.2.2.2.2.2.2.2.2.2.2.2.2.1, .bool x31.2.2.2.2.2.2.2.2.2.2.2.2.2.2.2.2.2.2.2.2.1, .bool x31.2.2.2.2.2.2.2.2.2.2.2.2.2.2.2.2.2.2.2.2.2.1, .bool x31.2.2.2.2.2.2.2.2.2.2.2.2.2.2.2.2.2.2.2.2.2.2.1, .bool x31.2.2.2.2.2.2.2.2.2.2.2.2.2.2.2.2.2.2.2.2.2.2.2.1] fun w32 =>
  LoadA w32 ⟨b3, 0, none⟩ [.int .i64, .int .i64, .int .i64, .int .i64, .int .i64, .int .i64, .sl, .sl, .bool, .int .i64, .int .i64, .int .u64, .bool, .bool, .bool, .bool, .bool, .bool, .bool, .bool, .bool, .bool, .bool, .bool] fun (x33 : Int × Int × Int × Int × Int × Int × SlV × SlV × Bool × Int × Int × Int × Bool × Bool × Bool × Bool × Bool × Bool × Bool × Bool × Bool × Bool × Bool × Bool × Unit) =>
  K ((x33.1, x33.2.1, x33.2.2.1, x33.2.2.2.1, x33.2.2.2.2.1, x33.2.2.2.2.2.1, x33.2.2.2.2.2.2.1, x33.2.2.2.2.2.2.2.1, x33.2.2.2.2.2.2.2.2.1, x33.2.2.2.2.2.2.2.2.2.1, x33.2.2.2.2.2.2.2.2.2.2.1, x33.2.2.2.2.2.2.2.2.2.2.2.1, x33.2.2.2.2.2.2.2.2.2.2.2.2.1, x33.2.2.2.2.2.2.2.2.2.2.2.2.2.1, x33.2.2.2.2.2.2.2.2.2.2.2.2.2.2.1, x33.2.2.2.2.2.2.2.2.2.2.2.2.2.2.2.1, x33.2.2.2.2.2.2.2.2.2.2.2.2.2.2.2.2.1, x33.2.2.2.2.2.2.2.2.2.2.2.2.2.2.2.2.2.1, x33.2.2.2.2.2.2.2.2.2.2.2.2.2.2.2.2.2.2.1, x33.2.2.2.2.2.2.2.2.2.2.2.2.2.2.2.2.2.2.2.1, x33.2.2.2.2.2.2.2.2.2.2.2.2.2.2.2.2.2.2.2.2.1, x33.2.2.2.2.2.2.2.2.2.2.2.2.2.2.2.2.2.2.2.2.2.1, x33.2.2.2.2.2.2.2.2.2.2.2.2.2.2.2.2.2.2.2.2.2.2.1, x33.2.2.2.2.2.2.2.2.2.2.2.2.2.2.2.2.2.2.2.2.2.2.2.1, ()), r24.2.1, ()) w32)
  (Rng .i64 (z5.1 + 1) ∧
  K7 (z5.1 + 1, ()) w30)))))
  (LoadA w6 ⟨b1, 0, none⟩ [.int .i64, .int .i64, .int .i64, .int .i64, .int .i64, .int .i64, .sl, .sl, .bool, .int .i64, .int .i64, .int .u64, .bool, .bool, .bool, .bool, .bool, .bool, .bool, .bool, .bool, .bool, .bool, .bool] fun (x34 : Int × Int × Int × Int × Int × Int × SlV × SlV × Bool × Int × Int × Int × Bool × Bool × Bool × Bool × Bool × Bool × Bool × Bool × Bool × Bool × Bool × Bool × Unit) =>
  StoreV w6 ⟨b3, 0, none⟩ [.int .i64 x34.1, .int .i64 x34.2.1, .int .i64 x34.2.2.1, .int .i64 x34.2.2.2.1, .int .i64 x34.2.2.2.2.1, .int .i64 x34.2.2.2.2.2.1, .slice x34.2.2.2.2.2.2.1.a x34.2.2.2.2.2.2.1.n x34.2.2.2.2.2.2.1.c, .slice x34.2.2.2.2.2.2.2.1.a x34.2.2.2.2.2.2.2.1.n x34.2.2.2.2.2.2.2.1.c, .bool x34.2.2.2.2.2.2.2.2.1, .int .i64 x34.2.2.2.2.2.2.2.2.2.1, .int .i64 x34.2.2.2.2.2.2.2.2.2.2.1, .int .u64 x34.2.2.2.2.2.2.2.2.2.2.2.1, .bool x34.2.2.2.2.2.2.2.2.2.2.2.2.1, .bool x34.2.2.2.2.2.2.2.2.2.2.2.2.2.1, .bool x34.2.2.2.2.2.2.2.2.2.2.2.2.2.2.1, .bool x34.2.2.2.2.2.2.2.2.2.2.2.2.2.2.2.1, .bool x34.2.2.2.2.2.2.2.2.2.2.2.2.2.2.2.2.1, .bool x34.2.2.2.2.2.2.2.2.2.2.2.2.2.2.2.2.2.1, .bool x34.2.2.2.2.2.2.2.2.2.2.2.2.2.2.2.2.2.2.1, .bool x34.2.2.2.2.2.2.2.2.2.2.2.2.2.2.2.2.2.2.2.1, .bool x34.2.2.2.2.2.2.2.2.2.2.2.2.2.2.2.2.2.2.2.2.1, .bool x34.2.2.2.2.2.2.2.2.2.2.2.2.2.2.2.2.2.2.2.2.2.1, .bool x34.2.2.2.2.2.2.2.2.2.2.2.2.2.2.2.2.2.2.2.2.2.2.1, .bool x34.2.2.2.2.2.2.2.2.2.2.2.2.2.2.2.2.2.2.2.2.2.2.2.1] fun w35 =>
  LoadA w35 ⟨b3, 0, none⟩ [.int .i64, .int .i64, .int .i64, .int .i64, .int .i64, .int .i64, .sl, .sl, .bool, .int .i64, .int .i64, .int .u64, .bool, .bool, .bool, .bool, .bool, .bool, .bool, .bool, .bool, .bool, .bool, .bool] fun (x36 : Int × Int × Int × Int × Int × Int × SlV × SlV × Bool × Int × Int × Int × Bool × Bool × Bool × Bool × Bool × Bool × Bool × Bool × Bool × Bool × Bool × Bool × Unit) =>
  K ((x36.1, x36.2.1, x36.2.2.1, x36.2.2.2.1, x36.2.2.2.2.1, x36.2.2.2.2.2.1, x36.2.2.2.2.2.2.1, x36.2.2.2.2.2.2.2.1, x36.2.2.2.2.2.2.2.2.1, x36.2.2.2.2.2.2.2.2.2.1, x36.2.2.2.2.2.2.2.2.2.2.1, x36.2.2.2.2.2.2.2.2.2.2.2.1, x36.2.2.2.2.2.2.2.2.2.2.2.2.1, x36.2.2.2.2.2.2.2.2.2.2.2.2.2.1, x36.2.2.2.2.2.2.2.2.2.2.2.2.2.2.1, x36.2.2.2.2.2.2.2.2.2.2.2.2.2.2.2.1, x36.2.2.2.2.2.2.2.2.2.2.2.2.2.2.2.2.1, x36.2.2.2.2.2.2.2.2.2.2.2.2.2.2.2.2.2.1, x36.2.2.2.2.2.2.2.2.2.2.2.2.2.2.2.2.2.2.1, x36.2.2.2.2.2.2.2.2.2.2.2.2.2.2.2.2.2.2.2.1, x36.2.2.2.2.2.2.2.2.2.2.2.2.2.2.2.2.2.2.2.2.1, x36.2.2.2.2.2.2.2.2.2.2.2.2.2.2.2.2.2.2.2.2.2.1, x36.2.2.2.2.2.2.2.2.2.2.2.2.2.2.2.2.2.2.2.2.2.2.1, x36.2.2.2.2.2.2.2.2.2.2.2.2.2.2.2.2.2.2.2.2.2.2.2.1, ()), (0 : Int), ()) w35)
theorem ref20_others.vc (p0_0 p0_1 p0_2 p0_3 p0_4 p0_5 : Int) (a0_6 : Option Addr) (n0_6 c0_6 : Nat) (a0_7 : Option Addr) (n0_7 c0_7 : Nat) (p0_8 : Bool) (p0_9 p0_10 p0_11 : Int) (p0_12 p0_13 p0_14 p0_15 p0_16 p0_17 p0_18 p0_19 p0_20 p0_21 p0_22 p0_23 : Bool) (w : World) (K : (Int × Int × Int × Int × Int × Int × SlV × SlV × Bool × Int × Int × Int × Bool × Bool × Bool × Bool × Bool × Bool × Bool × Bool × Bool × Bool × Bool × Bool × Unit) × Int × Unit → World → Prop) (h : ref20_others.P p0_0 p0_1 p0_2 p0_3 p0_4 p0_5 a0_6 n0_6 c0_6 a0_7 n0_7 c0_7 p0_8 p0_9 p0_10 p0_11 p0_12 p0_13 p0_14 p0_15 p0_16 p0_17 p0_18 p0_19 p0_20 p0_21 p0_22 p0_23 w K) : CallV Tryz.prog 70 #[.agg #[.int .i64 p0_0, .int .i64 p0_1, .int .i64 p0_2, .int .i64 p0_3, .int .i64 p0_4, .int .i64 p0_5, .slice a0_6 n0_6 c0_6, .slice a0_7 n0_7 c0_7, .bool p0_8, .int .i64 p0_9, .int .i64 p0_10, .int .u64 p0_11, .bool p0_12, .bool p0_13, .bool p0_14, .bool p0_15, .bool p0_16, .bool p0_17, .bool p0_18, .bool p0_19, .bool p0_20, .bool p0_21, .bool p0_22, .bool p0_23]] w [.agg [.int .i64, .int .i64, .int .i64, .int .i64, .int .i64, .int .i64, .sl, .sl, .bool, .int .i64, .int .i64, .int .u64, .bool, .bool, .bool, .bool, .bool, .bool, .bool, .bool, .bool, .bool, .bool, .bool], .one (.int .i64)] K := by
  refine vcFun.of (A := ref20_others.A) (wr := false) okf_ok follows h Tryz.func70 ?_
  kernel_rfl
def ref20_Commit.A : Ann := .two .no (.two .no (.two .no (.two .no (.two (.two .no (.one (.loop [7, 10, 11, 12, 13, 28, 29, 30, 31, 32, 33, 34, 35, 36, 37, 38, 39, 40, 41, 42, 43, 44, 45, 46, 47, 48, 49, 50, 51, 52, 53, 54, 55, 56, 57, 58, 59, 60, 61, 62, 63, 64, 65, 66, 67] [(10, .one (.int .i64))] .no))) .no))))
def ref20_Commit.P (p0_0 p0_1 p0_2 p0_3 p0_4 p0_5 : Int) (a0_6 : Option Addr) (n0_6 c0_6 : Nat) (a0_7 : Option Addr) (n0_7 c0_7 : Nat) (p0_8 : Bool) (p0_9 p0_10 p0_11 : Int) (p0_12 p0_13 p0_14 p0_15 p0_16 p0_17 p0_18 p0_19 p0_20 p0_21 p0_22 p0_23 : Bool) (a1 : Option Addr) (n1 c1 : Nat) (p2 : Int) (w : World) (K : (Int × Int × Int × Int × Int × Int × SlV × SlV × Bool × Int × Int × Int × Bool × Bool × Bool × Bool × Bool × Bool × Bool × Bool × Bool × Bool × Bool × Bool × Unit) × Int × Unit → World → Prop) : Prop :=
  NewV #[.int .i64 p0_0, .int .i64 p0_1, .int .i64 p0_2, .int .i64 p0_3, .int .i64 p0_4, .int .i64 p0_5, .slice a0_6 n0_6 c0_6, .slice a0_7 n0_7 c0_7, .bool p0_8, .int .i64 p0_9, .int .i64 p0_10, .int .u64 p0_11, .bool p0_12, .bool p0_13, .bool p0_14, .bool p0_15, .bool p0_16, .bool p0_17, .bool p0_18, .bool p0_19, .bool p0_20, .bool p0_21, .bool p0_22, .bool p0_23] 77 w fun b1 w2 =>
  NewV #[.int .i64 0, .int .i64 0, .int .i64 0, .int .i64 0, .int .i64 0, .int .i64 0, .slice none 0 0, .slice none 0 0, .bool false, .int .i64 0, .int .i64 0, .int .u64 0, .bool false, .bool false, .bool false, .bool false, .bool false, .bool false, .bool false, .bool false, .bool false, .bool false, .bool false, .bool false] 77 w2 fun b3 w4 =>
  LoadS w4 ⟨b1, 8, none⟩ .bool fun (x5 : Bool) =>
  cond x5
  (LoadA w4 ⟨b1, 0, none⟩ [.int .i64, .int .i64, .int .i64, .int .i64, .int .i64, .int .i64, .sl, .sl, .bool, .int .i64, .int .i64, .int .u64, .bool, .bool, .bool, .bool, .bool, .bool, .bool, .bool, .bool, .bool, .bool, .bool] fun (x6 : Int × Int × Int × Int × Int × Int × SlV × SlV × Bool × Int × Int × Int × Bool × Bool × Bool × Bool × Bool × Bool × Bool × Bool × Bool × Bool × Bool × Bool × Unit) =>
  StoreV w4 ⟨b3, 0, none⟩ [.int .i64 x6.1, .int .i64 x6.2.1, .int .i64 x6.2.2.1, .int .i64 x6.2.2.2.1, .int .i64 x6.2.2.2.2.1, .int .i64 x6.2.2.2.2.2.1, .slice x6.2.2.2.2.2.2.1.a x6.2.2.2.2.2.2.1.n x6.2.2.2.2.2.2.1.c, .slice x6.2.2.2.2.2.2.2.1.a x6.2.2.2.2.2.2.2.1.n x6.2.2.2.2.2.2.2.1.c, .bool x6.2.2.2.2.2.2.2.2.1, .int .i64 x6.2.2.2.2.2.2.2.2.2.1, .int .i64 x6.2.2.2.2.2.2.2.2.2.2.1, .int .u64 x6.2.2.2.2.2.2.2.2.2.2.2.1, .bool x6.2.2.2.2.2.2.2.2.2.2.2.2.1, .bool x6.2.2.2.2.2.2.2.2.2.2.2.2.2.1, .bool x6.2.2.2.2.2.2.2.2.2.2.2.2.2.2.1, .bool x6.2.2.2.2.2.2.2.2.2.2.2.2.2.2.2.1, .bool x6.2.2.2.2.2.2.2.2.2.2.2.2.2.2.2.2.1, .bool x6.2.2.2.2.2.2.2.2.2.2.2.2.2.2.2.2.2.1, .bool x6.2.2.2.2.2.2.2.2.2.2.2.2.2.2.2.2.2.2.1, .bool x6.2.2.2.2.2.2.2.2.2.2.2.2.2.2.2.2.2.2.2.1, .bool x6.2.2.2.2.2.2.2.2.2.2.2.2.2.2.2.2.2.2.2.2.1, .bool x6.2.2.2.2.2.2.2.2.2.2.2.2.2.2.2.2.2.2.2.2.2.1, .bool x6.2.2.2.2.2.2.2.2.2.2.2.2.2.2.2.2.2.2.2.2.2.2.1, .bool x6.2.2.2.2.2.2.2.2.2.2.2.2.2.2.2.2.2.2.2.2.2.2.2.1] fun w7 =>
  LoadA w7 ⟨b3, 0, none⟩ [.int .i64, .int .i64, .int .i64, .int .i64, .int .i64, .int .i64, .sl, .sl, .bool, .int .i64, .int .i64, .int .u64, .bool, .bool, .bool, .bool, .bool, .bool, .bool, .bool, .bool, .bool, .bool, .bool] fun (x8 : Int × Int × Int × Int × Int × Int × SlV × SlV × Bool × Int × Int × Int × Bool × Bool × Bool × Bool × Bool × Bool × Bool × Bool × Bool × Bool × Bool × Bool × Unit) =>
  K ((x8.1, x8.2.1, x8.2.2.1, x8.2.2.2.1, x8.2.2.2.2.1, x8.2.2.2.2.2.1, x8.2.2.2.2.2.2.1, x8.2.2.2.2.2.2.2.1, x8.2.2.2.2.2.2.2.2.1, x8.2.2.2.2.2.2.2.2.2.1, x8.2.2.2.2.2.2.2.2.2.2.1, x8.2.2.2.2.2.2.2.2.2.2.2.1, x8.2.2.2.2.2.2.2.2.2.2.2.2.1, x8.2.2.2.2.2.2.2.2.2.2.2.2.2.1, x8.2.2.2.2.2.2.2.2.2.2.2.2.2.2.1, x8.2.2.2.2.2.2.2.2.2.2.2.2.2.2.2.1, x8.2.2.2.2.2.2.2.2.2.2.2.2.2.2.2.2.1, x8.2.2.2.2.2.2.2.2.2.2.2.2.2.2.2.2.2.1, x8.2.2.2.2.2.2.2.2.2.2.2.2.2.2.2.2.2.2.1, x8.2.2.2.2.2.2.2.2.2.2.2.2.2.2.2.2.2.2.2.1, x8.2.2.2.2.2.2.2.2.2.2.2.2.2.2.2.2.2.2.2.2.1, x8.2.2.2.2.2.2.2.2.2.2.2.2.2.2.2.2.2.2.2.2.2.1, x8.2.2.2.2.2.2.2.2.2.2.2.2.2.2.2.2.2.2.2.2.2.2.1, x8.2.2.2.2.2.2.2.2.2.2.2.2.2.2.2.2.2.2.2.2.2.2.2.1, ()), (4 : Int), ()) w7)
  (LoadA w4 ⟨b1, 0, none⟩ [.int .i64, .int .i64, .int .i64, .int .i64, .int .i64, .int .i64] fun (x9 : Int × Int × Int × Int × Int × Int × Unit) =>
  CallV Tryz.prog 68 #[.agg #[.int .i64 x9.1, .int .i64 x9.2.1, .int .i64 x9.2.2.1, .int .i64 x9.2.2.2.1, .int .i64 x9.2.2.2.2.1, .int .i64 x9.2.2.2.2.2.1], .slice a1 n1 c1, .int .u64 p2] w4 [.one .sl] fun (r10 : SlV × Unit) w11 =>
  LoadS w11 ⟨b1, 10, none⟩ (.int .i64) fun (x12 : Int) =>
  Rng .i64 (x12 + 1) ∧
  LoopV [.one (.int .i64)] (x12 + 1, ()) w11 fun (z13 : Int × Unit) w14 (K15 : Int × Unit → World → Prop) =>
  Rng .i64 ((x12 + 1) + 4) ∧
  cond (decide (z13.1 < ((x12 + 1) + 4)))
  (4 ≠ (0 : Int) ∧
  LoadS w14 ⟨b1, 10, none⟩ (.int .i64) fun (x16 : Int) =>
  cond ((Int.tmod z13.1 4) == x16)
  (Rng .i64 (z13.1 + 1) ∧
  K15 (z13.1 + 1, ()) w14)
  ((0 ≤ (Int.tmod z13.1 4) ∧ (Int.tmod z13.1 4) < (4 : Int)) ∧
  LoadS w14 ((⟨b1, 16, none⟩ : Addr).add ((Int.tmod z13.1 4).toNat * 1)) .bool fun (x17 : Bool) =>
  cond x17
  (Rng .i64 (z13.1 + 1) ∧
  K15 (z13.1 + 1, ()) w14)
  (LoadA w14 ⟨b1, 0, none⟩ [.int .i64, .int .i64, .int .i64, .int .i64, .int .i64, .int .i64, .sl, .sl, .bool, .int .i64, .int .i64, .int .u64, .bool, .bool, .bool, .bool, .bool, .bool, .bool, .bool, .bool, .bool, .bool, .bool] fun (x18 : Int × Int × Int × Int × Int × Int × SlV × SlV × Bool × Int × Int × Int × Bool × Bool × Bool × Bool × Bool × Bool × Bool × Bool × Bool × Bool × Bool × Bool × Unit) =>
  CallV Tryz.prog 69 #[.agg #[.int .i64 x18.1, .int .i64 x18.2.1, .int .i64 x18.2.2.1, .int .i64 x18.2.2.2.1, .int .i64 x18.2.2.2.2.1, .int .i64 x18.2.2.2.2.2.1, .slice x18.2.2.2.2.2.2.1.a x18.2.2.2.2.2.2.1.n x18.2.2.2.2.2.2.1.c, .slice x18.2.2.2.2.2.2.2.1.a x18.2.2.2.2.2.2.2.1.n x18.2.2.2.2.2.2.2.1.c, .bool x18.2.2.2.2.2.2.2.2.1, .int .i64 x18.2.2.2.2.2.2.2.2.2.1, .int .i64 x18.2.2.2.2.2.2.2.2.2.2.1, .int .u64 x18.2.2.2.2.2.2.2.2.2.2.2.1, .bool x18.2.2.2.2.2.2.2.2.2.2.2.2.1, .bool x18.2.2.2.2.2.2.2.2.2.2.2.2.2.1, .bool x18.2.2.2.2.2.2.2.2.2.2.2.2.2.2.1, .bool x18.2.2.2.2.2.2.2.2.2.2.2.2.2.2.2.1, .bool x18.2.2.2.2.2.2.2.2.2.2.2.2.2.2.2.2.1, .bool x18.2.2.2.2.2.2.2.2.2.2.2.2.2.2.2.2.2.1, .bool x18.2.2.2.2.2.2.2.2.2.2.2.2.2.2.2.2.2.2.1, .bool x18.2.2.2.2.2.2.2.2.2.2.2.2.2.2.2.2.2.2.2.1, .bool x18.2.2.2.2.2.2.2.2.2.2.2.2.2.2.2.2.2.2.2.2.1, .bool x18.2.2.2.2.2.2.2.2.2.2.2.2.2.2.2.2.2.2.2.2.2.1, .bool x18.2.2.2.2.2.2.2.2.2.2.2.2.2.2.2.2.2.2.2.2.2.2.1, .bool x18.2.2.2.2.2.2.2.2.2.2.2.2.2.2.2.2.2.2.2.2.2.2.2.1], .int .i64 (Int.tmod z13.1 4), .slice r10.1.a r10.1.n r10.1.c] w14 [.agg [.int .i64, .int .i64, .int .i64, .int .i64, .int .i64, .int .i64, .sl, .sl, .bool, .int .i64, .int .i64, .int .u64, .bool, .bool, .bool, .bool, .bool, .bool, .bool, .bool, .bool, .bool, .bool, .bool], .one (.int .i64)] fun (r19 : (Int × Int × Int × Int × Int × Int × SlV × SlV × Bool × Int × Int × Int × Bool × Bool × Bool × Bool × Bool × Bool × Bool × Bool × Bool × Bool × Bool × Bool × Unit) × Int × Unit) w20 =>
  NewV #[.int .i64 0, .int .i64 0, .int .i64 0, .int .i64 0, .int .i64 0, .int .i64 0, .slice none 0 0, .slice none 0 0, .bool false, .int .i64 0, .int .i64 0, .int .u64 0, .bool false, .bool false, .bool false, .bool false, .bool false, .bool false, .bool false, .bool false, .bool false, .bool false, .bool false, .bool false] 77 w20 fun b21 w22 =>
  StoreV w22 ⟨b21, 0, none⟩ [.int .i64 r19.1.1, .int .i64 r19.1.2.1, .int .i64 r19.1.2.2.1, .int .i64 r19.1.2.2.2.1, .int .i64 r19.1.2.2.2.2.1, .int .i64 r19.1.2.2.2.2.2.1, .slice r19.1.2.2.2.2.2.2.1.a r19.1.2.2.2.2.2.2.1.n r19.1.2.2.2.2.2.2.1.c, .slice r19.1.2.2.2.2.2.2.2.1.a r19.1.2.2.2.2.2.2.2.1.n r19.1.2.2.2.2.2.2.2.1.c, .bool r19.1.2.2.2.2.2.2.2.2.1, .int .i64 r19.1.2.2.2.2.2.2.2.2.2.1, .int .i64 r19.1.2.2.2.2.2.2.2.2.2.2.1, .int .u64 r19.1.2.2.2.2.2.2.2.2.2.2.2.1, .bool r19.1.2.2.2.2.2.2.2.2.2.2.2.2.1, .bool r19.1.2.2.2.2.2.2.2.2.2.2.2.2.2.1, .bool r19.1.2.2.2.2.2.2.2.2.2.2.2.2.2.2.1, .bool r19.1.2.2.2.2.2.2.2.2.2.2.2.2.2.2.2.1, .bool r19.1.2.2.2.2.2.2.2.2.2.2.2.2.2.2.2.2.1, .bool r19.1.2.2.2.2.2.2.2.2.2.2.2.2.2.2.2.2.2.1, .bool r19.1.2.2.2.2.2.2.2.2.2.2.2.2.2.2.2.2.2.2.1, .bool r19.1.2.2.2.2.2.2.2.2.2.2.2.2.2.2.2.2.2.2.2.1, .bool r19.1.2.2.2.2.2.2.2.2.2.2.2.2.2.2.2.2.2.2.2.2.1, .bool r19.1.2.2.2.2.2.2.2.2.2.2.2.2.2.2.2.2.2.2.2.2.2.1, .bool r19.1.2.2.2.2.2.2.2.2.2.2.2.2.2.2.2.2.2.2.2.2.2.2.1, .bool r19.1.2.2.2.2.2.2.2.2.2.2.2.2.2.2.2.2.2.2.2.2.2.2.2.1] fun w23 =>
  LoadA w23 ⟨b21, 0, none⟩ [.int .i64, .int .i64, .int .i64, .int .i64, .int .i64, .int .i64, .sl, .sl, .bool, .int .i64, .int .i64, .int .u64, .bool, .bool, .bool, .bool, .bool, .bool, .bool, .bool, .bool, .bool, .bool, .bool] fun (x24 : Int × Int × Int × Int × Int × Int × SlV × SlV × Bool × Int × Int × Int × Bool × Bool × Bool × Bool × Bool × Bool × Bool × Bool × Bool × Bool × Bool × Bool × Unit) =>
  StoreV w23 ⟨b1, 0, none⟩ [.int .i64 x24.1, .int .i64 x24.2.1, .int .i64 x24.2.2.1, .int .i64 x24.2.2.2.1, .int .i64 x24.2.2.2.2.1, .int .i64 x24.2.2.2.2.2.1, .slice x24.2.2.2.2.2.2.1.a x24.2.2.2.2.2.2.1.n x24.2.2.2.2.2.2.1.c, .slice x24.2.2.2.2.2.2.2.1.a x24.2.2.2.2.2.2.2.1.n x24.2.2.2.2.2.2.2.1.c, .bool x24.2.2.2.2.2.2.2.2.1, .int .i64 x24.2.2.2.2.2.2.2.2.2.1, .int .i64 x24.2.2.2.2.2.2.2.2.2.2.1, .int .u64 x24.2.2.2.2.2.2.2.2.2.2.2.1, .bool x24.2.2.2.2.2.2.2.2.2.2.2.2.1, .bool x24.2.2.2.2.2.2.2.2.2.2.2.2.2.1, .bool x24.2.2.2.2.2.2.2.2.2.2.2.2.2.2.1, .bool x24.2.2.2.2.2.2.2.2.2.2.2.2.2.2.2.1, .bool x24.2.2.2.2.2.2.2.2.2.2.2.2.2.2.2.2.1, .bool x24.2.2.2.2.2.2.2.2.2.2.2.2.2.2.2.2.2.1, .bool x24.2.2.2.2.2.2.2.2.2.2.2.2.2.2.2.2.2.2.1, .bool x24.2.2.2.2.2.2.2.2.2.2.2.2.2.2.2.2.2.2.2.1, .bool x24.2.2.2.2.2.2.2.2.2.2.2.2.2.2.2.2.2.2.2.2.1, .bool x24.2.2.2.2.2.2.2.2.2.2.2.2.2.2.2.2.2.2.2.2.2.1, .bool x24.2.2.2.2.2.2.2.2.2.2.2.2.2.2.2.2.2.2.2.2.2.2.1, .bool x24.2.2.2.2.2.2.2.2.2.2.2.2.2.2.2.2.2.2.2.2.2.2.2.1] fun w25 =>
  cond (r19.2.1 == 4)
  (LoadA w25 ⟨b1, 0, none⟩ [.int .i64, .int .i64, .int .i64, .int .i64, .int .i64, .int .i64, .sl, .sl, .bool, .int .i64, .int .i64, .int .u64, .bool, .bool, .bool, .bool, .bool, .bool, .bool, .bool, .bool, .bool, .bool, .bool] fun (x26 : Int × Int × Int × Int × Int × Int × SlV × SlV × Bool × Int × Int × Int × Bool × Bool × Bool × Bool × Bool × Bool × Bool × Bool × Bool × Bool × Bool × Bool × Unit) =>
  StoreV w25 ⟨b3, 0, none⟩ [.int .i64 x26.1, .int .i64 x26.2.1, .int .i64 x26.2.2.1, .int .i64 x26.2.2.2.1, .int .i64 x26.2.2.2.2.1, .int .i64 x26.2.2.2.2.2.1, .slice x26.2.2.2.2.2.2.1.a x26.2.2.2.2.2.2.1.n x26.2.2.2.2.2.2.1.c, .slice x26.2.2.2.2.2.2.2.1.a x26.2.2.2.2.2.2.2.1.n x26.2.2.2.2.2.2.2.1.c, .bool x26.2.2.2.2.2.2.2.2.1, .int .i64 x26.2.2.2.2.2.2.2.2.2.1, .int .i64 x26.2.2.2.2.2.2.2.2.2.2.1, .int .u64 x26.2.2.2.2.2.2.2.2.2.2.2.1, .bool x26.2.2.2.2.2.2.2.2.2.2.2.2.1, .bool x26.2.2.2.2.2.2.2.2.2.2.2.2.2.1, .bool x26.2.2.2.2.2.2.2.2.2.2.2.2.2.2.1, .bool x26.2.2.2.2.2.2.2.2.2.2.2.2.2.2.2.1, .bool x26.2.2.2.2.2.2.2.2.2.2.2.2.2.2.2.2.1, .bool x26.2.2.2.2.2.2.2.2.2.2.2.2.2.2.2.2.2.1, .bool x26.2.2.2.2.2.2.2.2.2.2.2.2.2.2.2.2.2.2.1, .bool x26.2.2.2.2.2.2.2.2.2.2.2.2.2.2.2.2.2.2.2.1, .bool x26.2.2.2.2.2.2.2.2.2.2.2.2.2.2.2.2.2.2.2.2.1, .bool x26.2.2.2.2.2.2.2.2.2.2.2.2.2.2.2.2.2.2.2.2.2.1, .bool x26.2.2.2.2.2.2.2.2.2.2.2.2.2.2.2.2.2.2.2.2.2.2.1, .bool x26.2.2.2.2.2.2.2.2.2.2.2.2.2.2.2.2.2.2.2.2.2.2.2.1] fun w27 =>
  LoadA w27 ⟨b3, 0, none⟩ [.int .i64, .int .i64, .int .i64, .int .i64, .int .i64, .int .i64, .sl, .sl, .bool, .int .i64, .int .i64, .int .u64, .bool, .bool, .bool, .bool, .bool, .bool, .bool, .bool, .bool, .bool, .bool, .bool] fun (x28 : Int × Int × Int × Int × Int × Int × SlV × SlV × Bool × Int × Int × Int × Bool × Bool × Bool × Bool × Bool × Bool × Bool × Bool × Bool × Bool × Bool × Bool × Unit) =>
  K ((x28.1, x28.2.1, x28.2.2.1, x28.2.2.2.1, x28.2.2.2.2.1, x28.2.2.2.2.2.1, x28.2.2.2.2.2.2.1, x28.2.2.2.2.2.2.2.1, x28.2.2.2.2.2.2.2.2.1, x28.2.2.2.2.2.2.2.2.2.1, x28.2.2.2.2.2.2.2.2.2.2.1, x28.2.2.2.2.2.2.2.2.2.2.2.1, x28.2.2.2.2.2.2.2.2.2.2.2.2.1, x28.2.2.2.2.2.2.2.2.2.2.2.2.2.1, x28.2.2.2.2.2.2.2.2.2.2.2.2.2.2.1, x28.2.2.2.2.2.2.2.2.2.2.2.2.2.2.2.1, x28.2.2.2.2.2.2.2.2.2.2.2.2.2.2.2.2.1, x28.2.2.2.2.2.2.2.2.2.2.2.2.2.2.2.2.2.1, x28.2.2.2.2.2.2.2.2.2.2.2.2.2.2.2.2.2.2.1, x28.2.2.2.2.2.2.2.2.2.2.2.2.2.2.2.2.2.2.2.1, x28.2.2.2.2.2.2.2.2.2.2.2.2.2.2.2.2.2.2.2.2.1, x28.2.2.2.2.2.2.2.2.2.2.2.2.2.2.2.2.2.2.2.2.2.1, x28.2.2.2.2.2.2.2.2.2.2.2.2.2.2.2.2.2.2.2.2.2.2.1, x28.2.2.2.2.2.2.2.2.2.2.2.2.2.2.2.2.2.2.2.2.2.2.2.1, ()), r19.2.1, ()) w27)
  (cond (r19.2.1 == 0)
  (StoreV w25 ⟨b1, 10, none⟩ [.int .i64 (Int.tmod z13.1 4)] fun w29 =>
  StoreV w29 ⟨b1, 11, none⟩ [.int .u64 p2] fun w30 =>
  LoadA w30 ⟨b1, 0, none⟩ [.int .i64, .int .i64, .int .i64, .int .i64, .int .i64, .int .i64, .sl, .sl, .bool, .int .i64, .int .i64, .int .u64, .bool, .bool, .bool, .bool, .bool, .bool, .bool, .bool, .bool, .bool, .bool, .bool] fun (x31 : Int × Int × Int × Int × Int × Int × SlV × SlV × Bool × Int × Int × Int × Bool × Bool × Bool × Bool × Bool × Bool × Bool × Bool × Bool × Bool × Bool × Bool × Unit) =>
  CallV Tryz.prog 70 #[.agg #[.int .i64 x31.1, .int .i64 x31.2.1, .int .i64 x31.2.2.1, .int .i64 x31.2.2.2.1, .int .i64 x31.2.2.2.2.1, .int .i64 x31.2.2.2.2.2.1, .slice x31.2.2.2.2.2.2.1.a x31.2.2.2.2.2.2.1.n x31.2.2.2.2.2.2.1.c, .slice x31.2.2.2.2.2.2.2.1.a x31.2.2.2.2.2.2.2.1.n x31.2.2.2.2.2.2.2.1.c, .bool x31.2.2.2.2.2.2.2.2.1, .int .i64 x31.2.2.2.2.2.2.2.2.2.1, .int .i64 x31.2.2.2.2.2.2.2.2.2.2.1, .int .u64 x31.2.2.2.2.2.2.2.2.2.2.2.1, .bool x31.2.2.2.2.2.2.2.2.2.2.2.2.1, .bool x31.2.2.2.2.2.2.2.2.2.2.2.2.2.1, .bool x31.2.2.2.2.2.2.2.2.2.2.2.2.2.2.1, .bool x31.2.2.2.2.2.2.2.2.2.2.2.2.2.2.2.1, .bool x31.2.2.2.2.2.2.2.2.2.2.2.2.2.2.2.2.1, .bool x31.2.2.2.2.2.2.2.2.2.2.2.2.2.2.2.2.2.1, .bool x31.2.2.2.2.2.2.2.2.2.2.2.2.2.2.2.2.2.2.1, .bool x31.2.2.2.2.2.2.2.2.2.2.2.2.2.2.2.2.2.2.2.1, .bool x31.2.2.2.2.2.2.2.2.2.2.2.2.2.2.2.2.2.2.2.2.1, .bool x31.2.2.2.2.2.2.2.2.2.2.2.2.2.2.2.2.2.2.2.2.2.1, .bool x31.2.2.2.2.2.2.2.2.2.2.2.2.2.2.2.2.2.2.2.2.2.2.1, .bool x31.2.2.2.2.2.2.2.2.2.2.2.2.2.2.2.2.2.2.2.2.2.2.2.1]] w30 [.agg [.int .i64, .int .i64, .int .i64, .int .i64, .int .i64, .int .i64, .sl, .sl, .bool, .int .i64, .int .i64, .int .u64, .bool, .bool, .bool, .bool, .bool, .bool, .bool, .bool, .bool, .bool, .bool, .bool], .one (.int .i64)] fun (r32 : (Int × Int × Int × Int × Int × Int × SlV × SlV × Bool × Int × Int × Int × Bool × Bool × Bool × Bool × Bool × Bool × Bool × Bool × Bool × Bool × Bool × Bool × Unit) × Int × Unit) w33 =>
  StoreV w33 ⟨b3, 0, none⟩ [.int .i64 r32.1.1, .int .i64 r32.1.2.1, .int .i64 r32.1.2.2.1, .int .i64 r32.1.2.2.2.1, .int .i64 r32.1.2.2.2.2.1, .int .i64 r32.1.2.2.2.2.2.1, .slice r32.1.2.2.2.2.2.2.1.a r32.1.2.2.2.2.2.2.1.n r32.1.2.2.2.2.2.2.1.c, .slice r32.1.2.2.2.2.2.2.2.1.a r32.1.2.2.2.2.2.2.2.1.n r32.1.2.2.2.2.2.2.2.1.c, .bool r32.1.2.2.2.2.2.2.2.2.1, .int .i64 r32.1.2.2.2.2.2.2.2.2.2.1, .int .i64 r32.1.2.2.2.2.2.2.2.2.2.2.1, .int .u64 r32.1.2.2.2.2.2.2.2.2.2.2.2.1, .bool r32.1.2.2.2.2.2.2.2.2.2.2.2.2.1, .bool r32.1.2.2.2.2.2.2.2.2.2.2.2.2.2.1, .bool r32.1.2.2.2.2.2.2.2.2.2.2.2.2.2.2.1, .bool r32.1.2.2.2.2.2.2.2.2.2.2.2.2.2.2.2.1, .bool r32.1.2.2.2.2.2.2.2.2.2.2.2.2.2.2.2.2.1, .bool r32.1.2.2.2.2.2.2.2.2.2.2.2.2.2.2.2.2.2.1, .bool r32.1.2.2.2.2.2.2.2.2.2.2.2.2.2.2.2.2.2.2.1, .bool r32.1.2.2.2.2.2.2.2.2.2.2.2.2.2.2.2.2.2.2.2.1, .bool r32.1.2.2.2.2.2.2.2.2.2.2.2.2.2.2.2.2.2.2.2.2.1, .bool r32.1.2.2.2.2.2.2.2.2.2.2.2.2.2.2.2.2.2.2.2.2.2.1, .bool r32.1.2.2.2.2.2.2.2.2.2.2.2.2.2.2.2.2.2.2.2.2.2.2.1, .bool r32.1.2.2.2.2.2.2.2.2.2.2.2.2.2.2.2.2.2.2.2.2.2.2.2.1] fun w34 =>
  LoadA w34 ⟨b3, 0, none⟩ [.int .i64, .int .i64, .int .i64, .int .i64, .int .i64, .int .i64, .sl, .sl, .bool, .int .i64, .int .i64, .int .u64, .bool, .bool, .bool, .bool, .bool, .bool, .bool, .bool, .bool, .bool, .bool, .bool] fun (x35 : Int × Int × Int × Int × Int × Int × SlV × SlV × Bool × Int × Int × Int × Bool × Bool × Bool × Bool × Bool × Bool × Bool × Bool × Bool × Bool × Bool × Bool × Unit) =>
  K ((x35.1, x35.2.1, x35.2.2.1, x35.2.2.2.1, x35.2.2.2.2.1, x35.2.2.2.2.2.1, x35.2.2.2.2.2.2.1, x35.2.2.2.2.2.2.2.1, x35.2.2.2.2.2.2.2.2.1, x35.2.2.2.2.2.2.2.2.2.1, x35.2.2.2.2.2.2.2.2.2.2.1, x35.2.2.2.2.2.2.2.2.2.2.2.1, x35.2.2.2.2.2.2.2.2.2.2.2.2.1, x35.2.2.2.2.2.2.2.2.2.2.2.2.2.1, x35.2.2.2.2.2.2.2.2.2.2.2.2.2.2.1, x35.2.2.2.2.2.2.2.2.2.2.2.2.2.2.2.1, x35.2.2.2.2.2.2.2.2.2.2.2.2.2.2.2.2.1, x35.2.2.2.2.2.2.2.2.2.2.2.2.2.2.2.2.2.1, x35.2.2.2.2.2.2.2.2.2.2.2.2.2.2.2.2.2.2.1, x35.2.2.2.2.2.2.2.2.2.2.2.2.2.2.2.2.2.2.2.1, x35.2.2.2.2.2.2.2.2.2.2.2.2.2.2.2.2.2.2.2.2.1, x35.2.2.2.2.2.2.2.2.2.2.2.2.2.2.2.2.2.2.2.2.2.1, x35.2.2.2.2.2.2.2.2.2.2.2.2.2.2.2.2.2.2.2.2.2.2.1, x35.2.2.2.2.2.2.2.2.2.2.2.2.2.2.2.2.2.2.2.2.2.2.2.1, ()), r32.2.1, ()) w34)
  (Rng .i64 (z13.1 + 1) ∧
  K15 (z13.1 + 1, ()) w25)))))
  (LoadA w14 ⟨b1, 0, none⟩ [.int .i64, .int .i64, .int .i64, .int .i64, .int .i64, .int .i64, .sl, .sl, .bool, .int .i64, .int .i64, .int .u64, .bool, .bool, .bool, .bool, .bool, .bool, .bool, .bool, .bool, .bool, .bool, .bool] fun (x36 : Int × Int × Int × Int × Int × Int × SlV × SlV × Bool × Int × Int × Int × Bool × Bool × Bool × Bool × Bool × Bool × Bool × Bool × Bool × Bool × Bool × Bool × Unit) =>
  StoreV w14 ⟨b3, 0, none⟩ [.int .i64 x36.1, .int .i64 x36.2.1, .int .i64 x36.2.2.1, .int .i64 x36.2.2.2.1, .int .i64 x36.2.2.2.2.1, .int .i64 x36.2.2.2.2.2.1, .slice x36.2.2.2.2.2.2.1.a x36.2.2.2.2.2.2.1.n x36.2.2.2.2.2.2.1.c, .slice x36.2.2.2.2.2.2.2.1.a x36.2.2.2.2.2.2.2.1.n x36.2.2.2.2.2.2.2.1.c, .bool x36.2.2.2.2.2.2.2.2.1, .int .i64 x36.2.2.2.2.2.2.2.2.2.1, .int .i64 x36.2.2.2.2.2.2.2.2.2.2.1, .int .u64 x36.2.2.2.2.2.2.2.2.2.2.2.1, .bool x36.2.2.2.2.2.2.2.2.2.2.2.2.1, .bool x36.2.2.2.2.2.2.2.2.2.2.2.2.2.1, .bool x36.2.2.2.2.2.2.2.2.2.2.2.2.2.2.1, .bool x36.2.2.2.2.2.2.2.2.2.2.2.2.2.2.2.1, .bool x36.2.2.2.2.2.2.2.2.2.2.2.2.2.2.2.2.1, .bool x36.2.2.2.2.2.2.2.2.2.2.2.2.2.2.2.2.2.1, .bool x36.2.2.2.2.2.2.2.2.2.2.2.2.2.2.2.2.2.2.1, .bool x36.2.2.2.2.2.2.2.2.2.2.2.2.2.2.2.2.2.2.2.1, .bool x36.2.2.2.2.2.2.2.2.2.2.2.2.2.2.2.2.2.2.2.2.1, .bool x36.2.2.2.2.2.2.2.2.2.2.2.2.2.2.2.2.2.2.2.2.2.1, .bool x36.2.2.2.2.2.2.2.2.2.2.2.2.2.2.2.2.2.2.2.2.2.2.1, .bool x36.2.2.2.2.2.2.2.2.2.2.2.2.2.2.2.2.2.2.2.2.2.2.2.1] fun w37 =>
  LoadA w37 ⟨b3, 0, none⟩ [.int .i64, .int .i64, .int .i64, .int .i64, .int .i64, .int .i64, .sl, .sl, .bool, .int .i64, .int .i64, .int .u64, .bool, .bool, .bool, .bool, .bool, .bool, .bool, .bool, .bool, .bool, .bool, .bool] fun (x38 : Int × Int × Int × Int × Int × Int × SlV × SlV × Bool × Int × Int × Int × Bool × Bool × Bool × Bool × Bool × Bool × Bool × Bool × Bool × Bool × Bool × Bool × Unit) =>
  K ((x38.1, x38.2.1, x38.2.2.1, x38.2.2.2.1, x38.2.2.2.2.1, x38.2.2.2.2.2.1, x38.2.2.2.2.2.2.1, x38.2.2.2.2.2.2.2.1, x38.2.2.2.2.2.2.2.2.1, x38.2.2.2.2.2.2.2.2.2.1, x38.2.2.2.2.2.2.2.2.2.2.1, x38.2.2.2.2.2.2.2.2.2.2.2.1, x38.2.2.2.2.2.2.2.2.2.2.2.2.1, x38.2.2.2.2.2.2.2.2.2.2.2.2.2.1, x38.2.2.2.2.2.2.2.2.2.2.2.2.2.2.1, x38.2.2.2.2.2.2.2.2.2.2.2.2.2.2.2.1, x38.2.2.2.2.2.2.2.2.2.2.2.2.2.2.2.2.1, x38.2.2.2.2.2.2.2.2.2.2.2.2.2.2.2.2.2.1, x38.2.2.2.2.2.2.2.2.2.2.2.2.2.2.2.2.2.2.1, x38.2.2.2.2.2.2.2.2.2.2.2.2.2.2.2.2.2.2.2.1, x38.2.2.2.2.2.2.2.2.2.2.2.2.2.2.2.2.2.2.2.2.1, x38.2.2.2.2.2.2.2.2.2.2.2.2.2.2.2.2.2.2.2.2.2.1, x38.2.2.2.2.2.2.2.2.2.2.2.2.2.2.2.2.2.2.2.2.2.2.1, x38.2.2.2.2.2.2.2.2.2.2.2.2.2.2.2.2.2.2.2.2.2.2.2.1, ()), (15 : Int), ()) w37))
theorem ref20_Commit.vc (p0_0 p0_1 p0_2 p0_3 p0_4 p0_5 : Int) (a0_6 : Option Addr) (n0_6 c0_6 : Nat) (a0_7 : Option Addr) (n0_7 c0_7 : Nat) (p0_8 : Bool) (p0_9 p0_10 p0_11 : Int) (p0_12 p0_13 p0_14 p0_15 p0_16 p0_17 p0_18 p0_19 p0_20 p0_21 p0_22 p0_23 : Bool) (a1 : Option Addr) (n1 c1 : Nat) (p2 : Int) (w : World) (K : (Int × Int × Int × Int × Int × Int × SlV × SlV × Bool × Int × Int × Int × Bool × Bool × Bool × Bool × Bool × Bool × Bool × Bool × Bool × Bool × Bool × Bool × Unit) × Int × Unit → World → Prop) (h : ref20_Commit.P p0_0 p0_1 p0_2 p0_3 p0_4 p0_5 a0_6 n0_6 c0_6 a0_7 n0_7 c0_7 p0_8 p0_9 p0_10 p0_11 p0_12 p0_13 p0_14 p0_15 p0_16 p0_17 p0_18 p0_19 p0_20 p0_21 p0_22 p0_23 a1 n1 c1 p2 w K) : CallV Tryz.prog 26 #[.agg #[.int .i64 p0_0, .int .i64 p0_1, .int .i64 p0_2, .int .i64 p0_3, .int .i64 p0_4, .int .i64 p0_5, .slice a0_6 n0_6 c0_6, .slice a0_7 n0_7 c0_7, .bool p0_8, .int .i64 p0_9, .int .i64 p0_10, .int .u64 p0_11, .bool p0_12, .bool p0_13, .bool p0_14, .bool p0_15, .bool p0_16, .bool p0_17, .bool p0_18, .bool p0_19, .bool p0_20, .bool p0_21, .bool p0_22, .bool p0_23], .slice a1 n1 c1, .int .u64 p2] w [.agg [.int .i64, .int .i64, .int .i64, .int .i64, .int .i64, .int .i64, .sl, .sl, .bool, .int .i64, .int .i64, .int .u64, .bool, .bool, .bool, .bool, .bool, .bool, .bool, .bool, .bool, .bool, .bool, .bool], .one (.int .i64)] K := by
  refine vcFun.of (A := ref20_Commit.A) (wr := false) okf_ok follows h Tryz.func26 ?_
  kernel_rfl
end Go.Proofs.YtlpeoaphdmfjdaaGreat.Vc
/-! The contracts of layer 13: one step, done by both: the walk. -/
namespace Go.Proofs.YtlpeoaphdmfjdaaGreat.Vc
open Go Go.Eng Go.RowKit
section
variable {E : Nat → Prop} {w0 w : World} {B : SlP TBd.T} {f : SlP TF.T} {C : CD} {Ts : List Asr}
theorem refCall {fn : FuncId} {args : Array Value} {l : List Sh} {get : RT l → Int × Int × Int × Int × Int × Int × SlV × SlV × Bool × Int × Unit} {C' : CD} {Q : RT l → Prop} (S : Sep E w0 w (RdT (Ty.sl TBd) B :: Ts)) (hdb : B.l.map bdOf = C.bs) (hf : LF.rd w All f) (hdf : fds f = C.pl)
    (hc : ∀ H : Nat → Prop, (∀ k, w.heap.size ≤ k → H k) → RefR H w B f C → CallV Tryz.prog fn args w l fun r w' => ∃ B' : SlP TBd.T, get r = chT B' f C' ∧ Q r ∧ RefR H w' B' f C' ∧ Ext w w') {K : RT l → World → Prop}
    (hk : ∀ r w' (B' : SlP TBd.T), get r = chT B' f C' → Q r → B'.l.map bdOf = C'.bs → Ext w w' → Sep E w0 w' (RdT (Ty.sl TBd) B' :: Ts) → K r w') : CallV Tryz.prog fn args w l K := by
  obtain ⟨F, h1, h2, h3⟩ := Sep.frame1 S
  refine (hc (fun k => F k ∨ w.heap.size ≤ k) (fun k hk => .inr hk) ⟨(Ty.sl TBd).rd_mono (fun k hk _ => .inl hk) h1, hdb, hf, hdf⟩).mono ?_
  rintro r w' ⟨B', g1, g2, g3, g4⟩
  refine hk r w' B' g1 g2 g3.db g4 (h3 w' [_] ⟨(Fr.of g4).any, fun k => (F k ∨ w.heap.size ≤ k) ∧ k < w'.heap.size, ⟨fun k => (F k ∨ w.heap.size ≤ k) ∧ k < w'.heap.size, NoB, (Ty.sl TBd).rd_mono (fun k hk hl => ⟨hk, hl⟩) g3.rb, trivial, fun _ _ x => x, fun _ x => x, fun _ x => x.elim⟩, fun k hk => hk⟩)
end
end Go.Proofs.YtlpeoaphdmfjdaaGreat.Vc
/-! The contracts of layer 20 (keybox), the document's: a block destroyed, a record written. -/
namespace Go.Proofs.YtlpeoaphdmfjdaaGreat.Vc
open Go Go.Eng Go.RowKit
abbrev gB (l : List Bool) (i : Nat) : Bool := l.getD i false
abbrev kV (Q : SlP TBd.T) (f : SlP TF.T) (B : KB) : List Value := [.int .i64 B.C.g.b, .int .i64 B.C.g.p, .int .i64 B.C.g.s, .int .i64 B.C.g.sp, .int .i64 B.C.g.wr, .int .i64 B.C.g.ro, .slice Q.a Q.n Q.c, .slice f.a f.n f.c, .bool B.C.off, .int .i64 (B.C.ops : Int), .int .i64 B.cu, .int .u64 B.ge, .bool (gB B.cl 0), .bool (gB B.cl 1), .bool (gB B.cl 2), .bool (gB B.cl 3), .bool (gB B.bd 0), .bool (gB B.bd 1), .bool (gB B.bd 2), .bool (gB B.bd 3), .bool (gB B.lk 0), .bool (gB B.lk 1), .bool (gB B.lk 2), .bool (gB B.lk 3)]
abbrev kVal (Q : SlP TBd.T) (f : SlP TF.T) (B : KB) : Value := .agg #[.int .i64 B.C.g.b, .int .i64 B.C.g.p, .int .i64 B.C.g.s, .int .i64 B.C.g.sp, .int .i64 B.C.g.wr, .int .i64 B.C.g.ro, .slice Q.a Q.n Q.c, .slice f.a f.n f.c, .bool B.C.off, .int .i64 (B.C.ops : Int), .int .i64 B.cu, .int .u64 B.ge, .bool (gB B.cl 0), .bool (gB B.cl 1), .bool (gB B.cl 2), .bool (gB B.cl 3), .bool (gB B.bd 0), .bool (gB B.bd 1), .bool (gB B.bd 2), .bool (gB B.bd 3), .bool (gB B.lk 0), .bool (gB B.lk 1), .bool (gB B.lk 2), .bool (gB B.lk 3)]
abbrev KTp : Type := Int × Int × Int × Int × Int × Int × SlV × SlV × Bool × Int × Int × Int × Bool × Bool × Bool × Bool × Bool × Bool × Bool × Bool × Bool × Bool × Bool × Bool × Unit
abbrev kT (Q : SlP TBd.T) (f : SlP TF.T) (B : KB) : KTp := (B.C.g.b, B.C.g.p, B.C.g.s, B.C.g.sp, B.C.g.wr, B.C.g.ro, ⟨Q.a, Q.n, Q.c⟩, ⟨f.a, f.n, f.c⟩, B.C.off, (B.C.ops : Int), B.cu, B.ge, gB B.cl 0, gB B.cl 1, gB B.cl 2, gB B.cl 3, gB B.bd 0, gB B.bd 1, gB B.bd 2, gB B.bd 3, gB B.lk 0, gB B.lk 1, gB B.lk 2, gB B.lk 3, ())
abbrev SH24 : List SS := [.int .i64, .int .i64, .int .i64, .int .i64, .int .i64, .int .i64, .sl, .sl, .bool, .int .i64, .int .i64, .int .u64, .bool, .bool, .bool, .bool, .bool, .bool, .bool, .bool, .bool, .bool, .bool, .bool]
abbrev boxR (b : Nat) (Q : SlP TBd.T) (f : SlP TF.T) (B : KB) : Asr := BoxA b 77 (kV Q f B)
abbrev kPr (Q : SlP TBd.T) (f : SlP TF.T) (B : KB) : List Value := [.int .i64 B.C.g.b, .int .i64 B.C.g.p, .int .i64 B.C.g.s, .int .i64 B.C.g.sp, .int .i64 B.C.g.wr, .int .i64 B.C.g.ro, .slice Q.a Q.n Q.c, .slice f.a f.n f.c, .bool B.C.off, .int .i64 (B.C.ops : Int), .int .i64 B.cu, .int .u64 B.ge]
theorem blv4 {l : List Bool} (h : l.length = 4) : blv l = [.bool (gB l 0), .bool (gB l 1), .bool (gB l 2), .bool (gB l 3)] := by
  match l, h with
  | [a, b, c, d], _ => rfl
theorem kV_eq {Q : SlP TBd.T} {f : SlP TF.T} {B : KB} (hc : B.cl.length = 4) (hb : B.bd.length = 4) (hl : B.lk.length = 4) : kV Q f B = kPr Q f B ++ (blv B.cl ++ (blv B.bd ++ blv B.lk)) := by
  rw [blv4 hc, blv4 hb, blv4 hl]
  rfl
section
variable {E : Nat → Prop} {w0 w : World} {Rs : List Asr} {b : Nat} {Q : SlP TBd.T} {f : SlP TF.T} {B : KB} {k : Int} {e : TypeId}
theorem kr_cl {v : Bool} (S : Sep E w0 w (BoxA b e (kV Q f B) :: Rs)) (hc : B.cl.length = 4) (hb : B.bd.length = 4) (hl : B.lk.length = 4) (hk : 0 ≤ k ∧ k < 4) {K : World → Prop} (hK : ∀ w', Sep E w0 w' (BoxA b e (kV Q f { B with cl := B.cl.set k.toNat v }) :: Rs) → K w') :
    StoreV w ((⟨b, 12, none⟩ : Addr).add (k.toNat * 1)) [.bool v] K := by
  rw [kV_eq hc hb hl] at S
  refine kb_set (pre := kPr Q f B) S rfl hc hk fun w' S f => hK w' ?_
  rw [kV_eq (B := { B with cl := B.cl.set k.toNat v }) (by rw [List.length_set]; exact hc) hb hl]
  exact S
theorem kr_bd {v : Bool} (S : Sep E w0 w (BoxA b e (kV Q f B) :: Rs)) (hc : B.cl.length = 4) (hb : B.bd.length = 4) (hl : B.lk.length = 4) (hk : 0 ≤ k ∧ k < 4) {K : World → Prop} (hK : ∀ w', Sep E w0 w' (BoxA b e (kV Q f { B with bd := B.bd.set k.toNat v }) :: Rs) → K w') :
    StoreV w ((⟨b, 16, none⟩ : Addr).add (k.toNat * 1)) [.bool v] K := by
  rw [kV_eq hc hb hl, ← List.append_assoc] at S
  refine kb_set (pre := kPr Q f B ++ blv B.cl) S (by rw [blv4 hc]; rfl) hb hk fun w' S f => hK w' ?_
  rw [kV_eq (B := { B with bd := B.bd.set k.toNat v }) hc (by rw [List.length_set]; exact hb) hl, ← List.append_assoc]
  exact S
theorem kr_lk {v : Bool} (S : Sep E w0 w (BoxA b e (kV Q f B) :: Rs)) (hc : B.cl.length = 4) (hb : B.bd.length = 4) (hl : B.lk.length = 4) (hk : 0 ≤ k ∧ k < 4) {K : World → Prop} (hK : ∀ w', Sep E w0 w' (BoxA b e (kV Q f { B with lk := B.lk.set k.toNat v }) :: Rs) → K w') :
    StoreV w ((⟨b, 20, none⟩ : Addr).add (k.toNat * 1)) [.bool v] K := by
  have e0 : kV Q f B = (kPr Q f B ++ (blv B.cl ++ blv B.bd)) ++ (blv B.lk ++ []) := by rw [kV_eq hc hb hl, List.append_nil, List.append_assoc, List.append_assoc]
  rw [e0] at S
  refine kb_set S (by rw [blv4 hc, blv4 hb]; rfl) hl hk fun w' S f => hK w' ?_
  rw [kV_eq (B := { B with lk := B.lk.set k.toNat v }) hc hb (by rw [List.length_set]; exact hl)]
  rw [List.append_nil, List.append_assoc, List.append_assoc] at S
  exact S
theorem kr_gc (S : Sep E w0 w (BoxA b e (kV Q f B) :: Rs)) (hc : B.cl.length = 4) (hb : B.bd.length = 4) (hl : B.lk.length = 4) (hk : 0 ≤ k ∧ k < 4) {K : Bool → Prop} (hK : K (B.c k)) : LoadS w ((⟨b, 12, none⟩ : Addr).add (k.toNat * 1)) .bool K := by
  rw [kV_eq hc hb hl] at S
  exact kb_get (pre := kPr Q f B) S rfl hc hk hK
theorem kr_gb (S : Sep E w0 w (BoxA b e (kV Q f B) :: Rs)) (hc : B.cl.length = 4) (hb : B.bd.length = 4) (hl : B.lk.length = 4) (hk : 0 ≤ k ∧ k < 4) {K : Bool → Prop} (hK : K (B.b k)) : LoadS w ((⟨b, 16, none⟩ : Addr).add (k.toNat * 1)) .bool K := by
  rw [kV_eq hc hb hl, ← List.append_assoc] at S
  exact kb_get (pre := kPr Q f B ++ blv B.cl) S (by rw [blv4 hc]; rfl) hb hk hK
theorem kr_gl (S : Sep E w0 w (BoxA b e (kV Q f B) :: Rs)) (hc : B.cl.length = 4) (hb : B.bd.length = 4) (hl : B.lk.length = 4) (hk : 0 ≤ k ∧ k < 4) {K : Bool → Prop} (hK : K (B.l k)) : LoadS w ((⟨b, 20, none⟩ : Addr).add (k.toNat * 1)) .bool K := by
  have e0 : kV Q f B = (kPr Q f B ++ (blv B.cl ++ blv B.bd)) ++ (blv B.lk ++ []) := by rw [kV_eq hc hb hl, List.append_nil, List.append_assoc, List.append_assoc]
  rw [e0] at S
  exact kb_get S (by rw [blv4 hc, blv4 hb]; rfl) hl hk hK
end
abbrev zK : List Value := [.int .i64 0, .int .i64 0, .int .i64 0, .int .i64 0, .int .i64 0, .int .i64 0, .slice none 0 0, .slice none 0 0, .bool false, .int .i64 0, .int .i64 0, .int .u64 0, .bool false, .bool false, .bool false, .bool false, .bool false, .bool false, .bool false, .bool false, .bool false, .bool false, .bool false, .bool false]
abbrev kQ (Q : SlP TBd.T) : Asr := RdT (Ty.sl TBd) Q
abbrev tB : TypeId := 77
abbrev tC : TypeId := 34
def DsR (F : Nat → Prop) (w w' : World) (f : SlP TF.T) (Ps : List Asr) (X : KB × Int) (r : KTp × Int × Unit) : Prop := ∃ Q', (r.1 = kT Q' f X.1 ∧ r.2.1 = X.2 ∧ Q'.l.map bdOf = X.1.C.bs) ∧ Sep F w w' (kQ Q' :: Ps)
section
variable {E : Nat → Prop} {w0 w : World} {Rs Ts Ps : List Asr} {Q : SlP TBd.T} {f : SlP TF.T} {B : KB} {b1 b3 : Nat} {e1 e3 : TypeId}
theorem LF_all {w' : World} {F : Nat → Prop} {Rs : List Asr} (hf : LF.rd w (fun k => ¬ F k) f) (S : Sep F w w' Rs) : LF.rd w' All f := LF.rd_mono (fun _ _ _ => trivial) (LF.rd_kp (fun k hk hl => S.fr.block k hl hk) hf)
theorem LF_outK {G : Nat → Prop} (hf : LF.rd w0 (fun k => ¬ E k) f) (S : Sep E w0 w Rs) (hG : ∀ k, G k → (E k ∨ w0.heap.size ≤ k) ∧ k < w.heap.size) : LF.rd w (fun k => ¬ G k) f := by
  have h1 : LF.rd w0 (fun k => ¬ E k ∧ ¬ G k) f := LF.rd_mono (fun k hk hl => ⟨hk, fun hg => by rcases (hG k hg).1 with x | x; exact hk x; omega⟩) hf
  exact LF.rd_mono (fun k hk _ => hk.2) (LF.rd_kp (fun k hk hl => S.fr.block k hl hk.1) h1)
theorem kr_put {Q1 : SlP TBd.T} {C' : CD} (S : Sep E w0 w (kQ Q1 :: BoxA b1 e1 (kV Q f B) :: Rs)) {K : World → Prop} (hK : ∀ w', Sep E w0 w' (kQ Q1 :: BoxA b1 e1 (kV Q1 f { B with C := C' }) :: Rs) → K w') :
    NewV #[.int .i64 0, .int .i64 0, .int .i64 0, .int .i64 0, .int .i64 0, .int .i64 0, .slice none 0 0, .slice none 0 0, .bool false, .int .i64 0] tC w fun b8 w9 => StoreV w9 ⟨b8, 0, none⟩ (chV Q1 f C') fun w10 => LoadA w10 ⟨b8, 0, none⟩ SH10 fun x => StoreV w10 ⟨b1, 0, none⟩ [.int .i64 x.1, .int .i64 x.2.1, .int .i64 x.2.2.1, .int .i64 x.2.2.2.1, .int .i64 x.2.2.2.2.1, .int .i64 x.2.2.2.2.2.1, .slice x.2.2.2.2.2.2.1.a x.2.2.2.2.2.2.1.n x.2.2.2.2.2.2.1.c, .slice x.2.2.2.2.2.2.2.1.a x.2.2.2.2.2.2.2.1.n x.2.2.2.2.2.2.2.1.c, .bool x.2.2.2.2.2.2.2.2.1, .int .i64 x.2.2.2.2.2.2.2.2.2.1] K :=
  S.newB fun b8 w4 S f4 _ => S.st0 (by rfl) fun w5 S f5 => S.la0 (l := SH10) (x := chT Q1 f C') rfl (S.store 2 rfl 0 (Nat.le_of_ble_eq_true rfl) fun w6 S f6 => hK w6 S.tail)
theorem kr_puts {v1 : List Value} (S : Sep E w0 w (kQ Q :: BoxA b1 e1 v1 :: Rs)) (hv : v1.length = 24) {K : World → Prop} (hK : ∀ w', Sep E w0 w' (kQ Q :: BoxA b1 e1 (kV Q f B) :: Rs) → K w') :
    NewV #[.int .i64 0, .int .i64 0, .int .i64 0, .int .i64 0, .int .i64 0, .int .i64 0, .slice none 0 0, .slice none 0 0, .bool false, .int .i64 0, .int .i64 0, .int .u64 0, .bool false, .bool false, .bool false, .bool false, .bool false, .bool false, .bool false, .bool false, .bool false, .bool false, .bool false, .bool false] tB w fun b8 w9 => StoreV w9 ⟨b8, 0, none⟩ (kV Q f B) fun w10 => LoadA w10 ⟨b8, 0, none⟩ SH24 fun x => StoreV w10 ⟨b1, 0, none⟩ [.int .i64 x.1, .int .i64 x.2.1, .int .i64 x.2.2.1, .int .i64 x.2.2.2.1, .int .i64 x.2.2.2.2.1, .int .i64 x.2.2.2.2.2.1, .slice x.2.2.2.2.2.2.1.a x.2.2.2.2.2.2.1.n x.2.2.2.2.2.2.1.c, .slice x.2.2.2.2.2.2.2.1.a x.2.2.2.2.2.2.2.1.n x.2.2.2.2.2.2.2.1.c, .bool x.2.2.2.2.2.2.2.2.1, .int .i64 x.2.2.2.2.2.2.2.2.2.1, .int .i64 x.2.2.2.2.2.2.2.2.2.2.1, .int .u64 x.2.2.2.2.2.2.2.2.2.2.2.1, .bool x.2.2.2.2.2.2.2.2.2.2.2.2.1, .bool x.2.2.2.2.2.2.2.2.2.2.2.2.2.1, .bool x.2.2.2.2.2.2.2.2.2.2.2.2.2.2.1, .bool x.2.2.2.2.2.2.2.2.2.2.2.2.2.2.2.1, .bool x.2.2.2.2.2.2.2.2.2.2.2.2.2.2.2.2.1, .bool x.2.2.2.2.2.2.2.2.2.2.2.2.2.2.2.2.2.1, .bool x.2.2.2.2.2.2.2.2.2.2.2.2.2.2.2.2.2.2.1, .bool x.2.2.2.2.2.2.2.2.2.2.2.2.2.2.2.2.2.2.2.1, .bool x.2.2.2.2.2.2.2.2.2.2.2.2.2.2.2.2.2.2.2.2.1, .bool x.2.2.2.2.2.2.2.2.2.2.2.2.2.2.2.2.2.2.2.2.2.1, .bool x.2.2.2.2.2.2.2.2.2.2.2.2.2.2.2.2.2.2.2.2.2.2.1, .bool x.2.2.2.2.2.2.2.2.2.2.2.2.2.2.2.2.2.2.2.2.2.2.2.1] K :=
  S.newB fun b8 w4 S f4 _ => S.st0 (by rfl) fun w5 S f5 => S.la0 (l := SH24) (x := kT Q f B) rfl (S.st2 (by rw [hv]; rfl) fun w6 S f6 => hK w6 S.tail)
theorem kr_fin {v3 : List Value} {e : Int} {X : KB × Int} (S : Sep E w0 w (kQ Q :: BoxA b1 e1 (kV Q f B) :: BoxA b3 e3 v3 :: (Ps ++ Rs))) (hv : v3.length = 24) (hX : X = (B, e)) (hdb : Q.l.map bdOf = B.C.bs) (hp : ∀ w', Sep E w0 w' (kQ Q :: (Ps ++ Rs)) → Sep E w0 w' (kQ Q :: Ps)) :
    LoadA w ⟨b1, 0, none⟩ SH24 fun x => StoreV w ⟨b3, 0, none⟩ [.int .i64 x.1, .int .i64 x.2.1, .int .i64 x.2.2.1, .int .i64 x.2.2.2.1, .int .i64 x.2.2.2.2.1, .int .i64 x.2.2.2.2.2.1, .slice x.2.2.2.2.2.2.1.a x.2.2.2.2.2.2.1.n x.2.2.2.2.2.2.1.c, .slice x.2.2.2.2.2.2.2.1.a x.2.2.2.2.2.2.2.1.n x.2.2.2.2.2.2.2.1.c, .bool x.2.2.2.2.2.2.2.2.1, .int .i64 x.2.2.2.2.2.2.2.2.2.1, .int .i64 x.2.2.2.2.2.2.2.2.2.2.1, .int .u64 x.2.2.2.2.2.2.2.2.2.2.2.1, .bool x.2.2.2.2.2.2.2.2.2.2.2.2.1, .bool x.2.2.2.2.2.2.2.2.2.2.2.2.2.1, .bool x.2.2.2.2.2.2.2.2.2.2.2.2.2.2.1, .bool x.2.2.2.2.2.2.2.2.2.2.2.2.2.2.2.1, .bool x.2.2.2.2.2.2.2.2.2.2.2.2.2.2.2.2.1, .bool x.2.2.2.2.2.2.2.2.2.2.2.2.2.2.2.2.2.1, .bool x.2.2.2.2.2.2.2.2.2.2.2.2.2.2.2.2.2.2.1, .bool x.2.2.2.2.2.2.2.2.2.2.2.2.2.2.2.2.2.2.2.1, .bool x.2.2.2.2.2.2.2.2.2.2.2.2.2.2.2.2.2.2.2.2.1, .bool x.2.2.2.2.2.2.2.2.2.2.2.2.2.2.2.2.2.2.2.2.2.1, .bool x.2.2.2.2.2.2.2.2.2.2.2.2.2.2.2.2.2.2.2.2.2.2.1, .bool x.2.2.2.2.2.2.2.2.2.2.2.2.2.2.2.2.2.2.2.2.2.2.2.1] fun w9 => LoadA w9 ⟨b3, 0, none⟩ SH24 fun y => DsR E w0 w9 f Ps X ((y.1, y.2.1, y.2.2.1, y.2.2.2.1, y.2.2.2.2.1, y.2.2.2.2.2.1, y.2.2.2.2.2.2.1, y.2.2.2.2.2.2.2.1, y.2.2.2.2.2.2.2.2.1, y.2.2.2.2.2.2.2.2.2.1, y.2.2.2.2.2.2.2.2.2.2.1, y.2.2.2.2.2.2.2.2.2.2.2.1, y.2.2.2.2.2.2.2.2.2.2.2.2.1, y.2.2.2.2.2.2.2.2.2.2.2.2.2.1, y.2.2.2.2.2.2.2.2.2.2.2.2.2.2.1, y.2.2.2.2.2.2.2.2.2.2.2.2.2.2.2.1, y.2.2.2.2.2.2.2.2.2.2.2.2.2.2.2.2.1, y.2.2.2.2.2.2.2.2.2.2.2.2.2.2.2.2.2.1, y.2.2.2.2.2.2.2.2.2.2.2.2.2.2.2.2.2.2.1, y.2.2.2.2.2.2.2.2.2.2.2.2.2.2.2.2.2.2.2.1, y.2.2.2.2.2.2.2.2.2.2.2.2.2.2.2.2.2.2.2.2.1, y.2.2.2.2.2.2.2.2.2.2.2.2.2.2.2.2.2.2.2.2.2.1, y.2.2.2.2.2.2.2.2.2.2.2.2.2.2.2.2.2.2.2.2.2.2.1, y.2.2.2.2.2.2.2.2.2.2.2.2.2.2.2.2.2.2.2.2.2.2.2.1, ()), e, ()) :=
  S.la1 rfl (S.st2 (by rw [hv]; rfl) fun w9 S f9 => S.la2 rfl ⟨Q, ⟨by rw [hX], by rw [hX], by rw [hX]; exact hdb⟩, hp _ (S.fro [1, 1] rfl).tail.tail⟩)
theorem kCall {fn : FuncId} {args : Array Value} {X : KB × Int} (Ps : List Asr) {Ts : List Asr} (S : Sep E w0 w ((kQ Q :: Ps) ++ Ts)) (hf : LF.rd w0 (fun k => ¬ E k) f) (hc : ∀ F, LF.rd w (fun k => ¬ F k) f → Sep F w w (kQ Q :: Ps) → CallV Tryz.prog fn args w [.agg SH24, .one (.int .i64)] fun r w' => DsR F w w' f Ps X r) {K : KTp × Int × Unit → World → Prop}
    (hk : ∀ (Q' : SlP TBd.T) (w' : World), Q'.l.map bdOf = X.1.C.bs → Sep E w0 w' (kQ Q' :: (Ps ++ Ts)) → K (kT Q' f X.1, X.2, ()) w') : CallV Tryz.prog fn args w [.agg SH24, .one (.int .i64)] K := by
  refine Sep.callB (kQ Q :: Ps) S (fun F hF SF => hc F (LF_outK hf S hF) SF) fun F fr r w' hr => ?_
  obtain ⟨r1, (r2 : Int), ⟨⟩⟩ := r
  obtain ⟨Q', ⟨h1, h2, h3⟩, S'⟩ := hr
  dsimp only at h1 h2
  subst h1; subst h2
  exact hk Q' w' h3 (fr _ _ S')
end
section
variable {F : Nat → Prop} {w : World} {g : Geo} {Q : SlP TBd.T} {f : SlP TF.T} {B : KB} {k : Int} {Ps : List Asr}
theorem rDs20_c (hdb : Q.l.map bdOf = B.C.bs) (hdf : fds f = B.C.pl) (h : KI g B) (hk : 0 ≤ k ∧ k < 4) (ho : B.C.ops + 2 ≤ 1000000) (hf : LF.rd w (fun k => ¬ F k) f) (S : Sep F w w (kQ Q :: Ps)) :
    CallV Tryz.prog 124 #[kVal Q f B, .int .i64 k] w [.agg SH24, .one (.int .i64)] fun r w' => DsR F w w' f Ps (dsK B k) r := by
  apply ref20_Destroy.vc
  unfold ref20_Destroy.P
  obtain ⟨o1, o2, o3⟩ := eraC_ok h.ok k (by omega)
  refine S.newB fun b1 w1 S f1 _ => S.newB fun b3 w2 S f2 _ => ?_
  have S : Sep F w w2 (boxR b1 Q f B :: kQ Q :: BoxA b3 tB zK :: Ps) := S.fro [1, 1] rfl
  refine S.lb0 (o := 0) rfl ?_
  refine refCall (l := [.agg SH10, .one (.int .i64)]) (get := fun r => r.1) (C' := (eraC B.C k).1) (Q := fun r => r.2.1 = (eraC B.C k).2) S.up1 hdb (LF_all hf S) hdf (fun H hH hR => rErase13_c hH hR h.ok (by omega)) ?_
  rintro ⟨_, (e : Int), ⟨⟩⟩ w3 Q1 hr he hdb1 x3 S
  dsimp only at hr he
  subst hr; subst he
  dsimp only
  refine kr_put (C' := (eraC B.C k).1) S fun w4 S => ?_
  have hpl : fds f = (eraC B.C k).1.pl := hdf.trans (eraC_k B.C k).2.symm
  have hp : ∀ {Q' : SlP TBd.T} (w' : World), Sep F w w' (kQ Q' :: (Ps ++ [])) → Sep F w w' (kQ Q' :: Ps) := fun w' S => by rw [List.append_nil] at S; exact S
  have hP : Ps = Ps ++ [] := (List.append_nil _).symm
  refine cond_eq (fun (h0 : (eraC B.C k).2 = 0) => ?_) (fun (h0 : (eraC B.C k).2 ≠ 0) => ?_)
  · refine ⟨hk, kr_cl S.up1 h.cl h.bd h.lk hk fun w5 S => ⟨hk, kr_lk S (by rw [List.length_set]; exact h.cl) h.bd h.lk hk fun w6 S => ?_⟩⟩
    refine cond_t (by rw [h0]; rfl) ?_
    rw [hP] at S
    exact kr_fin S.up1 rfl (by unfold dsK; rw [if_neg (by omega), if_pos h0, h0]) hdb1 hp
  refine cond_ne (fun (h5 : (eraC B.C k).2 ≠ 5) => ?_) (fun (h5 : (eraC B.C k).2 = 5) => ?_)
  · rw [hP] at S
    exact kr_fin S rfl (by unfold dsK; rw [if_neg h5, if_neg h0]) hdb1 hp
  refine ⟨hk, kr_bd S.up1 h.cl h.bd h.lk hk fun w5 S => ⟨hk, kr_cl S h.cl (by rw [List.length_set]; exact h.bd) h.lk hk fun w6 S => ?_⟩⟩
  refine S.lb0 (o := 0) rfl ?_
  refine refCall (l := [.agg SH10, .one (.int .i64)]) (get := fun r => r.1) (C' := (scrC (eraC B.C k).1 k).1) (Q := fun r => r.2.1 = (scrC (eraC B.C k).1 k).2) S.up1 hdb1 (LF_all hf S) hpl (fun H hH hR => rScrub13_c hH hR o1 (by omega)) ?_
  rintro ⟨_, (e : Int), ⟨⟩⟩ w7 Q2 hr he hdb2 x7 S
  dsimp only at hr he
  subst hr; subst he
  dsimp only
  refine kr_put (C' := (scrC (eraC B.C k).1 k).1) S fun w8 S => ?_
  refine cond_eq (fun (h4 : (scrC (eraC B.C k).1 k).2 = 4) => ?_) (fun (h4 : (scrC (eraC B.C k).1 k).2 ≠ 4) => ?_)
  · rw [hP] at S
    exact kr_fin S rfl (by unfold dsK; rw [if_pos h5, if_pos h4, h4]) hdb2 hp
  · refine ⟨hk, kr_lk S.up1 (by rw [List.length_set]; exact h.cl) (by rw [List.length_set]; exact h.bd) h.lk hk fun w9 S => ?_⟩
    rw [hP] at S
    exact kr_fin S.up1 rfl (by unfold dsK; rw [if_pos h5, if_neg h4]) hdb2 hp
end
end Go.Proofs.YtlpeoaphdmfjdaaGreat.Vc
/-! The contracts of layer 20 (keybox), the document's: a record written. -/
namespace Go.Proofs.YtlpeoaphdmfjdaaGreat.Vc
open Go Go.Eng Go.RowKit
section
variable {F : Nat → Prop} {w : World} {g : Geo} {Q : SlP TBd.T} {f : SlP TF.T} {B : KB} {k : Int} {y : SlP (SlP Int)}
abbrev PY (y : SlP (SlP Int)) : Asr := RdT TBB y
theorem PY_rd {E : Nat → Prop} {w0 w : World} {Rs : List Asr} (S : Sep E w0 w Rs) (i : Nat) (hi : Rs[i]? = some (PY y)) : TBB.rd w All y := by
  obtain ⟨G, hG, -⟩ := S.get hi
  exact TBB.rd_mono (fun _ _ _ => trivial) hG
theorem rWr20_c (hdb : Q.l.map bdOf = B.C.bs) (hdf : fds f = B.C.pl) (h : KI g B) (hy1 : 1 ≤ y.n) (hyn : y.n ≤ 100) (ho : B.C.ops + y.n + 1 ≤ 1000000) (hf : LF.rd w (fun k => ¬ F k) f) (S : Sep F w w (kQ Q :: [PY y])) :
    CallV Tryz.prog 125 #[kVal Q f B, .int .i64 k, .slice y.a y.n y.c] w [.agg SH24, .one (.int .i64)] fun r w' => DsR F w w' f [PY y] ({ B with C := (wrK B.C k (y.l.map (·.l))).1 }, (wrK B.C k (y.l.map (·.l))).2) r := by
  apply ref20_write.vc
  unfold ref20_write.P
  have hR : Right g := by have := h.ok.g; rwa [h.gg] at this
  have hyl : y.l.length = y.n := (PY_rd S 1 rfl).1
  have hbt : ∀ x ∈ y.l, Byt x.l := fun x hx => Ty.byt ((PY_rd S 1 rfl).2.2.2.2 x hx)
  have hll : (y.l.map (·.l)).length = y.n := by rw [List.length_map, hyl]
  refine S.newB fun b1 w1 S f1 _ => S.newB fun b3 w2 S f2 _ => ?_
  have S : Sep F w w2 (kQ Q :: boxR b1 Q f B :: BoxA b3 tB zK :: [PY y]) := S.fro [2, 1] rfl
  generalize hX : wrPg k (y.l.map (·.l)) 0 B.C = X
  have hp : ∀ {Q' : SlP TBd.T} (w' : World), Sep F w w' (kQ Q' :: ([PY y] ++ [])) → Sep F w w' (kQ Q' :: [PY y]) := fun w' S => S
  have hwk : ∀ {C : CD}, X = (C, 0) → wrK B.C k (y.l.map (·.l)) = progC C k ((y.n : Int) - 1) (comL g) := fun hw => by
    unfold wrK
    rw [hX, hw, if_pos rfl, hll, h.gg]
  refine Loop1 (fun (v : Int × Unit) w' => ∃ (i : Nat) (C : CD) (Q : SlP TBd.T), v.1 = (i : Int) ∧ COk C ∧ C.g = g ∧ C.pl = B.C.pl ∧ C.ops ≤ B.C.ops + i ∧ Q.l.map bdOf = C.bs ∧ ((i ≤ y.n ∧ wrPg k ((y.l.drop i).map (·.l)) (i : Int) C = X) ∨ (i = y.n + 1 ∧ wrK B.C k (y.l.map (·.l)) = (C, 0))) ∧ Sep F w w' (kQ Q :: boxR b1 Q f { B with C := C } :: BoxA b3 tB zK :: [PY y]))
    (fun (v : Int × Unit) _ => ((y.n : Int) + 1 - v.1).toNat) ⟨0, B.C, Q, rfl, h.ok, h.gg, rfl, by omega, hdb, .inl ⟨by omega, hX⟩, S⟩ ?_
  clear S hdb
  rintro ⟨(v : Int), ⟨⟩⟩ w3 ⟨i, C, Q, hv, hC, hg, hpl, hops, hdb, hcase, S⟩
  dsimp only at hv
  subst hv
  refine cond_d (fun hle => ?_) (fun hgt => ?_)
  case refine_2 =>
    have hw : wrK B.C k (y.l.map (·.l)) = (C, 0) := by rcases hcase with x | x; omega; exact x.2
    exact kr_fin (Ps := [PY y]) (Rs := []) S rfl (by rw [hw]) hdb hp
  have hi : i ≤ y.n := by omega
  have hw : wrPg k ((y.l.drop i).map (·.l)) (i : Int) C = X := by rcases hcase with x | x; exact x.2; omega
  clear hcase
  refine ⟨Rng.i64 (by omega) (by omega), ?_⟩
  unfold NameI
  intro z hz
  refine S.newB fun b9 w4 S f4 _ => S.st0 (by rfl) fun w5 S f5 => S.lb2 (o := 0) rfl ?_
  have S := S.up1
  refine (rCommit15_c (g := C.g) hC.g).mono ?_
  rintro ⟨⟨ca, cn, cc⟩, ⟨⟩⟩ w6 R
  dsimp only at R ⊢
  rw [hg] at R
  have S := S.stepE R.ext
  have hdf2 : fds f = C.pl := hdf.trans hpl.symm
  refine cond_d (fun hlt => ?_) (fun hge => ?_)
  · obtain ⟨q, x, hq, hx, hc, hr, -, -⟩ := TBB_nth (PY_rd S 4 rfl) (i := (i : Int)) (by omega) hlt
    have hx' : y.l[i]? = some x := by rw [Int.toNat_natCast] at hx; exact hx
    have hi' : i < y.l.length := by omega
    have hdrop : y.l.drop i = x :: y.l.drop (i + 1) := by
      rw [List.drop_eq_getElem_cons hi']
      congr 1
      exact (List.getElem?_eq_some_iff.1 hx').2
    rw [hdrop, List.map_cons] at hw
    unfold wrPg at hw
    have hm := List.mem_of_getElem? hx'
    have hz : z = (i : Int) := by omega
    subst hz
    refine ⟨⟨by omega, hlt⟩, q, hq, ldp0 hc (h := .sl) (x := ⟨x.a, x.n, x.c⟩) rfl (S.lb2 (o := 0) rfl (S.la1 rfl ?_))⟩
    refine refCall (l := [.agg SH10, .one (.int .i64)]) (get := fun r => r.1) (C' := (progC C k (i : Int) x.l).1) (Q := fun r => r.2.1 = (progC C k (i : Int) x.l).2) S hdb (LF_all hf S) hdf2 (fun H hH hR => rProgram13_c hH hR hC (by omega) (Ty.ints hr) (hbt x hm)) ?_
    rintro ⟨_, (e : Int), ⟨⟩⟩ w7 Q1 hr2 he hdb1 x7 S
    dsimp only at hr2 he
    subst hr2; subst he
    dsimp only
    refine kr_put (C' := (progC C k (i : Int) x.l).1) S.up1.tail fun w8 S => ?_
    refine cond_ne (fun hne => ?_) (fun h0 => ?_)
    · rw [if_neg hne] at hw
      have hk : wrK B.C k (y.l.map (·.l)) = progC C k (i : Int) x.l := by unfold wrK; rw [hX, ← hw, if_neg hne]
      exact kr_fin (Ps := [PY y]) (Rs := []) S rfl (by rw [hk]) hdb1 hp
    · rw [if_pos h0] at hw
      obtain ⟨a1, a2, a3⟩ := progC_ok hC k (i : Int) (hbt x hm) (by omega)
      obtain ⟨c1, c2⟩ := progC_k C k (i : Int) x.l
      exact ⟨Rng.i64 (by omega) (by omega), ⟨i + 1, _, Q1, by push_cast; rfl, a1, c1.trans hg, c2.trans hpl, by omega, hdb1, .inl ⟨by omega, by push_cast; exact hw⟩, S⟩, by omega⟩
  have hin : i = y.n := by omega
  subst hin
  rw [List.drop_eq_nil_of_le (by omega), List.map_nil] at hw
  have hw : X = (C, 0) := hw.symm
  have hk := hwk hw
  have hz : z = (y.n : Int) - 1 := by omega
  subst hz
  refine S.lb2 (o := 0) rfl (S.la1 rfl ?_)
  refine refCall (l := [.agg SH10, .one (.int .i64)]) (get := fun r => r.1) (C' := (progC C k ((y.n : Int) - 1) (comL g)).1) (Q := fun r => r.2.1 = (progC C k ((y.n : Int) - 1) (comL g)).2) S hdb (LF_all hf S) hdf2 (fun H hH hR => rProgram13_c hH hR hC (by omega) R.ints (comL_byt20 g)) ?_
  rintro ⟨_, (e : Int), ⟨⟩⟩ w7 Q1 hr2 he hdb1 x7 S
  dsimp only at hr2 he
  subst hr2; subst he
  dsimp only
  refine kr_put (C' := (progC C k ((y.n : Int) - 1) (comL g)).1) S.up1.tail fun w8 S => ?_
  refine cond_ne (fun hne => ?_) (fun h0 => ?_)
  · exact kr_fin (Ps := [PY y]) (Rs := []) S rfl (by rw [hk]) hdb1 hp
  · obtain ⟨a1, a2, a3⟩ := progC_ok hC k ((y.n : Int) - 1) (comL_byt20 g) (by omega)
    obtain ⟨c1, c2⟩ := progC_k C k ((y.n : Int) - 1) (comL g)
    exact ⟨Rng.i64 (by omega) (by omega), ⟨y.n + 1, _, Q1, by push_cast; rfl, a1, c1.trans hg, c2.trans hpl, by omega, hdb1, .inr ⟨rfl, by rw [hk, ← h0]⟩, S⟩, by omega⟩
end
end Go.Proofs.YtlpeoaphdmfjdaaGreat.Vc
/-! The contracts of layer 20 (keybox), the document's: try, others. -/
namespace Go.Proofs.YtlpeoaphdmfjdaaGreat.Vc
open Go Go.Eng Go.RowKit
theorem ds_pl (B : KB) (k : Int) : (dsK B k).1.C.pl = B.C.pl := by
  unfold dsK
  split
  · split
    · exact (scrC_k _ k).2.trans (eraC_k B.C k).2
    · exact (scrC_k _ k).2.trans (eraC_k B.C k).2
  · split
    · exact (eraC_k B.C k).2
    · exact (eraC_k B.C k).2
section
variable {F : Nat → Prop} {w : World} {g : Geo} {Q : SlP TBd.T} {f : SlP TF.T} {B : KB} {k : Int} {y : SlP (SlP Int)}
theorem rTy20_c (hdb : Q.l.map bdOf = B.C.bs) (hdf : fds f = B.C.pl) (h : KI g B) (hk : 0 ≤ k ∧ k < 4) (hy1 : 1 ≤ y.n) (hyn : y.n ≤ 100) (ho : B.C.ops + y.n + 5 ≤ 1000000) (hf : LF.rd w (fun k => ¬ F k) f) (S : Sep F w w (kQ Q :: [PY y])) :
    CallV Tryz.prog 69 #[kVal Q f B, .int .i64 k, .slice y.a y.n y.c] w [.agg SH24, .one (.int .i64)] fun r w' => DsR F w w' f [PY y] (tyK B k (y.l.map (·.l))) r := by
  apply ref20_try.vc
  unfold ref20_try.P
  have hbt : ∀ x ∈ y.l.map (·.l), Byt x := fun z hz => by
    obtain ⟨x, hx, rfl⟩ := List.mem_map.1 hz
    exact Ty.byt ((PY_rd S 1 rfl).2.2.2.2 x hx)
  have hll : (y.l.map (·.l)).length = y.n := by rw [List.length_map]; exact (PY_rd S 1 rfl).1
  refine S.newB fun b1 w1 S f1 _ => S.newB fun b3 w2 S f2 _ => ?_
  have S : Sep F w w2 (boxR b1 Q f B :: kQ Q :: BoxA b3 tB zK :: [PY y]) := S.fro [1, 1] rfl
  generalize hX : tyK B k (y.l.map (·.l)) = X
  unfold tyK at hX
  refine ⟨hk, kr_gc S h.cl h.bd h.lk hk ?_⟩
  refine cond_of (fun hc => ?_) (fun hc => ?_)
  case refine_2 =>
    have hc' : B.c k = true := by simpa using hc
    rw [if_pos hc'] at hX
    have ho : B.C.ops + y.n + 3 ≤ 1000000 := by omega
    clear hc hc'
    refine ⟨hk, kr_cl S h.cl h.bd h.lk hk fun w4 S => S.la0 rfl ?_⟩
    have h1 : KI g { B with cl := B.cl.set k.toNat false } := ⟨h.ok, h.gg, h.cu, by rw [List.length_set]; exact h.cl, h.bd, h.lk⟩
    obtain ⟨c1, c2, c3, c4, c5⟩ := wrK_ok h.ok k hbt (by rw [hll]; omega)
    rw [hll] at c4
    refine kCall (X := ({ { B with cl := B.cl.set k.toNat false } with C := (wrK B.C k (y.l.map (·.l))).1 }, (wrK B.C k (y.l.map (·.l))).2)) [PY y] (Ts := [_, _]) (S.fro [1, 2] rfl) hf (fun F hf S => rWr20_c (B := { B with cl := B.cl.set k.toNat false }) hdb hdf h1 hy1 hyn (by dsimp only; omega) hf S) ?_
    intro Q2 w6 hdb2 S
    dsimp only at hdb2 S ⊢
    refine S.newB fun b21 w7 S f7 _ => S.st0 (by rfl) fun w8 S f8 => ?_
    have hp : ∀ {Q' : SlP TBd.T} {R1 : Asr} (w' : World), Sep F w w' (kQ Q' :: ([PY y] ++ [R1])) → Sep F w w' (kQ Q' :: [PY y]) := fun w' S => Sep.take (Rs := [kQ _, PY y]) S
    unfold ty2K at hX
    refine cond_eq (fun h0 => ?_) (fun h0 => ?_)
    · rw [if_pos (.inl h0)] at hX
      exact kr_fin (Ps := [PY y]) (Rs := [_]) (B := { B with C := (wrK B.C k (y.l.map (·.l))).1, cl := B.cl.set k.toNat false }) (S.fro [1, 0, 2] rfl) rfl hX.symm hdb2 hp
    refine cond_eq (fun h4 => ?_) (fun h4 => ?_)
    · rw [if_pos (.inr h4)] at hX
      exact kr_fin (Ps := [PY y]) (Rs := [_]) (B := { B with C := (wrK B.C k (y.l.map (·.l))).1, cl := B.cl.set k.toNat false }) (S.fro [1, 0, 2] rfl) rfl hX.symm hdb2 hp
    rw [if_neg (fun x => x.elim h0 h4)] at hX
    have h2 : KI g { B with C := (wrK B.C k (y.l.map (·.l))).1, cl := B.cl.set k.toNat false, bd := B.bd.set k.toNat true } := ⟨c1, c2.trans h.gg, h.cu, by rw [List.length_set]; exact h.cl, by rw [List.length_set]; exact h.bd, h.lk⟩
    refine ⟨hk, kr_bd (Q := Q2) (f := f) (B := { B with C := (wrK B.C k (y.l.map (·.l))).1, cl := B.cl.set k.toNat false }) S (by rw [List.length_set]; exact h.cl) h.bd h.lk hk fun w9 S => S.la0 rfl ?_⟩
    refine kCall (X := dsK { B with C := (wrK B.C k (y.l.map (·.l))).1, cl := B.cl.set k.toNat false, bd := B.bd.set k.toNat true } k) [] (S.fro [1] rfl) hf (fun F hf S => rDs20_c (B := { B with C := (wrK B.C k (y.l.map (·.l))).1, cl := B.cl.set k.toNat false, bd := B.bd.set k.toNat true }) hdb2 (hdf.trans c3.symm) h2 hk (by dsimp only; omega) hf S) ?_
    intro Q3 w10 hdb3 S
    dsimp only at hX
    generalize dsK { B with C := (wrK B.C k (y.l.map (·.l))).1, cl := B.cl.set k.toNat false, bd := B.bd.set k.toNat true } k = Z at hdb3 S hX ⊢
    obtain ⟨B3, e3⟩ := Z
    dsimp only at hdb3 S hX ⊢
    have hp2 : ∀ {Q' : SlP TBd.T} {R1 R2 : Asr} (w' : World), Sep F w w' (kQ Q' :: ([PY y] ++ [R1, R2])) → Sep F w w' (kQ Q' :: [PY y]) := fun w' S => Sep.take (Rs := [kQ _, PY y]) S
    refine S.newB fun b34 w11 S f11 _ => S.st0 (by rfl) fun w12 S f12 => ?_
    have S := S.fro [1, 0, 3, 1] rfl
    refine cond_eq (fun h4 => ?_) (fun h4 => ?_)
    · rw [if_pos h4] at hX
      rw [h4] at *
      exact kr_fin (Ps := [PY y]) (Rs := [_, _]) S rfl hX.symm hdb3 hp2
    · rw [if_neg h4] at hX
      exact kr_fin (Ps := [PY y]) (Rs := [_, _]) S rfl hX.symm hdb3 hp2
  have hc' : B.c k = false := by simpa using hc
  rw [if_neg (by rw [hc']; simp)] at hX
  obtain ⟨a1, a2, a3, a4⟩ := h.ds k (by omega)
  refine S.la0 rfl ?_
  refine kCall (X := dsK B k) [] (Ts := [boxR b1 Q f B, BoxA b3 tB zK, PY y]) S.up1 hf (fun F hf S => rDs20_c hdb hdf h hk (by omega) hf S) ?_
  intro Q1 w3 hdb1 S
  have hdf1 : fds f = (dsK B k).1.C.pl := hdf.trans (ds_pl B k).symm
  refine kr_puts (B := (dsK B k).1) S rfl fun w4 S => ?_
  refine cond_ne (fun hne => ?_) (fun h0 => ?_)
  · rw [if_neg hne] at hX
    exact kr_fin (Ps := [PY y]) (Rs := []) S rfl hX.symm hdb1 (fun w' S => S)
  rw [if_pos h0] at hX
  generalize (dsK B k).1 = B at a1 a2 hdb1 hdf1 S hX
  clear h0 hc hc' a3 a4 hdb hdf h
  have ho : B.C.ops + y.n + 3 ≤ 1000000 := by omega
  have S := S.up1
  have h := a1
  have hdb := hdb1
  have hdf := hdf1
  refine ⟨hk, kr_cl S h.cl h.bd h.lk hk fun w4 S => S.la0 rfl ?_⟩
  have h1 : KI g { B with cl := B.cl.set k.toNat false } := ⟨h.ok, h.gg, h.cu, by rw [List.length_set]; exact h.cl, h.bd, h.lk⟩
  obtain ⟨c1, c2, c3, c4, c5⟩ := wrK_ok h.ok k hbt (by rw [hll]; omega)
  rw [hll] at c4
  refine kCall (X := ({ { B with cl := B.cl.set k.toNat false } with C := (wrK B.C k (y.l.map (·.l))).1 }, (wrK B.C k (y.l.map (·.l))).2)) [PY y] (Ts := [_, _]) (S.fro [1, 2] rfl) hf (fun F hf S => rWr20_c (B := { B with cl := B.cl.set k.toNat false }) hdb hdf h1 hy1 hyn (by dsimp only; omega) hf S) ?_
  intro Q2 w6 hdb2 S
  dsimp only at hdb2 S ⊢
  refine S.newB fun b21 w7 S f7 _ => S.st0 (by rfl) fun w8 S f8 => ?_
  have hp : ∀ {Q' : SlP TBd.T} {R1 : Asr} (w' : World), Sep F w w' (kQ Q' :: ([PY y] ++ [R1])) → Sep F w w' (kQ Q' :: [PY y]) := fun w' S => Sep.take (Rs := [kQ _, PY y]) S
  unfold ty2K at hX
  refine cond_eq (fun h0 => ?_) (fun h0 => ?_)
  · rw [if_pos (.inl h0)] at hX
    exact kr_fin (Ps := [PY y]) (Rs := [_]) (B := { B with C := (wrK B.C k (y.l.map (·.l))).1, cl := B.cl.set k.toNat false }) (S.fro [1, 0, 2] rfl) rfl hX.symm hdb2 hp
  refine cond_eq (fun h4 => ?_) (fun h4 => ?_)
  · rw [if_pos (.inr h4)] at hX
    exact kr_fin (Ps := [PY y]) (Rs := [_]) (B := { B with C := (wrK B.C k (y.l.map (·.l))).1, cl := B.cl.set k.toNat false }) (S.fro [1, 0, 2] rfl) rfl hX.symm hdb2 hp
  rw [if_neg (fun x => x.elim h0 h4)] at hX
  have h2 : KI g { B with C := (wrK B.C k (y.l.map (·.l))).1, cl := B.cl.set k.toNat false, bd := B.bd.set k.toNat true } := ⟨c1, c2.trans h.gg, h.cu, by rw [List.length_set]; exact h.cl, by rw [List.length_set]; exact h.bd, h.lk⟩
  refine ⟨hk, kr_bd (Q := Q2) (f := f) (B := { B with C := (wrK B.C k (y.l.map (·.l))).1, cl := B.cl.set k.toNat false }) S (by rw [List.length_set]; exact h.cl) h.bd h.lk hk fun w9 S => S.la0 rfl ?_⟩
  refine kCall (X := dsK { B with C := (wrK B.C k (y.l.map (·.l))).1, cl := B.cl.set k.toNat false, bd := B.bd.set k.toNat true } k) [] (S.fro [1] rfl) hf (fun F hf S => rDs20_c (B := { B with C := (wrK B.C k (y.l.map (·.l))).1, cl := B.cl.set k.toNat false, bd := B.bd.set k.toNat true }) hdb2 (hdf.trans c3.symm) h2 hk (by dsimp only; omega) hf S) ?_
  intro Q3 w10 hdb3 S
  dsimp only at hX
  generalize dsK { B with C := (wrK B.C k (y.l.map (·.l))).1, cl := B.cl.set k.toNat false, bd := B.bd.set k.toNat true } k = Z at hdb3 S hX ⊢
  obtain ⟨B3, e3⟩ := Z
  dsimp only at hdb3 S hX ⊢
  have hp2 : ∀ {Q' : SlP TBd.T} {R1 R2 : Asr} (w' : World), Sep F w w' (kQ Q' :: ([PY y] ++ [R1, R2])) → Sep F w w' (kQ Q' :: [PY y]) := fun w' S => Sep.take (Rs := [kQ _, PY y]) S
  refine S.newB fun b34 w11 S f11 _ => S.st0 (by rfl) fun w12 S f12 => ?_
  have S := S.fro [1, 0, 3, 1] rfl
  refine cond_eq (fun h4 => ?_) (fun h4 => ?_)
  · rw [if_pos h4] at hX
    rw [h4] at *
    exact kr_fin (Ps := [PY y]) (Rs := [_, _]) S rfl hX.symm hdb3 hp2
  · rw [if_neg h4] at hX
    exact kr_fin (Ps := [PY y]) (Rs := [_, _]) S rfl hX.symm hdb3 hp2
theorem rOt20_c (hdb : Q.l.map bdOf = B.C.bs) (hdf : fds f = B.C.pl) (h : KI g B) (ho : B.C.ops + 8 ≤ 1000000) (hf : LF.rd w (fun k => ¬ F k) f) (S : Sep F w w [kQ Q]) :
    CallV Tryz.prog 70 #[kVal Q f B] w [.agg SH24, .one (.int .i64)] fun r w' => DsR F w w' f [] (otK 4 B) r := by
  apply ref20_others.vc
  unfold ref20_others.P
  refine S.newB fun b1 w1 S f1 _ => S.newB fun b3 w2 S f2 _ => ?_
  have S : Sep F w w2 [boxR b1 Q f B, kQ Q, BoxA b3 tB zK] := S.fro [1, 1] rfl
  generalize hX : otK 4 B = X
  have hp : ∀ {Q' : SlP TBd.T} (w' : World), Sep F w w' (kQ Q' :: ([] ++ [])) → Sep F w w' (kQ Q' :: []) := fun w' S => S
  refine Loop1 (fun (v : Int × Unit) w' => ∃ (n : Nat) (B : KB) (Q : SlP TBd.T), v.1 = 4 - (n : Int) ∧ n ≤ 4 ∧ KI g B ∧ B.C.ops + 2 * n ≤ 1000000 ∧ otK n B = X ∧ Q.l.map bdOf = B.C.bs ∧ fds f = B.C.pl ∧ Sep F w w' [boxR b1 Q f B, kQ Q, BoxA b3 tB zK]) (fun (v : Int × Unit) _ => (4 - v.1).toNat) ⟨4, B, Q, rfl, by omega, h, by omega, hX, hdb, hdf, S⟩ ?_
  clear S h hX ho hdb hdf
  rintro ⟨(v : Int), ⟨⟩⟩ w3 ⟨n, B, Q, hv, hn, h, ho, hX, hdb, hdf, S⟩
  dsimp only at hv
  subst hv
  refine cond_d (fun hlt => ?_) (fun hge => ?_)
  case refine_2 =>
    have : n = 0 := by omega
    subst this
    exact kr_fin (Ps := []) (Rs := []) S.up1 rfl hX.symm hdb hp
  obtain ⟨n, rfl⟩ : ∃ m, n = m + 1 := ⟨n - 1, by omega⟩
  have e : (4 : Int) - ((n + 1 : Nat) : Int) = 3 - n := by push_cast; omega
  rw [e]
  unfold otK at hX
  have hk : 0 ≤ (3 : Int) - n ∧ (3 : Int) - n < 4 := by omega
  have nxt : ∀ {w' : World} {B' : KB} {Q' : SlP TBd.T}, KI g B' → B'.C.ops ≤ B.C.ops + 2 → otK n B' = X → Q'.l.map bdOf = B'.C.bs → fds f = B'.C.pl → Sep F w w' [boxR b1 Q' f B', kQ Q', BoxA b3 tB zK] → Rng .i64 ((3 : Int) - n + 1) ∧ (∃ (m : Nat) (B : KB) (Q : SlP TBd.T), (3 : Int) - n + 1 = 4 - (m : Int) ∧ m ≤ 4 ∧ KI g B ∧ B.C.ops + 2 * m ≤ 1000000 ∧ otK m B = X ∧ Q.l.map bdOf = B.C.bs ∧ fds f = B.C.pl ∧ Sep F w w' [boxR b1 Q f B, kQ Q, BoxA b3 tB zK]) ∧ (4 - ((3 : Int) - n + 1)).toNat < (4 - ((3 : Int) - n)).toNat :=
    fun h1 h2 h3 h4 h5 S => ⟨Rng.i64 (by omega) (by omega), ⟨n, _, _, by omega, by omega, h1, by omega, h3, h4, h5, S⟩, by omega⟩
  have skip : skK B (3 - n) → Rng .i64 ((3 : Int) - n + 1) ∧ (∃ (m : Nat) (B : KB) (Q : SlP TBd.T), (3 : Int) - n + 1 = 4 - (m : Int) ∧ m ≤ 4 ∧ KI g B ∧ B.C.ops + 2 * m ≤ 1000000 ∧ otK m B = X ∧ Q.l.map bdOf = B.C.bs ∧ fds f = B.C.pl ∧ Sep F w w3 [boxR b1 Q f B, kQ Q, BoxA b3 tB zK]) ∧ (4 - ((3 : Int) - n + 1)).toNat < (4 - ((3 : Int) - n)).toNat :=
    fun hs => nxt h (by omega) (by rw [if_pos hs] at hX; exact hX) hdb hdf S
  refine S.ld0 (j := 10) rfl rfl (cond_eq (fun hcu => skip (.inl hcu)) (fun hcu => ?_))
  refine ⟨hk, kr_gc S h.cl h.bd h.lk hk (cond_of (fun hc => skip (.inr (.inl hc))) (fun hc => ?_))⟩
  have run : ∀ hs : ¬ skK B (3 - n), True := fun _ => trivial
  obtain ⟨a1, a2, a3, a4⟩ := h.ds (3 - n) (by omega)
  have hdf1 : fds f = (dsK B (3 - n)).1.C.pl := hdf.trans (ds_pl B (3 - n)).symm
  refine ⟨hk, kr_gb S h.cl h.bd h.lk hk (cond_of (fun hb => ?_) (fun hb => ?_))⟩
  · refine ⟨hk, kr_gl S h.cl h.bd h.lk hk (cond_of (fun hl => skip (.inr (.inr ⟨hb, by simpa using hl⟩))) (fun hl => ?_))⟩
    have hs : ¬ skK B (3 - n) := fun x => x.elim hcu fun x => x.elim (fun y => by rw [hc] at y; cases y) fun y => by rw [y.2] at hl; cases hl
    rw [if_neg hs] at hX
    refine S.la0 rfl ?_
    refine kCall (X := dsK B (3 - n)) [] (Ts := [boxR b1 Q f B, BoxA b3 tB zK]) S.up1 hf (fun F hf S => rDs20_c hdb hdf h hk (by omega) hf S) ?_
    intro Q1 w5 hdb1 S
    refine kr_puts (B := (dsK B (3 - n)).1) S rfl fun w6 S => ?_
    refine cond_eq (fun (h4 : (dsK B (3 - n)).2 = 4) => ?_) (fun (h4 : (dsK B (3 - n)).2 ≠ 4) => ?_)
    · rw [if_pos h4] at hX
      exact kr_fin (Ps := []) (Rs := []) S rfl hX.symm hdb1 hp
    · rw [if_neg h4] at hX
      exact nxt a1 a2 hX hdb1 hdf1 S.up1
  · have hs : ¬ skK B (3 - n) := fun x => x.elim hcu fun x => x.elim (fun y => by rw [hc] at y; cases y) fun y => by rw [y.1] at hb; cases hb
    rw [if_neg hs] at hX
    refine S.la0 rfl ?_
    refine kCall (X := dsK B (3 - n)) [] (Ts := [boxR b1 Q f B, BoxA b3 tB zK]) S.up1 hf (fun F hf S => rDs20_c hdb hdf h hk (by omega) hf S) ?_
    intro Q1 w5 hdb1 S
    refine kr_puts (B := (dsK B (3 - n)).1) S rfl fun w6 S => ?_
    refine cond_eq (fun (h4 : (dsK B (3 - n)).2 = 4) => ?_) (fun (h4 : (dsK B (3 - n)).2 ≠ 4) => ?_)
    · rw [if_pos h4] at hX
      exact kr_fin (Ps := []) (Rs := []) S rfl hX.symm hdb1 hp
    · rw [if_neg h4] at hX
      exact nxt a1 a2 hX hdb1 hdf1 S.up1
end
end Go.Proofs.YtlpeoaphdmfjdaaGreat.Vc
/-! The contracts of keybox (layer 20): Open. -/
namespace Go.Proofs.YtlpeoaphdmfjdaaGreat.Vc
open Go Go.Eng Go.RowKit
def RdY (Y : List (SlP (SlP Int))) : Asr := ⟨fun w F => ∀ y ∈ Y, TBB.rd w F y, fun h k y hy => TBB.rd_kp (fun i hi _ => k i hi) (h y hy)⟩
theorem nilY {E : Nat → Prop} {w0 w : World} {Rs : List Asr} (S : Sep E w0 w Rs) : Sep E w0 w (RdY [] :: Rs) :=
  S.push (F := NoB) (Fr.refl _ _) (fun x hx => (List.not_mem_nil hx).elim) fun _ x => x.elim
theorem own_rdY {w : World} {F1 F2 : Nat → Prop} {e : TypeId} {a : Option Addr} {n c : Nat} {L : List (SlP Int)} (h : (OwnA e 1 a n c (L.map slV)).p w F1) (h2 : (RdL L).p w F2) : TBB.rd w (fun k => F1 k ∨ F2 k) ⟨a, n, c, L⟩ := by
  obtain ⟨ho, hF⟩ := h
  have hm := maxLen_eq
  refine ⟨by have := ho.len; simpa using this, ho.cap, by have := ho.lim; show n ≤ maxLen; omega, ?_, fun x hx => TB.rd_mono (fun k hk _ => .inr hk) (h2 x hx)⟩
  rw [show (L.flatMap TB.vs) = L.map slV from flat_sl L]
  rcases ho.rd with h | ⟨p, h1, h2⟩
  · exact .inl h
  · exact .inr ⟨p, h1, h2, fun _ => .inl (hF p h1)⟩
theorem addY {E : Nat → Prop} {w0 w : World} {Rs : List Asr} {e : TypeId} {a : Option Addr} {n c : Nat} {L : List (SlP Int)} {Y : List (SlP (SlP Int))} (S : Sep E w0 w (OwnA e 1 a n c (L.map slV) :: RdL L :: RdY Y :: Rs)) : Sep E w0 w (RdY (Y ++ [⟨a, n, c, L⟩]) :: Rs) := by
  have S := S.conv2 (R' := RdY [⟨a, n, c, L⟩]) fun F1 F2 h1 h2 _ x hx => by
    rw [List.mem_singleton.1 hx]
    exact own_rdY h1 h2
  exact S.conv2 fun F1 F2 h1 h2 _ x hx => by
    rcases List.mem_append.1 hx with h | h
    · exact TBB.rd_mono (fun k hk _ => .inr hk) (h2 x h)
    · exact TBB.rd_mono (fun k hk _ => .inl hk) (h1 x h)
theorem own_rdYY {E : Nat → Prop} {w0 w : World} {Rs : List Asr} {e : TypeId} {a : Option Addr} {n c : Nat} {Y : List (SlP (SlP Int))} (S : Sep E w0 w (OwnA e 1 a n c (Y.map slV2) :: RdY Y :: Rs)) : TBBB.rd w All ⟨a, n, c, Y⟩ := by
  obtain ⟨F, h, _⟩ := S.get (i := 1) rfl
  have ho := S.own 0 rfl
  have hm := maxLen_eq
  refine ⟨by have := ho.len; simpa using this, ho.cap, by have := ho.lim; show n ≤ maxLen; omega, .of ?_, fun y hy => TBB.rd_mono (fun _ _ _ => trivial) (h y hy)⟩
  rw [show (Y.flatMap TBB.vs) = Y.map slV2 from by
    clear h ho S
    induction Y with
    | nil => rfl
    | cons x L ih => rw [List.flatMap_cons, ih]; rfl]
  exact ho.rd
def bpK (C : CD) (k : Int) (n : Nat) : List (List Int) := (List.range n).map fun (i : Nat) => pgC13 C k (i : Int)
theorem bpK_succ (C : CD) (k : Int) (n : Nat) : bpK C k (n + 1) = bpK C k n ++ [pgC13 C k (n : Int)] := by unfold bpK; rw [List.range_succ, List.map_append]; rfl
def bksK (C : CD) (m : Nat) : List (List (List Int)) := (List.range m).map fun (k : Nat) => bpK C (k : Int) (nCh C.g).toNat
theorem bksK_succ (C : CD) (m : Nat) : bksK C (m + 1) = bksK C m ++ [bpK C (m : Int) (nCh C.g).toNat] := by unfold bksK; rw [List.range_succ, List.map_append]; rfl
noncomputable def curK (C : CD) : Int × Int × List Int := curTo C.g (bksK C 4) 4
noncomputable def opKB (C : CD) : KB := ⟨C, (curK C).1, (curK C).2.1, List.replicate 4 false, List.replicate 4 false, List.replicate 4 false⟩
theorem curTo_bd (g : Geo) (bs : List (List (List Int))) : ∀ n, -1 ≤ (curTo g bs n).1 ∧ (curTo g bs n).1 < n ∧ ((curTo g bs n).1 < 0 → (curTo g bs n) = (-1, 0, []))
  | 0 => ⟨by unfold curTo; decide, by unfold curTo; decide, fun _ => rfl⟩
  | n + 1 => by
    obtain ⟨h1, h2, h3⟩ := curTo_bd g bs n
    unfold curTo
    split
    · exact ⟨by dsimp only; omega, by dsimp only; omega, fun h => by dsimp only at h; omega⟩
    · exact ⟨h1, by push_cast; omega, h3⟩
theorem curK_bd (C : CD) : -1 ≤ (curK C).1 ∧ (curK C).1 < 4 ∧ ((curK C).1 < 0 → curK C = (-1, 0, [])) := curTo_bd C.g (bksK C 4) 4
theorem opKB_KI {C : CD} (h : COk C) : KI C.g (opKB C) := ⟨h, rfl, ⟨(curK_bd C).1, (curK_bd C).2.1⟩, rfl, rfl, rfl⟩
theorem inC_key {C : CD} (h : COk C) {k i : Int} (hk : 0 ≤ k ∧ k < 4) (hi : 0 ≤ i ∧ i < nCh C.g) : inC C k i := by
  have hg := h.g
  unfold Right Kept at hg
  have e : nCh C.g = cei 624 C.g.s := rfl
  unfold inC
  omega
section
variable {E : Nat → Prop} {w0 w : World} {Rs : List Asr} {kb p : Nat} {g : Geo} {B : KB} {C : CD} {k : Int}
theorem pages20_c {n : Nat} (hC : COk C) (ho : C.off = false) (hk : 0 ≤ k ∧ k < 4) (hn : (n : Int) ≤ nCh C.g) (S0 : Sep E w0 w (chipE p C :: Rs)) :
    CallV Tryz.prog 61 #[.pointer (some ⟨p, 0, none⟩), .int .i64 k, .int .i64 (n : Int)] w [.one .sl, .one (.int .i64)] fun r w' => r.2.1 = (0 : Int) ∧ ∃ y : SlP (SlP Int), r.1 = (⟨y.a, y.n, y.c⟩ : SlV) ∧ y.l.map (·.l) = bpK C k n ∧ LstS w w' y := by
  apply keybox_pages.vc
  unfold keybox_pages.P
  have hnc := (nCh_bd hC.g).1
  have S := ((Sep.start NoB w).nilL).nilOwn 51 1
  refine Loop1 (fun (y : SlV × Int × Unit) w' => ∃ (i : Nat) (L : List (SlP Int)), y.2.1 = (i : Int) ∧ i ≤ n ∧ y.1.n = i ∧ L.map (·.l) = bpK C k i ∧ Sep NoB w w' [OwnA 51 1 y.1.a y.1.n y.1.c (L.map slV), RdL L])
    (fun (y : SlV × Int × Unit) _ => ((n : Int) - y.2.1).toNat) ⟨0, [], rfl, by omega, rfl, rfl, S⟩ ?_
  clear S
  rintro ⟨⟨ya, yn, yc⟩, (z : Int), ⟨⟩⟩ w2 ⟨i, L, hz, hi, hyn, hL, S⟩
  dsimp only at hz hyn S ⊢
  subst hz
  subst hyn
  refine cond_d (fun hlt => ?_) (fun hge => ?_)
  · have hin := inC_key hC hk (i := (yn : Int)) (by omega)
    refine (Read_e (bl := k) (pa := (yn : Int)) hC (S0.stepE S.ext)).mono ?_
    rintro ⟨⟨pa, pn, pc⟩, (e : Int), ⟨⟩⟩ w5 ⟨h1, -, h3⟩
    dsimp only at h1 h3 ⊢
    have h0 : readC C k (yn : Int) = 0 := by unfold readC; rw [if_neg (by rw [ho]; simp), if_pos hin]
    rw [h0] at h1
    subst h1
    refine cond_f rfl ?_
    have S := S.res (h3 h0)
    dsimp only at S
    refine S.newB fun b6 w7 S f7 _ => ?_
    refine AppS.of (news := [slV ⟨pa, pn, pc, pgC13 C k (yn : Int)⟩]) rfl (.inr ⟨_, rfl, S.cells 0 rfl⟩) ?_
    refine S.ap2 (by rfl) (fun u hu => by rw [List.mem_singleton.1 hu]; rfl) (by omega) (by omega) fun a13 c13 w13 S f13 => ?_
    have S := S.sel [1, 2, 1] rfl
    have S := S.addL (hC.page hin).2.2
    have S := S.sel [1, 0] rfl
    refine ⟨Rng.i64 (by omega) (by omega), ⟨yn + 1, L ++ [⟨pa, pn, pc, pgC13 C k (yn : Int)⟩], by push_cast; rfl, by omega, rfl, ?_, ?_⟩, by omega⟩
    · rw [List.map_append, hL, bpK_succ]; rfl
    · rw [List.map_append]; exact S
  · have : yn = n := by omega
    subst this
    exact ⟨rfl, ⟨ya, yn, yc, L⟩, rfl, hL, S⟩
theorem Open20_c (hC : COk C) (S : Sep E w0 w (chipE p C :: Rs)) :
    CallV Tryz.prog 20 #[.pointer (some ⟨p, 0, none⟩)] w [.one .ptr, .one .sl, .one (.int .i64)] fun r w' =>
      (C.off = true → r.1 = none ∧ r.2.1 = (⟨none, 0, 0⟩ : SlV) ∧ r.2.2.1 = (4 : Int) ∧ Sep E w0 w' (chipE p C :: Rs)) ∧
      (C.off = false → r.2.2.1 = (if (curK C).1 < 0 then (10 : Int) else 0) ∧ ∃ kb, r.1 = some ⟨kb, 0, none⟩ ∧ Sep E w0 w' (kbS kb p C.g (opKB C) (RdL [⟨r.2.1.a, r.2.1.n, r.2.1.c, (curK C).2.2⟩] :: Rs))) := by
  apply keybox_Open.vc
  unfold keybox_Open.P
  refine (Geometry_e S).mono ?_
  rintro ⟨gt, ⟨⟩⟩ w1 ⟨h1, e1⟩
  dsimp only at h1 ⊢
  subst h1
  have S := S.stepE e1
  refine S.newB fun b3 w3 S f3 _ => ?_
  refine (On_e hC S.tail).mono ?_
  rintro ⟨(r : Bool), ⟨⟩⟩ w4 ⟨h4, rfl⟩
  dsimp only at h4 ⊢
  subst h4
  cases hoff : C.off
  case true => exact cond_t rfl ⟨fun _ => ⟨rfl, rfl, rfl, S.tail⟩, fun x => (nomatch x)⟩
  refine cond_f rfl ?_
  have hnc := (nCh_bd hC.g).1
  generalize hN : (nCh C.g).toNat = N at *
  have S : Sep E w0 w4 (boxK b3 p C.g ⟨C, -1, 0, List.replicate 4 false, List.replicate 4 false, List.replicate 4 false⟩ :: chipE p C :: Rs) := S
  have S := (nilY S).nilOwn 127 1
  refine Loop1 (fun (y : SlV × Int × Unit) w' => ∃ (i : Nat) (Y : List (SlP (SlP Int))), y.2.1 = (i : Int) ∧ i ≤ 4 ∧ y.1.n = i ∧ Y.map pgs = bksK C i ∧ Sep E w0 w' (OwnA 127 1 y.1.a y.1.n y.1.c (Y.map slV2) :: RdY Y :: boxK b3 p C.g ⟨C, -1, 0, List.replicate 4 false, List.replicate 4 false, List.replicate 4 false⟩ :: chipE p C :: Rs))
    (fun (y : SlV × Int × Unit) _ => (4 - y.2.1).toNat) ⟨0, [], rfl, by omega, rfl, rfl, S⟩ ?_
  clear S
  rintro ⟨⟨ya, yn, yc⟩, (z : Int), ⟨⟩⟩ w2 ⟨i, Y, hz, hi, hyn, hY, S⟩
  dsimp only at hz hyn S ⊢
  subst hz
  subst hyn
  refine cond_d (fun hlt => ?_) (fun hge => ?_)
  · refine S.lb2 (o := 1) rfl ?_
    refine (Chunks_c (g := C.g)).mono ?_
    rintro ⟨(c : Int), ⟨⟩⟩ w5 ⟨h5, e5⟩
    dsimp only at h5 ⊢
    rw [if_pos hC.g] at h5
    have h5 : c = (N : Int) := by have : c = nCh C.g := h5; omega
    subst h5
    have S := S.stepE e5
    refine (pages20_c (k := (yn : Int)) (n := N) hC hoff (by omega) (by omega) (S.fro [3] rfl)).mono ?_
    rintro ⟨⟨pa, pn, pc⟩, (e : Int), ⟨⟩⟩ w6 ⟨h6, y, hy, hl, T⟩
    dsimp only at h6 hy ⊢
    subst h6
    have hy : (⟨pa, pn, pc⟩ : SlV) = ⟨y.a, y.n, y.c⟩ := hy
    rw [SlV.mk.injEq] at hy
    obtain ⟨rfl, rfl, rfl⟩ := hy
    refine cond_f rfl ?_
    have S := S.frame0 T
    dsimp only [List.cons_append, List.nil_append] at S
    refine S.newB fun b6 w7 S f7 _ => ?_
    refine AppS.of (news := [slV2 y]) rfl (.inr ⟨_, rfl, S.cells 0 rfl⟩) ?_
    refine S.ap3 (by rfl) (fun u hu => by rw [List.mem_singleton.1 hu]; rfl) (by omega) (by omega) fun a13 c13 w13 S f13 => ?_
    have S := S.tail.fro [0, 1] rfl
    have S := addY (Y := Y) (S.fro [0, 1, 1] rfl)
    have S := S.up1
    refine ⟨Rng.i64 (by omega) (by omega), ⟨yn + 1, Y ++ [y], by push_cast; rfl, by omega, rfl, ?_, ?_⟩, by omega⟩
    · rw [List.map_append, hY, bksK_succ, hN, ← hl]; rfl
    · rw [List.map_append]; exact S
  have : yn = 4 := by omega
  subst this
  refine S.lb2 (o := 1) rfl ?_
  refine (Current_c (g := C.g) (x := ⟨ya, 4, yc, Y⟩) (own_rdYY S) (by show 4 ≤ 1000; omega)).mono ?_
  rintro ⟨(at_ : Int), (gen : Int), ⟨ra, rn, rc⟩, ⟨⟩⟩ w5 ⟨h5, h6, T⟩
  dsimp only at h5 h6 T ⊢
  have ek : curTo C.g (Y.map pgs) (Y.map pgs).length = curK C := by rw [hY]; rfl
  rw [ek] at h5 h6 T
  subst h5 h6
  have S := S.frame0 T
  dsimp only [List.cons_append, List.nil_append] at S
  have S := S.fro [1, 1] rfl
  have S := S.tail.tail.up1
  refine S.su0 (j := 7) rfl fun w7 S f7 => S.su0 (j := 8) rfl fun w8 S f8 => ?_
  have S : Sep E w0 w8 (boxK b3 p C.g (opKB C) :: RdL [⟨ra, rn, rc, (curK C).2.2⟩] :: chipE p C :: Rs) := S
  have S := S.fro [0, 1] rfl
  refine cond_d (fun hneg => ?_) (fun hpos => ?_)
  · refine ⟨fun x => (nomatch x), fun _ => ⟨by rw [if_pos hneg], b3, rfl, ?_⟩⟩
    have e := (curK_bd C).2.2 hneg
    refine (S.fro [2] rfl).conv (R' := RdL [⟨none, 0, 0, (curK C).2.2⟩]) (fun F hF _ x hx => ?_) |>.fro [1, 1] rfl
    rw [List.mem_singleton.1 hx, e]
    exact ⟨rfl, Nat.le_refl _, Nat.zero_le _, .inl ⟨rfl, rfl⟩, fun y hy => (List.not_mem_nil hy).elim⟩
  · exact ⟨fun x => (nomatch x), fun _ => ⟨by rw [if_neg hpos], b3, rfl, S⟩⟩
theorem Current20_c (S : Sep E w0 w (boxK kb p g B :: Rs)) : CallV Tryz.prog 53 #[.pointer (some ⟨kb, 0, none⟩)] w [.one (.int .i64)] fun r w' => r.1 = B.cu ∧ w' = w := by
  apply keybox_Box_Current.vc
  unfold keybox_Box_Current.P
  exact S.ld0 (j := 7) rfl rfl ⟨rfl, rfl⟩
theorem Gen20_c (S : Sep E w0 w (boxK kb p g B :: Rs)) : CallV Tryz.prog 54 #[.pointer (some ⟨kb, 0, none⟩)] w [.one (.int .u64)] fun r w' => r.1 = B.ge ∧ w' = w := by
  apply keybox_Box_Gen.vc
  unfold keybox_Box_Gen.P
  exact S.ld0 (j := 8) rfl rfl ⟨rfl, rfl⟩
theorem Bad20_c (hc : B.cl.length = 4) (hb : B.bd.length = 4) (S : Sep E w0 w (boxK kb p g B :: Rs)) : CallV Tryz.prog 66 #[.pointer (some ⟨kb, 0, none⟩), .int .i64 k] w [.one .bool] fun r w' => r.1 = (decide (0 ≤ k ∧ k < 4) && B.b k) ∧ w' = w := by
  apply keybox_Box_Bad.vc
  unfold keybox_Box_Bad.P
  refine cond_d (fun h0 => cond_d (fun h4 => ⟨⟨h0, h4⟩, kb_gb S hc hb ⟨h0, h4⟩ ⟨?_, rfl⟩⟩) (fun h4 => ⟨?_, rfl⟩)) (fun h0 => ⟨?_, rfl⟩)
  · rw [decide_eq_true (And.intro h0 h4)]; rfl
  · rw [decide_eq_false (fun x => h4 x.2)]; rfl
  · rw [decide_eq_false (fun x => h0 x.1)]; rfl
end
end Go.Proofs.YtlpeoaphdmfjdaaGreat.Vc
/-! The contracts of layer 20 (keybox), the document's: Commit. -/
namespace Go.Proofs.YtlpeoaphdmfjdaaGreat.Vc
open Go Go.Eng Go.RowKit
theorem ty_pl (B : KB) (k : Int) {l : List (List Int)} {g : Geo} (h : KI g B) (hp : ∀ p ∈ l, Byt p) (ho : B.C.ops + l.length + 5 ≤ 1000000) : (tyK B k l).1.C.pl = B.C.pl := by
  obtain ⟨a1, a2, a3, a4⟩ := h.ds k (by omega)
  have t2 : ∀ {B : KB}, KI g B → B.C.ops + l.length + 3 ≤ 1000000 → (ty2K B k l).1.C.pl = B.C.pl := fun {B} h ho => by
    obtain ⟨c1, c2, c3, c4, c5⟩ := wrK_ok h.ok k hp (by omega)
    unfold ty2K
    split
    · exact c3
    · exact (ds_pl _ k).trans c3
  unfold tyK
  split
  · exact t2 h (by omega)
  split
  · exact (t2 a1 (by omega)).trans (ds_pl B k)
  · exact ds_pl B k
section
variable {F : Nat → Prop} {w : World} {g : Geo} {Q : SlP TBd.T} {f : SlP TF.T} {B : KB} {k : Int}
theorem rCo20_c {x : SlP Int} {gen : Int} (hdb : Q.l.map bdOf = B.C.bs) (hdf : fds f = B.C.pl) (h : KI g B) (hn : x.l.length = 624) (hgen : 0 ≤ gen ∧ gen < 18446744073709551616) (ho : B.C.ops + 200 ≤ 1000000) (hf : LF.rd w (fun k => ¬ F k) f) (S : Sep F w w [kQ Q, RdL [x]]) :
    CallV Tryz.prog 26 #[kVal Q f B, .slice x.a x.n x.c, .int .u64 gen] w [.agg SH24, .one (.int .i64)] fun r w' => DsR F w w' f [RdL [x]] (coK B x.l gen) r := by
  apply ref20_Commit.vc
  unfold ref20_Commit.P
  have hR : Right g := by have := h.ok.g; rwa [h.gg] at this
  have br : Byt x.l := by
    obtain ⟨G, hG, -⟩ := S.get (i := 1) rfl
    exact Ty.byt (hG x (List.mem_singleton.2 rfl))
  have hxn : x.n = 624 := by
    obtain ⟨G, hG, -⟩ := S.get (i := 1) rfl
    have h8 := (hG x (List.mem_singleton.2 rfl)).1
    omega
  refine S.newB fun b1 w1 S f1 _ => S.newB fun b3 w2 S f2 _ => ?_
  have S : Sep F w w2 [boxR b1 Q f B, kQ Q, BoxA b3 tB zK, RdL [x]] := S.fro [1, 1] rfl
  generalize hX : coK B x.l gen = X
  unfold coK at hX
  refine S.ld0 (j := 8) rfl rfl (cond_of (fun (hoff : B.C.off = true) => ?_) (fun (hoff : B.C.off = false) => ?_))
  · rw [if_pos hoff] at hX
    exact kr_fin (Ps := [RdL [x]]) (Rs := []) S.up1 rfl hX.symm hdb (fun w' S => S)
  rw [if_neg (by rw [hoff]; simp), if_pos hn, h.gg] at hX
  refine S.lb0 (o := 0) rfl ?_
  have hx3 : Ints w2 .u8 x.a x.n x.c x.l := by
    obtain ⟨G, hG, -⟩ := S.get (i := 3) rfl
    exact Ty.ints (hG x (List.mem_singleton.2 rfl))
  refine (rPages_c (g := B.C.g) hx3 br hgen h.ok.g hxn).mono ?_
  rintro ⟨⟨ya, yn, yc⟩, ⟨⟩⟩ w3 ⟨y, hy, hl, T⟩
  have hy : (⟨ya, yn, yc⟩ : SlV) = ⟨y.a, y.n, y.c⟩ := hy
  rw [SlV.mk.injEq] at hy
  obtain ⟨rfl, rfl, rfl⟩ := hy
  rw [h.gg] at hl
  obtain ⟨f1, f2, f3⟩ := pages_few hR hn hl (lst_rd T)
  have S := S.frame0 T
  dsimp only [List.cons_append, List.nil_append] at S
  have S := S.conv2 (R' := PY y) fun F1 F2 h1 h2 _ => own_rdY h1 h2
  have S : Sep F w w3 [boxR b1 Q f B, kQ Q, BoxA b3 tB zK, RdL [x], PY y] := S.fro [1, 1, 1, 1] rfl
  clear T
  have hy1 : 1 ≤ y.n := by have := (nCh_bd hR).1; omega
  have hbt : ∀ x ∈ y.l.map (·.l), Byt x := by rw [hl]; exact pagesL_byt hR br hgen
  have hll : (y.l.map (·.l)).length = y.n := by rw [hl, pagesL_length]; omega
  rw [← hl] at hX
  have hcu0 := h.cu
  refine S.ld0 (j := 10) rfl rfl ⟨Rng.i64 (by omega) (by omega), ?_⟩
  generalize hC0 : B.cu = cu0 at hcu0
  refine Loop1 (fun (v : Int × Unit) w' => ∃ (n : Nat) (B : KB) (Q : SlP TBd.T), v.1 = cu0 + 1 + (4 - (n : Int)) ∧ n ≤ 4 ∧ KI g B ∧ B.cu = cu0 ∧ B.C.ops + n * (y.n + 5) + 8 ≤ 1000000 ∧ cmK (y.l.map (·.l)) gen n B = X ∧ Q.l.map bdOf = B.C.bs ∧ fds f = B.C.pl ∧ Sep F w w' [boxR b1 Q f B, kQ Q, BoxA b3 tB zK, RdL [x], PY y])
    (fun (v : Int × Unit) _ => (cu0 + 5 - v.1).toNat) ⟨4, B, Q, by dsimp only; omega, by omega, h, hC0, by omega, hX, hdb, hdf, S⟩ ?_
  clear S h hX ho hdb hdf hoff hC0
  rintro ⟨(v : Int), ⟨⟩⟩ w4 ⟨n, B, Q, hv, hn4, h, hcu, ho, hX, hdb, hdf, S⟩
  dsimp only at hv
  subst hv
  have hp : ∀ {Q' : SlP TBd.T} (w' : World), Sep F w w' (kQ Q' :: ([RdL [x]] ++ [PY y])) → Sep F w w' (kQ Q' :: [RdL [x]]) := fun w' S => Sep.take (Rs := [kQ _, RdL [x]]) S
  refine ⟨Rng.i64 (by omega) (by omega), cond_d (fun hlt => ?_) (fun hge => ?_)⟩
  case refine_2 =>
    have : n = 0 := by omega
    subst this
    exact kr_fin (Ps := [RdL [x]]) (Rs := [PY y]) S.up1 rfl hX.symm hdb hp
  obtain ⟨n, rfl⟩ : ∃ m, n = m + 1 := ⟨n - 1, by omega⟩
  rw [Nat.add_mul, Nat.one_mul] at ho
  have e : cu0 + 1 + (4 - ((n + 1 : Nat) : Int)) = cu0 + 1 + (3 - n) := by push_cast; omega
  rw [e]
  unfold cmK at hX
  have et : Int.tmod (cu0 + 1 + (3 - (n : Int))) 4 = (B.cu + 1 + (3 - n)) % 4 := by rw [hcu]; exact Int.tmod_eq_emod_of_nonneg (by omega)
  have hk : 0 ≤ (B.cu + 1 + (3 - n)) % 4 ∧ (B.cu + 1 + (3 - n)) % 4 < 4 := by omega
  refine ⟨by decide, S.ld0 (j := 10) rfl rfl ?_⟩
  rw [et]
  generalize (B.cu + 1 + (3 - n)) % 4 = k at hk hX ⊢
  have nxt : ∀ {w' : World} {B' : KB} {Q' : SlP TBd.T}, KI g B' → B'.cu = cu0 → B'.C.ops ≤ B.C.ops + (y.n + 5) → cmK (y.l.map (·.l)) gen n B' = X → Q'.l.map bdOf = B'.C.bs → fds f = B'.C.pl → Sep F w w' [boxR b1 Q' f B', kQ Q', BoxA b3 tB zK, RdL [x], PY y] →
      Rng .i64 (cu0 + 1 + (3 - (n : Int)) + 1) ∧ (∃ (m : Nat) (B : KB) (Q : SlP TBd.T), cu0 + 1 + (3 - (n : Int)) + 1 = cu0 + 1 + (4 - (m : Int)) ∧ m ≤ 4 ∧ KI g B ∧ B.cu = cu0 ∧ B.C.ops + m * (y.n + 5) + 8 ≤ 1000000 ∧ cmK (y.l.map (·.l)) gen m B = X ∧ Q.l.map bdOf = B.C.bs ∧ fds f = B.C.pl ∧ Sep F w w' [boxR b1 Q f B, kQ Q, BoxA b3 tB zK, RdL [x], PY y]) ∧ (cu0 + 5 - (cu0 + 1 + (3 - (n : Int)) + 1)).toNat < (cu0 + 5 - (cu0 + 1 + (3 - (n : Int)))).toNat :=
    fun h1 h2 h3 h4 h5 h6 S => ⟨Rng.i64 (by omega) (by omega), ⟨n, _, _, by omega, by omega, h1, h2, by omega, h4, h5, h6, S⟩, by omega⟩
  refine cond_eq (fun hc => nxt h hcu (by omega) (by rw [if_pos (.inl hc)] at hX; exact hX) hdb hdf S) (fun hc => ?_)
  refine ⟨hk, kr_gb S h.cl h.bd h.lk hk (cond_of (fun hb => nxt h hcu (by omega) (by rw [if_pos (.inr hb)] at hX; exact hX) hdb hdf S) (fun hb => ?_))⟩
  rw [if_neg (fun x => x.elim hc fun y => by rw [hb] at y; cases y)] at hX
  obtain ⟨a1, a2, a3, a4⟩ := h.ty k hbt (by rw [hll]; omega)
  rw [hll] at a2
  have hpl := ty_pl B k h hbt (by rw [hll]; omega)
  have hcall : ∀ F : Nat → Prop, LF.rd w4 (fun k => ¬ F k) f → Sep F w4 w4 (kQ Q :: [PY y]) → CallV Tryz.prog 69 #[kVal Q f B, .int .i64 k, .slice y.a y.n y.c] w4 [.agg SH24, .one (.int .i64)] fun r w' => DsR F w4 w' f [PY y] (tyK B k (y.l.map (·.l))) r :=
    fun F hf S => rTy20_c hdb hdf h hk hy1 (by omega) (by omega) hf S
  generalize tyK B k (y.l.map (·.l)) = Y at *
  have S1 : Sep F w w4 ((kQ Q :: [PY y]) ++ [boxR b1 Q f B, BoxA b3 tB zK, RdL [x]]) := S.fro [1, 3] rfl
  refine S.la0 rfl ?_
  refine kCall (X := Y) [PY y] S1 hf hcall ?_
  intro Q1 w5 hdb1 S
  refine kr_puts (B := Y.1) (S.fro [0, 1] rfl) rfl fun w6 S => ?_
  have S := S.fro [1, 0, 1, 1] rfl
  refine cond_eq (fun (h4 : Y.2 = 4) => ?_) (fun (h4 : Y.2 ≠ 4) => ?_)
  · rw [if_neg (by omega), if_pos h4] at hX
    exact kr_fin (Ps := [RdL [x]]) (Rs := [PY y]) S.up1 rfl hX.symm hdb1 hp
  refine cond_eq (fun (h0 : Y.2 = 0) => ?_) (fun (h0 : Y.2 ≠ 0) => ?_)
  · rw [if_pos h0] at hX
    refine S.su0 (j := 10) rfl fun w7 S f7 => S.su0 (j := 11) rfl fun w8 S f8 => ?_
    have h1 : KI g (Y.1.at k gen) := ⟨a1.ok, a1.gg, by show -1 ≤ k ∧ k < 4; omega, a1.cl, a1.bd, a1.lk⟩
    have S : Sep F w w8 [boxR b1 Q1 f (Y.1.at k gen), kQ Q1, BoxA b3 tB zK, RdL [x], PY y] := S
    refine S.la0 rfl ?_
    refine kCall (X := otK 4 (Y.1.at k gen)) [] (Ts := [_, _, _, _]) S.up1 hf (fun F hf S => rOt20_c (B := Y.1.at k gen) hdb1 (hdf.trans hpl.symm) h1 (by show Y.1.C.ops + _ ≤ _; omega) hf S) ?_
    intro Q2 w9 hdb2 S
    rw [hX] at hdb2 ⊢
    refine S.st2 (by rfl) fun w10 S f10 => S.la2 rfl ⟨Q2, ⟨rfl, rfl, hdb2⟩, ?_⟩
    exact hp _ ((S.fro [1, 1] rfl).tail.tail)
  · rw [if_neg h0, if_neg h4] at hX
    exact nxt a1 (a4.trans hcu) a2 hX hdb1 (hdf.trans hpl.symm) S
end
end Go.Proofs.YtlpeoaphdmfjdaaGreat.Vc
/-! Plain data of layer 24 (pool): what each of its operations makes. -/
namespace Go.Proofs.YtlpeoaphdmfjdaaGreat.Vc
open Go Go.Eng Go.RowKit
theorem comL_len (g : Geo) : (comL g).length = (g.s + 80).toNat + 8 := by unfold comL; rw [List.length_append, List.length_replicate, List.length_replicate]
structure PI (g : Geo) (n : Nat) (C : CD) (L : List Blk) (O : List Hd) : Prop where
  ok : COk C
  gg : C.g = g
  nn : (n : Int) = g.b - 4
  ll : L.length = n
  ol : O.length = n
  er : ∀ x ∈ L, 0 ≤ x.er ∧ x.er ≤ (C.ops : Int)
end Go.Proofs.YtlpeoaphdmfjdaaGreat.Vc
/-! The contracts of pool (layer 24): destroy, program, seal, begin. -/
namespace Go.Proofs.YtlpeoaphdmfjdaaGreat.Vc
open Go Go.Eng Go.RowKit
section
variable {E : Nat → Prop} {w0 w : World} {pp p q n : Nat} {g : Geo} {s : SlV} {O : List Hd} {C : CD} {L : List Blk} {Rs : List Asr}
theorem PI.erL (h : PI g n C L O) : ∀ x ∈ L, 0 ≤ x.er ∧ x.er ≤ 1000000000 := fun x hx => by
  have := h.er x hx
  have := h.ok.ops
  omega
end
end Go.Proofs.YtlpeoaphdmfjdaaGreat.Vc
