/- Texts in one: The contracts of layer 13: one step, done by both. The contracts of layer 13: one step, done by both: the walk. The contracts of layer 13: does the program answer; the trace. What any parameter of a law is known to be, with the sizes of what it holds: structs, arrays and slices of whole numbers, texts, and of each other. What the laws of layer 13 share. Plain laws of layer 13: what only clears. The plans of functions as plain statements, printed by wip/tools/vcgen.py; the kernel holds each to the code. The law NandClears of layer 13: each call gives true, and what it read stays. -/
import Derived.Test.YtfpkaebmiojicaaZNandClearsd

/-! The contracts of layer 13: one step, done by both. -/
namespace Go.Eng
open Go
set_option linter.unusedVariables false
section
variable {E : Nat → Prop} {w0 w w' : World} {Rs Ts : List Asr}
/-- A call that owns the first parts, and knows that they are new. -/
theorem Sep.callB {P : Program} {g : FuncId} {args : Array Value} {l : List Sh} (Rs : List Asr) {Ts : List Asr} (S : Sep E w0 w (Rs ++ Ts)) {C : (Nat → Prop) → RT l → World → Prop}
    (hc : ∀ F, (∀ k, F k → (E k ∨ w0.heap.size ≤ k) ∧ k < w.heap.size) → Sep F w w Rs → CallV P g args w l fun r w' => C F r w') {K : RT l → World → Prop}
    (hk : ∀ F, (∀ w' Ls, Sep F w w' Ls → Sep E w0 w' (Ls ++ Ts)) → ∀ r w', C F r w' → K r w') : CallV P g args w l K := by
  obtain ⟨G, g1, g2, g3⟩ : ∃ G, StarP w Rs G ∧ (∀ k, G k → (E k ∨ w0.heap.size ≤ k) ∧ k < w.heap.size) ∧ ∀ w' Ls, Sep G w w' Ls → Sep E w0 w' (Ls ++ Ts) := by
    obtain ⟨F, h, hb⟩ := S.ex
    obtain ⟨F1, F2, h1, h2, h3, h4, h5⟩ := StarP.app.1 h
    refine ⟨F1, h1, fun k hk => hb k (h4 k hk), fun w' Ls S' => ?_⟩
    have S1 : Sep (fun k => F1 k ∨ F2 k) w w (Rs ++ Ts) := Sep.begin (StarP.app.2 ⟨F1, F2, h1, h2, h3, fun _ => .inl, fun _ => .inr⟩) fun k hk => hk.elim (fun x => (hb k (h4 k x)).2) (fun x => (hb k (h5 k x)).2)
    obtain ⟨G, g1, g2⟩ := S'.ex
    refine ⟨S.fr.trans' S'.fr fun k hk => (hb k (h4 k hk)).1, fun k => G k ∨ F2 k, StarP.app.2 ⟨G, F2, g1, h2.st fun k hk => S'.fr.block k (hb k (h5 k hk)).2 fun x => h3 k x hk, fun k hk hf => ?_, fun k => .inl, fun k => .inr⟩, fun k hk => ?_⟩
    · rcases (g2 k hk).1 with x | x
      · exact h3 k x hf
      · have := (hb k (h5 k hf)).2; omega
    · rcases hk with hk | hk
      · refine ⟨?_, (g2 k hk).2⟩
        rcases (g2 k hk).1 with x | x
        · exact (hb k (h4 k x)).1
        · have := S.fr.size; exact .inr (by omega)
      · exact ⟨(hb k (h5 k hk)).1, Nat.lt_of_lt_of_le (hb k (h5 k hk)).2 S'.fr.size⟩
  exact (hc G g2 (Sep.begin g1 fun k hk => (g2 k hk).2)).mono fun r w' h => hk G g3 r w' h
/-- An open order in which only the first parts are written. -/
theorem Sep.regC (Rs : List Asr) {Ts : List Asr} (S : Sep E w0 w (Rs ++ Ts)) {body : (Nat → Prop) → Prop}
    (h : ∀ F D : Nat → Prop, (∀ k, F k → (E k ∨ w0.heap.size ≤ k) ∧ k < w.heap.size) → Sep F w.drew w.drew Rs → Sep E w0 w.drew (Rs ++ Ts) → (∀ (i : Nat) (b : Nat) (e : TypeId) (vs : List Value), Ts[i]? = some (BoxA b e vs) → D b) → (∀ b, b < w0.heap.size → ¬ E b → D b) → (∀ w', Fr F w.drew w' → KeepOn D w.drew w') → (∀ w' Ls, Sep F w.drew w' Ls → Sep E w0 w' (Ls ++ Ts)) → body D) : DrawV body := by
  have S := S.drew
  obtain ⟨F, hF, hb⟩ := S.ex
  obtain ⟨F1, F2, h1, h2, h3, h4, h5⟩ := StarP.app.1 hF
  have hsz : w0.heap.size ≤ w.drew.heap.size := S.fr.size
  refine DrawV.but F1 w fun D hD hk => h F1 D (fun k hk => hb k (h4 k hk)) (Sep.begin h1 fun k hk => (hb k (h4 k hk)).2) S (fun i b e vs hi => ?_) (fun b hb1 hb2 => ?_) hk fun w' Ls S' => ?_
  · obtain ⟨G, g1, g2⟩ := StarP.get hi h2
    exact hD b (hb b (h5 b (g2 b g1.1))).2 fun x => h3 b x (g2 b g1.1)
  · refine hD b (Nat.lt_of_lt_of_le hb1 hsz) fun x => ?_
    rcases (hb b (h4 b x)).1 with y | y
    · exact hb2 y
    · omega
  · obtain ⟨G, g1, g2⟩ := S'.ex
    refine ⟨S.fr.trans' S'.fr fun k hk => (hb k (h4 k hk)).1, fun k => G k ∨ F2 k, StarP.app.2 ⟨G, F2, g1, h2.st fun k hk => S'.fr.block k (hb k (h5 k hk)).2 fun x => h3 k x hk, fun k hk hf => ?_, fun k => .inl, fun k => .inr⟩, fun k hk => ?_⟩
    · rcases (g2 k hk).1 with x | x
      · exact h3 k x hf
      · have := (hb k (h5 k hf)).2; omega
    · rcases hk with hk | hk
      · refine ⟨?_, (g2 k hk).2⟩
        rcases (g2 k hk).1 with x | x
        · exact (hb k (h4 k x)).1
        · exact .inr (by omega)
      · exact ⟨(hb k (h5 k hk)).1, Nat.lt_of_lt_of_le (hb k (h5 k hk)).2 S'.fr.size⟩
end
end Go.Eng
namespace Go.Proofs.Ytfpkaebmiojicaa.Vc
open Go Go.Eng Go.RowKit
set_option linter.unusedVariables false
set_option linter.unusedSimpArgs false

/-- A page's bytes of a seed. -/
def bytL (n sd : Int) : List Int := (List.range n.toNat).map fun (i : Nat) => Go.bits .or .u8 sd (IntKind.u8.wrap (IntKind.u8.wrap (i : Int) * sd))
theorem bytL_len (n sd : Int) : (bytL n sd).length = n.toNat := by simp [bytL]
theorem bytL_byt (n sd : Int) : Byt (bytL n sd) := fun v hv => by
  obtain ⟨i, -, rfl⟩ := List.mem_map.1 hv
  exact bits8_byt _ _ _
theorem bytes_c {w : World} {n sd : Int} (hn : 0 ≤ n ∧ n ≤ 1000) : CallV Try.prog 51 #[.int .i64 n, .int .u8 sd] w [.one .sl] fun r w' => Res w w' r.1 (bytL n sd) := by
  apply law13_bytes.vc
  unfold law13_bytes.P
  have S := Sep.start NoB w
  refine S.newB fun b1 w1 S f1 _ => ?_
  have S := S.asOwn (sz := 1) (n := 0) rfl (by omega) oneAll.nil
  refine Loop1 (fun (v : SlV × Int × Unit) w' => ∃ i : Nat, v.2.1 = (i : Int) ∧ (i : Int) ≤ n ∧ v.1.n = i ∧ Sep NoB w w' [OwnA 5 1 v.1.a v.1.n v.1.c ((bytL (i : Int) sd).map (Value.int .u8))]) (fun (v : SlV × Int × Unit) _ => (n - v.2.1).toNat) ⟨0, rfl, by omega, rfl, S⟩ ?_
  rintro ⟨⟨a, m, c⟩, (v : Int), ⟨⟩⟩ w4 ⟨i, hv, hi, hm, S⟩
  dsimp only at hv hm S ⊢
  subst hv
  subst hm
  refine cond_d (fun hlt => ?_) (fun hge => ?_)
  · refine S.newB fun b6 w5 S f5 _ => ?_
    refine AppS.of (news := [.int .u8 (Go.bits .or .u8 sd (IntKind.u8.wrap (IntKind.u8.wrap (m : Int) * sd)))]) rfl (.inr ⟨_, rfl, S.cells 0 rfl⟩) ?_
    refine S.ap1 rfl (fun u hu => by rw [List.mem_singleton.1 hu]; rfl) (by omega) (by omega) fun a' c' w6 S f6 => ⟨Rng.i64 (by omega) (by omega), ⟨m + 1, by push_cast; rfl, by omega, rfl, ?_⟩, by omega⟩
    have e : (bytL ((m + 1 : Nat) : Int) sd).map (Value.int .u8) = (bytL (m : Int) sd).map (Value.int .u8) ++ [.int .u8 (Go.bits .or .u8 sd (IntKind.u8.wrap (IntKind.u8.wrap (m : Int) * sd)))] := by
      unfold bytL
      rw [Int.toNat_natCast, Int.toNat_natCast, List.range_succ, List.map_append, List.map_append]
      rfl
    rw [e]
    exact S.sel [1] rfl
  · have : (m : Int) = n := by omega
    subst this
    exact S.out

theorem light_c {w : World} {g : Geo} : CallV Try.prog 41 #[g.val] w [.one .bool] fun r w' => r.1 = decide (LG g) ∧ Ext w w' := by
  apply law13_light.vc
  unfold law13_light.P
  have S := Sep.start NoB w
  refine S.newB fun b1 w1 S f1 _ => ?_
  unfold LG
  refine S.ld0 rfl rfl (cond_d (fun h1 => ?_) fun h1 => ⟨(decide_eq_false fun h => h1 h.1).symm, S.ext⟩)
  refine S.ld0 rfl rfl (cond_d (fun h2 => ?_) fun h2 => ⟨(decide_eq_false fun h => h2 h.2.1).symm, S.ext⟩)
  refine S.ld0 rfl rfl ⟨decide_eq_decide.2 ⟨fun h => ⟨h1, h2, h⟩, fun h => h.2.2⟩, S.ext⟩

/-! ### A step -/
def datC (C : CD) (sd : Int) : List Int := if sd = 7 then (bytL (C.g.s + 88) sd).drop 1 else bytL (C.g.s + 88) sd
/-- What a step makes of an array: a program 1, an erase 2, a scrub 3, a byte changed 4, the power 5. -/
def stC (C : CD) (k bl pa sd : Int) (on : Bool) : CD :=
  if k = 1 then (progC C bl pa (datC C sd)).1 else if k = 2 then (eraC C bl).1 else if k = 3 then (scrC C bl).1 else if k = 4 then (pokC C bl pa pa sd).1 else if k = 5 then { C with off := !on } else C
/-- What it leaves in the trace. -/
def stT (C : CD) (k bl pa sd : Int) : List (Int × Int × Int × List Int × Int) :=
  if k = 1 then (if refC C bl pa (datC C sd).length = 0 then [(1, bl, pa, datC C sd, (codeC C).1)] else []) else if k = 2 then (if mayC C bl = 0 then [(2, bl, 0, [], (codeC C).1)] else []) else if k = 3 then (if mayC C bl = 0 then [(3, bl, 0, [], (codeC C).1)] else []) else []
theorem datC_len {C : CD} (hC : COk C) (sd : Int) : (datC C sd).length ≤ szP C.g ∧ Byt (datC C sd) := by
  obtain ⟨-, -, -, n7, n8⟩ := hC.num
  have e : (C.g.s + 88).toNat = szP C.g := rfl
  unfold datC
  split
  · exact ⟨by rw [List.length_drop, bytL_len]; omega, (bytL_byt _ _).drop 1⟩
  · exact ⟨by rw [bytL_len]; omega, bytL_byt _ _⟩
theorem stC_ok {C : CD} (hC : COk C) (ho : C.ops < 1000000) {k bl pa sd : Int} {on : Bool} (hs : 0 ≤ sd ∧ sd < 256) : COk (stC C k bl pa sd on) := by
  unfold stC
  split
  · unfold progC
    split
    · exact progX_ok hC (by assumption) (datC_len hC sd).2 ho
    · exact hC
  split
  · unfold eraC
    split
    · exact eraX_ok hC (by assumption) ho
    · exact hC
  split
  · unfold scrC
    split
    · exact scrX_ok hC (by assumption) ho
    · exact hC
  split
  · exact pokC_ok hC hs
  split
  · exact ⟨hC.g, hC.lg, hC.bl, hC.bo, hC.pm, hC.ops⟩
  · exact hC
theorem stC_same {C : CD} {k bl pa sd : Int} {on : Bool} : (stC C k bl pa sd on).g = C.g ∧ (stC C k bl pa sd on).pl = C.pl ∧ (stC C k bl pa sd on).ops = C.ops + (stT C k bl pa sd).length := by
  unfold stC stT
  split
  · unfold progC; split <;> exact ⟨rfl, rfl, rfl⟩
  split
  · unfold eraC; split <;> exact ⟨rfl, rfl, rfl⟩
  split
  · unfold scrC; split <;> exact ⟨rfl, rfl, rfl⟩
  split
  · unfold pokC
    split
    · exact ⟨rfl, rfl, rfl⟩
    split <;> exact ⟨rfl, rfl, rfl⟩
  split <;> exact ⟨rfl, rfl, rfl⟩
theorem stT_len {C : CD} {k bl pa sd : Int} : (stT C k bl pa sd).length ≤ 1 := by
  unfold stT
  repeat' split
  all_goals simp
end Go.Proofs.Ytfpkaebmiojicaa.Vc

/-! The contracts of layer 13: one step, done by both: the walk. -/
namespace Go.Proofs.Ytfpkaebmiojicaa.Vc
open Go Go.Eng Go.RowKit
set_option linter.unusedVariables false
set_option linter.unusedSimpArgs false

/-- What a step leaves: both arrays, and the trace. -/
def StepR (F : Nat → Prop) (w w' : World) (p : Nat) (y : Lay) (C' : CD) (L : List TOp) (tr : List (Int × Int × Int × List Int × Int)) (f : SlP TF.T) (r : Int × Int × Int × Int × Int × Int × SlV × SlV × Bool × Int × Unit) : Prop :=
  ∃ (B' : SlP TBd.T) (ta : Option Addr) (tc : Nat) (L' : List TOp), r = chT B' f C' ∧ B'.l.map bdOf = C'.bs ∧ L'.map TOp.dat = L.map TOp.dat ++ tr ∧ Sep F w w' (RdT (Ty.sl TBd) B' :: ChipP p (upT y ta tc) C' L')

section
variable {E : Nat → Prop} {w0 w : World} {B : SlP TBd.T} {f : SlP TF.T} {C : CD} {Ts : List Asr}
/-- A call of the document's array: the answer is a part of its own. -/
theorem refCall {fn : FuncId} {args : Array Value} {l : List Sh} {get : RT l → Int × Int × Int × Int × Int × Int × SlV × SlV × Bool × Int × Unit} {C' : CD} {Q : RT l → Prop} (S : Sep E w0 w (RdT (Ty.sl TBd) B :: Ts)) (hdb : B.l.map bdOf = C.bs) (hf : LF.rd w All f) (hdf : fds f = C.pl)
    (hc : ∀ H : Nat → Prop, (∀ k, w.heap.size ≤ k → H k) → RefR H w B f C → CallV Try.prog fn args w l fun r w' => ∃ B' : SlP TBd.T, get r = chT B' f C' ∧ Q r ∧ RefR H w' B' f C' ∧ Ext w w') {K : RT l → World → Prop}
    (hk : ∀ r w' (B' : SlP TBd.T), get r = chT B' f C' → Q r → B'.l.map bdOf = C'.bs → Ext w w' → Sep E w0 w' (RdT (Ty.sl TBd) B' :: Ts) → K r w') : CallV Try.prog fn args w l K := by
  obtain ⟨F, h1, h2, h3⟩ := Sep.frame1 S
  refine (hc (fun k => F k ∨ w.heap.size ≤ k) (fun k hk => .inr hk) ⟨(Ty.sl TBd).rd_mono (fun k hk _ => .inl hk) h1, hdb, hf, hdf⟩).mono ?_
  rintro r w' ⟨B', g1, g2, g3, g4⟩
  refine hk r w' B' g1 g2 g3.db g4 (h3 w' [_] ⟨(Fr.of g4).any, fun k => (F k ∨ w.heap.size ≤ k) ∧ k < w'.heap.size, ⟨fun k => (F k ∨ w.heap.size ≤ k) ∧ k < w'.heap.size, NoB, (Ty.sl TBd).rd_mono (fun k hk hl => ⟨hk, hl⟩) g3.rb, trivial, fun _ _ x => x, fun _ x => x, fun _ x => x.elim⟩, fun k hk => hk⟩)
end

section
variable {F : Nat → Prop} {w : World} {p : Nat} {y : Lay} {C : CD} {L : List TOp} {B : SlP TBd.T} {f : SlP TF.T}
theorem step13_c {k bl pa sd : Int} {on : Bool} (hC : COk C) (ho : C.ops < 1000000) (hF : fds y.F = C.pl) (hdf : fds f = C.pl) (hdb : B.l.map bdOf = C.bs) (hsd : 0 ≤ sd ∧ sd < 256) (hf : LF.rd w (fun k => ¬ F k) f) (S : Sep F w w (RdT (Ty.sl TBd) B :: ChipP p y C L)) :
    CallV Try.prog 45 #[.pointer (some ⟨p, 0, none⟩), chVal B f C, .agg #[.int .i64 k, .int .i64 bl, .int .i64 pa, .int .u8 sd, .bool on]] w [.agg SH10, .one .bool] fun r w' =>
      r.2.1 = true ∧ StepR F w w' p y (stC C k bl pa sd on) L (stT C k bl pa sd) f r.1 := by
  apply law13_step.vc
  unfold law13_step.P
  obtain ⟨⟨n1, n2⟩, ⟨n3, n4⟩, ⟨n5, n6⟩, n7, n8⟩ := hC.num
  have S := (S.perm (List.perm_append_comm (l₁ := [RdT (Ty.sl TBd) B]) (l₂ := ChipP p y C L))).fold (Rs := ChipP p y C L) (Ts := [RdT (Ty.sl TBd) B])
  refine S.newB fun b1 w1 S f1 _ => ?_
  refine S.newB fun b3 w3 S f3 _ => ?_
  refine S.newB fun b5 w5 S f5 _ => ?_
  have r88 : Rng .i64 (C.g.s + 88) := Rng.i64 (by omega) (by omega)
  refine S.ld2 (j := 2) rfl rfl ⟨r88, S.ld1 (j := 3) rfl rfl ?_⟩
  refine (bytes_c (n := C.g.s + 88) (sd := sd) ⟨by omega, by omega⟩).mono ?_
  rintro ⟨⟨ba, bn, bc⟩, ⟨⟩⟩ w10 h10
  dsimp only
  have S := S.pushO h10.ext h10.own
  have h10l := h10.ints.len
  have h10c := h10.ints.cap
  rw [bytL_len] at h10l
  dsimp only at h10l h10c
  refine ⟨fun (v : SlV × Unit) w' => v.1.n ≤ 1000 ∧ Sep F w w' [RdL [⟨v.1.a, v.1.n, v.1.c, datC C sd⟩], BoxA b5 88 zCH, BoxA b3 93 [.int .i64 k, .int .i64 bl, .int .i64 pa, .int .u8 sd, .bool on], BoxA b1 88 (chV B f C), StarA (ChipP p y C L), RdT (Ty.sl TBd) B], ?_, ?_⟩
  case refine_2 =>
    refine S.ld2 (j := 3) rfl rfl (cond_eq (fun h7 => ?_) (fun h7 => ?_))
    · refine ⟨⟨by omega, by omega⟩, ?_⟩
      intro a95 ha95
      refine ⟨by dsimp only; omega, ?_⟩
      unfold datC
      rw [if_pos h7]
      refine S.conv fun G hG _ x hx => ?_
      rw [List.mem_singleton.1 hx]
      have h8 := TB_sub (l := 1) (hh := bn) (m := bc) (own_rdB (n := bn) (c := bc) hG (G := G) (fun k hk => hk) (bytL_byt _ _)) (by omega) (by omega) (by omega) ha95
      rw [List.take_of_length_le (by rw [List.length_drop, bytL_len]; omega)] at h8
      exact h8
    · refine ⟨by dsimp only; omega, ?_⟩
      unfold datC
      rw [if_neg h7]
      refine S.conv fun G hG _ x hx => ?_
      rw [List.mem_singleton.1 hx]
      exact own_rdB hG (fun k hk => hk) (bytL_byt _ _)
  rintro ⟨⟨va, vn, vc⟩, ⟨⟩⟩ w13 ⟨hvn, S⟩
  dsimp only at hvn S ⊢
  have hf13 : LF.rd w13 All f := LF.rd_mono (fun _ _ _ => trivial) (LF.rd_kp (fun k hk hl => S.fr.block k hl hk) hf)
  have hx13 : Ints w13 .u8 va vn vc (datC C sd) := by
    obtain ⟨G, hG, -⟩ := S.get (i := 0) rfl
    exact Ty.ints (hG _ (List.mem_singleton.2 rfl))
  have fin : ∀ {w' : World} {B' : SlP TBd.T} {C' : CD} {tr : List (Int × Int × Int × List Int × Int)} {ta : Option Addr} {tc : Nat} {L' : List TOp} {R1 R2 R3 R4 : Asr}, C' = stC C k bl pa sd on → tr = stT C k bl pa sd → B'.l.map bdOf = C'.bs → L'.map TOp.dat = L.map TOp.dat ++ tr →
      Sep F w w' [StarA (ChipP p (upT y ta tc) C' L'), R1, R2, R3, R4, RdT (Ty.sl TBd) B'] → StepR F w w' p y (stC C k bl pa sd on) L (stT C k bl pa sd) f (chT B' f C') := by
    intro w' B' C' tr ta tc L' R1 R2 R3 R4 h1 h2 h3 h4 S
    subst h1; subst h2
    refine ⟨B', ta, tc, L', rfl, h3, h4, ?_⟩
    exact ((S.sel [0, 4] rfl).unfold (Rs := ChipP p (upT y ta tc) _ L')).perm List.perm_append_comm
  refine S.ld2 (j := 0) rfl rfl (cond_eq (fun h1 => ?_) (fun h1 => ?_))
  · have h1 : k = 1 := h1
    refine S.la3 rfl (S.lb2 (o := 1) rfl ?_)
    refine refCall (l := [.agg SH10, .one (.int .i64)]) (get := fun r => r.1) (C' := (progC C bl pa (datC C sd)).1) (Q := fun r => r.2.1 = (progC C bl pa (datC C sd)).2) (S.sel [5, 0, 0, 0, 0, 0] rfl) hdb hf13 hdf (fun H hH hR => rProgram13_c hH hR hC ho hx13 (datC_len hC sd).2) ?_
    rintro ⟨_, (e : Int), ⟨⟩⟩ w18 B' hr he hdb' X18 S
    dsimp only at hr he
    subst hr; subst he
    refine S.newB fun b19 w20 S f20 _ => ?_
    refine S.st0 (by rfl) fun w21 S f21 => ?_
    have S := S.sel [6, 2, 2, 0, 1, 0] rfl
    refine Sep.regC [_, _, _] S fun G D hG T S hDt hDo hkeep back => ?_
    refine ⟨hDt 0 _ _ _ rfl, S.la3 rfl ⟨hDt 1 _ _ _ rfl, S.lb4 (o := 1) rfl ?_⟩⟩
    refine Sep.call (ChipQ p y C L [RdL [⟨va, vn, vc, datC C sd⟩]]) (T.unfold (Rs := ChipP p y C L)) (fun G SG => Program13_c (dd := ⟨va, vn, vc, datC C sd⟩) hC hF (by dsimp only; omega) SG) fun G fr r w26 hr => ?_
    obtain ⟨e1, ta, tc, L', hL', S3⟩ := hr
    have T := Sep.fold (Rs := ChipP p (upT y ta tc) (progC C bl pa (datC C sd)).1 L') (Ts := [RdL [⟨va, vn, vc, datC C sd⟩], BoxA b5 _ zCH]) (fr _ _ S3)
    refine ⟨hkeep _ T.fr, T.st2 (by rfl) fun w27 T f27 => ⟨hkeep _ T.fr, T.la2 rfl ⟨?_, ?_⟩⟩⟩
    · rw [e1]; exact beq_self_eq_true _
    · exact fin (by unfold stC; rw [if_pos h1]) (by unfold stT; rw [if_pos h1]) hdb' hL' (back _ _ T)
  refine cond_eq (fun h2 => ?_) (fun h2 => ?_)
  · have h2 : k = 2 := h2
    refine S.la3 rfl (S.ld2 (j := 1) rfl rfl ?_)
    refine refCall (l := [.agg SH10, .one (.int .i64)]) (get := fun r => r.1) (C' := (eraC C bl).1) (Q := fun r => r.2.1 = (eraC C bl).2) (S.sel [5, 0, 0, 0, 0, 0] rfl) hdb hf13 hdf (fun H hH hR => rErase13_c hH hR hC ho) ?_
    rintro ⟨_, (e : Int), ⟨⟩⟩ w18 B' hr he hdb' X18 S
    dsimp only at hr he
    subst hr; subst he
    refine S.newB fun b19 w20 S f20 _ => ?_
    refine S.st0 (by rfl) fun w21 S f21 => ?_
    have S := S.sel [6, 2, 2, 0, 1, 0] rfl
    refine Sep.regC [_, _, _] S fun G D hG T S hDt hDo hkeep back => ?_
    refine ⟨hDt 0 _ _ _ rfl, S.la3 rfl ⟨hDt 1 _ _ _ rfl, S.ld4 (j := 1) rfl rfl ?_⟩⟩
    refine Sep.call (ChipP p y C L) (T.unfold (Rs := ChipP p y C L)) (fun G SG => Erase13_c hC hF SG) fun G fr r w26 hr => ?_
    obtain ⟨e1, ta, tc, L', hL', S3⟩ := hr
    have T := Sep.fold (Rs := ChipP p (upT y ta tc) (eraC C bl).1 L') (Ts := [RdL [⟨va, vn, vc, datC C sd⟩], BoxA b5 _ zCH]) (fr _ _ S3)
    refine ⟨hkeep _ T.fr, T.st2 (by rfl) fun w27 T f27 => ⟨hkeep _ T.fr, T.la2 rfl ⟨?_, ?_⟩⟩⟩
    · rw [e1]; exact beq_self_eq_true _
    · exact fin (by unfold stC; rw [if_neg h1, if_pos h2]) (by unfold stT; rw [if_neg h1, if_pos h2]) hdb' hL' (back _ _ T)
  refine cond_eq (fun h3 => ?_) (fun h3 => ?_)
  · have h3 : k = 3 := h3
    refine S.la3 rfl (S.ld2 (j := 1) rfl rfl ?_)
    refine refCall (l := [.agg SH10, .one (.int .i64)]) (get := fun r => r.1) (C' := (scrC C bl).1) (Q := fun r => r.2.1 = (scrC C bl).2) (S.sel [5, 0, 0, 0, 0, 0] rfl) hdb hf13 hdf (fun H hH hR => rScrub13_c hH hR hC ho) ?_
    rintro ⟨_, (e : Int), ⟨⟩⟩ w18 B' hr he hdb' X18 S
    dsimp only at hr he
    subst hr; subst he
    refine S.newB fun b19 w20 S f20 _ => ?_
    refine S.st0 (by rfl) fun w21 S f21 => ?_
    have S := S.sel [6, 2, 2, 0, 1, 0] rfl
    refine Sep.regC [_, _, _] S fun G D hG T S hDt hDo hkeep back => ?_
    refine ⟨hDt 0 _ _ _ rfl, S.la3 rfl ⟨hDt 1 _ _ _ rfl, S.ld4 (j := 1) rfl rfl ?_⟩⟩
    refine Sep.call (ChipP p y C L) (T.unfold (Rs := ChipP p y C L)) (fun G SG => Scrub13_c hC hF SG) fun G fr r w26 hr => ?_
    obtain ⟨e1, ta, tc, L', hL', S3⟩ := hr
    have T := Sep.fold (Rs := ChipP p (upT y ta tc) (scrC C bl).1 L') (Ts := [RdL [⟨va, vn, vc, datC C sd⟩], BoxA b5 _ zCH]) (fr _ _ S3)
    refine ⟨hkeep _ T.fr, T.st2 (by rfl) fun w27 T f27 => ⟨hkeep _ T.fr, T.la2 rfl ⟨?_, ?_⟩⟩⟩
    · rw [e1]; exact beq_self_eq_true _
    · exact fin (by unfold stC; rw [if_neg h1, if_neg h2, if_pos h3]) (by unfold stT; rw [if_neg h1, if_neg h2, if_pos h3]) hdb' hL' (back _ _ T)
  refine cond_eq (fun h4 => ?_) (fun h4 => ?_)
  · have h4 : k = 4 := h4
    refine S.la3 rfl (S.lb2 (o := 1) rfl (S.ld2 (j := 2) rfl rfl (S.ld2 (j := 3) rfl rfl ?_)))
    refine refCall (l := [.agg SH10, .one (.int .i64)]) (get := fun r => r.1) (C' := (pokC C bl pa pa sd).1) (Q := fun r => r.2.1 = (pokC C bl pa pa sd).2) (S.sel [5, 0, 0, 0, 0, 0] rfl) hdb hf13 hdf (fun H hH hR => rPoke13_c hH hR hC hsd) ?_
    rintro ⟨_, (e : Int), ⟨⟩⟩ w18 B' hr he hdb' X18 S
    dsimp only at hr he
    subst hr; subst he
    refine S.newB fun b19 w20 S f20 _ => ?_
    refine S.st0 (by rfl) fun w21 S f21 => ?_
    have S := S.sel [6, 2, 2, 0, 1, 0] rfl
    refine Sep.regC [_, _, _] S fun G D hG T S hDt hDo hkeep back => ?_
    refine ⟨hDt 0 _ _ _ rfl, S.la3 rfl ⟨hDt 1 _ _ _ rfl, S.lb4 (o := 1) rfl ⟨hDt 1 _ _ _ rfl, S.ld4 (j := 2) rfl rfl ⟨hDt 1 _ _ _ rfl, S.ld4 (j := 3) rfl rfl ?_⟩⟩⟩⟩
    refine Sep.call (ChipP p y C L) (T.unfold (Rs := ChipP p y C L)) (fun G SG => Poke_c hC hsd SG) fun G fr r w26 hr => ?_
    obtain ⟨e1, S3⟩ := hr
    have T := Sep.fold (Rs := ChipP p (upT y y.T.a y.T.c) (pokC C bl pa pa sd).1 L) (Ts := [RdL [⟨va, vn, vc, datC C sd⟩], BoxA b5 _ zCH]) (fr _ _ S3)
    refine ⟨hkeep _ T.fr, T.st2 (by rfl) fun w27 T f27 => ⟨hkeep _ T.fr, T.la2 rfl ⟨?_, ?_⟩⟩⟩
    · rw [e1]; exact beq_self_eq_true _
    · exact fin (by unfold stC; rw [if_neg h1, if_neg h2, if_neg h3, if_pos h4]) (by unfold stT; rw [if_neg h1, if_neg h2, if_neg h3]) hdb' (by simp) (back _ _ T)
  have hpre : stC C k bl pa sd on = if k = 5 then { C with off := !on } else C := by unfold stC; rw [if_neg h1, if_neg h2, if_neg h3, if_neg h4]
  have hpt : stT C k bl pa sd = [] := by unfold stT; rw [if_neg h1, if_neg h2, if_neg h3]
  refine cond_eq (fun h5 => ?_) (fun h5 => ?_)
  · have h5 : k = 5 := h5
    rw [if_pos h5] at hpre
    have S := S.sel [4, 1, 0, 0, 0, 0] rfl
    refine S.ld3 (j := 4) rfl rfl ?_
    refine Sep.call (ChipP p y C L) (S.unfold (Rs := ChipP p y C L)) (fun G SG => Power_c (on := on) SG) fun G fr r w14 S3 => ?_
    have S := Sep.fold (Rs := ChipP p (upT y y.T.a y.T.c) { C with off := !on } L) (Ts := [_, _, _, _, _]) (fr _ _ S3)
    refine S.ld3 (j := 4) rfl rfl (S.su4 (j := 8) (by rfl) fun w15 S f15 => ?_)
    refine Sep.regC [_, _] S fun G D hG T S hDt hDo hkeep back => ?_
    refine ⟨hDt 2 _ _ _ rfl, S.la4 rfl ⟨hDt 2 _ _ _ rfl, S.ld4 (j := 8) rfl rfl ?_⟩⟩
    refine (On_c (C := { C with off := !on }) (y := upT y y.T.a y.T.c) ⟨hC.g, hC.lg, hC.bl, hC.bo, hC.pm, hC.ops⟩ (T.unfold (Rs := ChipP p (upT y y.T.a y.T.c) { C with off := !on } L))).mono ?_
    rintro ⟨(r : Bool), ⟨⟩⟩ w16 ⟨h16, rfl⟩
    dsimp only at h16
    subst h16
    refine ⟨hkeep _ (Fr.refl _ _), T.st1 (by rfl) fun w17 T f17 => ⟨hkeep _ T.fr, T.la1 rfl ⟨beq_self_eq_true _, ?_⟩⟩⟩
    exact fin (C' := { C with off := !on }) hpre.symm hpt.symm hdb (by simp) (back _ _ T)
  · have h5 : ¬ k = 5 := h5
    rw [if_neg h5] at hpre
    have S := S.sel [4, 1, 0, 0, 0, 0] rfl
    refine Sep.regC [_, _] S fun G D hG T S hDt hDo hkeep back => ?_
    refine ⟨hDt 2 _ _ _ rfl, S.la4 rfl ⟨hDt 2 _ _ _ rfl, S.ld4 (j := 8) rfl rfl ?_⟩⟩
    refine (On_c (C := C) (y := upT y y.T.a y.T.c) hC (T.unfold (Rs := ChipP p (upT y y.T.a y.T.c) C L))).mono ?_
    rintro ⟨(r : Bool), ⟨⟩⟩ w16 ⟨h16, rfl⟩
    dsimp only at h16
    subst h16
    refine ⟨hkeep _ (Fr.refl _ _), T.st1 (by rfl) fun w17 T f17 => ⟨hkeep _ T.fr, T.la1 rfl ⟨beq_self_eq_true _, ?_⟩⟩⟩
    exact fin (C' := C) hpre.symm hpt.symm hdb (by simp) (back _ _ T)
end
end Go.Proofs.Ytfpkaebmiojicaa.Vc

/-! The contracts of layer 13: does the program answer; the trace. -/
namespace Go.Proofs.Ytfpkaebmiojicaa.Vc
open Go Go.Eng Go.RowKit
set_option linter.unusedVariables false
set_option linter.unusedSimpArgs false

abbrev gAw : Geo := ⟨7, 10, 64, 0, 1, 1⟩
theorem aw1 : Right gAw := by decide
theorem aw2 : refC (newC gAw []) 1 2 152 = 0 := by decide +kernel
theorem aw3 : (codeC (newC gAw [])).1 = 0 := by decide +kernel
theorem aw4 : readC (progX (newC gAw []) 1 2 (List.replicate 152 0)) 1 2 = 0 := by decide +kernel
theorem aw5 : pgC13 (progX (newC gAw []) 1 2 (List.replicate 152 0)) 1 2 = List.replicate 152 0 := by decide +kernel
theorem zs152 : (List.replicate 152 [Value.int .u8 0]).flatten = (List.replicate 152 0).map (Value.int .u8) := by rw [List.map_replicate]; exact List.flatten_replicate_singleton
theorem awake13_c {w : World} : CallV Try.prog 42 #[] w [.one .bool] fun r w' => r.1 = true ∧ Ext w w' := by
  apply law13_awake.vc
  unfold law13_awake.P
  refine (New13_c (g := gAw) (x := ⟨none, 0, 0, []⟩) (G := All) ⟨rfl, Nat.le_refl _, Nat.zero_le _, .inl ⟨rfl, rfl⟩, fun y hy => (List.not_mem_nil hy).elim⟩ (fun f hf => (List.not_mem_nil hf).elim)).mono ?_
  rintro ⟨_, (e : Int), ⟨⟩⟩ w2 ⟨X2, -, h⟩
  rw [show fds ⟨none, 0, 0, []⟩ = [] from rfl] at h
  obtain ⟨he, p, y, hp, hF, S⟩ := h ⟨aw1, ⟨fun f hf => (List.not_mem_nil hf).elim, by decide⟩⟩
  dsimp only at he hp
  subst he; subst hp
  have hC : COk (newC gAw []) := newC_ok aw1 (by decide) (fun f hf => (List.not_mem_nil hf).elim)
  refine ⟨by decide, ?_⟩
  refine S.newB fun b3 w4 S f4 _ => ?_
  rw [zs152] at S
  have S := S.asOwn (sz := 1) (n := 152) (by simp) (by omega) (oneAll.ints _ _)
  have S := S.conv (R' := RdL [⟨some ⟨b3, 0, none⟩, 152, 152, List.replicate 152 0⟩]) fun G hG _ x hx => by
    rw [List.mem_singleton.1 hx]
    exact own_rdB hG (fun k hk => hk) (Byt.replicate (by decide) (by decide) _)
  have S := S.perm (List.perm_append_comm (l₁ := [RdL [⟨some ⟨b3, 0, none⟩, 152, 152, List.replicate 152 0⟩]]) (l₂ := ChipP p y (newC gAw []) []))
  refine Sep.call (ChipQ p y (newC gAw []) [] [RdL [⟨some ⟨b3, 0, none⟩, 152, 152, List.replicate 152 0⟩]]) (Ts := []) S (fun G SG => Program13_c (dd := ⟨some ⟨b3, 0, none⟩, 152, 152, List.replicate 152 0⟩) hC hF (by dsimp only; omega) SG) fun G fr r w6 hr => ?_
  obtain ⟨e1, ta, tc, L', hL', S3⟩ := hr
  have S := fr _ _ S3
  have hP : progC (newC gAw []) 1 2 (List.replicate 152 0) = (progX (newC gAw []) 1 2 (List.replicate 152 0), 0) := by
    unfold progC
    rw [if_pos (by rw [List.length_replicate]; exact aw2), aw3]
  dsimp only at e1 S
  rw [hP] at e1 S
  dsimp only at e1 S
  have hC2 : COk (progX (newC gAw []) 1 2 (List.replicate 152 0)) := progX_ok hC (by rw [List.length_replicate]; exact aw2) (Byt.replicate (by decide) (by decide) _) (by decide)
  generalize hCC : progX (newC gAw []) 1 2 (List.replicate 152 0) = CC at S hC2
  have q4 := aw4
  have q5 := aw5
  rw [hCC] at q4 q5
  have q6 : CC.ops = 1 := by rw [← hCC]; rfl
  refine (Read13_c (bl := 1) (pa := 2) hC2 S).mono ?_
  rintro ⟨⟨ra, rn, rc⟩, (e : Int), ⟨⟩⟩ w8 ⟨h8, -, h9⟩
  have h8' : Res w6 w8 (⟨ra, rn, rc⟩ : SlV) (List.replicate 152 0) := by rw [← q5]; exact h9 q4
  clear h9
  rw [q4] at h8
  dsimp only at h8 ⊢
  subst h8
  have hl := h8'.ints.len
  rw [List.length_replicate] at hl
  dsimp only at hl
  subst hl
  obtain ⟨q, g1, -, g3⟩ := h8'.ints.at (i := 0) (by omega) (show (0 : Int) < ((152 : Nat) : Int) by omega)
  refine cond_t rfl (cond_t (by rw [e1]; rfl) (cond_t rfl (cond_t rfl ⟨⟨by omega, show (0 : Int) < ((152 : Nat) : Int) by omega⟩, q, g1, _, g3, cond_t rfl ?_⟩)))
  refine (Ops_c (S.stepE h8'.ext)).mono ?_
  rintro ⟨(o : Int), ⟨⟩⟩ w9 ⟨h9, rfl⟩
  dsimp only at h9 ⊢
  subst h9
  rw [q6]
  exact ⟨rfl, S.ext.trans h8'.ext⟩
end Go.Proofs.Ytfpkaebmiojicaa.Vc

/-! What any parameter of a law is known to be, with the sizes of what it holds: structs, arrays and slices of whole numbers, texts, and of each other. -/
namespace Go.Proofs.Ytfpkaebmiojicaa.Vc
open Go Go.Eng Go.RowKit Go.ChangeShapes
set_option linter.unusedVariables false
set_option linter.unusedSimpArgs false

/-- No slice or text in it is longer than what an address space holds. -/
def Ty.big : (t : Ty) → t.T → Prop
  | .int _, _ => True
  | .bool, _ => True
  | .str, (x : ByteArray) => x.size ≤ 140737488351232
  | .sl e, (x : SlP e.T) => x.n ≤ 140737488351232 ∧ ∀ y ∈ x.l, e.big y
  | .nil, _ => True
  | .cons a r, (x : a.T × r.T) => a.big x.1 ∧ r.big x.2

/-- The elements of every slice have some byte. -/
def posF (P : Program) (cf : Ty → TypeId → Bool) : Ty → List Field → Bool
  | .cons a r, f :: fs => cf a f.type && posF P cf r fs
  | _, _ => true
def posA (cf : Ty → TypeId → Bool) (e : TypeId) : Ty → Nat → Bool
  | .cons a r, n + 1 => cf a e && posA cf e r n
  | _, _ => true
def pos (P : Program) : Nat → Ty → TypeId → Bool
  | 0, _, _ => false
  | d + 1, t, i =>
    match P.underlying i, t with
    | some (.slice e), .sl t => pos P d t e && Nat.ble 1 (P.bytesOf e)
    | some (.struct fs), t => posF P (pos P d) t fs.toList
    | some (.array n e), t => posA (pos P d) e t n
    | _, _ => true

section
variable {H : Type} {enc : TypeId × Value → H} {P : Program} {w : World}
def Fit (l : List Nat) : Prop := l.all (· ≤ reachBytes) = true
theorem Fit.app {l m : List Nat} : Fit (l ++ m) ↔ Fit l ∧ Fit m := by unfold Fit; rw [List.all_append, Bool.and_eq_true]
theorem Fit.cons {a : Nat} {m : List Nat} : Fit (a :: m) ↔ a ≤ reachBytes ∧ Fit m := by unfold Fit; rw [List.all_cons, Bool.and_eq_true]; simp

def OpensS (enc : TypeId × Value → H) (P : Program) (w : World) (d : Nat) : Prop :=
  ∀ (ty : Ty) (t : TypeId) (fuel : Nat) (cs : List Value) (x : DataW H × List MemPlace), conf P d ty t = true → pos P d ty t = true → DataW.trod enc P w 0 (fun _ => true) true fuel t cs = some x →
    ∃ v : ty.T, cs = ty.vs v ∧ ty.ok w v ∧ (Fit (x.1.weights P t) → ty.big v)

theorem openFS {d : Nat} (ih : OpensS enc P w d) {n : Nat} {cs : List Value} : ∀ (ty : Ty) (fs : List Field) (o : Nat) (xs : List (DataW H × List MemPlace)), confF P (conf P d) ty fs o = true → posF P (pos P d) ty fs = true → cs.length = o + ty.n → xs.length = fs.length →
    (∀ (i : Nat) (f : Field), fs[i]? = some f → DataW.trod enc P w 0 (fun _ => true) true n f.type ((cs.drop f.offset).take (P.cellsOf f.type)) = xs[i]?) →
    ∃ v : ty.T, cs.drop o = ty.vs v ∧ ty.ok w v ∧ (Fit (DataW.weightsEach P (fs.map (·.type)) (xs.map (·.1))) → ty.big v)
  | .nil, [], o, xs, hc, hp, hl, hx, hf => ⟨(), by simp [Ty.vs, hl, Ty.n], trivial, fun _ => trivial⟩
  | .cons a r, f :: fs, o, x :: xs, hc, hp, hl, hx, hf => by
    simp only [confF, Bool.and_eq_true, beq_iff_eq] at hc
    simp only [posF, Bool.and_eq_true] at hp
    obtain ⟨⟨⟨h1, h2⟩, h3⟩, h4⟩ := hc
    have hy := hf 0 f rfl
    obtain ⟨v1, e1, o1, b1⟩ := ih a f.type n _ x h2 hp.1 hy
    obtain ⟨v2, e2, o2, b2⟩ := openFS ih r fs (o + a.n) xs h4 hp.2 (by rw [hl]; simp [Ty.n]; omega) (by simpa using hx) (fun i f' hf' => hf (i + 1) f' (by simpa using hf'))
    refine ⟨(v1, v2), ?_, ⟨o1, o2⟩, fun hw => ?_⟩
    · show _ = a.vs v1 ++ r.vs v2
      rw [← e1, ← e2, h1, h3, ← List.drop_drop, List.take_append_drop]
    · have hw' := Fit.app.1 (by simpa only [List.map_cons, DataW.weightsEach] using hw)
      exact ⟨b1 hw'.1, b2 hw'.2⟩
  | .cons _ _, _ :: _, _, [], _, _, _, hx, _ => by simp at hx
  | .int _, [], _, _, hc, _, _, _, _ => by simp [confF] at hc
  | .int _, _ :: _, _, _, hc, _, _, _, _ => by simp [confF] at hc
  | .bool, [], _, _, hc, _, _, _, _ => by simp [confF] at hc
  | .bool, _ :: _, _, _, hc, _, _, _, _ => by simp [confF] at hc
  | .str, [], _, _, hc, _, _, _, _ => by simp [confF] at hc
  | .str, _ :: _, _, _, hc, _, _, _, _ => by simp [confF] at hc
  | .sl _, [], _, _, hc, _, _, _, _ => by simp [confF] at hc
  | .sl _, _ :: _, _, _, hc, _, _, _, _ => by simp [confF] at hc
  | .nil, _ :: _, _, _, hc, _, _, _, _ => by simp [confF] at hc
  | .cons _ _, [], _, _, hc, _, _, _, _ => by simp [confF] at hc

theorem openAS {d : Nat} (ih : OpensS enc P w d) {n : Nat} {cs : List Value} {e : TypeId} : ∀ (ty : Ty) (m : Nat) (i : Nat) (xs : List (DataW H × List MemPlace)), confA P (conf P d) e ty m = true → posA (pos P d) e ty m = true → cs.length = i * P.cellsOf e + ty.n → xs.length = m →
    (∀ j, j < m → DataW.trod enc P w 0 (fun _ => true) true n e ((cs.drop ((i + j) * P.cellsOf e)).take (P.cellsOf e)) = xs[j]?) → ∃ v : ty.T, cs.drop (i * P.cellsOf e) = ty.vs v ∧ ty.ok w v ∧ (Fit (DataW.weightsAll P e (xs.map (·.1))) → ty.big v)
  | .nil, 0, i, xs, hc, hp, hl, hx, hf => ⟨(), by simp [Ty.vs, hl, Ty.n], trivial, fun _ => trivial⟩
  | .cons a r, m + 1, i, x :: xs, hc, hp, hl, hx, hf => by
    simp only [confA, Bool.and_eq_true, beq_iff_eq] at hc
    simp only [posA, Bool.and_eq_true] at hp
    obtain ⟨⟨h2, h3⟩, h4⟩ := hc
    have hy := hf 0 (by omega)
    obtain ⟨v1, e1, o1, b1⟩ := ih a e n _ x h2 hp.1 hy
    obtain ⟨v2, e2, o2, b2⟩ := openAS ih r m (i + 1) xs h4 hp.2 (by rw [hl, Nat.add_mul, h3]; simp [Ty.n]; omega) (by simpa using hx) (fun j hj => by
      have := hf (j + 1) (by omega)
      rw [show i + 1 + j = i + (j + 1) by omega]
      simpa using this)
    refine ⟨(v1, v2), ?_, ⟨o1, o2⟩, fun hw => ?_⟩
    · show _ = a.vs v1 ++ r.vs v2
      rw [← e1, ← e2, Nat.add_zero, Nat.add_mul, Nat.one_mul, ← List.drop_drop, List.take_append_drop]
    · have hw' := Fit.app.1 (by simpa only [List.map_cons, DataW.weightsAll] using hw)
      exact ⟨b1 hw'.1, b2 hw'.2⟩
  | .cons _ _, _ + 1, _, [], _, _, _, hx, _ => by simp at hx
  | .int _, 0, _, _, hc, _, _, _, _ => by simp [confA] at hc
  | .int _, _ + 1, _, _, hc, _, _, _, _ => by simp [confA] at hc
  | .bool, 0, _, _, hc, _, _, _, _ => by simp [confA] at hc
  | .bool, _ + 1, _, _, hc, _, _, _, _ => by simp [confA] at hc
  | .str, 0, _, _, hc, _, _, _, _ => by simp [confA] at hc
  | .str, _ + 1, _, _, hc, _, _, _, _ => by simp [confA] at hc
  | .sl _, 0, _, _, hc, _, _, _, _ => by simp [confA] at hc
  | .sl _, _ + 1, _, _, hc, _, _, _, _ => by simp [confA] at hc
  | .nil, _ + 1, _, _, hc, _, _, _, _ => by simp [confA] at hc
  | .cons _ _, 0, _, _, hc, _, _, _, _ => by simp [confA] at hc

theorem weightsAll_append (e : TypeId) (l m : List (DataW H)) : DataW.weightsAll P e (l ++ m) = DataW.weightsAll P e l ++ DataW.weightsAll P e m := by
  induction l with
  | nil => simp [DataW.weightsAll]
  | cons x l ih => simp only [List.cons_append, DataW.weightsAll, ih, List.append_assoc]

theorem openSS {d : Nat} (ih : OpensS enc P w d) {ty : Ty} {e : TypeId} (hc : conf P d ty e = true) (hp : pos P d ty e = true) (hn : P.cellsOf e = ty.n) {a : Addr} {m : Nat} : ∀ (elems : List (DataW H × List MemPlace)),
    (∀ i, i < elems.length → (w.cells? 0 (a.add (i * P.cellsOf e)) (P.cellsOf e)).bind (DataW.trod enc P w 0 (fun _ => true) true m e) = elems[i]?) →
    ∃ l : List ty.T, l.length = elems.length ∧ CellsAt w a (l.flatMap ty.vs) ∧ (∀ y ∈ l, ty.ok w y) ∧ (Fit (DataW.weightsAll P e (elems.map (·.1))) → ∀ y ∈ l, ty.big y) := by
  intro elems
  have key : ∀ (k : Nat) (elems : List (DataW H × List MemPlace)), elems.length = k → (∀ i, i < elems.length → (w.cells? 0 (a.add (i * P.cellsOf e)) (P.cellsOf e)).bind (DataW.trod enc P w 0 (fun _ => true) true m e) = elems[i]?) →
      ∃ l : List ty.T, l.length = elems.length ∧ CellsAt w a (l.flatMap ty.vs) ∧ (∀ y ∈ l, ty.ok w y) ∧ (Fit (DataW.weightsAll P e (elems.map (·.1))) → ∀ y ∈ l, ty.big y) := by
    intro k
    induction k with
    | zero =>
      intro elems hk _
      have := List.length_eq_zero_iff.1 hk
      subst this
      exact ⟨[], rfl, fun j v hv => by simp at hv, fun y hy => (List.not_mem_nil hy).elim, fun _ y hy => (List.not_mem_nil hy).elim⟩
    | succ k ih2 =>
      intro elems hk h
      have hne : elems ≠ [] := fun e0 => by rw [e0] at hk; simp at hk
      have hsplit := List.dropLast_concat_getLast hne
      have hlen1 : elems.dropLast.length = k := by simp [hk]
      obtain ⟨l, hl, hcl, hol, hbl⟩ := ih2 elems.dropLast hlen1 (fun i hi => by
        rw [h i (by omega), List.getElem?_eq_getElem (by omega), List.getElem?_eq_getElem hi, List.getElem_dropLast])
      have hy := h k (by omega)
      rw [List.getElem?_eq_getElem (by omega)] at hy
      have hlast : elems[k]'(by omega) = elems.getLast hne := by rw [List.getLast_eq_getElem]; congr 1; omega
      rw [hlast] at hy
      obtain ⟨c, hcs, ht⟩ := Option.bind_eq_some_iff.1 hy
      obtain ⟨v, e1, o1, b1⟩ := ih ty e m c _ hc hp ht
      obtain ⟨_, hlen, hcell⟩ := World.cells?_some hcs
      have hl' : l.length = k := by rw [hl, hlen1]
      refine ⟨l ++ [v], by simp [hl', hk], ?_, ?_, ?_⟩
      · rw [List.flatMap_append, List.flatMap_singleton]
        refine CellsAt.append' hcl ?_
        have : (l.flatMap ty.vs).length = k * P.cellsOf e := by
          rw [hn, ← hl']
          clear hcl hol hl hbl hl' hlast
          induction l with
          | nil => simp
          | cons z l ih3 => rw [List.flatMap_cons, List.length_append, Ty.vs_length, ih3, List.length_cons, Nat.add_mul]; omega
        rw [this]
        intro j u hu
        rw [← e1] at hu
        have hj : j < P.cellsOf e := by rw [← hlen]; exact (List.getElem?_eq_some_iff.1 hu).1
        rw [hcell j hj, hu]
      · intro y hy
        rcases List.mem_append.1 hy with h1 | h1
        · exact hol y h1
        · rw [List.mem_singleton.1 h1]; exact o1
      · intro hw
        rw [← hsplit, List.map_append, weightsAll_append] at hw
        obtain ⟨g1, g2⟩ := Fit.app.1 hw
        simp only [List.map_cons, List.map_nil, DataW.weightsAll, List.append_nil] at g2
        intro y hy
        rcases List.mem_append.1 hy with h1 | h1
        · exact hbl g1 y h1
        · rw [List.mem_singleton.1 h1]; exact b1 g2
  exact key _ elems rfl

theorem opensS : ∀ d : Nat, OpensS enc P w d
  | 0 => fun ty t fuel cs x hc => by simp [conf] at hc
  | d + 1 => by
    have ih := opensS d
    intro ty t fuel cs x hc hp h
    unfold conf at hc
    unfold pos at hp
    split at hc
    · rename_i k k' ht
      obtain ⟨n, rfl, _, hw⟩ := DataW.trod_int ht h
      have := of_decide_eq_true hc
      subst this
      exact ⟨n, rfl, wfRng hw, fun _ => trivial⟩
    · rename_i ht
      obtain ⟨b, rfl, _⟩ := DataW.trod_bool ht h
      exact ⟨b, rfl, trivial, fun _ => trivial⟩
    · rename_i ht
      obtain ⟨s, rfl, rfl, hs⟩ := DataW.trod_string ht h
      refine ⟨s, rfl, hs, fun hw => ?_⟩
      simp only [DataW.weights] at hw
      have := (Fit.cons.1 hw).1
      have e : reachBytes = 140737488351232 := by decide
      rw [e] at this
      simpa [Ty.big] using this
    · rename_i e t' ht
      rw [ht] at hp
      simp only [Bool.and_eq_true, beq_iff_eq] at hc hp
      obtain ⟨hc1, hc2⟩ := hc
      rcases DataW.trod_slice ht h with ⟨rfl, _⟩ | ⟨a, len, cap, elems, rest, n, _, rfl, rfl, hb, hl, hm, hlen, hel, _⟩
      · exact ⟨⟨none, 0, 0, []⟩, rfl, ⟨rfl, Nat.le_refl _, Nat.zero_le _, .inl ⟨rfl, rfl⟩, fun y hy => (List.not_mem_nil hy).elim⟩, fun _ => ⟨by show (0 : Nat) ≤ _; omega, fun y hy => (List.not_mem_nil hy).elim⟩⟩
      · obtain ⟨l, h1, h2, h3, h4⟩ := openSS ih hc1 hp.1 hc2 (a := a) (m := n) elems fun i hi => hel i (by omega)
        refine ⟨⟨some a, len, cap, l⟩, rfl, ⟨by rw [h1, hlen], hl, hm, .inr ⟨a, rfl, h2⟩, h3⟩, fun hw => ?_⟩
        simp only [DataW.weights, ht] at hw
        obtain ⟨g1, g2⟩ := Fit.cons.1 hw
        refine ⟨?_, h4 (Fit.app.1 g2).1⟩
        have hb1 : 1 ≤ P.bytesOf e := Nat.le_of_ble_eq_true hp.2
        rw [List.length_map, List.length_map, hlen] at g1
        have g3 : len * 1 ≤ (len + rest.length) * P.bytesOf e := Nat.mul_le_mul (by omega) hb1
        have : reachBytes = 140737488351232 := by decide
        show len ≤ _
        omega
    · rename_i ty _ _ fs ht
      rw [ht] at hp
      simp only [Bool.and_eq_true, beq_iff_eq] at hc
      obtain ⟨xs, n, _, rfl, hl, hlen, hf⟩ := DataW.trod_struct ht h
      obtain ⟨v, e1, o1, b1⟩ := openFS ih (n := n) (cs := cs) ty fs.toList 0 xs hc.1 (by simpa using hp) (by rw [hl, hc.2]; omega) (by simpa using hlen) fun i f hfi => hf i f (by simpa using hfi)
      refine ⟨v, by simpa using e1, o1, fun hw => b1 ?_⟩
      simpa only [DataW.weights, ht] using hw
    · rename_i ty _ _ n e ht
      rw [ht] at hp
      simp only [Bool.and_eq_true, beq_iff_eq] at hc
      obtain ⟨xs, m, _, rfl, hl, hlen, hf⟩ := DataW.trod_array ht h
      obtain ⟨v, e1, o1, b1⟩ := openAS ih (n := m) (cs := cs) ty n 0 xs hc.1 (by simpa using hp) (by rw [hl, hc.2]; omega) hlen fun j hj => by rw [Nat.zero_add]; exact hf j hj
      refine ⟨v, by simpa using e1, o1, fun hw => b1 ?_⟩
      simpa only [DataW.weights, ht] using hw
    · cases hc

/-- A parameter that is a struct or an array, and the sizes in it. -/
theorem openAggS {ty : Ty} {t : TypeId} {cs : Array Value} {d : Nat} {x : DataW H} {ps : List MemPlace} (hc : conf P d ty t = true) (hp : pos P d ty t = true)
    {ts : List TypeId} {ds : List (DataW H)} {j : Nat} (htj : ts[j]? = some t) (hdj : ds[j]? = some x) (hsz : (DataW.weightsEach P ts ds).all (· ≤ reachBytes) = true)
    (h : DataW.Trod enc P w 0 (fun _ => true) true t (.agg cs) x ps) : ∃ v : ty.T, Value.agg cs = .agg (ty.vs v).toArray ∧ ty.ok w v ∧ ty.big v := by
  obtain ⟨fuel, hf⟩ := h
  obtain ⟨v, e, o, b⟩ := opensS d ty t fuel _ _ hc hp hf
  refine ⟨v, ?_, o, b (List.all_eq_true.2 fun n hn => List.all_eq_true.1 hsz n (DataW.weights_mem_each htj hdj n hn))⟩
  rw [← e]
  simp [Value.cells]
/-- A parameter that is a slice, and the sizes in it. -/
theorem openSlS {ty : Ty} {t : TypeId} {a : Option Addr} {n c : Nat} {d : Nat} {x : DataW H} {ps : List MemPlace} (hc : conf P d (.sl ty) t = true) (hp : pos P d (.sl ty) t = true)
    {ts : List TypeId} {ds : List (DataW H)} {j : Nat} (htj : ts[j]? = some t) (hdj : ds[j]? = some x) (hsz : (DataW.weightsEach P ts ds).all (· ≤ reachBytes) = true)
    (h : DataW.Trod enc P w 0 (fun _ => true) true t (.slice a n c) x ps) : ∃ l : List ty.T, (Ty.sl ty).ok w ⟨a, n, c, l⟩ ∧ (Ty.sl ty).big ⟨a, n, c, l⟩ := by
  obtain ⟨fuel, hf⟩ := h
  obtain ⟨v, e, o, b⟩ := opensS d (.sl ty) t fuel _ _ hc hp hf
  have b := b (List.all_eq_true.2 fun n hn => List.all_eq_true.1 hsz n (DataW.weights_mem_each htj hdj n hn))
  simp [Value.cells, Ty.vs] at e
  obtain ⟨h1, h2, h3⟩ := e
  refine ⟨v.l, ?_⟩
  subst h1; subst h2; subst h3
  exact ⟨o, b⟩
end

end Go.Proofs.Ytfpkaebmiojicaa.Vc

/-! What the laws of layer 13 share. -/
namespace Go.Proofs.Ytfpkaebmiojicaa.Vc
open Go Go.Eng Go.RowKit
set_option linter.unusedVariables false
set_option linter.unusedSimpArgs false

theorem aw13 {w w' : World} (he : Ext w w') : CallV Try.prog 42 #[] w' [.one .bool] fun r w3 => r.1 = true ∧ Ext w w3 := awake13_c.mono fun r w3 ⟨h, e⟩ => ⟨h, he.trans e⟩
abbrev TSt : Ty := .cons (.int .i64) (.cons (.cons (.int .i64) (.cons (.int .i64) .nil)) (.cons (.int .u8) (.cons .bool .nil)))
abbrev LSt : Ty := .sl TSt
/-- A step of both, among other parts. -/
theorem stepS {E : Nat → Prop} {w0 w : World} {Ts : List Asr} {p : Nat} {y : Lay} {C : CD} {L : List TOp} {B : SlP TBd.T} {f : SlP TF.T} {k bl pa sd : Int} {on : Bool} (hC : COk C) (ho : C.ops < 1000000) (hF : fds y.F = C.pl) (hdf : fds f = C.pl) (hdb : B.l.map bdOf = C.bs) (hsd : 0 ≤ sd ∧ sd < 256)
    (hf : LF.rd w (fun k => k < w0.heap.size ∧ ¬ E k) f) (S : Sep E w0 w (RdT (Ty.sl TBd) B :: StarA (ChipP p y C L) :: Ts)) :
    CallV Try.prog 45 #[.pointer (some ⟨p, 0, none⟩), chVal B f C, .agg #[.int .i64 k, .int .i64 bl, .int .i64 pa, .int .u8 sd, .bool on]] w [.agg SH10, .one .bool] fun r w' =>
      r.2.1 = true ∧ ∃ (B' : SlP TBd.T) (y' : Lay) (L' : List TOp), r.1 = chT B' f (stC C k bl pa sd on) ∧ fds y'.F = C.pl ∧ B'.l.map bdOf = (stC C k bl pa sd on).bs ∧ L'.map TOp.dat = L.map TOp.dat ++ stT C k bl pa sd ∧
        Sep E w0 w' (RdT (Ty.sl TBd) B' :: StarA (ChipP p y' (stC C k bl pa sd on) L') :: Ts) := by
  have S := ((S.perm (List.Perm.swap (StarA (ChipP p y C L)) (RdT (Ty.sl TBd) B) Ts)).unfold (Rs := ChipP p y C L)).perm (List.perm_middle (l₁ := ChipP p y C L))
  refine Sep.callB (RdT (Ty.sl TBd) B :: ChipP p y C L) (Ts := Ts) S (fun F hFF SF => step13_c hC ho hF hdf hdb hsd (LF.rd_mono (fun k hk _ hFk => (hFF k hFk).1.elim hk.2 (by omega)) hf) SF) ?_
  rintro F fr r w' ⟨h1, B', ta, tc, L', h2, h3, h4, S'⟩
  refine ⟨h1, B', upT y ta tc, L', h2, hF, h3, h4, ?_⟩
  have S2 := fr _ _ S'
  have S3 : Sep E w0 w' (ChipP p (upT y ta tc) (stC C k bl pa sd on) L' ++ (RdT (Ty.sl TBd) B' :: Ts)) := S2.perm (List.perm_middle (l₁ := ChipP p (upT y ta tc) (stC C k bl pa sd on) L')).symm
  exact S3.fold.perm (List.Perm.swap _ _ _)

theorem fds_byt {w : World} {G : Nat → Prop} {f : SlP TF.T} (hf : LF.rd w G f) : ∀ F ∈ fds f, Byt F.2.2.1 := fun F hF => by
  obtain ⟨x, hx, rfl⟩ := List.mem_map.1 hF
  rw [TF_dat]
  exact fun v hv => rng_u8 ((hf.2.2.2.2 x hx).2.2.1.2.2.2.2 v hv)
theorem readC_right {C : CD} {bl pa : Int} (hg : Right C.g) (ho : C.off = false) : readC C bl pa = if plOk C.g bl pa then 0 else 2 := by
  unfold readC
  rw [if_neg (by rw [ho]; decide)]
  by_cases h : inC C bl pa
  · rw [if_pos h, if_pos ⟨hg, h⟩]
  · rw [if_neg h, if_neg (fun k => h k.2)]
theorem pageOf {H : Nat → Prop} {w : World} {B : SlP TBd.T} {f : SlP TF.T} {C : CD} {bl pa : Int} (h : RefR H w B f C) (hC : COk C) (hi : inC C bl pa) :
    ∃ q x q2 y, B.a = some q ∧ CellsAt w (q.add (bl.toNat * 5)) (bdV x) ∧ q.block < w.heap.size ∧ x.1.a = some q2 ∧ CellsAt w (q2.add (pa.toNat * 1)) (TB.vs y) ∧ q2.block < w.heap.size ∧ TB.rd w All y ∧ y.l = pgC13 C bl pa ∧ (0 ≤ bl ∧ bl < (B.n : Int)) ∧ (0 ≤ pa ∧ pa < (x.1.n : Int)) := by
  obtain ⟨⟨n1, n2⟩, ⟨n3, n4⟩, ⟨n5, n6⟩, n7, n8⟩ := hC.num
  have hBn := h.len
  rw [hC.bl] at hBn
  obtain ⟨h0, h1⟩ := hi.1
  obtain ⟨q, x, hq, hc, hr, hx, hbd, hb⟩ := h.nth (i := bl) h0 (by omega)
  have hbk := (hC.blk hi.1).2
  have hpl : x.1.n = C.g.p.toNat := by rw [← bd_len (x := x) (by rw [hbd]; exact hbk)]; exact hr.1.1.symm
  obtain ⟨p0, p1⟩ := hi.2
  obtain ⟨q2, y, hq2, hy, hc2, hry, -, hb2⟩ := TBB_nth hr.1 (i := pa) (by omega) (by omega)
  refine ⟨q, x, q2, y, hq, hc, hb, hq2, hc2, hb2, hry, ?_, ⟨h0, by omega⟩, ⟨p0, by omega⟩⟩
  have h1 : (x.1.l.map (·.l))[pa.toNat]? = some y.l := by rw [List.getElem?_map, hy]; rfl
  have h2 : (blkC C bl).pg = x.1.l.map (·.l) := by rw [← hbd]; rfl
  show _ = (blkC C bl).pg.getD pa.toNat []
  rw [h2, getD_some h1]
end Go.Proofs.Ytfpkaebmiojicaa.Vc

/-! Plain laws of layer 13: what only clears. -/
namespace Go.Proofs.Ytfpkaebmiojicaa.Vc
open Go Go.Eng Go.RowKit
set_option linter.unusedVariables false
set_option linter.unusedSimpArgs false

theorem cl_of {xs ys : List Int} (bx : Byt xs) (by' : Byt ys) (hl : ys.length = xs.length) (h : ∀ i, i < 8 * xs.length → hasL ys i = true → hasL xs i = true) : andL xs ys = ys := by
  refine bits_ext (andL_byt _ _) by' (by rw [andL_length, hl]) fun i hi => ?_
  rw [andL_length] at hi
  rw [hasL_and bx by' hi]
  cases hy : hasL ys i
  · exact Bool.and_false _
  · rw [h i hi hy]; rfl
theorem cl_and {xs ys : List Int} (bx : Byt xs) (by' : Byt ys) : andL xs (andL xs ys) = andL xs ys :=
  cl_of bx (andL_byt _ _) (andL_length _ _) fun i hi h => by
    rw [hasL_and bx by' hi] at h
    exact (Bool.and_eq_true_iff.1 h).1
theorem cl_self {xs : List Int} (bx : Byt xs) : andL xs xs = xs := cl_of bx bx rfl fun i _ h => h
theorem cl_turn {xs : List Int} (bx : Byt xs) {f : Nat → Bool} (hf : ∀ i, f i = true → hasL xs i = true) : andL xs (turn xs f (8 * xs.length)) = turn xs f (8 * xs.length) :=
  cl_of bx (turn_byt bx f _) (turn_length _ _ _) fun i hi h => by
    rw [hasL_turn bx f hi _ (Nat.le_refl _)] at h
    split at h
    · rename_i hh; exact hf i hh.2
    · exact h
theorem cl_prog {xs ys ms : List Int} (bx : Byt xs) {b : Bool} : andL xs (progL xs ys ms b) = progL xs ys ms b := by
  unfold progL
  refine cl_turn bx fun i hi => ?_
  unfold prF prC at hi
  simp only [Bool.and_eq_true] at hi
  exact hi.1.1
theorem cl_app {xs ys zs us : List Int} (h : xs.length = zs.length) : andL (xs ++ ys) (zs ++ us) = andL xs zs ++ andL ys us := by
  refine List.ext_getElem (by simp [andL]) fun i h1 h2 => ?_
  simp only [andL, List.getElem_map, List.getElem_range, List.getElem_append, List.length_map, List.length_range]
  split
  · rename_i hi
    rw [List.getD_eq_getElem?_getD, List.getElem?_append_left hi, List.getD_eq_getElem?_getD, List.getElem?_append_left (by omega), List.getD_eq_getElem?_getD, List.getD_eq_getElem?_getD]
  · rename_i hi
    rw [List.getD_eq_getElem?_getD, List.getElem?_append_right (by omega), List.getD_eq_getElem?_getD, List.getElem?_append_right (by omega), List.getD_eq_getElem?_getD, List.getD_eq_getElem?_getD, h]
/-- The middle only is another one. -/
theorem cl_mid {pre a b post : List Int} (bp : Byt pre) (bq : Byt post) (hl : b.length = a.length) (h : andL a b = b) : andL (pre ++ (a ++ post)) (pre ++ (b ++ post)) = pre ++ (b ++ post) := by
  rw [cl_app rfl, cl_app hl.symm, cl_self bp, cl_self bq, h]
theorem byt_app {xs ys : List Int} (h : Byt (xs ++ ys)) : Byt xs ∧ Byt ys := ⟨fun x hx => h x (List.mem_append_left _ hx), fun x hx => h x (List.mem_append_right _ hx)⟩

/-- An image with another block. -/
theorem img_blk {C C' : CD} (h : COk C) {n : Int} (hn : 0 ≤ n ∧ n < C.g.b) {x : BD} (hC : C'.bs = C.bs.set n.toNat x) (hl : x.pg.flatten.length = (allC C n).length) (ha : andL (allC C n) x.pg.flatten = x.pg.flatten) : andL (imgC C) (imgC C') = imgC C' := by
  obtain ⟨pre, post, h1, -, h3⟩ := imgC_blk h hn
  have hb := imgC_byt h
  rw [h3 x C' hC]
  rw [h1] at hb ⊢
  exact cl_mid (byt_app hb).1 (byt_app (byt_app hb).2).2 hl ha
theorem fl_mid {pg : List (List Int)} {i : Nat} {a b : List Int} (hi : pg[i]? = some a) (bp : ∀ q ∈ pg, Byt q) (hl : b.length = a.length) (h : andL a b = b) : (pg.set i b).flatten.length = pg.flatten.length ∧ andL pg.flatten (pg.set i b).flatten = (pg.set i b).flatten := by
  obtain ⟨m1, m2⟩ := flat_mid (f := id) (z := b) hi
  rw [List.flatMap_id, List.flatMap_id, List.flatMap_id] at m1 m2
  simp only [id] at m1 m2
  rw [m1, m2]
  refine ⟨by simp [hl], cl_mid (fun v hv => ?_) (fun v hv => ?_) hl h⟩
  · obtain ⟨q, hq, hv⟩ := List.mem_flatten.1 hv
    exact bp q (List.mem_of_mem_take hq) v hv
  · obtain ⟨q, hq, hv⟩ := List.mem_flatten.1 hv
    exact bp q (List.mem_of_mem_drop hq) v hv
theorem img_clears {C : CD} (hC : COk C) {k bl pa sd : Int} {on : Bool} (h2 : k ≠ 2) (h4 : k ≠ 4) : andL (imgC C) (imgC (stC C k bl pa sd on)) = imgC (stC C k bl pa sd on) := by
  have hs : andL (imgC C) (imgC C) = imgC C := cl_self (imgC_byt hC)
  unfold stC
  split
  · unfold progC
    split
    · rename_i hr
      have hi : inC C bl pa := by
        unfold refC at hr
        split at hr
        · cases hr
        · split at hr
          · cases hr
          · rename_i hh; exact (Classical.not_not.1 hh).1
      obtain ⟨p0, p1, p2⟩ := hC.page hi
      have hp : (pgC13 C bl pa).length = szP C.g := p1
      have hm := fl_mid (pg := (blkC C bl).pg) (b := if (codeC C).1 = 0 then andL (pgC13 C bl pa) (datC C sd) else progL (pgC13 C bl pa) (datC C sd) (codeC C).2.1 (!(codeC C).2.2)) p0 (fun q hq => ((hC.blk hi.1).2.pb q hq).2)
        (by split
            · rw [andL_length]
            · unfold progL; rw [turn_length])
        (by split
            · exact cl_and p2 (datC_len hC sd).2
            · exact cl_prog p2)
      exact img_blk hC hi.1 (C' := progX C bl pa (datC C sd)) rfl hm.1 hm.2
    · exact hs
  split
  · unfold scrC
    split
    · rename_i hr
      obtain ⟨-, hn⟩ := may_zero hr
      have hall := (hC.blk hn).2.all
      have hl := hall.1
      obtain ⟨⟨n1, n2⟩, ⟨n3, n4⟩, -⟩ := hC.num
      have hz : Byt (List.replicate (allC C bl).length (0 : Int)) := Byt.replicate (by omega) (by omega) _
      have hc : ∀ q : List Int, q.length = (allC C bl).length → (cutL q C.g.p.toNat).flatten = q := fun q hq => (cutL_flat (by omega) (hq.trans hl)).1
      have hql : (if (codeC C).1 = 0 then List.replicate (allC C bl).length (0 : Int) else progL (allC C bl) (List.replicate (allC C bl).length 0) (codeC C).2.1 false).length = (allC C bl).length := by
        split
        · simp
        · unfold progL; rw [turn_length]
      refine img_blk hC hn (C' := scrX C bl) rfl ?_ ?_
      · show (cutL _ _).flatten.length = _
        rw [hc _ hql]; exact hql
      · show andL (allC C bl) (cutL _ _).flatten = (cutL _ _).flatten
        rw [hc _ hql]
        split
        · refine cl_of hall.2 hz (by simp [allC]) fun i hi h => ?_
          exfalso
          have e0 : hasL (List.replicate (allC C bl).length (0 : Int)) i = false := by
            unfold hasL
            have e : (List.replicate (allC C bl).length (0 : Int)).getD (i / 8) 0 = 0 := by
              rw [List.getD_eq_getElem?_getD, List.getElem?_replicate]
              split <;> rfl
            rw [e]
            have hj : i % 8 < 8 := Nat.mod_lt _ (by omega)
            generalize i % 8 = j at hj
            match j, hj with
            | 0, _ | 1, _ | 2, _ | 3, _ | 4, _ | 5, _ | 6, _ | 7, _ => rfl
          rw [show hasL (List.replicate (allC C bl).length (0 : Int)) i = true from h] at e0
          cases e0
        · exact cl_prog hall.2
    · exact hs
  split <;> exact hs
theorem img_same {C : CD} {k bl pa sd : Int} {on : Bool} (h4 : k ≠ 4) (hT : stT C k bl pa sd = []) : imgC (stC C k bl pa sd on) = imgC C := by
  unfold stT at hT
  unfold stC
  split
  · rename_i h
    rw [if_pos h] at hT
    unfold progC
    split
    · rename_i hr; rw [if_pos hr] at hT; cases hT
    · rfl
  rename_i h1
  rw [if_neg h1] at hT
  split
  · rename_i h
    rw [if_pos h] at hT
    unfold eraC
    split
    · rename_i hr; rw [if_pos hr] at hT; cases hT
    · rfl
  rename_i h2
  rw [if_neg h2] at hT
  split
  · rename_i h
    rw [if_pos h] at hT
    unfold scrC
    split
    · rename_i hr; rw [if_pos hr] at hT; cases hT
    · rfl
  split <;> rfl
end Go.Proofs.Ytfpkaebmiojicaa.Vc

/-! The plans of functions as plain statements, printed by wip/tools/vcgen.py; the kernel holds each to the code. -/
namespace Go.Proofs.Ytfpkaebmiojicaa.Vc
open Go Go.Eng
set_option linter.unusedVariables false

/-! ### nepenthe/nepenthelaw13.NandClears: function 12 -/
-- loop 0 carries 6: .one .sl, 7: .one (.int .i64)
def law13_NandClears.A : Ann := .two .no (.two .no (.two .no (.two .no (.two .no (.two (.two .no (.one (.loop [2, 6, 7, 8, 9, 10, 49, 50, 51, 52, 53, 54, 55, 56, 57, 58, 59, 60, 61, 62, 63, 64, 65, 66, 67, 68, 69, 70, 71, 72, 73, 74, 75, 76, 77, 78, 79, 80, 81, 82, 83, 84, 85, 86, 87, 88, 89, 90, 91, 92, 93, 94, 95, 96, 97, 98, 99, 100, 101, 102, 103, 104, 105, 106, 107, 108, 109, 110] [(6, .one .sl), (7, .one (.int .i64))] (.two .no (.two (.one (.two .no (.two (.draw (.take 0 (.take 2 (.take 3 (.take 4 (.take 5 (.take 6 (.eff 1 (.eff 7 (.take 8 (.take 9 (.take 10 (.eff 11 (.done)))))))))))))) (.two .no (.two .no (.two .no (.join [2, 82, 83, 84, 85, 86, 87, 88, 89, 90, 91, 92, 93, 94, 95] [] .no .no))))))) .no))))) .no)))))
def law13_NandClears.P (p0_0 : Int) (p0_1 : Int) (p0_2 : Int) (p0_3 : Int) (p0_4 : Int) (p0_5 : Int) (a0_6 : Option Addr) (n0_6 c0_6 : Nat) (a0_7 : Option Addr) (n0_7 c0_7 : Nat) (w : World) (K : Bool × Unit → World → Prop) : Prop :=
  NewV #[.int .i64 p0_0, .int .i64 p0_1, .int .i64 p0_2, .int .i64 p0_3, .int .i64 p0_4, .int .i64 p0_5, .slice a0_6 n0_6 c0_6, .slice a0_7 n0_7 c0_7] 79 w fun b1 w2 =>
  LoadA w2 ⟨b1, 0, none⟩ [.int .i64, .int .i64, .int .i64, .int .i64, .int .i64, .int .i64] fun (x3 : Int × Int × Int × Int × Int × Int × Unit) =>
  CallV Try.prog 17 #[.agg #[.int .i64 x3.1, .int .i64 x3.2.1, .int .i64 x3.2.2.1, .int .i64 x3.2.2.2.1, .int .i64 x3.2.2.2.2.1, .int .i64 x3.2.2.2.2.2.1]] w2 [.one .bool] fun (r4 : Bool × Unit) w5 =>
  cond (!r4.1)
  (CallV Try.prog 42 #[] w5 [.one .bool] fun (r6 : Bool × Unit) w7 =>
  K (r6.1, ()) w7)
  (LoadS w5 ⟨b1, 6, none⟩ .sl fun (x8 : SlV) =>
  CallV Try.prog 40 #[.slice x8.a x8.n x8.c] w5 [.one .bool] fun (r9 : Bool × Unit) w10 =>
  cond (!r9.1)
  (CallV Try.prog 42 #[] w10 [.one .bool] fun (r11 : Bool × Unit) w12 =>
  K (r11.1, ()) w12)
  (LoadA w10 ⟨b1, 0, none⟩ [.int .i64, .int .i64, .int .i64, .int .i64, .int .i64, .int .i64] fun (x13 : Int × Int × Int × Int × Int × Int × Unit) =>
  CallV Try.prog 41 #[.agg #[.int .i64 x13.1, .int .i64 x13.2.1, .int .i64 x13.2.2.1, .int .i64 x13.2.2.2.1, .int .i64 x13.2.2.2.2.1, .int .i64 x13.2.2.2.2.2.1]] w10 [.one .bool] fun (r14 : Bool × Unit) w15 =>
  cond (!r14.1)
  (CallV Try.prog 42 #[] w15 [.one .bool] fun (r16 : Bool × Unit) w17 =>
  K (r16.1, ()) w17)
  (LoadS w15 ⟨b1, 7, none⟩ .sl fun (x18 : SlV) =>
  cond (decide (((x18.n : Nat) : Int) > 6))
  (CallV Try.prog 42 #[] w15 [.one .bool] fun (r19 : Bool × Unit) w20 =>
  K (r19.1, ()) w20)
  (LoadA w15 ⟨b1, 0, none⟩ [.int .i64, .int .i64, .int .i64, .int .i64, .int .i64, .int .i64] fun (x21 : Int × Int × Int × Int × Int × Int × Unit) =>
  LoadS w15 ⟨b1, 6, none⟩ .sl fun (x22 : SlV) =>
  CallV Try.prog 43 #[.agg #[.int .i64 x21.1, .int .i64 x21.2.1, .int .i64 x21.2.2.1, .int .i64 x21.2.2.2.1, .int .i64 x21.2.2.2.2.1, .int .i64 x21.2.2.2.2.2.1], .slice x22.a x22.n x22.c] w15 [.one .ptr, .one (.int .i64)] fun (r23 : (Option Addr) × Int × Unit) w24 =>
  LoadA w24 ⟨b1, 0, none⟩ [.int .i64, .int .i64, .int .i64, .int .i64, .int .i64, .int .i64] fun (x25 : Int × Int × Int × Int × Int × Int × Unit) =>
  LoadS w24 ⟨b1, 6, none⟩ .sl fun (x26 : SlV) =>
  CallV Try.prog 44 #[.agg #[.int .i64 x25.1, .int .i64 x25.2.1, .int .i64 x25.2.2.1, .int .i64 x25.2.2.2.1, .int .i64 x25.2.2.2.2.1, .int .i64 x25.2.2.2.2.2.1], .slice x26.a x26.n x26.c] w24 [.agg [.int .i64, .int .i64, .int .i64, .int .i64, .int .i64, .int .i64, .sl, .sl, .bool, .int .i64]] fun (r27 : (Int × Int × Int × Int × Int × Int × SlV × SlV × Bool × Int × Unit) × Unit) w28 =>
  NewV #[.int .i64 0, .int .i64 0, .int .i64 0, .int .i64 0, .int .i64 0, .int .i64 0, .slice none 0 0, .slice none 0 0, .bool false, .int .i64 0] 88 w28 fun b29 w30 =>
  StoreV w30 ⟨b29, 0, none⟩ [.int .i64 r27.1.1, .int .i64 r27.1.2.1, .int .i64 r27.1.2.2.1, .int .i64 r27.1.2.2.2.1, .int .i64 r27.1.2.2.2.2.1, .int .i64 r27.1.2.2.2.2.2.1, .slice r27.1.2.2.2.2.2.2.1.a r27.1.2.2.2.2.2.2.1.n r27.1.2.2.2.2.2.2.1.c, .slice r27.1.2.2.2.2.2.2.2.1.a r27.1.2.2.2.2.2.2.2.1.n r27.1.2.2.2.2.2.2.2.1.c, .bool r27.1.2.2.2.2.2.2.2.2.1, .int .i64 r27.1.2.2.2.2.2.2.2.2.2.1] fun w31 =>
  CallV Try.prog 48 #[.pointer r23.1] w31 [.one .sl] fun (r32 : SlV × Unit) w33 =>
  LoopV [.one .sl, .one (.int .i64)] (r32.1, (0 : Int), ()) w33 fun (z34 : SlV × Int × Unit) w35 (K36 : SlV × Int × Unit → World → Prop) =>
  LoadS w35 ⟨b1, 7, none⟩ .sl fun (x37 : SlV) =>
  cond (decide (z34.2.1 < ((x37.n : Nat) : Int)))
  (CallV Try.prog 49 #[.pointer r23.1] w35 [.one (.int .i64)] fun (r38 : Int × Unit) w39 =>
  DrawV fun D40 =>
  (D40 b1 ∧ LoadS w39.drew ⟨b1, 7, none⟩ .sl fun (x41 : SlV) =>
  (0 ≤ z34.2.1 ∧ z34.2.1 < ((x41.n : Nat) : Int)) ∧ ∃ q42 : Addr, x41.a = some q42 ∧
  (D40 (q42.add (z34.2.1.toNat * 5)).block ∧ LoadA w39.drew (q42.add (z34.2.1.toNat * 5)) [.int .i64, .int .i64, .int .i64, .int .u8, .bool] fun (x43 : Int × Int × Int × Int × Bool × Unit) =>
  LoadA w39.drew ⟨b29, 0, none⟩ [.int .i64, .int .i64, .int .i64, .int .i64, .int .i64, .int .i64, .sl, .sl, .bool, .int .i64] fun (x44 : Int × Int × Int × Int × Int × Int × SlV × SlV × Bool × Int × Unit) =>
  KeepOn D40 w39.drew w39.drew ∧
  CallV Try.prog 45 #[.pointer r23.1, .agg #[.int .i64 x44.1, .int .i64 x44.2.1, .int .i64 x44.2.2.1, .int .i64 x44.2.2.2.1, .int .i64 x44.2.2.2.2.1, .int .i64 x44.2.2.2.2.2.1, .slice x44.2.2.2.2.2.2.1.a x44.2.2.2.2.2.2.1.n x44.2.2.2.2.2.2.1.c, .slice x44.2.2.2.2.2.2.2.1.a x44.2.2.2.2.2.2.2.1.n x44.2.2.2.2.2.2.2.1.c, .bool x44.2.2.2.2.2.2.2.2.1, .int .i64 x44.2.2.2.2.2.2.2.2.2.1], .agg #[.int .i64 x43.1, .int .i64 x43.2.1, .int .i64 x43.2.2.1, .int .u8 x43.2.2.2.1, .bool x43.2.2.2.2.1]] w39.drew [.agg [.int .i64, .int .i64, .int .i64, .int .i64, .int .i64, .int .i64, .sl, .sl, .bool, .int .i64], .one .bool] fun (r45 : (Int × Int × Int × Int × Int × Int × SlV × SlV × Bool × Int × Unit) × Bool × Unit) w46 =>
  KeepOn D40 w39.drew w46 ∧
  StoreV w46 ⟨b29, 0, none⟩ [.int .i64 r45.1.1, .int .i64 r45.1.2.1, .int .i64 r45.1.2.2.1, .int .i64 r45.1.2.2.2.1, .int .i64 r45.1.2.2.2.2.1, .int .i64 r45.1.2.2.2.2.2.1, .slice r45.1.2.2.2.2.2.2.1.a r45.1.2.2.2.2.2.2.1.n r45.1.2.2.2.2.2.2.1.c, .slice r45.1.2.2.2.2.2.2.2.1.a r45.1.2.2.2.2.2.2.2.1.n r45.1.2.2.2.2.2.2.2.1.c, .bool r45.1.2.2.2.2.2.2.2.2.1, .int .i64 r45.1.2.2.2.2.2.2.2.2.2.1] fun w47 =>
  KeepOn D40 w39.drew w47 ∧
  CallV Try.prog 48 #[.pointer r23.1] w47 [.one .sl] fun (r48 : SlV × Unit) w49 =>
  cond (((r48.1.n : Nat) : Int) != ((z34.1.n : Nat) : Int))
  (K (false, ()) w49)
  (LoadS w49 ⟨b1, 7, none⟩ .sl fun (x50 : SlV) =>
  (0 ≤ z34.2.1 ∧ z34.2.1 < ((x50.n : Nat) : Int)) ∧ ∃ q51 : Addr, x50.a = some q51 ∧
  LoadS w49 (q51.add (z34.2.1.toNat * 5)) (.int .i64) fun (x52 : Int) =>
  JoinV [] (fun (v54 : Unit) w55 =>
  cond (x52 != 4)
  (CallV Try.prog 49 #[.pointer r23.1] w55 [.one (.int .i64)] fun (r56 : Int × Unit) w57 =>
  cond (r56.1 == r38.1)
  (CallV Try.prog 19 #[.slice z34.1.a z34.1.n z34.1.c, .slice r48.1.a r48.1.n r48.1.c] w57 [.one .bool] fun (r58 : Bool × Unit) w59 =>
  cond (!r58.1)
  (K (false, ()) w59)
  (Rng .i64 (z34.2.1 + 1) ∧
  K36 (r48.1, z34.2.1 + 1, ()) w59))
  (Rng .i64 (z34.2.1 + 1) ∧
  K36 (r48.1, z34.2.1 + 1, ()) w57))
  (Rng .i64 (z34.2.1 + 1) ∧
  K36 (r48.1, z34.2.1 + 1, ()) w55)) fun (J53 : Unit → World → Prop) =>
  cond (x52 != 2)
  (cond (x52 != 4)
  (CallV Try.prog 30 #[.slice z34.1.a z34.1.n z34.1.c, .slice r48.1.a r48.1.n r48.1.c] w49 [.one .sl] fun (r60 : SlV × Unit) w61 =>
  CallV Try.prog 19 #[.slice r60.1.a r60.1.n r60.1.c, .slice r48.1.a r48.1.n r48.1.c] w61 [.one .bool] fun (r62 : Bool × Unit) w63 =>
  cond (!r62.1)
  (K (false, ()) w63)
  (J53 (()) w63))
  (J53 (()) w49))
  (J53 (()) w49)))))
  (CallV Try.prog 42 #[] w35 [.one .bool] fun (r64 : Bool × Unit) w65 =>
  K (r64.1, ()) w65)))))
theorem law13_NandClears.vc (p0_0 : Int) (p0_1 : Int) (p0_2 : Int) (p0_3 : Int) (p0_4 : Int) (p0_5 : Int) (a0_6 : Option Addr) (n0_6 c0_6 : Nat) (a0_7 : Option Addr) (n0_7 c0_7 : Nat) (w : World) (K : Bool × Unit → World → Prop) (h : law13_NandClears.P p0_0 p0_1 p0_2 p0_3 p0_4 p0_5 a0_6 n0_6 c0_6 a0_7 n0_7 c0_7 w K) : CallV Try.prog 12 #[.agg #[.int .i64 p0_0, .int .i64 p0_1, .int .i64 p0_2, .int .i64 p0_3, .int .i64 p0_4, .int .i64 p0_5, .slice a0_6 n0_6 c0_6, .slice a0_7 n0_7 c0_7]] w [.one .bool] K := by
  have e : vcFun Try.prog okf false Try.f12 law13_NandClears.A #[.agg #[.int .i64 p0_0, .int .i64 p0_1, .int .i64 p0_2, .int .i64 p0_3, .int .i64 p0_4, .int .i64 p0_5, .slice a0_6 n0_6 c0_6, .slice a0_7 n0_7 c0_7]] w [.one .bool] K = law13_NandClears.P p0_0 p0_1 p0_2 p0_3 p0_4 p0_5 a0_6 n0_6 c0_6 a0_7 n0_7 c0_7 w K := by kernel_rfl
  exact vcFun.calls okf_ok follows Try.func12 (e.symm ▸ h)

end Go.Proofs.Ytfpkaebmiojicaa.Vc

/-! The law NandClears of layer 13: each call gives true, and what it read stays. -/
namespace Go.Proofs.Ytfpkaebmiojicaa.Vc
open Go Go.Eng Go.RowKit
set_option linter.unusedVariables false
set_option linter.unusedSimpArgs false

abbrev casV (g : Geo) (f : SlP TF.T) (s : SlP TSt.T) : List Value := [.int .i64 g.b, .int .i64 g.p, .int .i64 g.s, .int .i64 g.sp, .int .i64 g.wr, .int .i64 g.ro, .slice f.a f.n f.c, .slice s.a s.n s.c]
theorem imgS {E : Nat → Prop} {w0 w : World} {p : Nat} {y : Lay} {C : CD} {L : List TOp} {Rs : List Asr} (hC : COk C) (S : Sep E w0 w (StarA (ChipP p y C L) :: Rs)) :
    CallV Try.prog 48 #[.pointer (some ⟨p, 0, none⟩)] w [.one .sl] fun r w' => Res w w' r.1 (imgC C) := Image_c (Rs := Rs) hC S.unfold
theorem opsS {E : Nat → Prop} {w0 w : World} {p : Nat} {y : Lay} {C : CD} {L : List TOp} {Rs : List Asr} (S : Sep E w0 w (StarA (ChipP p y C L) :: Rs)) :
    CallV Try.prog 49 #[.pointer (some ⟨p, 0, none⟩)] w [.one (.int .i64)] fun r w' => r.1 = (C.ops : Int) ∧ w' = w := Ops_c (S.unfold (Rs := ChipP p y C L))
theorem NandClears_law {w : World} {g : Geo} {f : SlP TF.T} {s : SlP TSt.T} (hf : LF.rd w All f) (hs : LSt.rd w All s) :
    CallV Try.prog 12 #[.agg (casV g f s).toArray] w [.one .bool] fun r w' => r.1 = true ∧ Ext w w' := by
  apply law13_NandClears.vc
  unfold law13_NandClears.P
  have S := Sep.start NoB w
  refine S.newB fun b1 w1 S f1 _ => ?_
  refine S.lb0 (o := 0) rfl ?_
  refine (Right_c (g := g)).mono ?_
  rintro ⟨(r : Bool), ⟨⟩⟩ w4 ⟨h4, x4⟩
  dsimp only at h4 ⊢
  subst h4
  have S := S.stepE x4
  by_cases hR : Right g
  case neg => exact cond_t (by rw [decide_eq_false hR]; rfl) (aw13 S.ext)
  refine cond_f (by rw [decide_eq_true hR]; rfl) ?_
  refine S.ld0 (j := 6) rfl rfl ?_
  refine (rRight12_c (Ty.rd_ext S.ext _ hf)).mono ?_
  rintro ⟨(r : Bool), ⟨⟩⟩ _ ⟨h5, rfl⟩
  dsimp only at h5 ⊢
  subst h5
  by_cases hFR : FRight (fds f)
  case neg => exact cond_t (by rw [decide_eq_false hFR]; rfl) (aw13 S.ext)
  refine cond_f (by rw [decide_eq_true hFR]; rfl) ?_
  refine S.lb0 (o := 0) rfl ?_
  refine (light_c (g := g)).mono ?_
  rintro ⟨(r : Bool), ⟨⟩⟩ w6 ⟨h6, x6⟩
  dsimp only at h6 ⊢
  subst h6
  have S := S.stepE x6
  by_cases hL : LG g
  case neg => exact cond_t (by rw [decide_eq_false hL]; rfl) (aw13 S.ext)
  refine cond_f (by rw [decide_eq_true hL]; rfl) ?_
  refine S.ld0 (j := 7) rfl rfl (cond_d (fun _ => aw13 S.ext) fun h6 => ?_)
  refine S.lb0 (o := 0) rfl (S.ld0 (j := 6) rfl rfl ?_)
  refine (New13_c (g := g) (x := f) (Ty.rd_ext S.ext _ hf) hFR.fit).mono ?_
  rintro ⟨_, (e : Int), ⟨⟩⟩ w7 ⟨x7, -, h7⟩
  obtain ⟨he, p, y, hp, hyF, S7⟩ := h7 ⟨hR, hFR⟩
  dsimp only at he hp
  subst he; subst hp
  have S := (S.frame0 S7).fold
  refine S.lb1 (o := 0) rfl (S.ld1 (j := 6) rfl rfl ?_)
  refine (rNew13_c (f := f) hR (Ty.rd_ext S.ext _ hf)).mono ?_
  rintro ⟨_, ⟨⟩⟩ w8 ⟨B, hB, hRf, x8⟩
  dsimp only at hB
  subst hB
  have S := S.push (R := RdT (Ty.sl TBd) B) (F := fun k => w7.heap.size ≤ k ∧ k < w8.heap.size) (.of x8) ((Ty.sl TBd).rd_mono (fun k h1 h2 => ⟨h1, h2⟩) hRf.rb) fun k hk => hk
  refine S.newB fun b29 w9 S f9 _ => ?_
  refine S.st0 (by rfl) fun w10 S f10 => ?_
  have hC0 : COk (newC g (fds f)) := newC_ok hR hL fun F hF => ⟨fds_byt hf F hF, hFR.fit F hF⟩
  refine (imgS hC0 (S.sel [2, 0, 0, 0] rfl)).mono ?_
  rintro ⟨⟨wa, wn, wc⟩, ⟨⟩⟩ w11 h11
  dsimp only
  have S := S.pushO h11.ext h11.own
  have im : ∀ {C : CD}, COk C → C.g = g → (imgC C).length = g.b.toNat * g.p.toNat * szP g ∧ (imgC C).length ≤ 100000 := fun {C} hC hg => by
    subst hg
    obtain ⟨⟨n1, n2⟩, ⟨n3, n4⟩, ⟨n5, n6⟩, n7, n8⟩ := hC.num
    have m1 : C.g.b.toNat * C.g.p.toNat ≤ 16 * 20 := Nat.mul_le_mul (by omega) (by omega)
    have m2 : C.g.b.toNat * C.g.p.toNat * szP C.g ≤ 16 * 20 * 216 := Nat.mul_le_mul m1 (by omega)
    rw [imgC_len hC]
    exact ⟨rfl, by omega⟩
  refine Loop1 (fun (v : SlV × Int × Unit) w' => ∃ (i : Nat) (C : CD) (B : SlP TBd.T) (y : Lay) (L : List TOp), v.2.1 = (i : Int) ∧ i ≤ s.n ∧ COk C ∧ C.g = g ∧ C.ops ≤ i ∧ C.pl = fds f ∧ fds y.F = fds f ∧ B.l.map bdOf = C.bs ∧ Sep NoB w w' [OwnA 5 1 v.1.a v.1.n v.1.c (bv8 (imgC C)), BoxA b29 88 (chV B f C), RdT (Ty.sl TBd) B, StarA (ChipP p y C L), BoxA b1 79 (casV g f s)])
    (fun (v : SlV × Int × Unit) _ => ((s.n : Int) - v.2.1).toNat) ⟨0, newC g (fds f), B, y, [], rfl, by omega, hC0, rfl, Nat.le_refl _, rfl, hyF, hRf.db, S⟩ ?_
  clear S7
  have h6 : ¬ ((s.n : Int) > 6) := h6
  rintro ⟨⟨wa, wn, wc⟩, (v : Int), ⟨⟩⟩ w12 ⟨i, C, B, y, L, hv, hi, hC, hg, ho, hpl, hyF, hdb, S⟩
  dsimp only at hv S
  subst hv
  refine S.ld4 (j := 7) rfl rfl ?_
  dsimp only
  refine cond_d (fun hlt => ?_) (fun _ => aw13 S.ext)
  refine (opsS (S.sel [3, 0, 0, 0, 0] rfl)).mono ?_
  rintro ⟨(o : Int), ⟨⟩⟩ w12 ⟨h13, rfl⟩
  dsimp only at h13
  subst h13
  obtain ⟨q, z, hq, hz, hc, hr, hGq, hqb⟩ := Ty.nth (LSt.rd_mono (G' := fun k => k < w.heap.size) (fun k _ hk => hk) hs) (i := (i : Int)) (by omega) hlt (by decide)
  obtain ⟨zk, ⟨zb, zp, ⟨⟩⟩, zs, zo, ⟨⟩⟩ := z
  have S := S.sel [1, 1, 1, 0, 0] rfl
  refine Sep.regC [_, _, _] S fun G D hG T S hDt hDo hkeep back => ?_
  refine ⟨hDt 1 _ _ _ rfl, S.ld4 (j := 7) rfl rfl ⟨⟨by omega, hlt⟩, q, hq, by rw [add_block]; exact hDo _ hGq (fun x => x), ?_⟩⟩
  refine ⟨(zk, zb, zp, zs, zo, ()), S.ext.cells hc, S.la0 rfl ⟨hkeep _ (Fr.refl _ _), ?_⟩⟩
  refine (stepS (p := p) (y := y) (C := C) (B := B) (f := f) (L := L) (k := zk) (bl := zb) (pa := zp) (sd := zs) (on := zo) (w := w12.drew) (Ts := [BoxA b29 _ (chV B f C)]) hC (by omega) (by rw [hyF, hpl]) hpl.symm hdb (rng_u8 hr.2.2.1) (LF.rd_mono (fun k hk _ => ⟨Nat.lt_of_lt_of_le hk S.ext.size, fun hGk => by have := (hG k hGk).1.resolve_left (fun x => x); omega⟩) (Ty.rd_ext S.ext _ (LF.rd_mono (G' := fun k => k < w.heap.size) (fun k _ hk => hk) hf))) (T.sel [1, 1, 0] rfl)).mono ?_
  rintro ⟨_, (ok : Bool), ⟨⟩⟩ w13 ⟨-, B', y', L', hr1, hF', hdb', hL', T⟩
  dsimp only at hr1
  subst hr1
  refine ⟨hkeep _ T.fr, T.st2 (by rfl) fun w14 T f14 => ⟨hkeep _ T.fr, ?_⟩⟩
  have S := back _ _ (T.sel [2, 0, 0] rfl)
  dsimp only [List.cons_append, List.nil_append] at S
  have hC' : COk (stC C zk zb zp zs zo) := stC_ok hC (by omega) (rng_u8 hr.2.2.1)
  have hg' : (stC C zk zb zp zs zo).g = g := by rw [stC_same.1, hg]
  have ho' : (stC C zk zb zp zs zo).ops = C.ops + (stT C zk zb zp zs).length := stC_same.2.2
  have hTl := stT_len (C := C) (k := zk) (bl := zb) (pa := zp) (sd := zs)
  refine (imgS hC' (S.sel [2, 0, 0, 0, 0] rfl)).mono ?_
  rintro ⟨⟨na, nn, nc⟩, ⟨⟩⟩ w15 h15
  dsimp only
  have S := S.pushO h15.ext h15.own
  dsimp only at S
  have iN := S.ints 0 rfl
  have iW := S.ints 4 rfl
  have lN := iN.len
  have lW := iW.len
  rw [(im hC' hg').1] at lN
  rw [(im hC hg).1] at lW
  have nn_ : nn = wn := by omega
  have lim := (im hC hg).2
  rw [(im hC hg).1] at lim
  refine cond_f (by rw [nn_]; simp) ?_
  refine S.ld5 (j := 7) rfl rfl ⟨⟨by omega, hlt⟩, q, hq, ?_⟩
  refine ldp0 (S.ext.cells hc) (h := .int .i64) (x := zk) rfl ?_
  have fin : ∀ {w' : World}, Ext w15 w' → Rng .i64 ((i : Int) + 1) ∧ (∃ (i' : Nat) (C : CD) (B : SlP TBd.T) (y : Lay) (L : List TOp), (i : Int) + 1 = (i' : Int) ∧ i' ≤ s.n ∧ COk C ∧ C.g = g ∧ C.ops ≤ i' ∧ C.pl = fds f ∧ fds y.F = fds f ∧ B.l.map bdOf = C.bs ∧ Sep NoB w w' [OwnA 5 1 na nn nc (bv8 (imgC C)), BoxA b29 88 (chV B f C), RdT (Ty.sl TBd) B, StarA (ChipP p y C L), BoxA b1 79 (casV g f s)]) ∧ ((s.n : Int) - ((i : Int) + 1)).toNat < ((s.n : Int) - (i : Int)).toNat := fun {w'} X => by
    refine ⟨Rng.i64 (by omega) (by omega), ⟨i + 1, stC C zk zb zp zs zo, B', y', L', by push_cast; rfl, by omega, hC', hg', ?_, by rw [stC_same.2.1, hpl], by rw [hF', hpl], hdb', (S.stepE X).sel [0, 0, 0, 0, 1] rfl⟩, by omega⟩
    rw [ho']
    omega
  refine ⟨fun (_ : Unit) w' => Ext w15 w', ?_, ?_⟩
  case refine_1 =>
    rintro ⟨⟩ w16 X16
    refine cond_ne (fun h4 => ?_) (fun h4 => fin X16)
    have S := S.stepE X16
    refine (opsS (S.sel [3, 0, 0, 0, 0, 0] rfl)).mono ?_
    rintro ⟨(o : Int), ⟨⟩⟩ _ ⟨h17, rfl⟩
    dsimp only at h17
    subst h17
    refine cond_eq (fun he => ?_) (fun he => fin X16)
    have hT : stT C zk zb zp zs = [] := List.length_eq_zero_iff.1 (by rw [ho'] at he; push_cast at he; omega)
    refine (SameBytes_c (iW.ext X16) (iN.ext X16)).mono ?_
    rintro ⟨(r : Bool), ⟨⟩⟩ w17 ⟨h17, x17⟩
    dsimp only at h17 ⊢
    subst h17
    exact cond_f (by rw [decide_eq_true (img_same h4 hT).symm]; rfl) (fin (X16.trans x17))
  refine cond_ne (fun h2 => cond_ne (fun h4 => ?_) (fun _ => Ext.refl _)) (fun _ => Ext.refl _)
  refine (And_c iW iN (by omega) (by omega)).mono ?_
  rintro ⟨⟨aa, an, ac⟩, ⟨⟩⟩ w16 h16
  refine (SameBytes_c h16.ints (iN.ext h16.ext)).mono ?_
  rintro ⟨(r : Bool), ⟨⟩⟩ w17 ⟨h17, x17⟩
  dsimp only at h17 ⊢
  subst h17
  exact cond_f (by rw [decide_eq_true (img_clears hC h2 h4)]; rfl) (h16.ext.trans x17)

theorem NandClears_of {w : World} {x : (Ty.cons TGeo (.cons LF (.cons LSt .nil))).T} (g0 : (Ty.cons TGeo (.cons LF (.cons LSt .nil))).ok w x) :
    CallV Try.prog 12 #[.agg ((Ty.cons TGeo (.cons LF (.cons LSt .nil))).vs x).toArray] w [.one .bool] fun r w' => r.1 = true ∧ Ext w w' := by
  obtain ⟨⟨b, p, s, sp, wr, ro, ⟨⟩⟩, f, l, ⟨⟩⟩ := x
  exact NandClears_law (g := ⟨b, p, s, sp, wr, ro⟩) (f := f) (s := l) (LF.rd_of g0.2.1) (LSt.rd_of g0.2.2.1)
end Go.Proofs.Ytfpkaebmiojicaa.Vc
