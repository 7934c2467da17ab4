/- Texts in one: The contracts of layer 13: one step, done by both. The contracts of layer 13: one step, done by both: the walk. The contracts of layer 13: does the program answer; the trace. What any parameter of a law is known to be, with the sizes of what it holds: structs, arrays and slices of whole numbers, texts, and of each other. What the laws of layer 13 share. The contracts of layer 13: the trace. Plain laws of layer 13: what a trace tells of programs. Places, and geometries, are the same where all their numbers are. The plans of functions as plain statements, printed by wip/tools/vcgen.py; the kernel holds each to the code. The law NandTraces of layer 13: each call gives true, and what it read stays. -/
import Derived.Test.YtfpkaebmiojicaaChecked
import Derived.Tactics
import Derived.Tactics2
import Derived.Laws.Small
import Derived.Laws.StructEq
import Derived.Laws.Tables
import Derived.KernelRfl
import Derived.Test.YtfpkaebmiojicaaZNandTracesd

/-! The contracts of layer 13: one step, done by both. -/
namespace Go.Eng
open Go
set_option linter.unusedVariables false
section
variable {E : Nat → Prop} {w0 w w' : World} {Rs Ts : List Asr}
/-- A call that owns the first parts, and knows that they are new. -/
theorem Sep.callB {P : Program} {g : FuncId} {args : Array Value} {l : List Sh} (Rs : List Asr) {Ts : List Asr} (S : Sep E w0 w (Rs ++ Ts)) {C : (Nat → Prop) → RT l → World → Prop}
    (hc : ∀ F, (∀ k, F k → (E k ∨ w0.heap.size ≤ k) ∧ k < w.heap.size) → Sep F w w Rs → CallV P g args w l fun r w' => C F r w') {K : RT l → World → Prop}
    (hk : ∀ F, (∀ w' Ls, Sep F w w' Ls → Sep E w0 w' (Ls ++ Ts)) → ∀ r w', C F r w' → K r w') : CallV P g args w l K := by
  obtain ⟨G, g1, g2, g3⟩ : ∃ G, StarP w Rs G ∧ (∀ k, G k → (E k ∨ w0.heap.size ≤ k) ∧ k < w.heap.size) ∧ ∀ w' Ls, Sep G w w' Ls → Sep E w0 w' (Ls ++ Ts) := by
    obtain ⟨F, h, hb⟩ := S.ex
    obtain ⟨F1, F2, h1, h2, h3, h4, h5⟩ := StarP.app.1 h
    refine ⟨F1, h1, fun k hk => hb k (h4 k hk), fun w' Ls S' => ?_⟩
    have S1 : Sep (fun k => F1 k ∨ F2 k) w w (Rs ++ Ts) := Sep.begin (StarP.app.2 ⟨F1, F2, h1, h2, h3, fun _ => .inl, fun _ => .inr⟩) fun k hk => hk.elim (fun x => (hb k (h4 k x)).2) (fun x => (hb k (h5 k x)).2)
    obtain ⟨G, g1, g2⟩ := S'.ex
    refine ⟨S.fr.trans' S'.fr fun k hk => (hb k (h4 k hk)).1, fun k => G k ∨ F2 k, StarP.app.2 ⟨G, F2, g1, h2.st fun k hk => S'.fr.block k (hb k (h5 k hk)).2 fun x => h3 k x hk, fun k hk hf => ?_, fun k => .inl, fun k => .inr⟩, fun k hk => ?_⟩
    · rcases (g2 k hk).1 with x | x
      · exact h3 k x hf
      · have := (hb k (h5 k hf)).2; omega
    · rcases hk with hk | hk
      · refine ⟨?_, (g2 k hk).2⟩
        rcases (g2 k hk).1 with x | x
        · exact (hb k (h4 k x)).1
        · have := S.fr.size; exact .inr (by omega)
      · exact ⟨(hb k (h5 k hk)).1, Nat.lt_of_lt_of_le (hb k (h5 k hk)).2 S'.fr.size⟩
  exact (hc G g2 (Sep.begin g1 fun k hk => (g2 k hk).2)).mono fun r w' h => hk G g3 r w' h
/-- An open order in which only the first parts are written. -/
theorem Sep.regC (Rs : List Asr) {Ts : List Asr} (S : Sep E w0 w (Rs ++ Ts)) {body : (Nat → Prop) → Prop}
    (h : ∀ F D : Nat → Prop, (∀ k, F k → (E k ∨ w0.heap.size ≤ k) ∧ k < w.heap.size) → Sep F w.drew w.drew Rs → Sep E w0 w.drew (Rs ++ Ts) → (∀ (i : Nat) (b : Nat) (e : TypeId) (vs : List Value), Ts[i]? = some (BoxA b e vs) → D b) → (∀ b, b < w0.heap.size → ¬ E b → D b) → (∀ w', Fr F w.drew w' → KeepOn D w.drew w') → (∀ w' Ls, Sep F w.drew w' Ls → Sep E w0 w' (Ls ++ Ts)) → body D) : DrawV body := by
  have S := S.drew
  obtain ⟨F, hF, hb⟩ := S.ex
  obtain ⟨F1, F2, h1, h2, h3, h4, h5⟩ := StarP.app.1 hF
  have hsz : w0.heap.size ≤ w.drew.heap.size := S.fr.size
  refine DrawV.but F1 w fun D hD hk => h F1 D (fun k hk => hb k (h4 k hk)) (Sep.begin h1 fun k hk => (hb k (h4 k hk)).2) S (fun i b e vs hi => ?_) (fun b hb1 hb2 => ?_) hk fun w' Ls S' => ?_
  · obtain ⟨G, g1, g2⟩ := StarP.get hi h2
    exact hD b (hb b (h5 b (g2 b g1.1))).2 fun x => h3 b x (g2 b g1.1)
  · refine hD b (Nat.lt_of_lt_of_le hb1 hsz) fun x => ?_
    rcases (hb b (h4 b x)).1 with y | y
    · exact hb2 y
    · omega
  · obtain ⟨G, g1, g2⟩ := S'.ex
    refine ⟨S.fr.trans' S'.fr fun k hk => (hb k (h4 k hk)).1, fun k => G k ∨ F2 k, StarP.app.2 ⟨G, F2, g1, h2.st fun k hk => S'.fr.block k (hb k (h5 k hk)).2 fun x => h3 k x hk, fun k hk hf => ?_, fun k => .inl, fun k => .inr⟩, fun k hk => ?_⟩
    · rcases (g2 k hk).1 with x | x
      · exact h3 k x hf
      · have := (hb k (h5 k hf)).2; omega
    · rcases hk with hk | hk
      · refine ⟨?_, (g2 k hk).2⟩
        rcases (g2 k hk).1 with x | x
        · exact (hb k (h4 k x)).1
        · exact .inr (by omega)
      · exact ⟨(hb k (h5 k hk)).1, Nat.lt_of_lt_of_le (hb k (h5 k hk)).2 S'.fr.size⟩
end
end Go.Eng
namespace Go.Proofs.Ytfpkaebmiojicaa.Vc
open Go Go.Eng Go.RowKit
set_option linter.unusedVariables false
set_option linter.unusedSimpArgs false

/-- A page's bytes of a seed. -/
def bytL (n sd : Int) : List Int := (List.range n.toNat).map fun (i : Nat) => Go.bits .or .u8 sd (IntKind.u8.wrap (IntKind.u8.wrap (i : Int) * sd))
theorem bytL_len (n sd : Int) : (bytL n sd).length = n.toNat := by simp [bytL]
theorem bytL_byt (n sd : Int) : Byt (bytL n sd) := fun v hv => by
  obtain ⟨i, -, rfl⟩ := List.mem_map.1 hv
  exact bits8_byt _ _ _
theorem bytes_c {w : World} {n sd : Int} (hn : 0 ≤ n ∧ n ≤ 1000) : CallV Try.prog 51 #[.int .i64 n, .int .u8 sd] w [.one .sl] fun r w' => Res w w' r.1 (bytL n sd) := by
  apply law13_bytes.vc
  unfold law13_bytes.P
  have S := Sep.start NoB w
  refine S.newB fun b1 w1 S f1 _ => ?_
  have S := S.asOwn (sz := 1) (n := 0) rfl (by omega) oneAll.nil
  refine Loop1 (fun (v : SlV × Int × Unit) w' => ∃ i : Nat, v.2.1 = (i : Int) ∧ (i : Int) ≤ n ∧ v.1.n = i ∧ Sep NoB w w' [OwnA 5 1 v.1.a v.1.n v.1.c ((bytL (i : Int) sd).map (Value.int .u8))]) (fun (v : SlV × Int × Unit) _ => (n - v.2.1).toNat) ⟨0, rfl, by omega, rfl, S⟩ ?_
  rintro ⟨⟨a, m, c⟩, (v : Int), ⟨⟩⟩ w4 ⟨i, hv, hi, hm, S⟩
  dsimp only at hv hm S ⊢
  subst hv
  subst hm
  refine cond_d (fun hlt => ?_) (fun hge => ?_)
  · refine S.newB fun b6 w5 S f5 _ => ?_
    refine AppS.of (news := [.int .u8 (Go.bits .or .u8 sd (IntKind.u8.wrap (IntKind.u8.wrap (m : Int) * sd)))]) rfl (.inr ⟨_, rfl, S.cells 0 rfl⟩) ?_
    refine S.ap1 rfl (fun u hu => by rw [List.mem_singleton.1 hu]; rfl) (by omega) (by omega) fun a' c' w6 S f6 => ⟨Rng.i64 (by omega) (by omega), ⟨m + 1, by push_cast; rfl, by omega, rfl, ?_⟩, by omega⟩
    have e : (bytL ((m + 1 : Nat) : Int) sd).map (Value.int .u8) = (bytL (m : Int) sd).map (Value.int .u8) ++ [.int .u8 (Go.bits .or .u8 sd (IntKind.u8.wrap (IntKind.u8.wrap (m : Int) * sd)))] := by
      unfold bytL
      rw [Int.toNat_natCast, Int.toNat_natCast, List.range_succ, List.map_append, List.map_append]
      rfl
    rw [e]
    exact S.sel [1] rfl
  · have : (m : Int) = n := by omega
    subst this
    exact S.out

theorem light_c {w : World} {g : Geo} : CallV Try.prog 41 #[g.val] w [.one .bool] fun r w' => r.1 = decide (LG g) ∧ Ext w w' := by
  apply law13_light.vc
  unfold law13_light.P
  have S := Sep.start NoB w
  refine S.newB fun b1 w1 S f1 _ => ?_
  unfold LG
  refine S.ld0 rfl rfl (cond_d (fun h1 => ?_) fun h1 => ⟨(decide_eq_false fun h => h1 h.1).symm, S.ext⟩)
  refine S.ld0 rfl rfl (cond_d (fun h2 => ?_) fun h2 => ⟨(decide_eq_false fun h => h2 h.2.1).symm, S.ext⟩)
  refine S.ld0 rfl rfl ⟨decide_eq_decide.2 ⟨fun h => ⟨h1, h2, h⟩, fun h => h.2.2⟩, S.ext⟩

/-! ### A step -/
def datC (C : CD) (sd : Int) : List Int := if sd = 7 then (bytL (C.g.s + 88) sd).drop 1 else bytL (C.g.s + 88) sd
/-- What a step makes of an array: a program 1, an erase 2, a scrub 3, a byte changed 4, the power 5. -/
def stC (C : CD) (k bl pa sd : Int) (on : Bool) : CD :=
  if k = 1 then (progC C bl pa (datC C sd)).1 else if k = 2 then (eraC C bl).1 else if k = 3 then (scrC C bl).1 else if k = 4 then (pokC C bl pa pa sd).1 else if k = 5 then { C with off := !on } else C
/-- What it leaves in the trace. -/
def stT (C : CD) (k bl pa sd : Int) : List (Int × Int × Int × List Int × Int) :=
  if k = 1 then (if refC C bl pa (datC C sd).length = 0 then [(1, bl, pa, datC C sd, (codeC C).1)] else []) else if k = 2 then (if mayC C bl = 0 then [(2, bl, 0, [], (codeC C).1)] else []) else if k = 3 then (if mayC C bl = 0 then [(3, bl, 0, [], (codeC C).1)] else []) else []
theorem datC_len {C : CD} (hC : COk C) (sd : Int) : (datC C sd).length ≤ szP C.g ∧ Byt (datC C sd) := by
  obtain ⟨-, -, -, n7, n8⟩ := hC.num
  have e : (C.g.s + 88).toNat = szP C.g := rfl
  unfold datC
  split
  · exact ⟨by rw [List.length_drop, bytL_len]; omega, (bytL_byt _ _).drop 1⟩
  · exact ⟨by rw [bytL_len]; omega, bytL_byt _ _⟩
theorem stC_ok {C : CD} (hC : COk C) (ho : C.ops < 1000000) {k bl pa sd : Int} {on : Bool} (hs : 0 ≤ sd ∧ sd < 256) : COk (stC C k bl pa sd on) := by
  unfold stC
  split
  · unfold progC
    split
    · exact progX_ok hC (by assumption) (datC_len hC sd).2 ho
    · exact hC
  split
  · unfold eraC
    split
    · exact eraX_ok hC (by assumption) ho
    · exact hC
  split
  · unfold scrC
    split
    · exact scrX_ok hC (by assumption) ho
    · exact hC
  split
  · exact pokC_ok hC hs
  split
  · exact ⟨hC.g, hC.lg, hC.bl, hC.bo, hC.pm, hC.ops⟩
  · exact hC
theorem stC_same {C : CD} {k bl pa sd : Int} {on : Bool} : (stC C k bl pa sd on).g = C.g ∧ (stC C k bl pa sd on).pl = C.pl ∧ (stC C k bl pa sd on).ops = C.ops + (stT C k bl pa sd).length := by
  unfold stC stT
  split
  · unfold progC; split <;> exact ⟨rfl, rfl, rfl⟩
  split
  · unfold eraC; split <;> exact ⟨rfl, rfl, rfl⟩
  split
  · unfold scrC; split <;> exact ⟨rfl, rfl, rfl⟩
  split
  · unfold pokC
    split
    · exact ⟨rfl, rfl, rfl⟩
    split <;> exact ⟨rfl, rfl, rfl⟩
  split <;> exact ⟨rfl, rfl, rfl⟩
theorem stT_len {C : CD} {k bl pa sd : Int} : (stT C k bl pa sd).length ≤ 1 := by
  unfold stT
  repeat' split
  all_goals simp
end Go.Proofs.Ytfpkaebmiojicaa.Vc

/-! The contracts of layer 13: one step, done by both: the walk. -/
namespace Go.Proofs.Ytfpkaebmiojicaa.Vc
open Go Go.Eng Go.RowKit
set_option linter.unusedVariables false
set_option linter.unusedSimpArgs false

/-- What a step leaves: both arrays, and the trace. -/
def StepR (F : Nat → Prop) (w w' : World) (p : Nat) (y : Lay) (C' : CD) (L : List TOp) (tr : List (Int × Int × Int × List Int × Int)) (f : SlP TF.T) (r : Int × Int × Int × Int × Int × Int × SlV × SlV × Bool × Int × Unit) : Prop :=
  ∃ (B' : SlP TBd.T) (ta : Option Addr) (tc : Nat) (L' : List TOp), r = chT B' f C' ∧ B'.l.map bdOf = C'.bs ∧ L'.map TOp.dat = L.map TOp.dat ++ tr ∧ Sep F w w' (RdT (Ty.sl TBd) B' :: ChipP p (upT y ta tc) C' L')

section
variable {E : Nat → Prop} {w0 w : World} {B : SlP TBd.T} {f : SlP TF.T} {C : CD} {Ts : List Asr}
/-- A call of the document's array: the answer is a part of its own. -/
theorem refCall {fn : FuncId} {args : Array Value} {l : List Sh} {get : RT l → Int × Int × Int × Int × Int × Int × SlV × SlV × Bool × Int × Unit} {C' : CD} {Q : RT l → Prop} (S : Sep E w0 w (RdT (Ty.sl TBd) B :: Ts)) (hdb : B.l.map bdOf = C.bs) (hf : LF.rd w All f) (hdf : fds f = C.pl)
    (hc : ∀ H : Nat → Prop, (∀ k, w.heap.size ≤ k → H k) → RefR H w B f C → CallV Try.prog fn args w l fun r w' => ∃ B' : SlP TBd.T, get r = chT B' f C' ∧ Q r ∧ RefR H w' B' f C' ∧ Ext w w') {K : RT l → World → Prop}
    (hk : ∀ r w' (B' : SlP TBd.T), get r = chT B' f C' → Q r → B'.l.map bdOf = C'.bs → Ext w w' → Sep E w0 w' (RdT (Ty.sl TBd) B' :: Ts) → K r w') : CallV Try.prog fn args w l K := by
  obtain ⟨F, h1, h2, h3⟩ := Sep.frame1 S
  refine (hc (fun k => F k ∨ w.heap.size ≤ k) (fun k hk => .inr hk) ⟨(Ty.sl TBd).rd_mono (fun k hk _ => .inl hk) h1, hdb, hf, hdf⟩).mono ?_
  rintro r w' ⟨B', g1, g2, g3, g4⟩
  refine hk r w' B' g1 g2 g3.db g4 (h3 w' [_] ⟨(Fr.of g4).any, fun k => (F k ∨ w.heap.size ≤ k) ∧ k < w'.heap.size, ⟨fun k => (F k ∨ w.heap.size ≤ k) ∧ k < w'.heap.size, NoB, (Ty.sl TBd).rd_mono (fun k hk hl => ⟨hk, hl⟩) g3.rb, trivial, fun _ _ x => x, fun _ x => x, fun _ x => x.elim⟩, fun k hk => hk⟩)
end

section
variable {F : Nat → Prop} {w : World} {p : Nat} {y : Lay} {C : CD} {L : List TOp} {B : SlP TBd.T} {f : SlP TF.T}
theorem step13_c {k bl pa sd : Int} {on : Bool} (hC : COk C) (ho : C.ops < 1000000) (hF : fds y.F = C.pl) (hdf : fds f = C.pl) (hdb : B.l.map bdOf = C.bs) (hsd : 0 ≤ sd ∧ sd < 256) (hf : LF.rd w (fun k => ¬ F k) f) (S : Sep F w w (RdT (Ty.sl TBd) B :: ChipP p y C L)) :
    CallV Try.prog 45 #[.pointer (some ⟨p, 0, none⟩), chVal B f C, .agg #[.int .i64 k, .int .i64 bl, .int .i64 pa, .int .u8 sd, .bool on]] w [.agg SH10, .one .bool] fun r w' =>
      r.2.1 = true ∧ StepR F w w' p y (stC C k bl pa sd on) L (stT C k bl pa sd) f r.1 := by
  apply law13_step.vc
  unfold law13_step.P
  obtain ⟨⟨n1, n2⟩, ⟨n3, n4⟩, ⟨n5, n6⟩, n7, n8⟩ := hC.num
  have S := (S.perm (List.perm_append_comm (l₁ := [RdT (Ty.sl TBd) B]) (l₂ := ChipP p y C L))).fold (Rs := ChipP p y C L) (Ts := [RdT (Ty.sl TBd) B])
  refine S.newB fun b1 w1 S f1 _ => ?_
  refine S.newB fun b3 w3 S f3 _ => ?_
  refine S.newB fun b5 w5 S f5 _ => ?_
  have r88 : Rng .i64 (C.g.s + 88) := Rng.i64 (by omega) (by omega)
  refine S.ld2 (j := 2) rfl rfl ⟨r88, S.ld1 (j := 3) rfl rfl ?_⟩
  refine (bytes_c (n := C.g.s + 88) (sd := sd) ⟨by omega, by omega⟩).mono ?_
  rintro ⟨⟨ba, bn, bc⟩, ⟨⟩⟩ w10 h10
  dsimp only
  have S := S.pushO h10.ext h10.own
  have h10l := h10.ints.len
  have h10c := h10.ints.cap
  rw [bytL_len] at h10l
  dsimp only at h10l h10c
  refine ⟨fun (v : SlV × Unit) w' => v.1.n ≤ 1000 ∧ Sep F w w' [RdL [⟨v.1.a, v.1.n, v.1.c, datC C sd⟩], BoxA b5 88 zCH, BoxA b3 93 [.int .i64 k, .int .i64 bl, .int .i64 pa, .int .u8 sd, .bool on], BoxA b1 88 (chV B f C), StarA (ChipP p y C L), RdT (Ty.sl TBd) B], ?_, ?_⟩
  case refine_2 =>
    refine S.ld2 (j := 3) rfl rfl (cond_eq (fun h7 => ?_) (fun h7 => ?_))
    · refine ⟨⟨by omega, by omega⟩, ?_⟩
      intro a95 ha95
      refine ⟨by dsimp only; omega, ?_⟩
      unfold datC
      rw [if_pos h7]
      refine S.conv fun G hG _ x hx => ?_
      rw [List.mem_singleton.1 hx]
      have h8 := TB_sub (l := 1) (hh := bn) (m := bc) (own_rdB (n := bn) (c := bc) hG (G := G) (fun k hk => hk) (bytL_byt _ _)) (by omega) (by omega) (by omega) ha95
      rw [List.take_of_length_le (by rw [List.length_drop, bytL_len]; omega)] at h8
      exact h8
    · refine ⟨by dsimp only; omega, ?_⟩
      unfold datC
      rw [if_neg h7]
      refine S.conv fun G hG _ x hx => ?_
      rw [List.mem_singleton.1 hx]
      exact own_rdB hG (fun k hk => hk) (bytL_byt _ _)
  rintro ⟨⟨va, vn, vc⟩, ⟨⟩⟩ w13 ⟨hvn, S⟩
  dsimp only at hvn S ⊢
  have hf13 : LF.rd w13 All f := LF.rd_mono (fun _ _ _ => trivial) (LF.rd_kp (fun k hk hl => S.fr.block k hl hk) hf)
  have hx13 : Ints w13 .u8 va vn vc (datC C sd) := by
    obtain ⟨G, hG, -⟩ := S.get (i := 0) rfl
    exact Ty.ints (hG _ (List.mem_singleton.2 rfl))
  have fin : ∀ {w' : World} {B' : SlP TBd.T} {C' : CD} {tr : List (Int × Int × Int × List Int × Int)} {ta : Option Addr} {tc : Nat} {L' : List TOp} {R1 R2 R3 R4 : Asr}, C' = stC C k bl pa sd on → tr = stT C k bl pa sd → B'.l.map bdOf = C'.bs → L'.map TOp.dat = L.map TOp.dat ++ tr →
      Sep F w w' [StarA (ChipP p (upT y ta tc) C' L'), R1, R2, R3, R4, RdT (Ty.sl TBd) B'] → StepR F w w' p y (stC C k bl pa sd on) L (stT C k bl pa sd) f (chT B' f C') := by
    intro w' B' C' tr ta tc L' R1 R2 R3 R4 h1 h2 h3 h4 S
    subst h1; subst h2
    refine ⟨B', ta, tc, L', rfl, h3, h4, ?_⟩
    exact ((S.sel [0, 4] rfl).unfold (Rs := ChipP p (upT y ta tc) _ L')).perm List.perm_append_comm
  refine S.ld2 (j := 0) rfl rfl (cond_eq (fun h1 => ?_) (fun h1 => ?_))
  · have h1 : k = 1 := h1
    refine S.la3 rfl (S.lb2 (o := 1) rfl ?_)
    refine refCall (l := [.agg SH10, .one (.int .i64)]) (get := fun r => r.1) (C' := (progC C bl pa (datC C sd)).1) (Q := fun r => r.2.1 = (progC C bl pa (datC C sd)).2) (S.sel [5, 0, 0, 0, 0, 0] rfl) hdb hf13 hdf (fun H hH hR => rProgram13_c hH hR hC ho hx13 (datC_len hC sd).2) ?_
    rintro ⟨_, (e : Int), ⟨⟩⟩ w18 B' hr he hdb' X18 S
    dsimp only at hr he
    subst hr; subst he
    refine S.newB fun b19 w20 S f20 _ => ?_
    refine S.st0 (by rfl) fun w21 S f21 => ?_
    have S := S.sel [6, 2, 2, 0, 1, 0] rfl
    refine Sep.regC [_, _, _] S fun G D hG T S hDt hDo hkeep back => ?_
    refine ⟨hDt 0 _ _ _ rfl, S.la3 rfl ⟨hDt 1 _ _ _ rfl, S.lb4 (o := 1) rfl ?_⟩⟩
    refine Sep.call (ChipQ p y C L [RdL [⟨va, vn, vc, datC C sd⟩]]) (T.unfold (Rs := ChipP p y C L)) (fun G SG => Program13_c (dd := ⟨va, vn, vc, datC C sd⟩) hC hF (by dsimp only; omega) SG) fun G fr r w26 hr => ?_
    obtain ⟨e1, ta, tc, L', hL', S3⟩ := hr
    have T := Sep.fold (Rs := ChipP p (upT y ta tc) (progC C bl pa (datC C sd)).1 L') (Ts := [RdL [⟨va, vn, vc, datC C sd⟩], BoxA b5 _ zCH]) (fr _ _ S3)
    refine ⟨hkeep _ T.fr, T.st2 (by rfl) fun w27 T f27 => ⟨hkeep _ T.fr, T.la2 rfl ⟨?_, ?_⟩⟩⟩
    · rw [e1]; exact beq_self_eq_true _
    · exact fin (by unfold stC; rw [if_pos h1]) (by unfold stT; rw [if_pos h1]) hdb' hL' (back _ _ T)
  refine cond_eq (fun h2 => ?_) (fun h2 => ?_)
  · have h2 : k = 2 := h2
    refine S.la3 rfl (S.ld2 (j := 1) rfl rfl ?_)
    refine refCall (l := [.agg SH10, .one (.int .i64)]) (get := fun r => r.1) (C' := (eraC C bl).1) (Q := fun r => r.2.1 = (eraC C bl).2) (S.sel [5, 0, 0, 0, 0, 0] rfl) hdb hf13 hdf (fun H hH hR => rErase13_c hH hR hC ho) ?_
    rintro ⟨_, (e : Int), ⟨⟩⟩ w18 B' hr he hdb' X18 S
    dsimp only at hr he
    subst hr; subst he
    refine S.newB fun b19 w20 S f20 _ => ?_
    refine S.st0 (by rfl) fun w21 S f21 => ?_
    have S := S.sel [6, 2, 2, 0, 1, 0] rfl
    refine Sep.regC [_, _, _] S fun G D hG T S hDt hDo hkeep back => ?_
    refine ⟨hDt 0 _ _ _ rfl, S.la3 rfl ⟨hDt 1 _ _ _ rfl, S.ld4 (j := 1) rfl rfl ?_⟩⟩
    refine Sep.call (ChipP p y C L) (T.unfold (Rs := ChipP p y C L)) (fun G SG => Erase13_c hC hF SG) fun G fr r w26 hr => ?_
    obtain ⟨e1, ta, tc, L', hL', S3⟩ := hr
    have T := Sep.fold (Rs := ChipP p (upT y ta tc) (eraC C bl).1 L') (Ts := [RdL [⟨va, vn, vc, datC C sd⟩], BoxA b5 _ zCH]) (fr _ _ S3)
    refine ⟨hkeep _ T.fr, T.st2 (by rfl) fun w27 T f27 => ⟨hkeep _ T.fr, T.la2 rfl ⟨?_, ?_⟩⟩⟩
    · rw [e1]; exact beq_self_eq_true _
    · exact fin (by unfold stC; rw [if_neg h1, if_pos h2]) (by unfold stT; rw [if_neg h1, if_pos h2]) hdb' hL' (back _ _ T)
  refine cond_eq (fun h3 => ?_) (fun h3 => ?_)
  · have h3 : k = 3 := h3
    refine S.la3 rfl (S.ld2 (j := 1) rfl rfl ?_)
    refine refCall (l := [.agg SH10, .one (.int .i64)]) (get := fun r => r.1) (C' := (scrC C bl).1) (Q := fun r => r.2.1 = (scrC C bl).2) (S.sel [5, 0, 0, 0, 0, 0] rfl) hdb hf13 hdf (fun H hH hR => rScrub13_c hH hR hC ho) ?_
    rintro ⟨_, (e : Int), ⟨⟩⟩ w18 B' hr he hdb' X18 S
    dsimp only at hr he
    subst hr; subst he
    refine S.newB fun b19 w20 S f20 _ => ?_
    refine S.st0 (by rfl) fun w21 S f21 => ?_
    have S := S.sel [6, 2, 2, 0, 1, 0] rfl
    refine Sep.regC [_, _, _] S fun G D hG T S hDt hDo hkeep back => ?_
    refine ⟨hDt 0 _ _ _ rfl, S.la3 rfl ⟨hDt 1 _ _ _ rfl, S.ld4 (j := 1) rfl rfl ?_⟩⟩
    refine Sep.call (ChipP p y C L) (T.unfold (Rs := ChipP p y C L)) (fun G SG => Scrub13_c hC hF SG) fun G fr r w26 hr => ?_
    obtain ⟨e1, ta, tc, L', hL', S3⟩ := hr
    have T := Sep.fold (Rs := ChipP p (upT y ta tc) (scrC C bl).1 L') (Ts := [RdL [⟨va, vn, vc, datC C sd⟩], BoxA b5 _ zCH]) (fr _ _ S3)
    refine ⟨hkeep _ T.fr, T.st2 (by rfl) fun w27 T f27 => ⟨hkeep _ T.fr, T.la2 rfl ⟨?_, ?_⟩⟩⟩
    · rw [e1]; exact beq_self_eq_true _
    · exact fin (by unfold stC; rw [if_neg h1, if_neg h2, if_pos h3]) (by unfold stT; rw [if_neg h1, if_neg h2, if_pos h3]) hdb' hL' (back _ _ T)
  refine cond_eq (fun h4 => ?_) (fun h4 => ?_)
  · have h4 : k = 4 := h4
    refine S.la3 rfl (S.lb2 (o := 1) rfl (S.ld2 (j := 2) rfl rfl (S.ld2 (j := 3) rfl rfl ?_)))
    refine refCall (l := [.agg SH10, .one (.int .i64)]) (get := fun r => r.1) (C' := (pokC C bl pa pa sd).1) (Q := fun r => r.2.1 = (pokC C bl pa pa sd).2) (S.sel [5, 0, 0, 0, 0, 0] rfl) hdb hf13 hdf (fun H hH hR => rPoke13_c hH hR hC hsd) ?_
    rintro ⟨_, (e : Int), ⟨⟩⟩ w18 B' hr he hdb' X18 S
    dsimp only at hr he
    subst hr; subst he
    refine S.newB fun b19 w20 S f20 _ => ?_
    refine S.st0 (by rfl) fun w21 S f21 => ?_
    have S := S.sel [6, 2, 2, 0, 1, 0] rfl
    refine Sep.regC [_, _, _] S fun G D hG T S hDt hDo hkeep back => ?_
    refine ⟨hDt 0 _ _ _ rfl, S.la3 rfl ⟨hDt 1 _ _ _ rfl, S.lb4 (o := 1) rfl ⟨hDt 1 _ _ _ rfl, S.ld4 (j := 2) rfl rfl ⟨hDt 1 _ _ _ rfl, S.ld4 (j := 3) rfl rfl ?_⟩⟩⟩⟩
    refine Sep.call (ChipP p y C L) (T.unfold (Rs := ChipP p y C L)) (fun G SG => Poke_c hC hsd SG) fun G fr r w26 hr => ?_
    obtain ⟨e1, S3⟩ := hr
    have T := Sep.fold (Rs := ChipP p (upT y y.T.a y.T.c) (pokC C bl pa pa sd).1 L) (Ts := [RdL [⟨va, vn, vc, datC C sd⟩], BoxA b5 _ zCH]) (fr _ _ S3)
    refine ⟨hkeep _ T.fr, T.st2 (by rfl) fun w27 T f27 => ⟨hkeep _ T.fr, T.la2 rfl ⟨?_, ?_⟩⟩⟩
    · rw [e1]; exact beq_self_eq_true _
    · exact fin (by unfold stC; rw [if_neg h1, if_neg h2, if_neg h3, if_pos h4]) (by unfold stT; rw [if_neg h1, if_neg h2, if_neg h3]) hdb' (by simp) (back _ _ T)
  have hpre : stC C k bl pa sd on = if k = 5 then { C with off := !on } else C := by unfold stC; rw [if_neg h1, if_neg h2, if_neg h3, if_neg h4]
  have hpt : stT C k bl pa sd = [] := by unfold stT; rw [if_neg h1, if_neg h2, if_neg h3]
  refine cond_eq (fun h5 => ?_) (fun h5 => ?_)
  · have h5 : k = 5 := h5
    rw [if_pos h5] at hpre
    have S := S.sel [4, 1, 0, 0, 0, 0] rfl
    refine S.ld3 (j := 4) rfl rfl ?_
    refine Sep.call (ChipP p y C L) (S.unfold (Rs := ChipP p y C L)) (fun G SG => Power_c (on := on) SG) fun G fr r w14 S3 => ?_
    have S := Sep.fold (Rs := ChipP p (upT y y.T.a y.T.c) { C with off := !on } L) (Ts := [_, _, _, _, _]) (fr _ _ S3)
    refine S.ld3 (j := 4) rfl rfl (S.su4 (j := 8) (by rfl) fun w15 S f15 => ?_)
    refine Sep.regC [_, _] S fun G D hG T S hDt hDo hkeep back => ?_
    refine ⟨hDt 2 _ _ _ rfl, S.la4 rfl ⟨hDt 2 _ _ _ rfl, S.ld4 (j := 8) rfl rfl ?_⟩⟩
    refine (On_c (C := { C with off := !on }) (y := upT y y.T.a y.T.c) ⟨hC.g, hC.lg, hC.bl, hC.bo, hC.pm, hC.ops⟩ (T.unfold (Rs := ChipP p (upT y y.T.a y.T.c) { C with off := !on } L))).mono ?_
    rintro ⟨(r : Bool), ⟨⟩⟩ w16 ⟨h16, rfl⟩
    dsimp only at h16
    subst h16
    refine ⟨hkeep _ (Fr.refl _ _), T.st1 (by rfl) fun w17 T f17 => ⟨hkeep _ T.fr, T.la1 rfl ⟨beq_self_eq_true _, ?_⟩⟩⟩
    exact fin (C' := { C with off := !on }) hpre.symm hpt.symm hdb (by simp) (back _ _ T)
  · have h5 : ¬ k = 5 := h5
    rw [if_neg h5] at hpre
    have S := S.sel [4, 1, 0, 0, 0, 0] rfl
    refine Sep.regC [_, _] S fun G D hG T S hDt hDo hkeep back => ?_
    refine ⟨hDt 2 _ _ _ rfl, S.la4 rfl ⟨hDt 2 _ _ _ rfl, S.ld4 (j := 8) rfl rfl ?_⟩⟩
    refine (On_c (C := C) (y := upT y y.T.a y.T.c) hC (T.unfold (Rs := ChipP p (upT y y.T.a y.T.c) C L))).mono ?_
    rintro ⟨(r : Bool), ⟨⟩⟩ w16 ⟨h16, rfl⟩
    dsimp only at h16
    subst h16
    refine ⟨hkeep _ (Fr.refl _ _), T.st1 (by rfl) fun w17 T f17 => ⟨hkeep _ T.fr, T.la1 rfl ⟨beq_self_eq_true _, ?_⟩⟩⟩
    exact fin (C' := C) hpre.symm hpt.symm hdb (by simp) (back _ _ T)
end
end Go.Proofs.Ytfpkaebmiojicaa.Vc

/-! The contracts of layer 13: does the program answer; the trace. -/
namespace Go.Proofs.Ytfpkaebmiojicaa.Vc
open Go Go.Eng Go.RowKit
set_option linter.unusedVariables false
set_option linter.unusedSimpArgs false

abbrev gAw : Geo := ⟨7, 10, 64, 0, 1, 1⟩
theorem aw1 : Right gAw := by decide
theorem aw2 : refC (newC gAw []) 1 2 152 = 0 := by decide +kernel
theorem aw3 : (codeC (newC gAw [])).1 = 0 := by decide +kernel
theorem aw4 : readC (progX (newC gAw []) 1 2 (List.replicate 152 0)) 1 2 = 0 := by decide +kernel
theorem aw5 : pgC13 (progX (newC gAw []) 1 2 (List.replicate 152 0)) 1 2 = List.replicate 152 0 := by decide +kernel
theorem zs152 : (List.replicate 152 [Value.int .u8 0]).flatten = (List.replicate 152 0).map (Value.int .u8) := by rw [List.map_replicate]; exact List.flatten_replicate_singleton
theorem awake13_c {w : World} : CallV Try.prog 42 #[] w [.one .bool] fun r w' => r.1 = true ∧ Ext w w' := by
  apply law13_awake.vc
  unfold law13_awake.P
  refine (New13_c (g := gAw) (x := ⟨none, 0, 0, []⟩) (G := All) ⟨rfl, Nat.le_refl _, Nat.zero_le _, .inl ⟨rfl, rfl⟩, fun y hy => (List.not_mem_nil hy).elim⟩ (fun f hf => (List.not_mem_nil hf).elim)).mono ?_
  rintro ⟨_, (e : Int), ⟨⟩⟩ w2 ⟨X2, -, h⟩
  rw [show fds ⟨none, 0, 0, []⟩ = [] from rfl] at h
  obtain ⟨he, p, y, hp, hF, S⟩ := h ⟨aw1, ⟨fun f hf => (List.not_mem_nil hf).elim, by decide⟩⟩
  dsimp only at he hp
  subst he; subst hp
  have hC : COk (newC gAw []) := newC_ok aw1 (by decide) (fun f hf => (List.not_mem_nil hf).elim)
  refine ⟨by decide, ?_⟩
  refine S.newB fun b3 w4 S f4 _ => ?_
  rw [zs152] at S
  have S := S.asOwn (sz := 1) (n := 152) (by simp) (by omega) (oneAll.ints _ _)
  have S := S.conv (R' := RdL [⟨some ⟨b3, 0, none⟩, 152, 152, List.replicate 152 0⟩]) fun G hG _ x hx => by
    rw [List.mem_singleton.1 hx]
    exact own_rdB hG (fun k hk => hk) (Byt.replicate (by decide) (by decide) _)
  have S := S.perm (List.perm_append_comm (l₁ := [RdL [⟨some ⟨b3, 0, none⟩, 152, 152, List.replicate 152 0⟩]]) (l₂ := ChipP p y (newC gAw []) []))
  refine Sep.call (ChipQ p y (newC gAw []) [] [RdL [⟨some ⟨b3, 0, none⟩, 152, 152, List.replicate 152 0⟩]]) (Ts := []) S (fun G SG => Program13_c (dd := ⟨some ⟨b3, 0, none⟩, 152, 152, List.replicate 152 0⟩) hC hF (by dsimp only; omega) SG) fun G fr r w6 hr => ?_
  obtain ⟨e1, ta, tc, L', hL', S3⟩ := hr
  have S := fr _ _ S3
  have hP : progC (newC gAw []) 1 2 (List.replicate 152 0) = (progX (newC gAw []) 1 2 (List.replicate 152 0), 0) := by
    unfold progC
    rw [if_pos (by rw [List.length_replicate]; exact aw2), aw3]
  dsimp only at e1 S
  rw [hP] at e1 S
  dsimp only at e1 S
  have hC2 : COk (progX (newC gAw []) 1 2 (List.replicate 152 0)) := progX_ok hC (by rw [List.length_replicate]; exact aw2) (Byt.replicate (by decide) (by decide) _) (by decide)
  generalize hCC : progX (newC gAw []) 1 2 (List.replicate 152 0) = CC at S hC2
  have q4 := aw4
  have q5 := aw5
  rw [hCC] at q4 q5
  have q6 : CC.ops = 1 := by rw [← hCC]; rfl
  refine (Read13_c (bl := 1) (pa := 2) hC2 S).mono ?_
  rintro ⟨⟨ra, rn, rc⟩, (e : Int), ⟨⟩⟩ w8 ⟨h8, -, h9⟩
  have h8' : Res w6 w8 (⟨ra, rn, rc⟩ : SlV) (List.replicate 152 0) := by rw [← q5]; exact h9 q4
  clear h9
  rw [q4] at h8
  dsimp only at h8 ⊢
  subst h8
  have hl := h8'.ints.len
  rw [List.length_replicate] at hl
  dsimp only at hl
  subst hl
  obtain ⟨q, g1, -, g3⟩ := h8'.ints.at (i := 0) (by omega) (show (0 : Int) < ((152 : Nat) : Int) by omega)
  refine cond_t rfl (cond_t (by rw [e1]; rfl) (cond_t rfl (cond_t rfl ⟨⟨by omega, show (0 : Int) < ((152 : Nat) : Int) by omega⟩, q, g1, _, g3, cond_t rfl ?_⟩)))
  refine (Ops_c (S.stepE h8'.ext)).mono ?_
  rintro ⟨(o : Int), ⟨⟩⟩ w9 ⟨h9, rfl⟩
  dsimp only at h9 ⊢
  subst h9
  rw [q6]
  exact ⟨rfl, S.ext.trans h8'.ext⟩
end Go.Proofs.Ytfpkaebmiojicaa.Vc

/-! What any parameter of a law is known to be, with the sizes of what it holds: structs, arrays and slices of whole numbers, texts, and of each other. -/
namespace Go.Proofs.Ytfpkaebmiojicaa.Vc
open Go Go.Eng Go.RowKit Go.ChangeShapes
set_option linter.unusedVariables false
set_option linter.unusedSimpArgs false

/-- No slice or text in it is longer than what an address space holds. -/
def Ty.big : (t : Ty) → t.T → Prop
  | .int _, _ => True
  | .bool, _ => True
  | .str, (x : ByteArray) => x.size ≤ 140737488351232
  | .sl e, (x : SlP e.T) => x.n ≤ 140737488351232 ∧ ∀ y ∈ x.l, e.big y
  | .nil, _ => True
  | .cons a r, (x : a.T × r.T) => a.big x.1 ∧ r.big x.2

/-- The elements of every slice have some byte. -/
def posF (P : Program) (cf : Ty → TypeId → Bool) : Ty → List Field → Bool
  | .cons a r, f :: fs => cf a f.type && posF P cf r fs
  | _, _ => true
def posA (cf : Ty → TypeId → Bool) (e : TypeId) : Ty → Nat → Bool
  | .cons a r, n + 1 => cf a e && posA cf e r n
  | _, _ => true
def pos (P : Program) : Nat → Ty → TypeId → Bool
  | 0, _, _ => false
  | d + 1, t, i =>
    match P.underlying i, t with
    | some (.slice e), .sl t => pos P d t e && Nat.ble 1 (P.bytesOf e)
    | some (.struct fs), t => posF P (pos P d) t fs.toList
    | some (.array n e), t => posA (pos P d) e t n
    | _, _ => true

section
variable {H : Type} {enc : TypeId × Value → H} {P : Program} {w : World}
def Fit (l : List Nat) : Prop := l.all (· ≤ reachBytes) = true
theorem Fit.app {l m : List Nat} : Fit (l ++ m) ↔ Fit l ∧ Fit m := by unfold Fit; rw [List.all_append, Bool.and_eq_true]
theorem Fit.cons {a : Nat} {m : List Nat} : Fit (a :: m) ↔ a ≤ reachBytes ∧ Fit m := by unfold Fit; rw [List.all_cons, Bool.and_eq_true]; simp

def OpensS (enc : TypeId × Value → H) (P : Program) (w : World) (d : Nat) : Prop :=
  ∀ (ty : Ty) (t : TypeId) (fuel : Nat) (cs : List Value) (x : DataW H × List MemPlace), conf P d ty t = true → pos P d ty t = true → DataW.trod enc P w 0 (fun _ => true) true fuel t cs = some x →
    ∃ v : ty.T, cs = ty.vs v ∧ ty.ok w v ∧ (Fit (x.1.weights P t) → ty.big v)

theorem openFS {d : Nat} (ih : OpensS enc P w d) {n : Nat} {cs : List Value} : ∀ (ty : Ty) (fs : List Field) (o : Nat) (xs : List (DataW H × List MemPlace)), confF P (conf P d) ty fs o = true → posF P (pos P d) ty fs = true → cs.length = o + ty.n → xs.length = fs.length →
    (∀ (i : Nat) (f : Field), fs[i]? = some f → DataW.trod enc P w 0 (fun _ => true) true n f.type ((cs.drop f.offset).take (P.cellsOf f.type)) = xs[i]?) →
    ∃ v : ty.T, cs.drop o = ty.vs v ∧ ty.ok w v ∧ (Fit (DataW.weightsEach P (fs.map (·.type)) (xs.map (·.1))) → ty.big v)
  | .nil, [], o, xs, hc, hp, hl, hx, hf => ⟨(), by simp [Ty.vs, hl, Ty.n], trivial, fun _ => trivial⟩
  | .cons a r, f :: fs, o, x :: xs, hc, hp, hl, hx, hf => by
    simp only [confF, Bool.and_eq_true, beq_iff_eq] at hc
    simp only [posF, Bool.and_eq_true] at hp
    obtain ⟨⟨⟨h1, h2⟩, h3⟩, h4⟩ := hc
    have hy := hf 0 f rfl
    obtain ⟨v1, e1, o1, b1⟩ := ih a f.type n _ x h2 hp.1 hy
    obtain ⟨v2, e2, o2, b2⟩ := openFS ih r fs (o + a.n) xs h4 hp.2 (by rw [hl]; simp [Ty.n]; omega) (by simpa using hx) (fun i f' hf' => hf (i + 1) f' (by simpa using hf'))
    refine ⟨(v1, v2), ?_, ⟨o1, o2⟩, fun hw => ?_⟩
    · show _ = a.vs v1 ++ r.vs v2
      rw [← e1, ← e2, h1, h3, ← List.drop_drop, List.take_append_drop]
    · have hw' := Fit.app.1 (by simpa only [List.map_cons, DataW.weightsEach] using hw)
      exact ⟨b1 hw'.1, b2 hw'.2⟩
  | .cons _ _, _ :: _, _, [], _, _, _, hx, _ => by simp at hx
  | .int _, [], _, _, hc, _, _, _, _ => by simp [confF] at hc
  | .int _, _ :: _, _, _, hc, _, _, _, _ => by simp [confF] at hc
  | .bool, [], _, _, hc, _, _, _, _ => by simp [confF] at hc
  | .bool, _ :: _, _, _, hc, _, _, _, _ => by simp [confF] at hc
  | .str, [], _, _, hc, _, _, _, _ => by simp [confF] at hc
  | .str, _ :: _, _, _, hc, _, _, _, _ => by simp [confF] at hc
  | .sl _, [], _, _, hc, _, _, _, _ => by simp [confF] at hc
  | .sl _, _ :: _, _, _, hc, _, _, _, _ => by simp [confF] at hc
  | .nil, _ :: _, _, _, hc, _, _, _, _ => by simp [confF] at hc
  | .cons _ _, [], _, _, hc, _, _, _, _ => by simp [confF] at hc

theorem openAS {d : Nat} (ih : OpensS enc P w d) {n : Nat} {cs : List Value} {e : TypeId} : ∀ (ty : Ty) (m : Nat) (i : Nat) (xs : List (DataW H × List MemPlace)), confA P (conf P d) e ty m = true → posA (pos P d) e ty m = true → cs.length = i * P.cellsOf e + ty.n → xs.length = m →
    (∀ j, j < m → DataW.trod enc P w 0 (fun _ => true) true n e ((cs.drop ((i + j) * P.cellsOf e)).take (P.cellsOf e)) = xs[j]?) → ∃ v : ty.T, cs.drop (i * P.cellsOf e) = ty.vs v ∧ ty.ok w v ∧ (Fit (DataW.weightsAll P e (xs.map (·.1))) → ty.big v)
  | .nil, 0, i, xs, hc, hp, hl, hx, hf => ⟨(), by simp [Ty.vs, hl, Ty.n], trivial, fun _ => trivial⟩
  | .cons a r, m + 1, i, x :: xs, hc, hp, hl, hx, hf => by
    simp only [confA, Bool.and_eq_true, beq_iff_eq] at hc
    simp only [posA, Bool.and_eq_true] at hp
    obtain ⟨⟨h2, h3⟩, h4⟩ := hc
    have hy := hf 0 (by omega)
    obtain ⟨v1, e1, o1, b1⟩ := ih a e n _ x h2 hp.1 hy
    obtain ⟨v2, e2, o2, b2⟩ := openAS ih r m (i + 1) xs h4 hp.2 (by rw [hl, Nat.add_mul, h3]; simp [Ty.n]; omega) (by simpa using hx) (fun j hj => by
      have := hf (j + 1) (by omega)
      rw [show i + 1 + j = i + (j + 1) by omega]
      simpa using this)
    refine ⟨(v1, v2), ?_, ⟨o1, o2⟩, fun hw => ?_⟩
    · show _ = a.vs v1 ++ r.vs v2
      rw [← e1, ← e2, Nat.add_zero, Nat.add_mul, Nat.one_mul, ← List.drop_drop, List.take_append_drop]
    · have hw' := Fit.app.1 (by simpa only [List.map_cons, DataW.weightsAll] using hw)
      exact ⟨b1 hw'.1, b2 hw'.2⟩
  | .cons _ _, _ + 1, _, [], _, _, _, hx, _ => by simp at hx
  | .int _, 0, _, _, hc, _, _, _, _ => by simp [confA] at hc
  | .int _, _ + 1, _, _, hc, _, _, _, _ => by simp [confA] at hc
  | .bool, 0, _, _, hc, _, _, _, _ => by simp [confA] at hc
  | .bool, _ + 1, _, _, hc, _, _, _, _ => by simp [confA] at hc
  | .str, 0, _, _, hc, _, _, _, _ => by simp [confA] at hc
  | .str, _ + 1, _, _, hc, _, _, _, _ => by simp [confA] at hc
  | .sl _, 0, _, _, hc, _, _, _, _ => by simp [confA] at hc
  | .sl _, _ + 1, _, _, hc, _, _, _, _ => by simp [confA] at hc
  | .nil, _ + 1, _, _, hc, _, _, _, _ => by simp [confA] at hc
  | .cons _ _, 0, _, _, hc, _, _, _, _ => by simp [confA] at hc

theorem weightsAll_append (e : TypeId) (l m : List (DataW H)) : DataW.weightsAll P e (l ++ m) = DataW.weightsAll P e l ++ DataW.weightsAll P e m := by
  induction l with
  | nil => simp [DataW.weightsAll]
  | cons x l ih => simp only [List.cons_append, DataW.weightsAll, ih, List.append_assoc]

theorem openSS {d : Nat} (ih : OpensS enc P w d) {ty : Ty} {e : TypeId} (hc : conf P d ty e = true) (hp : pos P d ty e = true) (hn : P.cellsOf e = ty.n) {a : Addr} {m : Nat} : ∀ (elems : List (DataW H × List MemPlace)),
    (∀ i, i < elems.length → (w.cells? 0 (a.add (i * P.cellsOf e)) (P.cellsOf e)).bind (DataW.trod enc P w 0 (fun _ => true) true m e) = elems[i]?) →
    ∃ l : List ty.T, l.length = elems.length ∧ CellsAt w a (l.flatMap ty.vs) ∧ (∀ y ∈ l, ty.ok w y) ∧ (Fit (DataW.weightsAll P e (elems.map (·.1))) → ∀ y ∈ l, ty.big y) := by
  intro elems
  have key : ∀ (k : Nat) (elems : List (DataW H × List MemPlace)), elems.length = k → (∀ i, i < elems.length → (w.cells? 0 (a.add (i * P.cellsOf e)) (P.cellsOf e)).bind (DataW.trod enc P w 0 (fun _ => true) true m e) = elems[i]?) →
      ∃ l : List ty.T, l.length = elems.length ∧ CellsAt w a (l.flatMap ty.vs) ∧ (∀ y ∈ l, ty.ok w y) ∧ (Fit (DataW.weightsAll P e (elems.map (·.1))) → ∀ y ∈ l, ty.big y) := by
    intro k
    induction k with
    | zero =>
      intro elems hk _
      have := List.length_eq_zero_iff.1 hk
      subst this
      exact ⟨[], rfl, fun j v hv => by simp at hv, fun y hy => (List.not_mem_nil hy).elim, fun _ y hy => (List.not_mem_nil hy).elim⟩
    | succ k ih2 =>
      intro elems hk h
      have hne : elems ≠ [] := fun e0 => by rw [e0] at hk; simp at hk
      have hsplit := List.dropLast_concat_getLast hne
      have hlen1 : elems.dropLast.length = k := by simp [hk]
      obtain ⟨l, hl, hcl, hol, hbl⟩ := ih2 elems.dropLast hlen1 (fun i hi => by
        rw [h i (by omega), List.getElem?_eq_getElem (by omega), List.getElem?_eq_getElem hi, List.getElem_dropLast])
      have hy := h k (by omega)
      rw [List.getElem?_eq_getElem (by omega)] at hy
      have hlast : elems[k]'(by omega) = elems.getLast hne := by rw [List.getLast_eq_getElem]; congr 1; omega
      rw [hlast] at hy
      obtain ⟨c, hcs, ht⟩ := Option.bind_eq_some_iff.1 hy
      obtain ⟨v, e1, o1, b1⟩ := ih ty e m c _ hc hp ht
      obtain ⟨_, hlen, hcell⟩ := World.cells?_some hcs
      have hl' : l.length = k := by rw [hl, hlen1]
      refine ⟨l ++ [v], by simp [hl', hk], ?_, ?_, ?_⟩
      · rw [List.flatMap_append, List.flatMap_singleton]
        refine CellsAt.append' hcl ?_
        have : (l.flatMap ty.vs).length = k * P.cellsOf e := by
          rw [hn, ← hl']
          clear hcl hol hl hbl hl' hlast
          induction l with
          | nil => simp
          | cons z l ih3 => rw [List.flatMap_cons, List.length_append, Ty.vs_length, ih3, List.length_cons, Nat.add_mul]; omega
        rw [this]
        intro j u hu
        rw [← e1] at hu
        have hj : j < P.cellsOf e := by rw [← hlen]; exact (List.getElem?_eq_some_iff.1 hu).1
        rw [hcell j hj, hu]
      · intro y hy
        rcases List.mem_append.1 hy with h1 | h1
        · exact hol y h1
        · rw [List.mem_singleton.1 h1]; exact o1
      · intro hw
        rw [← hsplit, List.map_append, weightsAll_append] at hw
        obtain ⟨g1, g2⟩ := Fit.app.1 hw
        simp only [List.map_cons, List.map_nil, DataW.weightsAll, List.append_nil] at g2
        intro y hy
        rcases List.mem_append.1 hy with h1 | h1
        · exact hbl g1 y h1
        · rw [List.mem_singleton.1 h1]; exact b1 g2
  exact key _ elems rfl

theorem opensS : ∀ d : Nat, OpensS enc P w d
  | 0 => fun ty t fuel cs x hc => by simp [conf] at hc
  | d + 1 => by
    have ih := opensS d
    intro ty t fuel cs x hc hp h
    unfold conf at hc
    unfold pos at hp
    split at hc
    · rename_i k k' ht
      obtain ⟨n, rfl, _, hw⟩ := DataW.trod_int ht h
      have := of_decide_eq_true hc
      subst this
      exact ⟨n, rfl, wfRng hw, fun _ => trivial⟩
    · rename_i ht
      obtain ⟨b, rfl, _⟩ := DataW.trod_bool ht h
      exact ⟨b, rfl, trivial, fun _ => trivial⟩
    · rename_i ht
      obtain ⟨s, rfl, rfl, hs⟩ := DataW.trod_string ht h
      refine ⟨s, rfl, hs, fun hw => ?_⟩
      simp only [DataW.weights] at hw
      have := (Fit.cons.1 hw).1
      have e : reachBytes = 140737488351232 := by decide
      rw [e] at this
      simpa [Ty.big] using this
    · rename_i e t' ht
      rw [ht] at hp
      simp only [Bool.and_eq_true, beq_iff_eq] at hc hp
      obtain ⟨hc1, hc2⟩ := hc
      rcases DataW.trod_slice ht h with ⟨rfl, _⟩ | ⟨a, len, cap, elems, rest, n, _, rfl, rfl, hb, hl, hm, hlen, hel, _⟩
      · exact ⟨⟨none, 0, 0, []⟩, rfl, ⟨rfl, Nat.le_refl _, Nat.zero_le _, .inl ⟨rfl, rfl⟩, fun y hy => (List.not_mem_nil hy).elim⟩, fun _ => ⟨by show (0 : Nat) ≤ _; omega, fun y hy => (List.not_mem_nil hy).elim⟩⟩
      · obtain ⟨l, h1, h2, h3, h4⟩ := openSS ih hc1 hp.1 hc2 (a := a) (m := n) elems fun i hi => hel i (by omega)
        refine ⟨⟨some a, len, cap, l⟩, rfl, ⟨by rw [h1, hlen], hl, hm, .inr ⟨a, rfl, h2⟩, h3⟩, fun hw => ?_⟩
        simp only [DataW.weights, ht] at hw
        obtain ⟨g1, g2⟩ := Fit.cons.1 hw
        refine ⟨?_, h4 (Fit.app.1 g2).1⟩
        have hb1 : 1 ≤ P.bytesOf e := Nat.le_of_ble_eq_true hp.2
        rw [List.length_map, List.length_map, hlen] at g1
        have g3 : len * 1 ≤ (len + rest.length) * P.bytesOf e := Nat.mul_le_mul (by omega) hb1
        have : reachBytes = 140737488351232 := by decide
        show len ≤ _
        omega
    · rename_i ty _ _ fs ht
      rw [ht] at hp
      simp only [Bool.and_eq_true, beq_iff_eq] at hc
      obtain ⟨xs, n, _, rfl, hl, hlen, hf⟩ := DataW.trod_struct ht h
      obtain ⟨v, e1, o1, b1⟩ := openFS ih (n := n) (cs := cs) ty fs.toList 0 xs hc.1 (by simpa using hp) (by rw [hl, hc.2]; omega) (by simpa using hlen) fun i f hfi => hf i f (by simpa using hfi)
      refine ⟨v, by simpa using e1, o1, fun hw => b1 ?_⟩
      simpa only [DataW.weights, ht] using hw
    · rename_i ty _ _ n e ht
      rw [ht] at hp
      simp only [Bool.and_eq_true, beq_iff_eq] at hc
      obtain ⟨xs, m, _, rfl, hl, hlen, hf⟩ := DataW.trod_array ht h
      obtain ⟨v, e1, o1, b1⟩ := openAS ih (n := m) (cs := cs) ty n 0 xs hc.1 (by simpa using hp) (by rw [hl, hc.2]; omega) hlen fun j hj => by rw [Nat.zero_add]; exact hf j hj
      refine ⟨v, by simpa using e1, o1, fun hw => b1 ?_⟩
      simpa only [DataW.weights, ht] using hw
    · cases hc

/-- A parameter that is a struct or an array, and the sizes in it. -/
theorem openAggS {ty : Ty} {t : TypeId} {cs : Array Value} {d : Nat} {x : DataW H} {ps : List MemPlace} (hc : conf P d ty t = true) (hp : pos P d ty t = true)
    {ts : List TypeId} {ds : List (DataW H)} {j : Nat} (htj : ts[j]? = some t) (hdj : ds[j]? = some x) (hsz : (DataW.weightsEach P ts ds).all (· ≤ reachBytes) = true)
    (h : DataW.Trod enc P w 0 (fun _ => true) true t (.agg cs) x ps) : ∃ v : ty.T, Value.agg cs = .agg (ty.vs v).toArray ∧ ty.ok w v ∧ ty.big v := by
  obtain ⟨fuel, hf⟩ := h
  obtain ⟨v, e, o, b⟩ := opensS d ty t fuel _ _ hc hp hf
  refine ⟨v, ?_, o, b (List.all_eq_true.2 fun n hn => List.all_eq_true.1 hsz n (DataW.weights_mem_each htj hdj n hn))⟩
  rw [← e]
  simp [Value.cells]
/-- A parameter that is a slice, and the sizes in it. -/
theorem openSlS {ty : Ty} {t : TypeId} {a : Option Addr} {n c : Nat} {d : Nat} {x : DataW H} {ps : List MemPlace} (hc : conf P d (.sl ty) t = true) (hp : pos P d (.sl ty) t = true)
    {ts : List TypeId} {ds : List (DataW H)} {j : Nat} (htj : ts[j]? = some t) (hdj : ds[j]? = some x) (hsz : (DataW.weightsEach P ts ds).all (· ≤ reachBytes) = true)
    (h : DataW.Trod enc P w 0 (fun _ => true) true t (.slice a n c) x ps) : ∃ l : List ty.T, (Ty.sl ty).ok w ⟨a, n, c, l⟩ ∧ (Ty.sl ty).big ⟨a, n, c, l⟩ := by
  obtain ⟨fuel, hf⟩ := h
  obtain ⟨v, e, o, b⟩ := opensS d (.sl ty) t fuel _ _ hc hp hf
  have b := b (List.all_eq_true.2 fun n hn => List.all_eq_true.1 hsz n (DataW.weights_mem_each htj hdj n hn))
  simp [Value.cells, Ty.vs] at e
  obtain ⟨h1, h2, h3⟩ := e
  refine ⟨v.l, ?_⟩
  subst h1; subst h2; subst h3
  exact ⟨o, b⟩
end

end Go.Proofs.Ytfpkaebmiojicaa.Vc

/-! What the laws of layer 13 share. -/
namespace Go.Proofs.Ytfpkaebmiojicaa.Vc
open Go Go.Eng Go.RowKit
set_option linter.unusedVariables false
set_option linter.unusedSimpArgs false

theorem aw13 {w w' : World} (he : Ext w w') : CallV Try.prog 42 #[] w' [.one .bool] fun r w3 => r.1 = true ∧ Ext w w3 := awake13_c.mono fun r w3 ⟨h, e⟩ => ⟨h, he.trans e⟩
abbrev TSt : Ty := .cons (.int .i64) (.cons (.cons (.int .i64) (.cons (.int .i64) .nil)) (.cons (.int .u8) (.cons .bool .nil)))
abbrev LSt : Ty := .sl TSt
/-- A step of both, among other parts. -/
theorem stepS {E : Nat → Prop} {w0 w : World} {Ts : List Asr} {p : Nat} {y : Lay} {C : CD} {L : List TOp} {B : SlP TBd.T} {f : SlP TF.T} {k bl pa sd : Int} {on : Bool} (hC : COk C) (ho : C.ops < 1000000) (hF : fds y.F = C.pl) (hdf : fds f = C.pl) (hdb : B.l.map bdOf = C.bs) (hsd : 0 ≤ sd ∧ sd < 256)
    (hf : LF.rd w (fun k => k < w0.heap.size ∧ ¬ E k) f) (S : Sep E w0 w (RdT (Ty.sl TBd) B :: StarA (ChipP p y C L) :: Ts)) :
    CallV Try.prog 45 #[.pointer (some ⟨p, 0, none⟩), chVal B f C, .agg #[.int .i64 k, .int .i64 bl, .int .i64 pa, .int .u8 sd, .bool on]] w [.agg SH10, .one .bool] fun r w' =>
      r.2.1 = true ∧ ∃ (B' : SlP TBd.T) (y' : Lay) (L' : List TOp), r.1 = chT B' f (stC C k bl pa sd on) ∧ fds y'.F = C.pl ∧ B'.l.map bdOf = (stC C k bl pa sd on).bs ∧ L'.map TOp.dat = L.map TOp.dat ++ stT C k bl pa sd ∧
        Sep E w0 w' (RdT (Ty.sl TBd) B' :: StarA (ChipP p y' (stC C k bl pa sd on) L') :: Ts) := by
  have S := ((S.perm (List.Perm.swap (StarA (ChipP p y C L)) (RdT (Ty.sl TBd) B) Ts)).unfold (Rs := ChipP p y C L)).perm (List.perm_middle (l₁ := ChipP p y C L))
  refine Sep.callB (RdT (Ty.sl TBd) B :: ChipP p y C L) (Ts := Ts) S (fun F hFF SF => step13_c hC ho hF hdf hdb hsd (LF.rd_mono (fun k hk _ hFk => (hFF k hFk).1.elim hk.2 (by omega)) hf) SF) ?_
  rintro F fr r w' ⟨h1, B', ta, tc, L', h2, h3, h4, S'⟩
  refine ⟨h1, B', upT y ta tc, L', h2, hF, h3, h4, ?_⟩
  have S2 := fr _ _ S'
  have S3 : Sep E w0 w' (ChipP p (upT y ta tc) (stC C k bl pa sd on) L' ++ (RdT (Ty.sl TBd) B' :: Ts)) := S2.perm (List.perm_middle (l₁ := ChipP p (upT y ta tc) (stC C k bl pa sd on) L')).symm
  exact S3.fold.perm (List.Perm.swap _ _ _)

theorem fds_byt {w : World} {G : Nat → Prop} {f : SlP TF.T} (hf : LF.rd w G f) : ∀ F ∈ fds f, Byt F.2.2.1 := fun F hF => by
  obtain ⟨x, hx, rfl⟩ := List.mem_map.1 hF
  rw [TF_dat]
  exact fun v hv => rng_u8 ((hf.2.2.2.2 x hx).2.2.1.2.2.2.2 v hv)
theorem readC_right {C : CD} {bl pa : Int} (hg : Right C.g) (ho : C.off = false) : readC C bl pa = if plOk C.g bl pa then 0 else 2 := by
  unfold readC
  rw [if_neg (by rw [ho]; decide)]
  by_cases h : inC C bl pa
  · rw [if_pos h, if_pos ⟨hg, h⟩]
  · rw [if_neg h, if_neg (fun k => h k.2)]
theorem pageOf {H : Nat → Prop} {w : World} {B : SlP TBd.T} {f : SlP TF.T} {C : CD} {bl pa : Int} (h : RefR H w B f C) (hC : COk C) (hi : inC C bl pa) :
    ∃ q x q2 y, B.a = some q ∧ CellsAt w (q.add (bl.toNat * 5)) (bdV x) ∧ q.block < w.heap.size ∧ x.1.a = some q2 ∧ CellsAt w (q2.add (pa.toNat * 1)) (TB.vs y) ∧ q2.block < w.heap.size ∧ TB.rd w All y ∧ y.l = pgC13 C bl pa ∧ (0 ≤ bl ∧ bl < (B.n : Int)) ∧ (0 ≤ pa ∧ pa < (x.1.n : Int)) := by
  obtain ⟨⟨n1, n2⟩, ⟨n3, n4⟩, ⟨n5, n6⟩, n7, n8⟩ := hC.num
  have hBn := h.len
  rw [hC.bl] at hBn
  obtain ⟨h0, h1⟩ := hi.1
  obtain ⟨q, x, hq, hc, hr, hx, hbd, hb⟩ := h.nth (i := bl) h0 (by omega)
  have hbk := (hC.blk hi.1).2
  have hpl : x.1.n = C.g.p.toNat := by rw [← bd_len (x := x) (by rw [hbd]; exact hbk)]; exact hr.1.1.symm
  obtain ⟨p0, p1⟩ := hi.2
  obtain ⟨q2, y, hq2, hy, hc2, hry, -, hb2⟩ := TBB_nth hr.1 (i := pa) (by omega) (by omega)
  refine ⟨q, x, q2, y, hq, hc, hb, hq2, hc2, hb2, hry, ?_, ⟨h0, by omega⟩, ⟨p0, by omega⟩⟩
  have h1 : (x.1.l.map (·.l))[pa.toNat]? = some y.l := by rw [List.getElem?_map, hy]; rfl
  have h2 : (blkC C bl).pg = x.1.l.map (·.l) := by rw [← hbd]; rfl
  show _ = (blkC C bl).pg.getD pa.toNat []
  rw [h2, getD_some h1]
end Go.Proofs.Ytfpkaebmiojicaa.Vc

/-! The contracts of layer 13: the trace. -/
namespace Go.Proofs.Ytfpkaebmiojicaa.Vc
open Go Go.Eng Go.RowKit
set_option linter.unusedVariables false
set_option linter.unusedSimpArgs false

section
variable {E : Nat → Prop} {w0 w : World} {Rs : List Asr} {p : Nat} {y : Lay} {C : CD} {L : List TOp}
theorem TOp_len (o : TOp) : o.vs.length = 5 := rfl
theorem ap_56 {n : Nat} (h : n ≤ 1000000) : (2 * (n + 1) + 256) * 56 ≤ 281474976710656 := by omega
theorem Trace_c (ho : C.ops ≤ 1000000) (hd : ∀ o ∈ L, o.d.l.length ≤ 100000) (S : Sep E w0 w (ChipQ p y C L Rs)) :
    CallV Try.prog 52 #[.pointer (some ⟨p, 0, none⟩)] w [.one .sl] fun r w' => ∃ L' : List TOp, L'.map TOp.dat = L.map TOp.dat ∧ r.1.n = L'.length ∧ Sep NoB w w' [OwnA 106 5 r.1.a r.1.n r.1.c (L'.flatMap TOp.vs), RdL (L'.map (·.d))] := by
  apply nand_Chip_Trace.vc
  unfold nand_Chip_Trace.P
  simp only [Addr.add_lit, Nat.zero_add]
  have hLn : L.length = C.ops := by
    have := (S.own 7 rfl).len
    rw [flatF_len (f := TOp.vs) (m := 5) TOp_len] at this
    omega
  refine S.ld0 (j := 14) rfl rfl ?_
  dsimp only
  have T := (Sep.start NoB w).nilL
  have T := T.nilOwn 106 5
  refine Loop1 (fun (v : SlV × Int × Unit) w' => ∃ (i : Nat) (L' : List TOp), v.2.1 = (i : Int) ∧ i ≤ C.ops ∧ v.1.n = i ∧ L'.map TOp.dat = (L.take i).map TOp.dat ∧ Sep NoB w w' [OwnA 106 5 v.1.a v.1.n v.1.c (L'.flatMap TOp.vs), RdL (L'.map (·.d))])
    (fun (v : SlV × Int × Unit) _ => ((C.ops : Int) - v.2.1).toNat) ⟨0, [], rfl, by omega, rfl, rfl, T⟩ ?_
  rintro ⟨⟨a, m, c⟩, (v : Int), ⟨⟩⟩ w3 ⟨i, L', hv, hi, hm, hL, T⟩
  dsimp only at hv hm T ⊢
  subst hv
  subst hm
  have hl' : L'.length = m := by
    have := congrArg List.length hL
    rw [List.length_map, List.length_map, List.length_take] at this
    omega
  refine cond_d (fun hlt => ?_) (fun hge => ?_)
  · have S := S.stepE T.ext
    obtain ⟨q, o, hq, hoi, hc⟩ := S.nthF (f := TOp.vs) (m := 5) 7 rfl TOp_len (by decide) (j := (m : Int)) (by omega) hlt
    obtain ⟨G, hG, -⟩ := S.get (i := 8) rfl
    have hmem : o ∈ L := List.mem_of_getElem? hoi
    have hod : TB.rd w3 G o.d := hG _ (List.mem_map.2 ⟨o, hmem, rfl⟩)
    have hI := Ty.ints hod
    have hIl := hI.len
    have hdd := hd o hmem
    have hby : Byt o.d.l := fun u hu => rng_u8 (hod.2.2.2.2 u hu)
    refine ⟨⟨by omega, hlt⟩, q, hq, (o.k, o.bl, o.pa, ⟨o.d.a, o.d.n, o.d.c⟩, o.e, ()), hc, ?_⟩
    refine T.newB fun b7 w4 T f4 _ => ?_
    refine T.st0 (by rfl) fun w5 T f5 => ?_
    refine T.newB fun b10 w6 T f6 _ => ?_
    have T := T.asOwn (sz := 1) (n := 0) rfl (by omega) oneAll.nil
    refine T.ld1 (j := 3) rfl rfl ?_
    refine T.ab0 (xs := []) (hI.ext (((f4.trans' f5 fun k hk => .inr (by omega)).trans f6).ext)) (by omega) fun a' c' w7 T f7 => ?_
    rw [List.nil_append, Nat.zero_add] at T
    rw [Nat.zero_add]
    refine T.su1 (j := 3) (by rfl) fun w8 T f8 => ?_
    refine T.la1 rfl ?_
    refine T.newB fun b20 w9 T f9 _ => ?_
    refine AppS.of (news := TOp.vs ⟨o.k, o.bl, o.pa, ⟨a', o.d.n, c', o.d.l⟩, o.e⟩) rfl (.inr ⟨_, rfl, T.cells 0 rfl⟩) ?_
    refine T.ap3 rfl (TOp.one _) (ap_56 (by omega)) (by omega) fun a22 c24 w10 T f10 => ?_
    refine ⟨Rng.i64 (by omega) (by omega), ⟨m + 1, L' ++ [⟨o.k, o.bl, o.pa, ⟨a', o.d.n, c', o.d.l⟩, o.e⟩], by push_cast; rfl, by omega, rfl, ?_, ?_⟩, by omega⟩
    · rw [Int.toNat_natCast] at hoi
      rw [List.take_add_one, hoi, List.map_append, List.map_append, hL]
      rfl
    · have T := (Sep.addL (T.sel [1, 3, 2] rfl) hby).sel [1, 0] rfl
      rw [List.flatMap_append, List.map_append]
      exact T
  · have : m = C.ops := by omega
    subst this
    rw [List.take_of_length_le (by omega)] at hL
    exact ⟨L', hL, hl'.symm, T⟩
end
end Go.Proofs.Ytfpkaebmiojicaa.Vc

/-! Plain laws of layer 13: what a trace tells of programs. -/
namespace Go.Proofs.Ytfpkaebmiojicaa.Vc
open Go Go.Eng Go.RowKit
set_option linter.unusedVariables false
set_option linter.unusedSimpArgs false

abbrev OpD : Type := Int × Int × Int × List Int × Int
/-- How many programs of a page there were since its block was erased whole. -/
def cntS (bl pa : Int) (n : Int) (o : OpD) : Int :=
  let m := if o.1 = 2 ∧ o.2.2.2.2 = 0 ∧ o.2.1 = bl then 0 else n
  if o.1 = 1 ∧ o.2.1 = bl ∧ o.2.2.1 = pa then m + 1 else m
def cntL (tr : List OpD) (bl pa : Int) : Int := tr.foldl (cntS bl pa) 0
theorem cntL_snoc (tr : List OpD) (o : OpD) (bl pa : Int) : cntL (tr ++ [o]) bl pa = cntS bl pa (cntL tr bl pa) o := by unfold cntL; rw [List.foldl_append]; rfl
theorem cntS_1 (b p n bl pa e : Int) (d : List Int) : cntS b p n (1, bl, pa, d, e) = if bl = b ∧ pa = p then n + 1 else n := by simp [cntS]
theorem cntS_2 (b p n bl pa e : Int) (d : List Int) : cntS b p n (2, bl, pa, d, e) = if e = 0 ∧ bl = b then 0 else n := by simp [cntS]
theorem cntS_3 (b p n bl pa e : Int) (d : List Int) : cntS b p n (3, bl, pa, d, e) = n := by simp [cntS]
structure TrI (C : CD) (tr : List OpD) : Prop where
  us : ∀ bl pa, inC C bl pa → cntL tr bl pa = usC C bl pa
  two : ∀ (i : Nat) (o : OpD), tr[i]? = some o → o.1 = 1 → cntL (tr.take (i + 1)) o.2.1 o.2.2.1 ≤ 2
theorem TrI.nil {g : Geo} {pl : List FD} : TrI (newC g pl) [] := by
  refine ⟨fun bl pa h => ?_, fun i o h => by simp at h⟩
  obtain ⟨⟨h0, h1⟩, h2, h3⟩ := h
  have h1 : bl < g.b := h1
  have h3 : pa < g.p := h3
  show (0 : Int) = ((List.replicate g.b.toNat (blankB g)).getD bl.toNat default).us.getD pa.toNat 0
  have e : (List.replicate g.b.toNat (blankB g)).getD bl.toNat default = blankB g := by
    rw [List.getD_eq_getElem?_getD, List.getElem?_replicate, if_pos (by omega)]; rfl
  rw [e]
  show (0 : Int) = (List.replicate g.p.toNat 0).getD pa.toNat 0
  rw [List.getD_eq_getElem?_getD, List.getElem?_replicate, if_pos (by omega)]; rfl
theorem TrI.add {C C' : CD} {tr : List OpD} {o : OpD} (h : TrI C tr) (hu : ∀ bl pa, inC C' bl pa → inC C bl pa ∧ usC C' bl pa = cntS bl pa (usC C bl pa) o) (h1 : o.1 = 1 → inC C o.2.1 o.2.2.1 ∧ usC C o.2.1 o.2.2.1 ≤ 1) : TrI C' (tr ++ [o]) := by
  refine ⟨fun bl pa hi => ?_, fun i q hq hq1 => ?_⟩
  · obtain ⟨k1, k2⟩ := hu bl pa hi
    rw [cntL_snoc, k2, h.us bl pa k1]
  · by_cases hi : i < tr.length
    · rw [List.getElem?_append_left hi] at hq
      rw [List.take_append_of_le_length (by omega)]
      exact h.two i q hq hq1
    · have hi : i = tr.length := by
        have := (List.getElem?_eq_some_iff.1 hq).1
        rw [List.length_append] at this
        simp only [List.length_cons, List.length_nil] at this
        omega
      subst hi
      rw [List.getElem?_append_right (Nat.le_refl _), Nat.sub_self] at hq
      cases hq
      rw [List.take_of_length_le (by simp), cntL_snoc]
      obtain ⟨k1, k2⟩ := h1 hq1
      rw [h.us _ _ k1]
      unfold cntS
      dsimp only
      rw [if_pos ⟨hq1, rfl, rfl⟩, if_neg (fun k => by rw [hq1] at k; exact absurd k.1 (by decide))]
      omega
theorem TrI.same {C C' : CD} {tr : List OpD} (h : TrI C tr) (hu : ∀ bl pa, inC C' bl pa → inC C bl pa ∧ usC C' bl pa = usC C bl pa) : TrI C' tr :=
  ⟨fun bl pa hi => by obtain ⟨k1, k2⟩ := hu bl pa hi; rw [k2, h.us bl pa k1], h.two⟩
/-- A block's counts behind a change of one block. -/
theorem us_set {C C' : CD} (hC : COk C) {n : Int} {x : BD} (hn : 0 ≤ n ∧ n < C.g.b) (hg : C'.g = C.g) (hb : C'.bs = C.bs.set n.toNat x) (bl pa : Int) (hi : inC C' bl pa) : inC C bl pa ∧ usC C' bl pa = if bl = n then x.us.getD pa.toNat 0 else usC C bl pa := by
  have hi' : inC C bl pa := by unfold inC at hi ⊢; rw [hg] at hi; exact hi
  refine ⟨hi', ?_⟩
  obtain ⟨⟨h0, h1⟩, h2, h3⟩ := hi'
  show (C'.bs.getD bl.toNat default).us.getD pa.toNat 0 = _
  rw [hb, List.getD_eq_getElem?_getD (l := C.bs.set n.toNat x), List.getElem?_set]
  have hl := hC.bl
  by_cases h : bl = n
  · subst h
    rw [if_pos rfl, if_pos (by omega), if_pos rfl]
    rfl
  · rw [if_neg (by omega), if_neg h, ← List.getD_eq_getElem?_getD]
theorem ref_in {C : CD} {bl pa : Int} {n : Nat} (h : refC C bl pa n = 0) : inC C bl pa ∧ n = szP C.g ∧ usC C bl pa ≤ 1 := by
  unfold refC at h
  split at h
  · cases h
  split at h
  · cases h
  rename_i h2
  have h2 := Classical.not_not.1 h2
  split at h
  · cases h
  rename_i h3
  exact ⟨h2.1, h2.2, by omega⟩
theorem datC_full {C : CD} {sd : Int} (hC : COk C) (h : (datC C sd).length = szP C.g) : datC C sd = bytL (C.g.s + 88) sd := by
  unfold datC at h ⊢
  split
  · rename_i h7
    rw [if_pos h7, List.length_drop, bytL_len] at h
    have e : (C.g.s + 88).toNat = szP C.g := rfl
    obtain ⟨-, -, -, n7, n8⟩ := hC.num
    omega
  · rfl
theorem TrI.step {C : CD} {tr : List OpD} (hC : COk C) (h : TrI C tr) (k bl pa sd : Int) (on : Bool) : TrI (stC C k bl pa sd on) (tr ++ stT C k bl pa sd) := by
  unfold stC stT
  split
  · unfold progC
    split
    · rename_i hr
      obtain ⟨hi, -, h1⟩ := ref_in hr
      refine h.add (fun b p hi' => ?_) (fun _ => ⟨hi, h1⟩)
      obtain ⟨k1, k2⟩ := us_set (C' := progX C bl pa (datC C sd)) hC hi.1 rfl rfl b p hi'
      refine ⟨k1, k2.trans ?_⟩
      rw [cntS_1]
      have hul := (hC.blk hi.1).2.ul
      by_cases hb : b = bl
      · subst hb
        rw [if_pos rfl, List.getD_eq_getElem?_getD, List.getElem?_set]
        by_cases hp : p = pa
        · subst hp
          rw [if_pos rfl, if_pos (by have := hi.2; omega), if_pos ⟨rfl, rfl⟩]
          rfl
        · rw [if_neg (by have := hi.2; have := k1.2; omega), if_neg (fun k => hp k.2.symm), ← List.getD_eq_getElem?_getD]
      · rw [if_neg hb, if_neg (fun k => hb k.1.symm)]
    · rw [List.append_nil]; exact h
  split
  · unfold eraC
    split
    · rename_i hr
      obtain ⟨-, hn⟩ := may_zero hr
      refine h.add (fun b p hi' => ?_) (fun k => absurd k (by dsimp only; decide))
      obtain ⟨k1, k2⟩ := us_set (C' := eraX C bl) hC hn rfl rfl b p hi'
      refine ⟨k1, k2.trans ?_⟩
      rw [cntS_2]
      by_cases hb : b = bl
      · subst hb
        rw [if_pos rfl]
        by_cases h0 : (codeC C).1 = 0
        · rw [if_pos h0, if_pos ⟨h0, rfl⟩]
          show (List.replicate C.g.p.toNat (0 : Int)).getD p.toNat 0 = 0
          rw [List.getD_eq_getElem?_getD, List.getElem?_replicate]
          split <;> rfl
        · rw [if_neg h0, if_neg (fun k => h0 k.1)]
      · rw [if_neg hb, if_neg (fun k => hb k.2.symm)]
    · rw [List.append_nil]; exact h
  split
  · unfold scrC
    split
    · rename_i hr
      obtain ⟨-, hn⟩ := may_zero hr
      refine h.add (fun b p hi' => ?_) (fun k => absurd k (by dsimp only; decide))
      obtain ⟨k1, k2⟩ := us_set (C' := scrX C bl) hC hn rfl rfl b p hi'
      refine ⟨k1, k2.trans ?_⟩
      rw [cntS_3]
      by_cases hb : b = bl
      · subst hb; rw [if_pos rfl]
      · rw [if_neg hb]
    · rw [List.append_nil]; exact h
  rw [List.append_nil]
  split
  · unfold pokC
    split
    · exact h
    split
    · exact h
    · rename_i _ hr
      have hi := (Classical.not_not.1 hr).1
      refine h.same fun b p hi' => ?_
      obtain ⟨k1, k2⟩ := us_set (C' := { C with bs := C.bs.set bl.toNat { blkC C bl with pg := (blkC C bl).pg.set pa.toNat ((pgC13 C bl pa).set pa.toNat sd) } }) (n := bl) (x := { blkC C bl with pg := (blkC C bl).pg.set pa.toNat ((pgC13 C bl pa).set pa.toNat sd) }) hC hi.1 rfl rfl b p hi'
      refine ⟨k1, k2.trans ?_⟩
      by_cases hb : b = bl
      · subst hb; rw [if_pos rfl]
      · rw [if_neg hb]
  split
  · exact h.same fun b p hi => ⟨hi, rfl⟩
  · exact h
/-- An entry of the trace. -/
theorem stT_one {C : CD} (hC : COk C) {k bl pa sd : Int} (h : stT C k bl pa sd ≠ []) : stT C k bl pa sd = [(k, bl, if k = 1 then pa else 0, if k = 1 then bytL (C.g.s + 88) sd else [], (codeC C).1)] := by
  by_cases h1 : k = 1
  · subst h1
    by_cases hr : refC C bl pa (datC C sd).length = 0
    · have e := datC_full hC (ref_in hr).2.1
      rw [e] at hr
      simp [stT, hr, e]
    · exact absurd (by simp [stT, hr]) h
  by_cases h2 : k = 2
  · subst h2
    by_cases hr : mayC C bl = 0
    · simp [stT, hr]
    · exact absurd (by simp [stT, hr]) h
  by_cases h3 : k = 3
  · subst h3
    by_cases hr : mayC C bl = 0
    · simp [stT, hr]
    · exact absurd (by simp [stT, hr]) h
  · exact absurd (by simp [stT, h1, h2, h3]) h
/-- What is answered at an operation. -/
theorem code_at (C : CD) : (codeC C).1 = match atF C.pl (C.ops : Int) with | none => 0 | some f => if f.2.1 then 4 else 5 := by
  unfold codeC
  cases atF C.pl (C.ops : Int) <;> rfl
end Go.Proofs.Ytfpkaebmiojicaa.Vc

/-! Places, and geometries, are the same where all their numbers are. -/
namespace Go.Proofs.Ytfpkaebmiojicaa.Vc
open Go Go.Eng Go.RowKit
set_option linter.unusedVariables false
set_option linter.unusedSimpArgs false

set_option maxRecDepth 100000 in
theorem eqPl0 (a1 a2 b1 b2 : Int) (w : World) : (Op.equalIn 10000 81 (.agg #[.int .i64 a1, .int .i64 a2]) (.agg #[.int .i64 b1, .int .i64 b2])).run Try.prog w = .ok (a1 == b1 && a2 == b2) w := by
  have u1 := Try.underlying3
  have v1 := Try.isAgg3
  have z1 := Try.sizeOf3
  have hS : Try.prog.underlying 81 = some (.struct (Try.prog.fieldsOf 81)) := by kernel_rfl
  rw [show (10000 : Nat) = 9999 + 1 from rfl, run_equalIn_agg w 9999 81 _ _ hS (by kernel_rfl)]
  simp only [Program.fieldsOf, Try.underlying81]
  go_simp
  repeat' split
  all_goals simp_all
theorem eqPl {a b c d : Int} {K : Bool → Prop} (hk : K (decide (a = c ∧ b = d))) : AggEq Try.prog 81 #[.int .i64 a, .int .i64 b] #[.int .i64 c, .int .i64 d] K := by
  refine ⟨_, fun w => eqPl0 _ _ _ _ w, by kernel_rfl, ?_⟩
  have : (a == c && b == d) = decide (a = c ∧ b = d) := by
    apply Bool.eq_iff_iff.2
    simp
  rw [this]
  exact hk
set_option maxRecDepth 100000 in
theorem eqGe0 (a1 a2 a3 a4 a5 a6 b1 b2 b3 b4 b5 b6 : Int) (w : World) : (Op.equalIn 10000 23 (.agg #[.int .i64 a1, .int .i64 a2, .int .i64 a3, .int .i64 a4, .int .i64 a5, .int .i64 a6]) (.agg #[.int .i64 b1, .int .i64 b2, .int .i64 b3, .int .i64 b4, .int .i64 b5, .int .i64 b6])).run Try.prog w =
    .ok (a1 == b1 && (a2 == b2 && (a3 == b3 && (a4 == b4 && (a5 == b5 && a6 == b6))))) w := by
  have u1 := Try.underlying3
  have v1 := Try.isAgg3
  have z1 := Try.sizeOf3
  have hS : Try.prog.underlying 23 = some (.struct (Try.prog.fieldsOf 23)) := by kernel_rfl
  rw [show (10000 : Nat) = 9999 + 1 from rfl, run_equalIn_agg w 9999 23 _ _ hS (by kernel_rfl)]
  simp only [Program.fieldsOf, Try.underlying23]
  go_simp
  repeat' split
  all_goals simp_all
theorem eqGe {g : Geo} {K : Bool → Prop} (hk : K true) : AggEq Try.prog 23 #[.int .i64 g.b, .int .i64 g.p, .int .i64 g.s, .int .i64 g.sp, .int .i64 g.wr, .int .i64 g.ro] #[.int .i64 g.b, .int .i64 g.p, .int .i64 g.s, .int .i64 g.sp, .int .i64 g.wr, .int .i64 g.ro] K := by
  refine ⟨_, fun w => eqGe0 _ _ _ _ _ _ _ _ _ _ _ _ w, by kernel_rfl, ?_⟩
  simpa using hk

end Go.Proofs.Ytfpkaebmiojicaa.Vc

/-! The plans of functions as plain statements, printed by wip/tools/vcgen.py; the kernel holds each to the code. -/
namespace Go.Proofs.Ytfpkaebmiojicaa.Vc
open Go Go.Eng
set_option linter.unusedVariables false

/-! ### nepenthe/nepenthelaw13.NandTraces: function 13 -/
-- loop 0 carries 14: .one (.int .i64), 15: .one (.int .i64)
-- loop 1 carries 13: .one (.int .i64)
-- loop 2 carries 6: .one .sl, 7: .one (.int .i64)
def law13_NandTraces.A : Ann := .two .no (.two .no (.two .no (.two .no (.two .no (.join [6, 7, 8, 9, 10, 11, 47, 48, 49, 50, 51, 52, 53, 54, 55, 56, 57, 58, 59, 60, 61, 62, 63, 64, 65, 66, 67, 68, 69, 70, 71, 72, 73, 74, 75, 76, 77, 78, 79, 80, 81, 82, 83, 84, 85, 86, 87, 88, 89, 90, 91, 92, 93, 94, 95, 96, 97, 98, 99, 100, 101, 102, 103, 104, 105, 106, 107, 108, 109, 110, 111, 112, 113, 114] [(6, .one .sl)] (.two .no (.one (.loop [6, 7, 8, 9, 10, 11, 47, 48, 49, 50, 51, 52, 53, 54, 55, 56, 57, 58, 59, 60, 61, 62, 63, 64, 65, 66, 67, 68, 69, 70, 71, 72, 73, 74, 75, 76, 77, 78, 79, 80, 81, 82, 83, 84, 85, 86, 87, 88, 89, 90, 91, 92, 93, 94, 95, 96, 97, 98, 99, 100, 101, 102, 103, 104, 105, 106, 107, 108, 109, 110, 111, 112, 113, 114] [(6, .one .sl), (7, .one (.int .i64))] (.two .no (.two (.one (.two .no (.two .no (.two .no (.two .no (.two .no (.two .no (.join [87, 88, 89, 90, 91, 92, 93, 94, 95, 96, 97, 98, 99, 100] [] .no (.join [101, 102, 103, 104, 105, 106, 107, 108, 109, 110] [] .no .no))))))))) .no))))) (.two .no (.two .no (.two (.two .no (.one (.loop [2, 13, 14, 15, 122, 123, 124, 125, 126, 127, 128, 129, 130, 131, 132, 133, 134, 135, 136, 137, 138, 139, 140, 141, 142, 143, 144, 145, 146, 147, 148, 149, 150, 151, 152, 153, 154, 155, 156, 157, 158, 159, 160, 161, 162, 163, 164, 165, 166, 167, 168, 169, 170, 171, 172, 173, 174, 175, 176, 177, 178, 179, 180, 181, 182, 183, 184, 185, 186, 187, 188, 189, 190, 191, 192, 193, 194, 195, 196, 197, 198, 199, 200, 201, 202, 203, 204, 205, 206, 207, 208, 209, 210, 211, 212, 213, 214, 215, 216, 217, 218, 219, 220, 221, 222, 223, 224, 225, 226, 227, 228, 229, 230, 231, 232, 233, 234, 235, 236, 237, 238, 239, 240, 241, 242, 243] [(13, .one (.int .i64))] (.two .no (.two (.one (.two (.two (.draw (.take 0 (.take 1 (.take 2 (.take 3 (.take 4 (.take 5 (.take 6 (.take 7 (.take 8 (.take 9 (.take 10 (.take 11 (.take 12 (.take 13 (.take 14 (.take 15 (.take 16 (.take 17 (.take 18 (.take 19 (.take 20 (.take 21 (.take 22 (.take 23 (.take 24 (.take 25 (.take 26 (.take 27 (.take 28 (.take 29 (.take 30 (.take 31 (.take 32 (.take 33 (.take 34 (.take 35 (.take 36 (.take 37 (.take 38 (.take 39 (.take 40 (.take 41 (.take 42 (.take 43 (.take 44 (.take 45 (.take 46 (.take 47 (.eff 48 (.take 49 (.take 50 (.done))))))))))))))))))))))))))))))))))))))))))))))))))))) .no) (.two .no (.two (.two .no (.one (.loop [14, 15, 179, 180, 181, 182, 183, 184, 185, 186, 187, 188, 189, 190, 191, 192, 193, 194, 195, 196, 197, 198, 199, 200, 201, 202, 203, 204, 205, 206, 207, 208, 209, 210, 211, 212, 213, 214, 215, 216, 217, 218, 219, 220, 221, 222, 223, 224, 225, 226, 227, 228, 229, 230, 231, 232, 233] [(14, .one (.int .i64)), (15, .one (.int .i64))] (.two .no (.two (.one (.join [14, 184, 185, 186, 187, 188, 189, 190, 191, 192, 193, 194, 195, 196, 197, 198, 199, 200, 201, 202, 203, 204, 205, 206, 207, 208, 209, 210, 211, 212] [(14, .one (.int .i64))] (.two (.draw (.take 0 (.take 1 (.take 2 (.take 3 (.take 4 (.take 5 (.take 6 (.take 7 (.take 8 (.take 9 (.take 10 (.take 11 (.take 12 (.take 13 (.take 14 (.take 15 (.take 16 (.take 17 (.take 18 (.take 19 (.take 20 (.take 21 (.take 22 (.take 23 (.take 24 (.take 25 (.take 26 (.take 27 (.take 28 (.done))))))))))))))))))))))))))))))) .no) (.two (.draw (.take 0 (.take 1 (.take 2 (.take 3 (.take 4 (.take 5 (.take 6 (.take 7 (.take 8 (.take 9 (.take 10 (.take 11 (.take 12 (.take 13 (.take 14 (.take 15 (.take 16 (.take 17 (.take 18 (.done))))))))))))))))))))) .no))) .no))))) .no)))) .no))))) .no))))))))
def law13_NandTraces.P (p0_0 : Int) (p0_1 : Int) (p0_2 : Int) (p0_3 : Int) (p0_4 : Int) (p0_5 : Int) (a0_6 : Option Addr) (n0_6 c0_6 : Nat) (a0_7 : Option Addr) (n0_7 c0_7 : Nat) (w : World) (K : Bool × Unit → World → Prop) : Prop :=
  NewV #[.int .i64 p0_0, .int .i64 p0_1, .int .i64 p0_2, .int .i64 p0_3, .int .i64 p0_4, .int .i64 p0_5, .slice a0_6 n0_6 c0_6, .slice a0_7 n0_7 c0_7] 79 w fun b1 w2 =>
  LoadA w2 ⟨b1, 0, none⟩ [.int .i64, .int .i64, .int .i64, .int .i64, .int .i64, .int .i64] fun (x3 : Int × Int × Int × Int × Int × Int × Unit) =>
  CallV Try.prog 17 #[.agg #[.int .i64 x3.1, .int .i64 x3.2.1, .int .i64 x3.2.2.1, .int .i64 x3.2.2.2.1, .int .i64 x3.2.2.2.2.1, .int .i64 x3.2.2.2.2.2.1]] w2 [.one .bool] fun (r4 : Bool × Unit) w5 =>
  cond (!r4.1)
  (CallV Try.prog 42 #[] w5 [.one .bool] fun (r6 : Bool × Unit) w7 =>
  K (r6.1, ()) w7)
  (LoadS w5 ⟨b1, 6, none⟩ .sl fun (x8 : SlV) =>
  CallV Try.prog 40 #[.slice x8.a x8.n x8.c] w5 [.one .bool] fun (r9 : Bool × Unit) w10 =>
  cond (!r9.1)
  (CallV Try.prog 42 #[] w10 [.one .bool] fun (r11 : Bool × Unit) w12 =>
  K (r11.1, ()) w12)
  (LoadA w10 ⟨b1, 0, none⟩ [.int .i64, .int .i64, .int .i64, .int .i64, .int .i64, .int .i64] fun (x13 : Int × Int × Int × Int × Int × Int × Unit) =>
  CallV Try.prog 41 #[.agg #[.int .i64 x13.1, .int .i64 x13.2.1, .int .i64 x13.2.2.1, .int .i64 x13.2.2.2.1, .int .i64 x13.2.2.2.2.1, .int .i64 x13.2.2.2.2.2.1]] w10 [.one .bool] fun (r14 : Bool × Unit) w15 =>
  cond (!r14.1)
  (CallV Try.prog 42 #[] w15 [.one .bool] fun (r16 : Bool × Unit) w17 =>
  K (r16.1, ()) w17)
  (LoadA w15 ⟨b1, 0, none⟩ [.int .i64, .int .i64, .int .i64, .int .i64, .int .i64, .int .i64] fun (x18 : Int × Int × Int × Int × Int × Int × Unit) =>
  LoadS w15 ⟨b1, 6, none⟩ .sl fun (x19 : SlV) =>
  CallV Try.prog 43 #[.agg #[.int .i64 x18.1, .int .i64 x18.2.1, .int .i64 x18.2.2.1, .int .i64 x18.2.2.2.1, .int .i64 x18.2.2.2.2.1, .int .i64 x18.2.2.2.2.2.1], .slice x19.a x19.n x19.c] w15 [.one .ptr, .one (.int .i64)] fun (r20 : (Option Addr) × Int × Unit) w21 =>
  LoadA w21 ⟨b1, 0, none⟩ [.int .i64, .int .i64, .int .i64, .int .i64, .int .i64, .int .i64] fun (x22 : Int × Int × Int × Int × Int × Int × Unit) =>
  LoadS w21 ⟨b1, 6, none⟩ .sl fun (x23 : SlV) =>
  CallV Try.prog 44 #[.agg #[.int .i64 x22.1, .int .i64 x22.2.1, .int .i64 x22.2.2.1, .int .i64 x22.2.2.2.1, .int .i64 x22.2.2.2.2.1, .int .i64 x22.2.2.2.2.2.1], .slice x23.a x23.n x23.c] w21 [.agg [.int .i64, .int .i64, .int .i64, .int .i64, .int .i64, .int .i64, .sl, .sl, .bool, .int .i64]] fun (r24 : (Int × Int × Int × Int × Int × Int × SlV × SlV × Bool × Int × Unit) × Unit) w25 =>
  NewV #[.int .i64 0, .int .i64 0, .int .i64 0, .int .i64 0, .int .i64 0, .int .i64 0, .slice none 0 0, .slice none 0 0, .bool false, .int .i64 0] 88 w25 fun b26 w27 =>
  StoreV w27 ⟨b26, 0, none⟩ [.int .i64 r24.1.1, .int .i64 r24.1.2.1, .int .i64 r24.1.2.2.1, .int .i64 r24.1.2.2.2.1, .int .i64 r24.1.2.2.2.2.1, .int .i64 r24.1.2.2.2.2.2.1, .slice r24.1.2.2.2.2.2.2.1.a r24.1.2.2.2.2.2.2.1.n r24.1.2.2.2.2.2.2.1.c, .slice r24.1.2.2.2.2.2.2.2.1.a r24.1.2.2.2.2.2.2.2.1.n r24.1.2.2.2.2.2.2.2.1.c, .bool r24.1.2.2.2.2.2.2.2.2.1, .int .i64 r24.1.2.2.2.2.2.2.2.2.2.1] fun w28 =>
  NewV #[] 106 w28 fun b29 w30 =>
  JoinV [.one .sl] (fun (v32 : SlV × Unit) w33 =>
  CallV Try.prog 52 #[.pointer r20.1] w33 [.one .sl] fun (r34 : SlV × Unit) w35 =>
  cond (((r34.1.n : Nat) : Int) != ((v32.1.n : Nat) : Int))
  (K (false, ()) w35)
  (LoopV [.one (.int .i64)] ((0 : Int), ()) w35 fun (z36 : Int × Unit) w37 (K38 : Int × Unit → World → Prop) =>
  cond (decide (z36.1 < ((r34.1.n : Nat) : Int)))
  (DrawV fun D39 =>
  (0 ≤ z36.1 ∧ z36.1 < ((r34.1.n : Nat) : Int)) ∧ ∃ q40 : Addr, r34.1.a = some q40 ∧
  (D39 (q40.add (z36.1.toNat * 5)).block ∧ LoadS w37.drew (q40.add (z36.1.toNat * 5)) (.int .i64) fun (x41 : Int) =>
  (0 ≤ z36.1 ∧ z36.1 < ((v32.1.n : Nat) : Int)) ∧ ∃ q42 : Addr, v32.1.a = some q42 ∧
  (D39 (q42.add (z36.1.toNat * 5)).block ∧ LoadS w37.drew (q42.add (z36.1.toNat * 5)) (.int .i64) fun (x43 : Int) =>
  cond (x41 != x43)
  (K (false, ()) w37.drew)
  ((0 ≤ z36.1 ∧ z36.1 < ((r34.1.n : Nat) : Int)) ∧ ∃ q44 : Addr, r34.1.a = some q44 ∧
  (D39 ((q44.add (z36.1.toNat * 5)).add 1).block ∧ LoadA w37.drew ((q44.add (z36.1.toNat * 5)).add 1) [.int .i64, .int .i64] fun (x45 : Int × Int × Unit) =>
  (0 ≤ z36.1 ∧ z36.1 < ((v32.1.n : Nat) : Int)) ∧ ∃ q46 : Addr, v32.1.a = some q46 ∧
  (D39 ((q46.add (z36.1.toNat * 5)).add 1).block ∧ LoadA w37.drew ((q46.add (z36.1.toNat * 5)).add 1) [.int .i64, .int .i64] fun (x47 : Int × Int × Unit) =>
  AggEq Try.prog 81 #[.int .i64 x45.1, .int .i64 x45.2.1] #[.int .i64 x47.1, .int .i64 x47.2.1] fun e48 =>
  cond (!e48)
  (K (false, ()) w37.drew)
  ((0 ≤ z36.1 ∧ z36.1 < ((r34.1.n : Nat) : Int)) ∧ ∃ q49 : Addr, r34.1.a = some q49 ∧
  (D39 ((q49.add (z36.1.toNat * 5)).add 4).block ∧ LoadS w37.drew ((q49.add (z36.1.toNat * 5)).add 4) (.int .i64) fun (x50 : Int) =>
  (0 ≤ z36.1 ∧ z36.1 < ((v32.1.n : Nat) : Int)) ∧ ∃ q51 : Addr, v32.1.a = some q51 ∧
  (D39 ((q51.add (z36.1.toNat * 5)).add 4).block ∧ LoadS w37.drew ((q51.add (z36.1.toNat * 5)).add 4) (.int .i64) fun (x52 : Int) =>
  cond (x50 != x52)
  (K (false, ()) w37.drew)
  ((0 ≤ z36.1 ∧ z36.1 < ((r34.1.n : Nat) : Int)) ∧ ∃ q53 : Addr, r34.1.a = some q53 ∧
  (D39 ((q53.add (z36.1.toNat * 5)).add 3).block ∧ LoadS w37.drew ((q53.add (z36.1.toNat * 5)).add 3) .sl fun (x54 : SlV) =>
  (0 ≤ z36.1 ∧ z36.1 < ((v32.1.n : Nat) : Int)) ∧ ∃ q55 : Addr, v32.1.a = some q55 ∧
  (D39 ((q55.add (z36.1.toNat * 5)).add 3).block ∧ LoadS w37.drew ((q55.add (z36.1.toNat * 5)).add 3) .sl fun (x56 : SlV) =>
  CallV Try.prog 19 #[.slice x54.a x54.n x54.c, .slice x56.a x56.n x56.c] w37.drew [.one .bool] fun (r57 : Bool × Unit) w58 =>
  KeepOn D39 w37.drew w58 ∧
  cond (!r57.1)
  (K (false, ()) w58)
  (LoopV [.one (.int .i64), .one (.int .i64)] ((0 : Int), (0 : Int), ()) w58 fun (z59 : Int × Int × Unit) w60 (K61 : Int × Int × Unit → World → Prop) =>
  cond (decide (z59.2.1 ≤ z36.1))
  (JoinV [.one (.int .i64)] (fun (v63 : Int × Unit) w64 =>
  DrawV fun D65 =>
  (0 ≤ z59.2.1 ∧ z59.2.1 < ((r34.1.n : Nat) : Int)) ∧ ∃ q66 : Addr, r34.1.a = some q66 ∧
  (D65 (q66.add (z59.2.1.toNat * 5)).block ∧ LoadS w64.drew (q66.add (z59.2.1.toNat * 5)) (.int .i64) fun (x67 : Int) =>
  cond (x67 == 1)
  ((0 ≤ z59.2.1 ∧ z59.2.1 < ((r34.1.n : Nat) : Int)) ∧ ∃ q68 : Addr, r34.1.a = some q68 ∧
  (D65 ((q68.add (z59.2.1.toNat * 5)).add 1).block ∧ LoadA w64.drew ((q68.add (z59.2.1.toNat * 5)).add 1) [.int .i64, .int .i64] fun (x69 : Int × Int × Unit) =>
  (0 ≤ z36.1 ∧ z36.1 < ((r34.1.n : Nat) : Int)) ∧ ∃ q70 : Addr, r34.1.a = some q70 ∧
  (D65 ((q70.add (z36.1.toNat * 5)).add 1).block ∧ LoadA w64.drew ((q70.add (z36.1.toNat * 5)).add 1) [.int .i64, .int .i64] fun (x71 : Int × Int × Unit) =>
  AggEq Try.prog 81 #[.int .i64 x69.1, .int .i64 x69.2.1] #[.int .i64 x71.1, .int .i64 x71.2.1] fun e72 =>
  cond e72
  (Rng .i64 (v63.1 + 1) ∧
  Rng .i64 (z59.2.1 + 1) ∧
  K61 (v63.1 + 1, z59.2.1 + 1, ()) w64.drew)
  (Rng .i64 (z59.2.1 + 1) ∧
  K61 (v63.1, z59.2.1 + 1, ()) w64.drew))))
  (Rng .i64 (z59.2.1 + 1) ∧
  K61 (v63.1, z59.2.1 + 1, ()) w64.drew))) fun (J62 : Int × Unit → World → Prop) =>
  DrawV fun D73 =>
  (0 ≤ z59.2.1 ∧ z59.2.1 < ((r34.1.n : Nat) : Int)) ∧ ∃ q74 : Addr, r34.1.a = some q74 ∧
  (D73 (q74.add (z59.2.1.toNat * 5)).block ∧ LoadS w60.drew (q74.add (z59.2.1.toNat * 5)) (.int .i64) fun (x75 : Int) =>
  cond (x75 == 2)
  ((0 ≤ z59.2.1 ∧ z59.2.1 < ((r34.1.n : Nat) : Int)) ∧ ∃ q76 : Addr, r34.1.a = some q76 ∧
  (D73 ((q76.add (z59.2.1.toNat * 5)).add 4).block ∧ LoadS w60.drew ((q76.add (z59.2.1.toNat * 5)).add 4) (.int .i64) fun (x77 : Int) =>
  cond (x77 == 0)
  ((0 ≤ z59.2.1 ∧ z59.2.1 < ((r34.1.n : Nat) : Int)) ∧ ∃ q78 : Addr, r34.1.a = some q78 ∧
  (D73 ((q78.add (z59.2.1.toNat * 5)).add 1).block ∧ LoadS w60.drew ((q78.add (z59.2.1.toNat * 5)).add 1) (.int .i64) fun (x79 : Int) =>
  (0 ≤ z36.1 ∧ z36.1 < ((r34.1.n : Nat) : Int)) ∧ ∃ q80 : Addr, r34.1.a = some q80 ∧
  (D73 ((q80.add (z36.1.toNat * 5)).add 1).block ∧ LoadS w60.drew ((q80.add (z36.1.toNat * 5)).add 1) (.int .i64) fun (x81 : Int) =>
  cond (x79 == x81)
  (J62 ((0 : Int), ()) w60.drew)
  (J62 (z59.1, ()) w60.drew))))
  (J62 (z59.1, ()) w60.drew)))
  (J62 (z59.1, ()) w60.drew)))
  ((0 ≤ z36.1 ∧ z36.1 < ((r34.1.n : Nat) : Int)) ∧ ∃ q82 : Addr, r34.1.a = some q82 ∧
  LoadS w60 (q82.add (z36.1.toNat * 5)) (.int .i64) fun (x83 : Int) =>
  cond (x83 == 1)
  (cond (decide (z59.1 > 2))
  (K (false, ()) w60)
  (Rng .i64 (z36.1 + 1) ∧
  K38 (z36.1 + 1, ()) w60))
  (Rng .i64 (z36.1 + 1) ∧
  K38 (z36.1 + 1, ()) w60)))))))))))))))
  (CallV Try.prog 42 #[] w37 [.one .bool] fun (r84 : Bool × Unit) w85 =>
  K (r84.1, ()) w85))) fun (J31 : SlV × Unit → World → Prop) =>
  LoopV [.one .sl, .one (.int .i64)] ((⟨(some ⟨b29, 0, none⟩), 0, 0⟩ : SlV), (0 : Int), ()) w30 fun (z86 : SlV × Int × Unit) w87 (K88 : SlV × Int × Unit → World → Prop) =>
  LoadS w87 ⟨b1, 7, none⟩ .sl fun (x89 : SlV) =>
  cond (decide (z86.2.1 < ((x89.n : Nat) : Int)))
  (cond (decide (z86.2.1 < 20))
  (LoadS w87 ⟨b1, 7, none⟩ .sl fun (x90 : SlV) =>
  (0 ≤ z86.2.1 ∧ z86.2.1 < ((x90.n : Nat) : Int)) ∧ ∃ q91 : Addr, x90.a = some q91 ∧
  LoadA w87 (q91.add (z86.2.1.toNat * 5)) [.int .i64, .int .i64, .int .i64, .int .u8, .bool] fun (x92 : Int × Int × Int × Int × Bool × Unit) =>
  NewV #[.int .i64 0, .int .i64 0, .int .i64 0, .int .u8 0, .bool false] 93 w87 fun b93 w94 =>
  StoreV w94 ⟨b93, 0, none⟩ [.int .i64 x92.1, .int .i64 x92.2.1, .int .i64 x92.2.2.1, .int .u8 x92.2.2.2.1, .bool x92.2.2.2.2.1] fun w95 =>
  LoadS w95 ⟨b26, 9, none⟩ (.int .i64) fun (x96 : Int) =>
  LoadS w95 ⟨b1, 6, none⟩ .sl fun (x97 : SlV) =>
  CallV Try.prog 50 #[.slice x97.a x97.n x97.c, .int .i64 x96] w95 [.one (.int .i64)] fun (r98 : Int × Unit) w99 =>
  LoadA w99 ⟨b26, 0, none⟩ [.int .i64, .int .i64, .int .i64, .int .i64, .int .i64, .int .i64, .sl, .sl, .bool, .int .i64] fun (x100 : Int × Int × Int × Int × Int × Int × SlV × SlV × Bool × Int × Unit) =>
  LoadA w99 ⟨b93, 0, none⟩ [.int .i64, .int .i64, .int .i64, .int .u8, .bool] fun (x101 : Int × Int × Int × Int × Bool × Unit) =>
  CallV Try.prog 45 #[.pointer r20.1, .agg #[.int .i64 x100.1, .int .i64 x100.2.1, .int .i64 x100.2.2.1, .int .i64 x100.2.2.2.1, .int .i64 x100.2.2.2.2.1, .int .i64 x100.2.2.2.2.2.1, .slice x100.2.2.2.2.2.2.1.a x100.2.2.2.2.2.2.1.n x100.2.2.2.2.2.2.1.c, .slice x100.2.2.2.2.2.2.2.1.a x100.2.2.2.2.2.2.2.1.n x100.2.2.2.2.2.2.2.1.c, .bool x100.2.2.2.2.2.2.2.2.1, .int .i64 x100.2.2.2.2.2.2.2.2.2.1], .agg #[.int .i64 x101.1, .int .i64 x101.2.1, .int .i64 x101.2.2.1, .int .u8 x101.2.2.2.1, .bool x101.2.2.2.2.1]] w99 [.agg [.int .i64, .int .i64, .int .i64, .int .i64, .int .i64, .int .i64, .sl, .sl, .bool, .int .i64], .one .bool] fun (r102 : (Int × Int × Int × Int × Int × Int × SlV × SlV × Bool × Int × Unit) × Bool × Unit) w103 =>
  StoreV w103 ⟨b26, 0, none⟩ [.int .i64 r102.1.1, .int .i64 r102.1.2.1, .int .i64 r102.1.2.2.1, .int .i64 r102.1.2.2.2.1, .int .i64 r102.1.2.2.2.2.1, .int .i64 r102.1.2.2.2.2.2.1, .slice r102.1.2.2.2.2.2.2.1.a r102.1.2.2.2.2.2.2.1.n r102.1.2.2.2.2.2.2.1.c, .slice r102.1.2.2.2.2.2.2.2.1.a r102.1.2.2.2.2.2.2.2.1.n r102.1.2.2.2.2.2.2.2.1.c, .bool r102.1.2.2.2.2.2.2.2.2.1, .int .i64 r102.1.2.2.2.2.2.2.2.2.2.1] fun w104 =>
  LoadS w104 ⟨b26, 9, none⟩ (.int .i64) fun (x105 : Int) =>
  cond (x105 == x96)
  (Rng .i64 (z86.2.1 + 1) ∧
  K88 (z86.1, z86.2.1 + 1, ()) w104)
  (LoadS w104 ⟨b93, 0, none⟩ (.int .i64) fun (x106 : Int) =>
  LoadS w104 ⟨b93, 1, none⟩ (.int .i64) fun (x107 : Int) =>
  NewV #[.int .i64 0, .int .i64 0, .int .i64 0, .slice none 0 0, .int .i64 0] 106 w104 fun b108 w109 =>
  StoreV w109 ⟨b108, 0, none⟩ [.int .i64 x106, .int .i64 x107, .int .i64 0, .slice none 0 0, .int .i64 0] fun w110 =>
  JoinV [] (fun (v112 : Unit) w113 =>
  JoinV [] (fun (v115 : Unit) w116 =>
  LoadA w116 ⟨b108, 0, none⟩ [.int .i64, .int .i64, .int .i64, .sl, .int .i64] fun (x117 : Int × Int × Int × SlV × Int × Unit) =>
  NewV #[.int .i64 x117.1, .int .i64 x117.2.1, .int .i64 x117.2.2.1, .slice x117.2.2.2.1.a x117.2.2.2.1.n x117.2.2.2.1.c, .int .i64 x117.2.2.2.2.1] 106 w116 fun b118 w119 =>
  AppS w119 (some ⟨b118, 0, none⟩) 1 5 fun ns124 =>
  AppV w119 106 5 56 z86.1.a z86.1.n z86.1.c ns124 1 fun a120 n121 c122 w123 =>
  Rng .i64 (z86.2.1 + 1) ∧
  K88 ((⟨a120, n121, c122⟩ : SlV), z86.2.1 + 1, ()) w123) fun (J114 : Unit → World → Prop) =>
  cond (decide (r98.1 ≥ 0))
  (StoreV w113 ⟨b108, 4, none⟩ [.int .i64 5] fun w125 =>
  LoadS w125 ⟨b1, 6, none⟩ .sl fun (x126 : SlV) =>
  (0 ≤ r98.1 ∧ r98.1 < ((x126.n : Nat) : Int)) ∧ ∃ q127 : Addr, x126.a = some q127 ∧
  LoadS w125 ((q127.add (r98.1.toNat * 3)).add 1) .bool fun (x128 : Bool) =>
  cond x128
  (StoreV w125 ⟨b108, 4, none⟩ [.int .i64 4] fun w129 =>
  J114 (()) w129)
  (J114 (()) w125))
  (J114 (()) w113)) fun (J111 : Unit → World → Prop) =>
  LoadS w110 ⟨b93, 0, none⟩ (.int .i64) fun (x130 : Int) =>
  cond (x130 == 1)
  (LoadA w110 ⟨b93, 1, none⟩ [.int .i64, .int .i64] fun (x131 : Int × Int × Unit) =>
  StoreV w110 ⟨b108, 1, none⟩ [.int .i64 x131.1, .int .i64 x131.2.1] fun w132 =>
  LoadS w132 ⟨b1, 2, none⟩ (.int .i64) fun (x133 : Int) =>
  Rng .i64 (x133 + 88) ∧
  LoadS w132 ⟨b93, 3, none⟩ (.int .u8) fun (x134 : Int) =>
  CallV Try.prog 51 #[.int .i64 (x133 + 88), .int .u8 x134] w132 [.one .sl] fun (r135 : SlV × Unit) w136 =>
  StoreV w136 ⟨b108, 3, none⟩ [.slice r135.1.a r135.1.n r135.1.c] fun w137 =>
  J111 (()) w137)
  (J111 (()) w110)))
  (J31 (z86.1, ()) w87))
  (J31 (z86.1, ()) w87))))
theorem law13_NandTraces.vc (p0_0 : Int) (p0_1 : Int) (p0_2 : Int) (p0_3 : Int) (p0_4 : Int) (p0_5 : Int) (a0_6 : Option Addr) (n0_6 c0_6 : Nat) (a0_7 : Option Addr) (n0_7 c0_7 : Nat) (w : World) (K : Bool × Unit → World → Prop) (h : law13_NandTraces.P p0_0 p0_1 p0_2 p0_3 p0_4 p0_5 a0_6 n0_6 c0_6 a0_7 n0_7 c0_7 w K) : CallV Try.prog 13 #[.agg #[.int .i64 p0_0, .int .i64 p0_1, .int .i64 p0_2, .int .i64 p0_3, .int .i64 p0_4, .int .i64 p0_5, .slice a0_6 n0_6 c0_6, .slice a0_7 n0_7 c0_7]] w [.one .bool] K := by
  have e : vcFun Try.prog okf false Try.f13 law13_NandTraces.A #[.agg #[.int .i64 p0_0, .int .i64 p0_1, .int .i64 p0_2, .int .i64 p0_3, .int .i64 p0_4, .int .i64 p0_5, .slice a0_6 n0_6 c0_6, .slice a0_7 n0_7 c0_7]] w [.one .bool] K = law13_NandTraces.P p0_0 p0_1 p0_2 p0_3 p0_4 p0_5 a0_6 n0_6 c0_6 a0_7 n0_7 c0_7 w K := by kernel_rfl
  exact vcFun.calls okf_ok follows Try.func13 (e.symm ▸ h)

end Go.Proofs.Ytfpkaebmiojicaa.Vc

/-! The law NandTraces of layer 13: each call gives true, and what it read stays. -/
namespace Go.Proofs.Ytfpkaebmiojicaa.Vc
open Go Go.Eng Go.RowKit
set_option linter.unusedVariables false
set_option linter.unusedSimpArgs false

abbrev casV (g : Geo) (f : SlP TF.T) (s : SlP TSt.T) : List Value := [.int .i64 g.b, .int .i64 g.p, .int .i64 g.s, .int .i64 g.sp, .int .i64 g.wr, .int .i64 g.ro, .slice f.a f.n f.c, .slice s.a s.n s.c]
theorem atI_none {l : List FD} {n : Int} (h : atI l n = none) : atF l n = none := by
  unfold atI at h
  unfold atF
  rw [List.findIdx?_eq_none_iff] at h
  rw [List.find?_eq_none]
  intro x hx
  simpa using h x hx
theorem atI_some {l : List FD} {n : Int} {i : Nat} (h : atI l n = some i) : ∃ F, l[i]? = some F ∧ atF l n = some F := by
  unfold atI at h
  rw [List.findIdx?_eq_some_iff_getElem] at h
  obtain ⟨hl, hp, hlt⟩ := h
  refine ⟨l[i], List.getElem?_eq_getElem hl, ?_⟩
  unfold atF
  rw [List.find?_eq_some_iff_getElem]
  exact ⟨hp, i, hl, rfl, fun j hj => by simpa using hlt j hj⟩
theorem RdL_app {E : Nat → Prop} {w0 w : World} {A D : List (SlP Int)} {Rs : List Asr} (S : Sep E w0 w (RdL A :: RdL D :: Rs)) : Sep E w0 w (RdL (D ++ A) :: Rs) :=
  S.conv2 fun F1 F2 h1 h2 _ x hx => by
    rcases List.mem_append.1 hx with h | h
    · exact TB.rd_mono (fun k hk _ => .inr hk) (h2 x h)
    · exact TB.rd_mono (fun k hk _ => .inl hk) (h1 x h)
theorem cntL_bd : ∀ (tr : List OpD) (bl pa : Int), 0 ≤ cntL tr bl pa ∧ cntL tr bl pa ≤ tr.length := fun tr bl pa => by
  have h : ∀ (l : List OpD) (n : Int) (m : Nat), 0 ≤ n ∧ n ≤ m → 0 ≤ l.foldl (cntS bl pa) n ∧ l.foldl (cntS bl pa) n ≤ ((m + l.length : Nat) : Int) := by
    intro l
    induction l with
    | nil => intro n m h; exact ⟨h.1, by simpa using h.2⟩
    | cons o l ih =>
      intro n m h
      have h1 : 0 ≤ cntS bl pa n o ∧ cntS bl pa n o ≤ ((m + 1 : Nat) : Int) := by
        unfold cntS
        dsimp only
        split <;> split <;> omega
      have := ih (cntS bl pa n o) (m + 1) h1
      rw [List.foldl_cons, List.length_cons]
      refine ⟨this.1, ?_⟩
      have h2 := this.2
      omega
  have := h tr 0 0 ⟨by omega, by omega⟩
  unfold cntL
  refine ⟨this.1, ?_⟩
  have h2 := this.2
  omega
/-- What is known behind some steps: both arrays, and what the trace should be. -/
def TrS (w w' : World) (g : Geo) (f : SlP TF.T) (s : SlP TSt.T) (p b26 b1 : Nat) (i : Nat) (v : SlV) : Prop :=
  ∃ (C : CD) (B : SlP TBd.T) (y : Lay) (L WL : List TOp), COk C ∧ C.g = g ∧ C.ops ≤ i ∧ C.pl = fds f ∧ fds y.F = fds f ∧ B.l.map bdOf = C.bs ∧ WL.map TOp.dat = L.map TOp.dat ∧ TrI C (L.map TOp.dat) ∧ (∀ o ∈ L.map TOp.dat, o.2.2.2.1.length ≤ 1000) ∧ v.n = WL.length ∧ WL.length = C.ops ∧
    Sep NoB w w' [OwnA 106 5 v.a v.n v.c (WL.flatMap TOp.vs), RdL (WL.map (·.d)), BoxA b26 88 (chV B f C), RdT (Ty.sl TBd) B, StarA (ChipP p y C L), BoxA b1 79 (casV g f s)]
theorem NandTraces_law {w : World} {g : Geo} {f : SlP TF.T} {s : SlP TSt.T} (hf : LF.rd w All f) (hs : LSt.rd w All s) :
    CallV Try.prog 13 #[.agg (casV g f s).toArray] w [.one .bool] fun r w' => r.1 = true ∧ Ext w w' := by
  apply law13_NandTraces.vc
  unfold law13_NandTraces.P
  have S := Sep.start NoB w
  refine S.newB fun b1 w1 S f1 _ => ?_
  refine S.lb0 (o := 0) rfl ?_
  refine (Right_c (g := g)).mono ?_
  rintro ⟨(r : Bool), ⟨⟩⟩ w4 ⟨h4, x4⟩
  dsimp only at h4 ⊢
  subst h4
  have S := S.stepE x4
  by_cases hR : Right g
  case neg => exact cond_t (by rw [decide_eq_false hR]; rfl) (aw13 S.ext)
  refine cond_f (by rw [decide_eq_true hR]; rfl) ?_
  refine S.ld0 (j := 6) rfl rfl ?_
  refine (rRight12_c (Ty.rd_ext S.ext _ hf)).mono ?_
  rintro ⟨(r : Bool), ⟨⟩⟩ _ ⟨h5, rfl⟩
  dsimp only at h5 ⊢
  subst h5
  by_cases hFR : FRight (fds f)
  case neg => exact cond_t (by rw [decide_eq_false hFR]; rfl) (aw13 S.ext)
  refine cond_f (by rw [decide_eq_true hFR]; rfl) ?_
  refine S.lb0 (o := 0) rfl ?_
  refine (light_c (g := g)).mono ?_
  rintro ⟨(r : Bool), ⟨⟩⟩ w6 ⟨h6, x6⟩
  dsimp only at h6 ⊢
  subst h6
  have S := S.stepE x6
  by_cases hL : LG g
  case neg => exact cond_t (by rw [decide_eq_false hL]; rfl) (aw13 S.ext)
  refine cond_f (by rw [decide_eq_true hL]; rfl) ?_
  refine S.lb0 (o := 0) rfl (S.ld0 (j := 6) rfl rfl ?_)
  refine (New13_c (g := g) (x := f) (Ty.rd_ext S.ext _ hf) hFR.fit).mono ?_
  rintro ⟨_, (e : Int), ⟨⟩⟩ w7 ⟨x7, -, h7⟩
  obtain ⟨he, p, y, hp, hyF, S7⟩ := h7 ⟨hR, hFR⟩
  dsimp only at he hp
  subst he; subst hp
  have S := (S.frame0 S7).fold
  refine S.lb1 (o := 0) rfl (S.ld1 (j := 6) rfl rfl ?_)
  refine (rNew13_c (f := f) hR (Ty.rd_ext S.ext _ hf)).mono ?_
  rintro ⟨_, ⟨⟩⟩ w8 ⟨B, hB, hRf, x8⟩
  dsimp only at hB
  subst hB
  have S := S.push (R := RdT (Ty.sl TBd) B) (F := fun k => w7.heap.size ≤ k ∧ k < w8.heap.size) (.of x8) ((Ty.sl TBd).rd_mono (fun k h1 h2 => ⟨h1, h2⟩) hRf.rb) fun k hk => hk
  refine S.newB fun b26 w9 S f9 _ => ?_
  refine S.st0 (by rfl) fun w10 S f10 => ?_
  have hC0 : COk (newC g (fds f)) := newC_ok hR hL fun F hF => ⟨fds_byt hf F hF, hFR.fit F hF⟩
  refine S.newB fun b29 w11 S f11 _ => ?_
  have S := S.asOwn (sz := 5) (n := 0) rfl (by omega) oneAll.nil
  have S := S.nilL.sel [1, 0, 0, 0, 0, 0] rfl
  refine ⟨fun (v : SlV × Unit) w' => ∃ i, TrS w w' g f s p b26 b1 i v.1, ?_, ?_⟩
  case refine_2 =>
    refine Loop1 (fun (v : SlV × Int × Unit) w' => ∃ i : Nat, v.2.1 = (i : Int) ∧ i ≤ 20 ∧ TrS w w' g f s p b26 b1 i v.1) (fun (v : SlV × Int × Unit) _ => ((s.n : Int) - v.2.1).toNat)
      ⟨0, rfl, by omega, newC g (fds f), B, y, [], [], hC0, rfl, Nat.le_refl _, rfl, hyF, hRf.db, rfl, TrI.nil, fun o ho => by simp at ho, rfl, rfl, S⟩ ?_
    clear S7 hC0 hRf hyF S
    rintro ⟨⟨wa, wn, wc⟩, (v : Int), ⟨⟩⟩ w12 ⟨i, hv, hi, hT⟩
    dsimp only at hv hT ⊢
    subst hv
    have hT0 := hT
    obtain ⟨C, B, y, L, WL, hC, hg, ho, hpl, hyF, hdb, hWL, hTr, hsz, hwn, hwo, S⟩ := hT
    dsimp only at hwn S
    refine S.ld5 (j := 7) rfl rfl ?_
    dsimp only
    refine cond_d (fun hlt => ?_) (fun _ => ⟨i, hT0⟩)
    refine cond_d (fun h20 => ?_) (fun _ => ⟨i, hT0⟩)
    clear hT0
    refine S.ld5 (j := 7) rfl rfl ?_
    obtain ⟨q, z, hq, hz, hc, hr, hGq, hqb⟩ := Ty.nth hs (i := (i : Int)) (by omega) hlt (by decide)
    obtain ⟨zk, ⟨zb, zp, ⟨⟩⟩, zs, zo, ⟨⟩⟩ := z
    have hzs := rng_u8 hr.2.2.1
    refine ⟨⟨by omega, hlt⟩, q, hq, (zk, zb, zp, zs, zo, ()), S.ext.cells hc, ?_⟩
    refine S.newB fun b93 w13 S f13 _ => ?_
    refine S.st0 (by rfl) fun w14 S f14 => ?_
    refine S.ld3 (j := 9) rfl rfl (S.ld6 (j := 6) rfl rfl ?_)
    refine (rAt_c (n := (C.ops : Int)) (Ty.rd_ext S.ext _ hf)).mono ?_
    rintro ⟨(at_ : Int), ⟨⟩⟩ w15 ⟨hat, rfl⟩
    dsimp only at hat ⊢
    refine S.la3 rfl (S.la0 rfl ?_)
    have hfw : LF.rd w15 (fun k => k < w.heap.size ∧ ¬ NoB k) f := Ty.rd_ext S.ext _ (LF.rd_mono (fun k _ hk => ⟨hk, fun x => x⟩) hf)
    refine (stepS (p := p) (y := y) (C := C) (B := B) (f := f) (L := L) (k := zk) (bl := zb) (pa := zp) (sd := zs) (on := zo) hC (by omega) (by rw [hyF, hpl]) hpl.symm hdb hzs hfw (S.sel [4, 4, 0, 0, 0, 0, 0] rfl)).mono ?_
    rintro ⟨_, (ok : Bool), ⟨⟩⟩ w16 ⟨-, B', y', L', hr1, hF', hdb', hL', S⟩
    dsimp only at hr1
    subst hr1
    have hC' : COk (stC C zk zb zp zs zo) := stC_ok hC (by omega) hzs
    have hg' : (stC C zk zb zp zs zo).g = g := by rw [stC_same.1, hg]
    have ho' : (stC C zk zb zp zs zo).ops = C.ops + (stT C zk zb zp zs).length := stC_same.2.2
    have hTl := stT_len (C := C) (k := zk) (bl := zb) (pa := zp) (sd := zs)
    have hpl' : (stC C zk zb zp zs zo).pl = fds f := by rw [stC_same.2.1, hpl]
    have hTr' : TrI (stC C zk zb zp zs zo) (L'.map TOp.dat) := by rw [hL']; exact hTr.step hC _ _ _ _ _
    refine S.st5 (by rfl) fun w17 S f17 => ?_
    refine S.ld5 (j := 9) rfl rfl ?_
    dsimp only
    refine cond_eq (fun he => ?_) (fun he => ?_)
    · have hT : stT C zk zb zp zs = [] := List.length_eq_zero_iff.1 (by rw [ho'] at he; push_cast at he; omega)
      rw [hT, List.append_nil] at hL'
      rw [hT, List.length_nil] at ho'
      refine ⟨Rng.i64 (by omega) (by omega), ⟨i + 1, by push_cast; rfl, by omega, stC C zk zb zp zs zo, B', y', L', WL, hC', hg', by omega, hpl', by rw [hF', hpl], hdb', by rw [hWL, hL'], hTr', by rw [hL']; exact hsz, hwn, by omega, S.sel [3, 3, 3, 0, 0, 1] rfl⟩, by omega⟩
    have hT : stT C zk zb zp zs ≠ [] := fun h => he (by rw [ho', h]; simp)
    have hone := stT_one hC hT
    obtain ⟨⟨n1, n2⟩, ⟨n3, n4⟩, ⟨n5, n6⟩, n7, n8⟩ := hC.num
    subst hg
    refine S.ld2 (j := 0) rfl rfl (S.ld2 (j := 1) rfl rfl ?_)
    refine S.newB fun b108 w18 S f18 _ => ?_
    refine S.st0 (by rfl) fun w19 S f19 => ?_
    let Tl : List Asr := [RdT (Ty.sl TBd) B', StarA (ChipP p y' (stC C zk zb zp zs zo) L'), BoxA b93 93 [.int .i64 zk, .int .i64 zb, .int .i64 zp, .int .u8 zs, .bool zo], OwnA 106 5 wa wn wc (WL.flatMap TOp.vs), RdL (WL.map (·.d)), BoxA b26 88 (chV B' f (stC C zk zb zp zs zo)), BoxA b1 79 (casV C.g f s)]
    refine ⟨fun (_ : Unit) w' => ∃ d : SlP Int, d.l = (if zk = 1 then bytL (C.g.s + 88) zs else []) ∧ Sep NoB w w' (BoxA b108 106 [.int .i64 zk, .int .i64 zb, .int .i64 (if zk = 1 then zp else 0), .slice d.a d.n d.c, .int .i64 0] :: RdL [d] :: Tl), ?_, ?_⟩
    case refine_2 =>
      refine S.ld3 (j := 0) rfl rfl (cond_eq (fun h1 => ?_) (fun h1 => ?_))
      · have h1 : zk = 1 := h1
        rw [if_pos h1, if_pos h1]
        refine S.lb3 (o := 1) rfl (S.store 0 rfl 1 (by simp) fun w20 S f20 => ?_)
        dsimp only [List.take, List.drop, List.append, List.set_cons_zero, List.length_cons, List.length_nil] at S
        have r88 : Rng .i64 (C.g.s + 88) := Rng.i64 (by omega) (by omega)
        refine S.ld7 (j := 2) rfl rfl ⟨r88, S.ld3 (j := 3) rfl rfl ?_⟩
        refine (bytes_c (n := C.g.s + 88) (sd := zs) ⟨by omega, by omega⟩).mono ?_
        rintro ⟨⟨ba, bn, bc⟩, ⟨⟩⟩ w21 h21
        dsimp only
        have S := S.pushO h21.ext h21.own
        refine S.su1 (j := 3) (by rfl) fun w22 S f22 => ?_
        have S := S.conv (R' := RdL [⟨ba, bn, bc, bytL (C.g.s + 88) zs⟩]) fun G hG _ x hx => by
          rw [List.mem_singleton.1 hx]
          exact own_rdB hG (fun k hk => hk) (bytL_byt _ _)
        exact ⟨⟨ba, bn, bc, bytL (C.g.s + 88) zs⟩, rfl, S.sel [1, 0, 0, 0, 0, 0, 0, 0, 0] rfl⟩
      · have h1 : ¬ zk = 1 := h1
        rw [if_neg h1, if_neg h1]
        exact ⟨noD, rfl, (S.nilD).sel [1, 0, 0, 0, 0, 0, 0, 0, 0] rfl⟩
    rintro ⟨⟩ w20 ⟨d, hd, S⟩
    refine ⟨fun (_ : Unit) w' => Sep NoB w w' (BoxA b108 106 [.int .i64 zk, .int .i64 zb, .int .i64 (if zk = 1 then zp else 0), .slice d.a d.n d.c, .int .i64 (codeC C).1] :: RdL [d] :: Tl), ?_, ?_⟩
    case refine_2 =>
      rw [code_at]
      rw [hpl]
      cases hA : atI (fds f) (C.ops : Int) with
      | none =>
        rw [hA] at hat
        dsimp only at hat
        subst hat
        rw [atI_none hA]
        exact cond_f (decide_eq_false (by omega)) S
      | some i1 =>
        rw [hA] at hat
        dsimp only at hat
        subst hat
        obtain ⟨F, hF1, hF2⟩ := atI_some hA
        rw [hF2]
        dsimp only
        have hi1 : i1 < f.n := by rw [← LF_len hf]; exact (List.getElem?_eq_some_iff.1 hF1).1
        obtain ⟨q1, x, hq1, hx, hcx, hrx, -, hb1⟩ := LF_nth hf (i := (i1 : Int)) (by omega) (by omega)
        have hFx := LF_get hx
        rw [Int.toNat_natCast, hF1] at hFx
        cases hFx
        refine cond_t (decide_eq_true (by omega)) (S.su0 (j := 4) (by rfl) fun w21 S f21 => ?_)
        refine S.ld8 (j := 6) rfl rfl ⟨⟨by omega, by dsimp only; omega⟩, q1, hq1, ?_⟩
        refine ldc (vs := [.int .i64 x.1, .bool x.2.1, .slice x.2.2.1.a x.2.2.1.n x.2.2.1.c]) (S.ext.cells hcx) 1 (h := .bool) rfl ?_
        refine cond_of (fun hx2 => ?_) (fun hx2 => ?_)
        · rw [if_pos hx2]
          exact S.su0 (j := 4) (by rfl) fun w22 S f22 => S
        · rw [if_neg (show ¬ x.2.1 = true by rw [hx2]; decide)]
          exact S
    rintro ⟨⟩ w21 S
    refine S.la0 rfl ?_
    refine S.newB fun b118 w22 S f22 _ => ?_
    refine AppS.of (news := TOp.vs ⟨zk, zb, if zk = 1 then zp else 0, d, (codeC C).1⟩) rfl (.inr ⟨_, rfl, S.cells 0 rfl⟩) ?_
    refine S.ap6 rfl (TOp.one _) (ap_56 (by omega)) (by omega) fun a24 c24 w23 S f23 => ?_
    have hst : (stT C zk zb zp zs).length = 1 := by rw [hone]; rfl
    refine ⟨Rng.i64 (by omega) (by omega), ⟨i + 1, by push_cast; rfl, by omega, stC C zk zb zp zs zo, B', y', L', WL ++ [⟨zk, zb, if zk = 1 then zp else 0, d, (codeC C).1⟩], hC', hg', by omega, hpl', by rw [hF', hpl], hdb', ?_, hTr', ?_, ?_, ?_, ?_⟩, by omega⟩
    · rw [List.map_append, hWL, hL', hone]
      show _ ++ [(zk, zb, _, d.l, _)] = _
      rw [hd]
    · intro o ho
      rw [hL', hone] at ho
      rcases List.mem_append.1 ho with h | h
      · exact hsz o h
      · rw [List.mem_singleton.1 h]
        dsimp only
        split
        · rw [bytL_len]; omega
        · exact Nat.zero_le _
    · show wn + 1 = _
      rw [List.length_append]; simp; omega
    · rw [List.length_append]; simp; omega
    · have S := (RdL_app (S.sel [2, 6, 5, 5, 2, 2, 3] rfl)).sel [1, 0, 0, 0, 0, 0] rfl
      rw [List.flatMap_append, List.map_append]
      exact S
  clear S7 hC0 hRf hyF S
  rintro ⟨⟨wa, wn, wc⟩, ⟨⟩⟩ w12 ⟨i0, C, B, y, L, WL, hC, -, ho, -, -, -, hWL, hTr, hsz, hwn, hwo, S⟩
  dsimp only at hwn S ⊢
  refine (Trace_c (y := y) (C := C) (L := L) (Rs := [_, _, _, _, _]) hC.ops (fun o ho => by have := hsz _ (List.mem_map.2 ⟨o, ho, rfl⟩); dsimp only [TOp.dat] at this; omega) ((S.sel [4, 0, 0, 0, 0, 0] rfl).unfold (Rs := ChipP p y C L))).mono ?_
  rintro ⟨⟨ra, rn, rc⟩, ⟨⟩⟩ w13 ⟨L', hL', hrn, T⟩
  dsimp only at hrn T ⊢
  have S := (S.frame0 T).sel [0, 0, 0, 0] rfl
  clear T
  have hlL : L'.length = WL.length := by
    have h1 := congrArg List.length hL'
    have h2 := congrArg List.length hWL
    rw [List.length_map, List.length_map] at h1 h2
    omega
  have hop := hC.ops
  have hrw : rn = wn := by omega
  subst hrw
  refine cond_f (by simp) ?_
  have hr1 : rn ≤ 1000000 := by omega
  have hRl : L'.length = rn := hrn.symm
  clear hrn hwn hwo hlL hop
  refine Loop1 (fun (v : Int × Unit) w' => ∃ i : Nat, v.1 = (i : Int) ∧ i ≤ rn ∧ Sep NoB w w' [OwnA 106 5 ra rn rc (L'.flatMap TOp.vs), RdL (L'.map (·.d)), OwnA 106 5 wa rn wc (WL.flatMap TOp.vs), RdL (WL.map (·.d))]) (fun (v : Int × Unit) _ => ((rn : Int) - v.1).toNat) ⟨0, rfl, by omega, S⟩ ?_
  clear S
  rintro ⟨(v : Int), ⟨⟩⟩ w14 ⟨i, hv, hi, S⟩
  dsimp only at hv ⊢
  subst hv
  refine cond_d (fun hlt => ?_) (fun _ => aw13 S.ext)
  have nR : ∀ {w' : World} (S : Sep NoB w w' [OwnA 106 5 ra rn rc (L'.flatMap TOp.vs), RdL (L'.map (·.d)), OwnA 106 5 wa rn wc (WL.flatMap TOp.vs), RdL (WL.map (·.d))]) (k : Nat), (k : Int) < (rn : Int) →
      ∃ q o, ra = some q ∧ (L.map TOp.dat)[k]? = some o.dat ∧ L'[k]? = some o ∧ CellsAt w' (q.add (((k : Int)).toNat * 5)) o.vs ∧ q.block < w'.heap.size := fun {w'} S k hk => by
    obtain ⟨q, o, hq, ho, hc⟩ := S.nthF (f := TOp.vs) (m := 5) 0 rfl TOp_len (by decide) (j := (k : Int)) (by omega) hk
    rw [Int.toNat_natCast] at ho
    exact ⟨q, o, hq, by rw [← hL', List.getElem?_map, ho]; rfl, ho, hc, (S.own 0 rfl).lt q hq⟩
  obtain ⟨qr, o, hqr, hoD, hoL, hcr, hqrb⟩ := nR S i hlt
  obtain ⟨qw, u, hqw, hu, hcw⟩ := S.nthF (f := TOp.vs) (m := 5) 2 rfl TOp_len (by decide) (j := (i : Int)) (by omega) hlt
  rw [Int.toNat_natCast] at hu
  have hqwb := (S.own 2 rfl).lt qw hqw
  have huD : u.dat = o.dat := by
    have h1 : (WL.map TOp.dat)[i]? = some u.dat := by rw [List.getElem?_map, hu]; rfl
    rw [hWL, hoD] at h1
    exact (Option.some.inj h1).symm
  have e1 : u.k = o.k := congrArg (·.1) huD
  have e2 : u.bl = o.bl := congrArg (·.2.1) huD
  have e3 : u.pa = o.pa := congrArg (·.2.2.1) huD
  have e4 : u.d.l = o.d.l := congrArg (·.2.2.2.1) huD
  have e5 : u.e = o.e := congrArg (·.2.2.2.2) huD
  have bi : 0 ≤ (i : Int) ∧ (i : Int) < (rn : Int) := ⟨by omega, hlt⟩
  refine S.reg fun D hD hkeep S T => ?_
  have cr := (Ext.drew w14).cells hcr
  have cw := (Ext.drew w14).cells hcw
  have dr : D ((qr.add (((i : Int)).toNat * 5)).block) := by rw [add_block]; exact hD _ hqrb
  have dw : D ((qw.add (((i : Int)).toNat * 5)).block) := by rw [add_block]; exact hD _ hqwb
  refine ⟨bi, qr, hqr, dr, ldp0 cr (h := .int .i64) (x := o.k) rfl ⟨bi, qw, hqw, dw, ldp0 cw (h := .int .i64) (x := u.k) rfl (cond_f (by rw [e1]; simp) ?_)⟩⟩
  refine ⟨bi, qr, hqr, by rw [add_block]; exact dr, (o.bl, o.pa, ()), (cr.drop 1).take 2, bi, qw, hqw, by rw [add_block]; exact dw, (u.bl, u.pa, ()), (cw.drop 1).take 2, eqPl (cond_f (by rw [e2, e3]; simp) ?_)⟩
  refine ⟨bi, qr, hqr, by rw [add_block]; exact dr, ldc cr 4 (h := .int .i64) (x := o.e) rfl ⟨bi, qw, hqw, by rw [add_block]; exact dw, ldc cw 4 (h := .int .i64) (x := u.e) rfl (cond_f (by rw [e5]; simp) ?_)⟩⟩
  refine ⟨bi, qr, hqr, by rw [add_block]; exact dr, ldc cr 3 (h := .sl) (x := ⟨o.d.a, o.d.n, o.d.c⟩) rfl ⟨bi, qw, hqw, by rw [add_block]; exact dw, ldc cw 3 (h := .sl) (x := ⟨u.d.a, u.d.n, u.d.c⟩) rfl ?_⟩⟩
  obtain ⟨G1, hG1, -⟩ := S.get (i := 1) rfl
  obtain ⟨G3, hG3, -⟩ := S.get (i := 3) rfl
  refine (SameBytes_c (Ty.ints (hG1 _ (List.mem_map.2 ⟨o, List.mem_of_getElem? hoL, rfl⟩))) (Ty.ints (hG3 _ (List.mem_map.2 ⟨u, List.mem_of_getElem? hu, rfl⟩)))).mono ?_
  rintro ⟨(r : Bool), ⟨⟩⟩ w15 ⟨h15, x15⟩
  dsimp only at h15 ⊢
  subst h15
  refine ⟨hkeep _ (.of x15), cond_f (by rw [e4]; simp) ?_⟩
  have S := S.stepE x15
  refine Loop1 (fun (v : Int × Int × Unit) w' => ∃ k : Nat, v.2.1 = (k : Int) ∧ k ≤ i + 1 ∧ v.1 = cntL ((L.map TOp.dat).take k) o.bl o.pa ∧ Sep NoB w w' [OwnA 106 5 ra rn rc (L'.flatMap TOp.vs), RdL (L'.map (·.d)), OwnA 106 5 wa rn wc (WL.flatMap TOp.vs), RdL (WL.map (·.d))])
    (fun (v : Int × Int × Unit) _ => ((i : Int) + 1 - v.2.1).toNat) ⟨0, rfl, by omega, rfl, S⟩ ?_
  clear S T hcr hcw cr cw hqrb hqwb dr dw hkeep hD hG1 hG3
  rintro ⟨(cn : Int), (kk : Int), ⟨⟩⟩ w16 ⟨k, hk, hki, hcn, S⟩
  dsimp only at hk hcn ⊢
  subst hk
  subst hcn
  have hcb := cntL_bd ((L.map TOp.dat).take k) o.bl o.pa
  have htl : ((L.map TOp.dat).take k).length ≤ k := by rw [List.length_take]; omega
  refine cond_d (fun hle => ?_) (fun hgt => ?_)
  · obtain ⟨qk, x, hqk, hxD, hxL, hck, hqkb⟩ := nR S k (by omega)
    obtain ⟨qi, o2, hqi, ho2, ho2L, hci, hqib⟩ := nR S i hlt
    rw [hoL] at ho2L
    cases ho2L
    rw [hqk] at hqi
    cases hqi
    have bk : 0 ≤ (k : Int) ∧ (k : Int) < (rn : Int) := ⟨by omega, by omega⟩
    refine ⟨fun (v : Int × Unit) w' => v.1 = (if x.k = 2 ∧ x.e = 0 ∧ x.bl = o.bl then 0 else cntL ((L.map TOp.dat).take k) o.bl o.pa) ∧ Ext w16 w', ?_, ?_⟩
    case refine_2 =>
      refine S.reg fun D hD hkeep S T => ?_
      have ck := (Ext.drew w16).cells hck
      have ci := (Ext.drew w16).cells hci
      have dk : D ((qk.add (((k : Int)).toNat * 5)).block) := by rw [add_block]; exact hD _ hqkb
      have di : D ((qk.add (((i : Int)).toNat * 5)).block) := by rw [add_block]; exact hD _ hqkb
      refine ⟨bk, qk, hqk, dk, ldp0 ck (h := .int .i64) (x := x.k) rfl (cond_eq (fun h2 => ?_) (fun h2 => ⟨(if_neg fun h => h2 h.1).symm, Ext.drew _⟩))⟩
      refine ⟨bk, qk, hqk, by rw [add_block]; exact dk, ldc ck 4 (h := .int .i64) (x := x.e) rfl (cond_eq (fun h0 => ?_) (fun h0 => ⟨(if_neg fun h => h0 h.2.1).symm, Ext.drew _⟩))⟩
      refine ⟨bk, qk, hqk, by rw [add_block]; exact dk, ldc ck 1 (h := .int .i64) (x := x.bl) rfl ⟨bi, qk, hqk, by rw [add_block]; exact di, ldc ci 1 (h := .int .i64) (x := o.bl) rfl (cond_eq (fun hb => ?_) (fun hb => ?_))⟩⟩
      · exact ⟨(if_pos ⟨h2, h0, hb⟩).symm, Ext.drew _⟩
      · exact ⟨(if_neg fun h => hb h.2.2).symm, Ext.drew _⟩
    rintro ⟨(cm : Int), ⟨⟩⟩ w17 ⟨hcm, x17⟩
    dsimp only at hcm ⊢
    have hcmb : 0 ≤ cm ∧ cm ≤ k := by rw [hcm]; split <;> omega
    have S := S.stepE x17
    have hnext : ∀ v : Int, v = cntS o.bl o.pa (cntL ((L.map TOp.dat).take k) o.bl o.pa) x.dat → v = cntL ((L.map TOp.dat).take (k + 1)) o.bl o.pa := fun v h => by
      rw [List.take_add_one, hxD]
      show v = cntL (_ ++ [x.dat]) _ _
      rw [cntL_snoc]
      exact h
    refine S.reg fun D hD hkeep S T => ?_
    have ck := (x17.trans (Ext.drew w17)).cells hck
    have ci := (x17.trans (Ext.drew w17)).cells hci
    have dk : D ((qk.add (((k : Int)).toNat * 5)).block) := by rw [add_block]; exact hD _ (Nat.lt_of_lt_of_le hqkb x17.size)
    have di : D ((qk.add (((i : Int)).toNat * 5)).block) := by rw [add_block]; exact hD _ (Nat.lt_of_lt_of_le hqkb x17.size)
    have r1 : Rng .i64 ((k : Int) + 1) := Rng.i64 (by omega) (by omega)
    have r2 : Rng .i64 (cm + 1) := Rng.i64 (by omega) (by omega)
    have hcS : cntS o.bl o.pa (cntL ((L.map TOp.dat).take k) o.bl o.pa) x.dat = if x.k = 1 ∧ x.bl = o.bl ∧ x.pa = o.pa then cm + 1 else cm := by rw [hcm]; rfl
    refine ⟨bk, qk, hqk, dk, ldp0 ck (h := .int .i64) (x := x.k) rfl (cond_eq (fun h1 => ?_) (fun h1 => ?_))⟩
    · refine ⟨bk, qk, hqk, by rw [add_block]; exact dk, (x.bl, x.pa, ()), (ck.drop 1).take 2, bi, qk, hqk, by rw [add_block]; exact di, (o.bl, o.pa, ()), (ci.drop 1).take 2, eqPl (cond_d (fun hp => ?_) (fun hp => ?_))⟩
      · exact ⟨r2, r1, ⟨k + 1, by push_cast; rfl, by omega, hnext _ (by rw [hcS, if_pos ⟨h1, hp⟩]), S⟩, by omega⟩
      · exact ⟨r1, ⟨k + 1, by push_cast; rfl, by omega, hnext _ (by rw [hcS, if_neg (fun h => hp h.2)]), S⟩, by omega⟩
    · exact ⟨r1, ⟨k + 1, by push_cast; rfl, by omega, hnext _ (by rw [hcS, if_neg (fun h => h1 h.1)]), S⟩, by omega⟩
  · have hk1 : k = i + 1 := by omega
    subst hk1
    obtain ⟨qi, o2, hqi, ho2, ho2L, hci, hqib⟩ := nR S i hlt
    rw [hoL] at ho2L
    cases ho2L
    have r1 : Rng .i64 ((i : Int) + 1) := Rng.i64 (by omega) (by omega)
    refine ⟨bi, qi, hqi, ldp0 hci (h := .int .i64) (x := o.k) rfl (cond_eq (fun h1 => ?_) (fun h1 => ?_))⟩
    · have h2 := hTr.two i o.dat hoD h1
      exact cond_f (decide_eq_false (by dsimp only [TOp.dat] at h2; omega)) ⟨r1, ⟨i + 1, by push_cast; rfl, by omega, S⟩, by omega⟩
    · exact ⟨r1, ⟨i + 1, by push_cast; rfl, by omega, S⟩, by omega⟩

theorem NandTraces_of {w : World} {x : (Ty.cons TGeo (.cons LF (.cons LSt .nil))).T} (g0 : (Ty.cons TGeo (.cons LF (.cons LSt .nil))).ok w x) :
    CallV Try.prog 13 #[.agg ((Ty.cons TGeo (.cons LF (.cons LSt .nil))).vs x).toArray] w [.one .bool] fun r w' => r.1 = true ∧ Ext w w' := by
  obtain ⟨⟨b, p, s, sp, wr, ro, ⟨⟩⟩, f, l, ⟨⟩⟩ := x
  exact NandTraces_law (g := ⟨b, p, s, sp, wr, ro⟩) (f := f) (s := l) (LF.rd_of g0.2.1) (LSt.rd_of g0.2.2.1)
end Go.Proofs.Ytfpkaebmiojicaa.Vc
