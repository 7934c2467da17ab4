/- Texts in one: The contracts of layer 13: one step, done by both. The contracts of layer 13: one step, done by both: the walk. The contracts of layer 13: does the program answer; the trace. What any parameter of a law is known to be, with the sizes of what it holds: structs, arrays and slices of whole numbers, texts, and of each other. What the laws of layer 13 share. Places, and geometries, are the same where all their numbers are. The plans of functions as plain statements, printed by wip/tools/vcgen.py; the kernel holds each to the code. The law NandRuns of layer 13: each call gives true, and what it read stays. -/
import Derived.Test.YtfpkaebmiojicaaChecked
import Derived.Tactics
import Derived.Tactics2
import Derived.Laws.Small
import Derived.Laws.StructEq
import Derived.Laws.Tables
import Derived.KernelRfl
import Derived.Test.YtfpkaebmiojicaaZNandRunsd

/-! The contracts of layer 13: one step, done by both. -/
namespace Go.Eng
open Go
set_option linter.unusedVariables false
section
variable {E : Nat → Prop} {w0 w w' : World} {Rs Ts : List Asr}
/-- A call that owns the first parts, and knows that they are new. -/
theorem Sep.callB {P : Program} {g : FuncId} {args : Array Value} {l : List Sh} (Rs : List Asr) {Ts : List Asr} (S : Sep E w0 w (Rs ++ Ts)) {C : (Nat → Prop) → RT l → World → Prop}
    (hc : ∀ F, (∀ k, F k → (E k ∨ w0.heap.size ≤ k) ∧ k < w.heap.size) → Sep F w w Rs → CallV P g args w l fun r w' => C F r w') {K : RT l → World → Prop}
    (hk : ∀ F, (∀ w' Ls, Sep F w w' Ls → Sep E w0 w' (Ls ++ Ts)) → ∀ r w', C F r w' → K r w') : CallV P g args w l K := by
  obtain ⟨G, g1, g2, g3⟩ : ∃ G, StarP w Rs G ∧ (∀ k, G k → (E k ∨ w0.heap.size ≤ k) ∧ k < w.heap.size) ∧ ∀ w' Ls, Sep G w w' Ls → Sep E w0 w' (Ls ++ Ts) := by
    obtain ⟨F, h, hb⟩ := S.ex
    obtain ⟨F1, F2, h1, h2, h3, h4, h5⟩ := StarP.app.1 h
    refine ⟨F1, h1, fun k hk => hb k (h4 k hk), fun w' Ls S' => ?_⟩
    have S1 : Sep (fun k => F1 k ∨ F2 k) w w (Rs ++ Ts) := Sep.begin (StarP.app.2 ⟨F1, F2, h1, h2, h3, fun _ => .inl, fun _ => .inr⟩) fun k hk => hk.elim (fun x => (hb k (h4 k x)).2) (fun x => (hb k (h5 k x)).2)
    obtain ⟨G, g1, g2⟩ := S'.ex
    refine ⟨S.fr.trans' S'.fr fun k hk => (hb k (h4 k hk)).1, fun k => G k ∨ F2 k, StarP.app.2 ⟨G, F2, g1, h2.st fun k hk => S'.fr.block k (hb k (h5 k hk)).2 fun x => h3 k x hk, fun k hk hf => ?_, fun k => .inl, fun k => .inr⟩, fun k hk => ?_⟩
    · rcases (g2 k hk).1 with x | x
      · exact h3 k x hf
      · have := (hb k (h5 k hf)).2; omega
    · rcases hk with hk | hk
      · refine ⟨?_, (g2 k hk).2⟩
        rcases (g2 k hk).1 with x | x
        · exact (hb k (h4 k x)).1
        · have := S.fr.size; exact .inr (by omega)
      · exact ⟨(hb k (h5 k hk)).1, Nat.lt_of_lt_of_le (hb k (h5 k hk)).2 S'.fr.size⟩
  exact (hc G g2 (Sep.begin g1 fun k hk => (g2 k hk).2)).mono fun r w' h => hk G g3 r w' h
/-- An open order in which only the first parts are written. -/
theorem Sep.regC (Rs : List Asr) {Ts : List Asr} (S : Sep E w0 w (Rs ++ Ts)) {body : (Nat → Prop) → Prop}
    (h : ∀ F D : Nat → Prop, (∀ k, F k → (E k ∨ w0.heap.size ≤ k) ∧ k < w.heap.size) → Sep F w.drew w.drew Rs → Sep E w0 w.drew (Rs ++ Ts) → (∀ (i : Nat) (b : Nat) (e : TypeId) (vs : List Value), Ts[i]? = some (BoxA b e vs) → D b) → (∀ b, b < w0.heap.size → ¬ E b → D b) → (∀ w', Fr F w.drew w' → KeepOn D w.drew w') → (∀ w' Ls, Sep F w.drew w' Ls → Sep E w0 w' (Ls ++ Ts)) → body D) : DrawV body := by
  have S := S.drew
  obtain ⟨F, hF, hb⟩ := S.ex
  obtain ⟨F1, F2, h1, h2, h3, h4, h5⟩ := StarP.app.1 hF
  have hsz : w0.heap.size ≤ w.drew.heap.size := S.fr.size
  refine DrawV.but F1 w fun D hD hk => h F1 D (fun k hk => hb k (h4 k hk)) (Sep.begin h1 fun k hk => (hb k (h4 k hk)).2) S (fun i b e vs hi => ?_) (fun b hb1 hb2 => ?_) hk fun w' Ls S' => ?_
  · obtain ⟨G, g1, g2⟩ := StarP.get hi h2
    exact hD b (hb b (h5 b (g2 b g1.1))).2 fun x => h3 b x (g2 b g1.1)
  · refine hD b (Nat.lt_of_lt_of_le hb1 hsz) fun x => ?_
    rcases (hb b (h4 b x)).1 with y | y
    · exact hb2 y
    · omega
  · obtain ⟨G, g1, g2⟩ := S'.ex
    refine ⟨S.fr.trans' S'.fr fun k hk => (hb k (h4 k hk)).1, fun k => G k ∨ F2 k, StarP.app.2 ⟨G, F2, g1, h2.st fun k hk => S'.fr.block k (hb k (h5 k hk)).2 fun x => h3 k x hk, fun k hk hf => ?_, fun k => .inl, fun k => .inr⟩, fun k hk => ?_⟩
    · rcases (g2 k hk).1 with x | x
      · exact h3 k x hf
      · have := (hb k (h5 k hf)).2; omega
    · rcases hk with hk | hk
      · refine ⟨?_, (g2 k hk).2⟩
        rcases (g2 k hk).1 with x | x
        · exact (hb k (h4 k x)).1
        · exact .inr (by omega)
      · exact ⟨(hb k (h5 k hk)).1, Nat.lt_of_lt_of_le (hb k (h5 k hk)).2 S'.fr.size⟩
end
end Go.Eng
namespace Go.Proofs.Ytfpkaebmiojicaa.Vc
open Go Go.Eng Go.RowKit
set_option linter.unusedVariables false
set_option linter.unusedSimpArgs false

/-- A page's bytes of a seed. -/
def bytL (n sd : Int) : List Int := (List.range n.toNat).map fun (i : Nat) => Go.bits .or .u8 sd (IntKind.u8.wrap (IntKind.u8.wrap (i : Int) * sd))
theorem bytL_len (n sd : Int) : (bytL n sd).length = n.toNat := by simp [bytL]
theorem bytL_byt (n sd : Int) : Byt (bytL n sd) := fun v hv => by
  obtain ⟨i, -, rfl⟩ := List.mem_map.1 hv
  exact bits8_byt _ _ _
theorem bytes_c {w : World} {n sd : Int} (hn : 0 ≤ n ∧ n ≤ 1000) : CallV Try.prog 51 #[.int .i64 n, .int .u8 sd] w [.one .sl] fun r w' => Res w w' r.1 (bytL n sd) := by
  apply law13_bytes.vc
  unfold law13_bytes.P
  have S := Sep.start NoB w
  refine S.newB fun b1 w1 S f1 _ => ?_
  have S := S.asOwn (sz := 1) (n := 0) rfl (by omega) oneAll.nil
  refine Loop1 (fun (v : SlV × Int × Unit) w' => ∃ i : Nat, v.2.1 = (i : Int) ∧ (i : Int) ≤ n ∧ v.1.n = i ∧ Sep NoB w w' [OwnA 5 1 v.1.a v.1.n v.1.c ((bytL (i : Int) sd).map (Value.int .u8))]) (fun (v : SlV × Int × Unit) _ => (n - v.2.1).toNat) ⟨0, rfl, by omega, rfl, S⟩ ?_
  rintro ⟨⟨a, m, c⟩, (v : Int), ⟨⟩⟩ w4 ⟨i, hv, hi, hm, S⟩
  dsimp only at hv hm S ⊢
  subst hv
  subst hm
  refine cond_d (fun hlt => ?_) (fun hge => ?_)
  · refine S.newB fun b6 w5 S f5 _ => ?_
    refine AppS.of (news := [.int .u8 (Go.bits .or .u8 sd (IntKind.u8.wrap (IntKind.u8.wrap (m : Int) * sd)))]) rfl (.inr ⟨_, rfl, S.cells 0 rfl⟩) ?_
    refine S.ap1 rfl (fun u hu => by rw [List.mem_singleton.1 hu]; rfl) (by omega) (by omega) fun a' c' w6 S f6 => ⟨Rng.i64 (by omega) (by omega), ⟨m + 1, by push_cast; rfl, by omega, rfl, ?_⟩, by omega⟩
    have e : (bytL ((m + 1 : Nat) : Int) sd).map (Value.int .u8) = (bytL (m : Int) sd).map (Value.int .u8) ++ [.int .u8 (Go.bits .or .u8 sd (IntKind.u8.wrap (IntKind.u8.wrap (m : Int) * sd)))] := by
      unfold bytL
      rw [Int.toNat_natCast, Int.toNat_natCast, List.range_succ, List.map_append, List.map_append]
      rfl
    rw [e]
    exact S.sel [1] rfl
  · have : (m : Int) = n := by omega
    subst this
    exact S.out

theorem light_c {w : World} {g : Geo} : CallV Try.prog 41 #[g.val] w [.one .bool] fun r w' => r.1 = decide (LG g) ∧ Ext w w' := by
  apply law13_light.vc
  unfold law13_light.P
  have S := Sep.start NoB w
  refine S.newB fun b1 w1 S f1 _ => ?_
  unfold LG
  refine S.ld0 rfl rfl (cond_d (fun h1 => ?_) fun h1 => ⟨(decide_eq_false fun h => h1 h.1).symm, S.ext⟩)
  refine S.ld0 rfl rfl (cond_d (fun h2 => ?_) fun h2 => ⟨(decide_eq_false fun h => h2 h.2.1).symm, S.ext⟩)
  refine S.ld0 rfl rfl ⟨decide_eq_decide.2 ⟨fun h => ⟨h1, h2, h⟩, fun h => h.2.2⟩, S.ext⟩

/-! ### A step -/
def datC (C : CD) (sd : Int) : List Int := if sd = 7 then (bytL (C.g.s + 88) sd).drop 1 else bytL (C.g.s + 88) sd
/-- What a step makes of an array: a program 1, an erase 2, a scrub 3, a byte changed 4, the power 5. -/
def stC (C : CD) (k bl pa sd : Int) (on : Bool) : CD :=
  if k = 1 then (progC C bl pa (datC C sd)).1 else if k = 2 then (eraC C bl).1 else if k = 3 then (scrC C bl).1 else if k = 4 then (pokC C bl pa pa sd).1 else if k = 5 then { C with off := !on } else C
/-- What it leaves in the trace. -/
def stT (C : CD) (k bl pa sd : Int) : List (Int × Int × Int × List Int × Int) :=
  if k = 1 then (if refC C bl pa (datC C sd).length = 0 then [(1, bl, pa, datC C sd, (codeC C).1)] else []) else if k = 2 then (if mayC C bl = 0 then [(2, bl, 0, [], (codeC C).1)] else []) else if k = 3 then (if mayC C bl = 0 then [(3, bl, 0, [], (codeC C).1)] else []) else []
theorem datC_len {C : CD} (hC : COk C) (sd : Int) : (datC C sd).length ≤ szP C.g ∧ Byt (datC C sd) := by
  obtain ⟨-, -, -, n7, n8⟩ := hC.num
  have e : (C.g.s + 88).toNat = szP C.g := rfl
  unfold datC
  split
  · exact ⟨by rw [List.length_drop, bytL_len]; omega, (bytL_byt _ _).drop 1⟩
  · exact ⟨by rw [bytL_len]; omega, bytL_byt _ _⟩
theorem stC_ok {C : CD} (hC : COk C) (ho : C.ops < 1000000) {k bl pa sd : Int} {on : Bool} (hs : 0 ≤ sd ∧ sd < 256) : COk (stC C k bl pa sd on) := by
  unfold stC
  split
  · unfold progC
    split
    · exact progX_ok hC (by assumption) (datC_len hC sd).2 ho
    · exact hC
  split
  · unfold eraC
    split
    · exact eraX_ok hC (by assumption) ho
    · exact hC
  split
  · unfold scrC
    split
    · exact scrX_ok hC (by assumption) ho
    · exact hC
  split
  · exact pokC_ok hC hs
  split
  · exact ⟨hC.g, hC.lg, hC.bl, hC.bo, hC.pm, hC.ops⟩
  · exact hC
theorem stC_same {C : CD} {k bl pa sd : Int} {on : Bool} : (stC C k bl pa sd on).g = C.g ∧ (stC C k bl pa sd on).pl = C.pl ∧ (stC C k bl pa sd on).ops = C.ops + (stT C k bl pa sd).length := by
  unfold stC stT
  split
  · unfold progC; split <;> exact ⟨rfl, rfl, rfl⟩
  split
  · unfold eraC; split <;> exact ⟨rfl, rfl, rfl⟩
  split
  · unfold scrC; split <;> exact ⟨rfl, rfl, rfl⟩
  split
  · unfold pokC
    split
    · exact ⟨rfl, rfl, rfl⟩
    split <;> exact ⟨rfl, rfl, rfl⟩
  split <;> exact ⟨rfl, rfl, rfl⟩
theorem stT_len {C : CD} {k bl pa sd : Int} : (stT C k bl pa sd).length ≤ 1 := by
  unfold stT
  repeat' split
  all_goals simp
end Go.Proofs.Ytfpkaebmiojicaa.Vc

/-! The contracts of layer 13: one step, done by both: the walk. -/
namespace Go.Proofs.Ytfpkaebmiojicaa.Vc
open Go Go.Eng Go.RowKit
set_option linter.unusedVariables false
set_option linter.unusedSimpArgs false

/-- What a step leaves: both arrays, and the trace. -/
def StepR (F : Nat → Prop) (w w' : World) (p : Nat) (y : Lay) (C' : CD) (L : List TOp) (tr : List (Int × Int × Int × List Int × Int)) (f : SlP TF.T) (r : Int × Int × Int × Int × Int × Int × SlV × SlV × Bool × Int × Unit) : Prop :=
  ∃ (B' : SlP TBd.T) (ta : Option Addr) (tc : Nat) (L' : List TOp), r = chT B' f C' ∧ B'.l.map bdOf = C'.bs ∧ L'.map TOp.dat = L.map TOp.dat ++ tr ∧ Sep F w w' (RdT (Ty.sl TBd) B' :: ChipP p (upT y ta tc) C' L')

section
variable {E : Nat → Prop} {w0 w : World} {B : SlP TBd.T} {f : SlP TF.T} {C : CD} {Ts : List Asr}
/-- A call of the document's array: the answer is a part of its own. -/
theorem refCall {fn : FuncId} {args : Array Value} {l : List Sh} {get : RT l → Int × Int × Int × Int × Int × Int × SlV × SlV × Bool × Int × Unit} {C' : CD} {Q : RT l → Prop} (S : Sep E w0 w (RdT (Ty.sl TBd) B :: Ts)) (hdb : B.l.map bdOf = C.bs) (hf : LF.rd w All f) (hdf : fds f = C.pl)
    (hc : ∀ H : Nat → Prop, (∀ k, w.heap.size ≤ k → H k) → RefR H w B f C → CallV Try.prog fn args w l fun r w' => ∃ B' : SlP TBd.T, get r = chT B' f C' ∧ Q r ∧ RefR H w' B' f C' ∧ Ext w w') {K : RT l → World → Prop}
    (hk : ∀ r w' (B' : SlP TBd.T), get r = chT B' f C' → Q r → B'.l.map bdOf = C'.bs → Ext w w' → Sep E w0 w' (RdT (Ty.sl TBd) B' :: Ts) → K r w') : CallV Try.prog fn args w l K := by
  obtain ⟨F, h1, h2, h3⟩ := Sep.frame1 S
  refine (hc (fun k => F k ∨ w.heap.size ≤ k) (fun k hk => .inr hk) ⟨(Ty.sl TBd).rd_mono (fun k hk _ => .inl hk) h1, hdb, hf, hdf⟩).mono ?_
  rintro r w' ⟨B', g1, g2, g3, g4⟩
  refine hk r w' B' g1 g2 g3.db g4 (h3 w' [_] ⟨(Fr.of g4).any, fun k => (F k ∨ w.heap.size ≤ k) ∧ k < w'.heap.size, ⟨fun k => (F k ∨ w.heap.size ≤ k) ∧ k < w'.heap.size, NoB, (Ty.sl TBd).rd_mono (fun k hk hl => ⟨hk, hl⟩) g3.rb, trivial, fun _ _ x => x, fun _ x => x, fun _ x => x.elim⟩, fun k hk => hk⟩)
end

section
variable {F : Nat → Prop} {w : World} {p : Nat} {y : Lay} {C : CD} {L : List TOp} {B : SlP TBd.T} {f : SlP TF.T}
theorem step13_c {k bl pa sd : Int} {on : Bool} (hC : COk C) (ho : C.ops < 1000000) (hF : fds y.F = C.pl) (hdf : fds f = C.pl) (hdb : B.l.map bdOf = C.bs) (hsd : 0 ≤ sd ∧ sd < 256) (hf : LF.rd w (fun k => ¬ F k) f) (S : Sep F w w (RdT (Ty.sl TBd) B :: ChipP p y C L)) :
    CallV Try.prog 45 #[.pointer (some ⟨p, 0, none⟩), chVal B f C, .agg #[.int .i64 k, .int .i64 bl, .int .i64 pa, .int .u8 sd, .bool on]] w [.agg SH10, .one .bool] fun r w' =>
      r.2.1 = true ∧ StepR F w w' p y (stC C k bl pa sd on) L (stT C k bl pa sd) f r.1 := by
  apply law13_step.vc
  unfold law13_step.P
  obtain ⟨⟨n1, n2⟩, ⟨n3, n4⟩, ⟨n5, n6⟩, n7, n8⟩ := hC.num
  have S := (S.perm (List.perm_append_comm (l₁ := [RdT (Ty.sl TBd) B]) (l₂ := ChipP p y C L))).fold (Rs := ChipP p y C L) (Ts := [RdT (Ty.sl TBd) B])
  refine S.newB fun b1 w1 S f1 _ => ?_
  refine S.newB fun b3 w3 S f3 _ => ?_
  refine S.newB fun b5 w5 S f5 _ => ?_
  have r88 : Rng .i64 (C.g.s + 88) := Rng.i64 (by omega) (by omega)
  refine S.ld2 (j := 2) rfl rfl ⟨r88, S.ld1 (j := 3) rfl rfl ?_⟩
  refine (bytes_c (n := C.g.s + 88) (sd := sd) ⟨by omega, by omega⟩).mono ?_
  rintro ⟨⟨ba, bn, bc⟩, ⟨⟩⟩ w10 h10
  dsimp only
  have S := S.pushO h10.ext h10.own
  have h10l := h10.ints.len
  have h10c := h10.ints.cap
  rw [bytL_len] at h10l
  dsimp only at h10l h10c
  refine ⟨fun (v : SlV × Unit) w' => v.1.n ≤ 1000 ∧ Sep F w w' [RdL [⟨v.1.a, v.1.n, v.1.c, datC C sd⟩], BoxA b5 88 zCH, BoxA b3 93 [.int .i64 k, .int .i64 bl, .int .i64 pa, .int .u8 sd, .bool on], BoxA b1 88 (chV B f C), StarA (ChipP p y C L), RdT (Ty.sl TBd) B], ?_, ?_⟩
  case refine_2 =>
    refine S.ld2 (j := 3) rfl rfl (cond_eq (fun h7 => ?_) (fun h7 => ?_))
    · refine ⟨⟨by omega, by omega⟩, ?_⟩
      intro a95 ha95
      refine ⟨by dsimp only; omega, ?_⟩
      unfold datC
      rw [if_pos h7]
      refine S.conv fun G hG _ x hx => ?_
      rw [List.mem_singleton.1 hx]
      have h8 := TB_sub (l := 1) (hh := bn) (m := bc) (own_rdB (n := bn) (c := bc) hG (G := G) (fun k hk => hk) (bytL_byt _ _)) (by omega) (by omega) (by omega) ha95
      rw [List.take_of_length_le (by rw [List.length_drop, bytL_len]; omega)] at h8
      exact h8
    · refine ⟨by dsimp only; omega, ?_⟩
      unfold datC
      rw [if_neg h7]
      refine S.conv fun G hG _ x hx => ?_
      rw [List.mem_singleton.1 hx]
      exact own_rdB hG (fun k hk => hk) (bytL_byt _ _)
  rintro ⟨⟨va, vn, vc⟩, ⟨⟩⟩ w13 ⟨hvn, S⟩
  dsimp only at hvn S ⊢
  have hf13 : LF.rd w13 All f := LF.rd_mono (fun _ _ _ => trivial) (LF.rd_kp (fun k hk hl => S.fr.block k hl hk) hf)
  have hx13 : Ints w13 .u8 va vn vc (datC C sd) := by
    obtain ⟨G, hG, -⟩ := S.get (i := 0) rfl
    exact Ty.ints (hG _ (List.mem_singleton.2 rfl))
  have fin : ∀ {w' : World} {B' : SlP TBd.T} {C' : CD} {tr : List (Int × Int × Int × List Int × Int)} {ta : Option Addr} {tc : Nat} {L' : List TOp} {R1 R2 R3 R4 : Asr}, C' = stC C k bl pa sd on → tr = stT C k bl pa sd → B'.l.map bdOf = C'.bs → L'.map TOp.dat = L.map TOp.dat ++ tr →
      Sep F w w' [StarA (ChipP p (upT y ta tc) C' L'), R1, R2, R3, R4, RdT (Ty.sl TBd) B'] → StepR F w w' p y (stC C k bl pa sd on) L (stT C k bl pa sd) f (chT B' f C') := by
    intro w' B' C' tr ta tc L' R1 R2 R3 R4 h1 h2 h3 h4 S
    subst h1; subst h2
    refine ⟨B', ta, tc, L', rfl, h3, h4, ?_⟩
    exact ((S.sel [0, 4] rfl).unfold (Rs := ChipP p (upT y ta tc) _ L')).perm List.perm_append_comm
  refine S.ld2 (j := 0) rfl rfl (cond_eq (fun h1 => ?_) (fun h1 => ?_))
  · have h1 : k = 1 := h1
    refine S.la3 rfl (S.lb2 (o := 1) rfl ?_)
    refine refCall (l := [.agg SH10, .one (.int .i64)]) (get := fun r => r.1) (C' := (progC C bl pa (datC C sd)).1) (Q := fun r => r.2.1 = (progC C bl pa (datC C sd)).2) (S.sel [5, 0, 0, 0, 0, 0] rfl) hdb hf13 hdf (fun H hH hR => rProgram13_c hH hR hC ho hx13 (datC_len hC sd).2) ?_
    rintro ⟨_, (e : Int), ⟨⟩⟩ w18 B' hr he hdb' X18 S
    dsimp only at hr he
    subst hr; subst he
    refine S.newB fun b19 w20 S f20 _ => ?_
    refine S.st0 (by rfl) fun w21 S f21 => ?_
    have S := S.sel [6, 2, 2, 0, 1, 0] rfl
    refine Sep.regC [_, _, _] S fun G D hG T S hDt hDo hkeep back => ?_
    refine ⟨hDt 0 _ _ _ rfl, S.la3 rfl ⟨hDt 1 _ _ _ rfl, S.lb4 (o := 1) rfl ?_⟩⟩
    refine Sep.call (ChipQ p y C L [RdL [⟨va, vn, vc, datC C sd⟩]]) (T.unfold (Rs := ChipP p y C L)) (fun G SG => Program13_c (dd := ⟨va, vn, vc, datC C sd⟩) hC hF (by dsimp only; omega) SG) fun G fr r w26 hr => ?_
    obtain ⟨e1, ta, tc, L', hL', S3⟩ := hr
    have T := Sep.fold (Rs := ChipP p (upT y ta tc) (progC C bl pa (datC C sd)).1 L') (Ts := [RdL [⟨va, vn, vc, datC C sd⟩], BoxA b5 _ zCH]) (fr _ _ S3)
    refine ⟨hkeep _ T.fr, T.st2 (by rfl) fun w27 T f27 => ⟨hkeep _ T.fr, T.la2 rfl ⟨?_, ?_⟩⟩⟩
    · rw [e1]; exact beq_self_eq_true _
    · exact fin (by unfold stC; rw [if_pos h1]) (by unfold stT; rw [if_pos h1]) hdb' hL' (back _ _ T)
  refine cond_eq (fun h2 => ?_) (fun h2 => ?_)
  · have h2 : k = 2 := h2
    refine S.la3 rfl (S.ld2 (j := 1) rfl rfl ?_)
    refine refCall (l := [.agg SH10, .one (.int .i64)]) (get := fun r => r.1) (C' := (eraC C bl).1) (Q := fun r => r.2.1 = (eraC C bl).2) (S.sel [5, 0, 0, 0, 0, 0] rfl) hdb hf13 hdf (fun H hH hR => rErase13_c hH hR hC ho) ?_
    rintro ⟨_, (e : Int), ⟨⟩⟩ w18 B' hr he hdb' X18 S
    dsimp only at hr he
    subst hr; subst he
    refine S.newB fun b19 w20 S f20 _ => ?_
    refine S.st0 (by rfl) fun w21 S f21 => ?_
    have S := S.sel [6, 2, 2, 0, 1, 0] rfl
    refine Sep.regC [_, _, _] S fun G D hG T S hDt hDo hkeep back => ?_
    refine ⟨hDt 0 _ _ _ rfl, S.la3 rfl ⟨hDt 1 _ _ _ rfl, S.ld4 (j := 1) rfl rfl ?_⟩⟩
    refine Sep.call (ChipP p y C L) (T.unfold (Rs := ChipP p y C L)) (fun G SG => Erase13_c hC hF SG) fun G fr r w26 hr => ?_
    obtain ⟨e1, ta, tc, L', hL', S3⟩ := hr
    have T := Sep.fold (Rs := ChipP p (upT y ta tc) (eraC C bl).1 L') (Ts := [RdL [⟨va, vn, vc, datC C sd⟩], BoxA b5 _ zCH]) (fr _ _ S3)
    refine ⟨hkeep _ T.fr, T.st2 (by rfl) fun w27 T f27 => ⟨hkeep _ T.fr, T.la2 rfl ⟨?_, ?_⟩⟩⟩
    · rw [e1]; exact beq_self_eq_true _
    · exact fin (by unfold stC; rw [if_neg h1, if_pos h2]) (by unfold stT; rw [if_neg h1, if_pos h2]) hdb' hL' (back _ _ T)
  refine cond_eq (fun h3 => ?_) (fun h3 => ?_)
  · have h3 : k = 3 := h3
    refine S.la3 rfl (S.ld2 (j := 1) rfl rfl ?_)
    refine refCall (l := [.agg SH10, .one (.int .i64)]) (get := fun r => r.1) (C' := (scrC C bl).1) (Q := fun r => r.2.1 = (scrC C bl).2) (S.sel [5, 0, 0, 0, 0, 0] rfl) hdb hf13 hdf (fun H hH hR => rScrub13_c hH hR hC ho) ?_
    rintro ⟨_, (e : Int), ⟨⟩⟩ w18 B' hr he hdb' X18 S
    dsimp only at hr he
    subst hr; subst he
    refine S.newB fun b19 w20 S f20 _ => ?_
    refine S.st0 (by rfl) fun w21 S f21 => ?_
    have S := S.sel [6, 2, 2, 0, 1, 0] rfl
    refine Sep.regC [_, _, _] S fun G D hG T S hDt hDo hkeep back => ?_
    refine ⟨hDt 0 _ _ _ rfl, S.la3 rfl ⟨hDt 1 _ _ _ rfl, S.ld4 (j := 1) rfl rfl ?_⟩⟩
    refine Sep.call (ChipP p y C L) (T.unfold (Rs := ChipP p y C L)) (fun G SG => Scrub13_c hC hF SG) fun G fr r w26 hr => ?_
    obtain ⟨e1, ta, tc, L', hL', S3⟩ := hr
    have T := Sep.fold (Rs := ChipP p (upT y ta tc) (scrC C bl).1 L') (Ts := [RdL [⟨va, vn, vc, datC C sd⟩], BoxA b5 _ zCH]) (fr _ _ S3)
    refine ⟨hkeep _ T.fr, T.st2 (by rfl) fun w27 T f27 => ⟨hkeep _ T.fr, T.la2 rfl ⟨?_, ?_⟩⟩⟩
    · rw [e1]; exact beq_self_eq_true _
    · exact fin (by unfold stC; rw [if_neg h1, if_neg h2, if_pos h3]) (by unfold stT; rw [if_neg h1, if_neg h2, if_pos h3]) hdb' hL' (back _ _ T)
  refine cond_eq (fun h4 => ?_) (fun h4 => ?_)
  · have h4 : k = 4 := h4
    refine S.la3 rfl (S.lb2 (o := 1) rfl (S.ld2 (j := 2) rfl rfl (S.ld2 (j := 3) rfl rfl ?_)))
    refine refCall (l := [.agg SH10, .one (.int .i64)]) (get := fun r => r.1) (C' := (pokC C bl pa pa sd).1) (Q := fun r => r.2.1 = (pokC C bl pa pa sd).2) (S.sel [5, 0, 0, 0, 0, 0] rfl) hdb hf13 hdf (fun H hH hR => rPoke13_c hH hR hC hsd) ?_
    rintro ⟨_, (e : Int), ⟨⟩⟩ w18 B' hr he hdb' X18 S
    dsimp only at hr he
    subst hr; subst he
    refine S.newB fun b19 w20 S f20 _ => ?_
    refine S.st0 (by rfl) fun w21 S f21 => ?_
    have S := S.sel [6, 2, 2, 0, 1, 0] rfl
    refine Sep.regC [_, _, _] S fun G D hG T S hDt hDo hkeep back => ?_
    refine ⟨hDt 0 _ _ _ rfl, S.la3 rfl ⟨hDt 1 _ _ _ rfl, S.lb4 (o := 1) rfl ⟨hDt 1 _ _ _ rfl, S.ld4 (j := 2) rfl rfl ⟨hDt 1 _ _ _ rfl, S.ld4 (j := 3) rfl rfl ?_⟩⟩⟩⟩
    refine Sep.call (ChipP p y C L) (T.unfold (Rs := ChipP p y C L)) (fun G SG => Poke_c hC hsd SG) fun G fr r w26 hr => ?_
    obtain ⟨e1, S3⟩ := hr
    have T := Sep.fold (Rs := ChipP p (upT y y.T.a y.T.c) (pokC C bl pa pa sd).1 L) (Ts := [RdL [⟨va, vn, vc, datC C sd⟩], BoxA b5 _ zCH]) (fr _ _ S3)
    refine ⟨hkeep _ T.fr, T.st2 (by rfl) fun w27 T f27 => ⟨hkeep _ T.fr, T.la2 rfl ⟨?_, ?_⟩⟩⟩
    · rw [e1]; exact beq_self_eq_true _
    · exact fin (by unfold stC; rw [if_neg h1, if_neg h2, if_neg h3, if_pos h4]) (by unfold stT; rw [if_neg h1, if_neg h2, if_neg h3]) hdb' (by simp) (back _ _ T)
  have hpre : stC C k bl pa sd on = if k = 5 then { C with off := !on } else C := by unfold stC; rw [if_neg h1, if_neg h2, if_neg h3, if_neg h4]
  have hpt : stT C k bl pa sd = [] := by unfold stT; rw [if_neg h1, if_neg h2, if_neg h3]
  refine cond_eq (fun h5 => ?_) (fun h5 => ?_)
  · have h5 : k = 5 := h5
    rw [if_pos h5] at hpre
    have S := S.sel [4, 1, 0, 0, 0, 0] rfl
    refine S.ld3 (j := 4) rfl rfl ?_
    refine Sep.call (ChipP p y C L) (S.unfold (Rs := ChipP p y C L)) (fun G SG => Power_c (on := on) SG) fun G fr r w14 S3 => ?_
    have S := Sep.fold (Rs := ChipP p (upT y y.T.a y.T.c) { C with off := !on } L) (Ts := [_, _, _, _, _]) (fr _ _ S3)
    refine S.ld3 (j := 4) rfl rfl (S.su4 (j := 8) (by rfl) fun w15 S f15 => ?_)
    refine Sep.regC [_, _] S fun G D hG T S hDt hDo hkeep back => ?_
    refine ⟨hDt 2 _ _ _ rfl, S.la4 rfl ⟨hDt 2 _ _ _ rfl, S.ld4 (j := 8) rfl rfl ?_⟩⟩
    refine (On_c (C := { C with off := !on }) (y := upT y y.T.a y.T.c) ⟨hC.g, hC.lg, hC.bl, hC.bo, hC.pm, hC.ops⟩ (T.unfold (Rs := ChipP p (upT y y.T.a y.T.c) { C with off := !on } L))).mono ?_
    rintro ⟨(r : Bool), ⟨⟩⟩ w16 ⟨h16, rfl⟩
    dsimp only at h16
    subst h16
    refine ⟨hkeep _ (Fr.refl _ _), T.st1 (by rfl) fun w17 T f17 => ⟨hkeep _ T.fr, T.la1 rfl ⟨beq_self_eq_true _, ?_⟩⟩⟩
    exact fin (C' := { C with off := !on }) hpre.symm hpt.symm hdb (by simp) (back _ _ T)
  · have h5 : ¬ k = 5 := h5
    rw [if_neg h5] at hpre
    have S := S.sel [4, 1, 0, 0, 0, 0] rfl
    refine Sep.regC [_, _] S fun G D hG T S hDt hDo hkeep back => ?_
    refine ⟨hDt 2 _ _ _ rfl, S.la4 rfl ⟨hDt 2 _ _ _ rfl, S.ld4 (j := 8) rfl rfl ?_⟩⟩
    refine (On_c (C := C) (y := upT y y.T.a y.T.c) hC (T.unfold (Rs := ChipP p (upT y y.T.a y.T.c) C L))).mono ?_
    rintro ⟨(r : Bool), ⟨⟩⟩ w16 ⟨h16, rfl⟩
    dsimp only at h16
    subst h16
    refine ⟨hkeep _ (Fr.refl _ _), T.st1 (by rfl) fun w17 T f17 => ⟨hkeep _ T.fr, T.la1 rfl ⟨beq_self_eq_true _, ?_⟩⟩⟩
    exact fin (C' := C) hpre.symm hpt.symm hdb (by simp) (back _ _ T)
end
end Go.Proofs.Ytfpkaebmiojicaa.Vc

/-! The contracts of layer 13: does the program answer; the trace. -/
namespace Go.Proofs.Ytfpkaebmiojicaa.Vc
open Go Go.Eng Go.RowKit
set_option linter.unusedVariables false
set_option linter.unusedSimpArgs false

abbrev gAw : Geo := ⟨7, 10, 64, 0, 1, 1⟩
theorem aw1 : Right gAw := by decide
theorem aw2 : refC (newC gAw []) 1 2 152 = 0 := by decide +kernel
theorem aw3 : (codeC (newC gAw [])).1 = 0 := by decide +kernel
theorem aw4 : readC (progX (newC gAw []) 1 2 (List.replicate 152 0)) 1 2 = 0 := by decide +kernel
theorem aw5 : pgC13 (progX (newC gAw []) 1 2 (List.replicate 152 0)) 1 2 = List.replicate 152 0 := by decide +kernel
theorem zs152 : (List.replicate 152 [Value.int .u8 0]).flatten = (List.replicate 152 0).map (Value.int .u8) := by rw [List.map_replicate]; exact List.flatten_replicate_singleton
theorem awake13_c {w : World} : CallV Try.prog 42 #[] w [.one .bool] fun r w' => r.1 = true ∧ Ext w w' := by
  apply law13_awake.vc
  unfold law13_awake.P
  refine (New13_c (g := gAw) (x := ⟨none, 0, 0, []⟩) (G := All) ⟨rfl, Nat.le_refl _, Nat.zero_le _, .inl ⟨rfl, rfl⟩, fun y hy => (List.not_mem_nil hy).elim⟩ (fun f hf => (List.not_mem_nil hf).elim)).mono ?_
  rintro ⟨_, (e : Int), ⟨⟩⟩ w2 ⟨X2, -, h⟩
  rw [show fds ⟨none, 0, 0, []⟩ = [] from rfl] at h
  obtain ⟨he, p, y, hp, hF, S⟩ := h ⟨aw1, ⟨fun f hf => (List.not_mem_nil hf).elim, by decide⟩⟩
  dsimp only at he hp
  subst he; subst hp
  have hC : COk (newC gAw []) := newC_ok aw1 (by decide) (fun f hf => (List.not_mem_nil hf).elim)
  refine ⟨by decide, ?_⟩
  refine S.newB fun b3 w4 S f4 _ => ?_
  rw [zs152] at S
  have S := S.asOwn (sz := 1) (n := 152) (by simp) (by omega) (oneAll.ints _ _)
  have S := S.conv (R' := RdL [⟨some ⟨b3, 0, none⟩, 152, 152, List.replicate 152 0⟩]) fun G hG _ x hx => by
    rw [List.mem_singleton.1 hx]
    exact own_rdB hG (fun k hk => hk) (Byt.replicate (by decide) (by decide) _)
  have S := S.perm (List.perm_append_comm (l₁ := [RdL [⟨some ⟨b3, 0, none⟩, 152, 152, List.replicate 152 0⟩]]) (l₂ := ChipP p y (newC gAw []) []))
  refine Sep.call (ChipQ p y (newC gAw []) [] [RdL [⟨some ⟨b3, 0, none⟩, 152, 152, List.replicate 152 0⟩]]) (Ts := []) S (fun G SG => Program13_c (dd := ⟨some ⟨b3, 0, none⟩, 152, 152, List.replicate 152 0⟩) hC hF (by dsimp only; omega) SG) fun G fr r w6 hr => ?_
  obtain ⟨e1, ta, tc, L', hL', S3⟩ := hr
  have S := fr _ _ S3
  have hP : progC (newC gAw []) 1 2 (List.replicate 152 0) = (progX (newC gAw []) 1 2 (List.replicate 152 0), 0) := by
    unfold progC
    rw [if_pos (by rw [List.length_replicate]; exact aw2), aw3]
  dsimp only at e1 S
  rw [hP] at e1 S
  dsimp only at e1 S
  have hC2 : COk (progX (newC gAw []) 1 2 (List.replicate 152 0)) := progX_ok hC (by rw [List.length_replicate]; exact aw2) (Byt.replicate (by decide) (by decide) _) (by decide)
  generalize hCC : progX (newC gAw []) 1 2 (List.replicate 152 0) = CC at S hC2
  have q4 := aw4
  have q5 := aw5
  rw [hCC] at q4 q5
  have q6 : CC.ops = 1 := by rw [← hCC]; rfl
  refine (Read13_c (bl := 1) (pa := 2) hC2 S).mono ?_
  rintro ⟨⟨ra, rn, rc⟩, (e : Int), ⟨⟩⟩ w8 ⟨h8, -, h9⟩
  have h8' : Res w6 w8 (⟨ra, rn, rc⟩ : SlV) (List.replicate 152 0) := by rw [← q5]; exact h9 q4
  clear h9
  rw [q4] at h8
  dsimp only at h8 ⊢
  subst h8
  have hl := h8'.ints.len
  rw [List.length_replicate] at hl
  dsimp only at hl
  subst hl
  obtain ⟨q, g1, -, g3⟩ := h8'.ints.at (i := 0) (by omega) (show (0 : Int) < ((152 : Nat) : Int) by omega)
  refine cond_t rfl (cond_t (by rw [e1]; rfl) (cond_t rfl (cond_t rfl ⟨⟨by omega, show (0 : Int) < ((152 : Nat) : Int) by omega⟩, q, g1, _, g3, cond_t rfl ?_⟩)))
  refine (Ops_c (S.stepE h8'.ext)).mono ?_
  rintro ⟨(o : Int), ⟨⟩⟩ w9 ⟨h9, rfl⟩
  dsimp only at h9 ⊢
  subst h9
  rw [q6]
  exact ⟨rfl, S.ext.trans h8'.ext⟩
end Go.Proofs.Ytfpkaebmiojicaa.Vc

/-! What any parameter of a law is known to be, with the sizes of what it holds: structs, arrays and slices of whole numbers, texts, and of each other. -/
namespace Go.Proofs.Ytfpkaebmiojicaa.Vc
open Go Go.Eng Go.RowKit Go.ChangeShapes
set_option linter.unusedVariables false
set_option linter.unusedSimpArgs false

/-- No slice or text in it is longer than what an address space holds. -/
def Ty.big : (t : Ty) → t.T → Prop
  | .int _, _ => True
  | .bool, _ => True
  | .str, (x : ByteArray) => x.size ≤ 140737488351232
  | .sl e, (x : SlP e.T) => x.n ≤ 140737488351232 ∧ ∀ y ∈ x.l, e.big y
  | .nil, _ => True
  | .cons a r, (x : a.T × r.T) => a.big x.1 ∧ r.big x.2

/-- The elements of every slice have some byte. -/
def posF (P : Program) (cf : Ty → TypeId → Bool) : Ty → List Field → Bool
  | .cons a r, f :: fs => cf a f.type && posF P cf r fs
  | _, _ => true
def posA (cf : Ty → TypeId → Bool) (e : TypeId) : Ty → Nat → Bool
  | .cons a r, n + 1 => cf a e && posA cf e r n
  | _, _ => true
def pos (P : Program) : Nat → Ty → TypeId → Bool
  | 0, _, _ => false
  | d + 1, t, i =>
    match P.underlying i, t with
    | some (.slice e), .sl t => pos P d t e && Nat.ble 1 (P.bytesOf e)
    | some (.struct fs), t => posF P (pos P d) t fs.toList
    | some (.array n e), t => posA (pos P d) e t n
    | _, _ => true

section
variable {H : Type} {enc : TypeId × Value → H} {P : Program} {w : World}
def Fit (l : List Nat) : Prop := l.all (· ≤ reachBytes) = true
theorem Fit.app {l m : List Nat} : Fit (l ++ m) ↔ Fit l ∧ Fit m := by unfold Fit; rw [List.all_append, Bool.and_eq_true]
theorem Fit.cons {a : Nat} {m : List Nat} : Fit (a :: m) ↔ a ≤ reachBytes ∧ Fit m := by unfold Fit; rw [List.all_cons, Bool.and_eq_true]; simp

def OpensS (enc : TypeId × Value → H) (P : Program) (w : World) (d : Nat) : Prop :=
  ∀ (ty : Ty) (t : TypeId) (fuel : Nat) (cs : List Value) (x : DataW H × List MemPlace), conf P d ty t = true → pos P d ty t = true → DataW.trod enc P w 0 (fun _ => true) true fuel t cs = some x →
    ∃ v : ty.T, cs = ty.vs v ∧ ty.ok w v ∧ (Fit (x.1.weights P t) → ty.big v)

theorem openFS {d : Nat} (ih : OpensS enc P w d) {n : Nat} {cs : List Value} : ∀ (ty : Ty) (fs : List Field) (o : Nat) (xs : List (DataW H × List MemPlace)), confF P (conf P d) ty fs o = true → posF P (pos P d) ty fs = true → cs.length = o + ty.n → xs.length = fs.length →
    (∀ (i : Nat) (f : Field), fs[i]? = some f → DataW.trod enc P w 0 (fun _ => true) true n f.type ((cs.drop f.offset).take (P.cellsOf f.type)) = xs[i]?) →
    ∃ v : ty.T, cs.drop o = ty.vs v ∧ ty.ok w v ∧ (Fit (DataW.weightsEach P (fs.map (·.type)) (xs.map (·.1))) → ty.big v)
  | .nil, [], o, xs, hc, hp, hl, hx, hf => ⟨(), by simp [Ty.vs, hl, Ty.n], trivial, fun _ => trivial⟩
  | .cons a r, f :: fs, o, x :: xs, hc, hp, hl, hx, hf => by
    simp only [confF, Bool.and_eq_true, beq_iff_eq] at hc
    simp only [posF, Bool.and_eq_true] at hp
    obtain ⟨⟨⟨h1, h2⟩, h3⟩, h4⟩ := hc
    have hy := hf 0 f rfl
    obtain ⟨v1, e1, o1, b1⟩ := ih a f.type n _ x h2 hp.1 hy
    obtain ⟨v2, e2, o2, b2⟩ := openFS ih r fs (o + a.n) xs h4 hp.2 (by rw [hl]; simp [Ty.n]; omega) (by simpa using hx) (fun i f' hf' => hf (i + 1) f' (by simpa using hf'))
    refine ⟨(v1, v2), ?_, ⟨o1, o2⟩, fun hw => ?_⟩
    · show _ = a.vs v1 ++ r.vs v2
      rw [← e1, ← e2, h1, h3, ← List.drop_drop, List.take_append_drop]
    · have hw' := Fit.app.1 (by simpa only [List.map_cons, DataW.weightsEach] using hw)
      exact ⟨b1 hw'.1, b2 hw'.2⟩
  | .cons _ _, _ :: _, _, [], _, _, _, hx, _ => by simp at hx
  | .int _, [], _, _, hc, _, _, _, _ => by simp [confF] at hc
  | .int _, _ :: _, _, _, hc, _, _, _, _ => by simp [confF] at hc
  | .bool, [], _, _, hc, _, _, _, _ => by simp [confF] at hc
  | .bool, _ :: _, _, _, hc, _, _, _, _ => by simp [confF] at hc
  | .str, [], _, _, hc, _, _, _, _ => by simp [confF] at hc
  | .str, _ :: _, _, _, hc, _, _, _, _ => by simp [confF] at hc
  | .sl _, [], _, _, hc, _, _, _, _ => by simp [confF] at hc
  | .sl _, _ :: _, _, _, hc, _, _, _, _ => by simp [confF] at hc
  | .nil, _ :: _, _, _, hc, _, _, _, _ => by simp [confF] at hc
  | .cons _ _, [], _, _, hc, _, _, _, _ => by simp [confF] at hc

theorem openAS {d : Nat} (ih : OpensS enc P w d) {n : Nat} {cs : List Value} {e : TypeId} : ∀ (ty : Ty) (m : Nat) (i : Nat) (xs : List (DataW H × List MemPlace)), confA P (conf P d) e ty m = true → posA (pos P d) e ty m = true → cs.length = i * P.cellsOf e + ty.n → xs.length = m →
    (∀ j, j < m → DataW.trod enc P w 0 (fun _ => true) true n e ((cs.drop ((i + j) * P.cellsOf e)).take (P.cellsOf e)) = xs[j]?) → ∃ v : ty.T, cs.drop (i * P.cellsOf e) = ty.vs v ∧ ty.ok w v ∧ (Fit (DataW.weightsAll P e (xs.map (·.1))) → ty.big v)
  | .nil, 0, i, xs, hc, hp, hl, hx, hf => ⟨(), by simp [Ty.vs, hl, Ty.n], trivial, fun _ => trivial⟩
  | .cons a r, m + 1, i, x :: xs, hc, hp, hl, hx, hf => by
    simp only [confA, Bool.and_eq_true, beq_iff_eq] at hc
    simp only [posA, Bool.and_eq_true] at hp
    obtain ⟨⟨h2, h3⟩, h4⟩ := hc
    have hy := hf 0 (by omega)
    obtain ⟨v1, e1, o1, b1⟩ := ih a e n _ x h2 hp.1 hy
    obtain ⟨v2, e2, o2, b2⟩ := openAS ih r m (i + 1) xs h4 hp.2 (by rw [hl, Nat.add_mul, h3]; simp [Ty.n]; omega) (by simpa using hx) (fun j hj => by
      have := hf (j + 1) (by omega)
      rw [show i + 1 + j = i + (j + 1) by omega]
      simpa using this)
    refine ⟨(v1, v2), ?_, ⟨o1, o2⟩, fun hw => ?_⟩
    · show _ = a.vs v1 ++ r.vs v2
      rw [← e1, ← e2, Nat.add_zero, Nat.add_mul, Nat.one_mul, ← List.drop_drop, List.take_append_drop]
    · have hw' := Fit.app.1 (by simpa only [List.map_cons, DataW.weightsAll] using hw)
      exact ⟨b1 hw'.1, b2 hw'.2⟩
  | .cons _ _, _ + 1, _, [], _, _, _, hx, _ => by simp at hx
  | .int _, 0, _, _, hc, _, _, _, _ => by simp [confA] at hc
  | .int _, _ + 1, _, _, hc, _, _, _, _ => by simp [confA] at hc
  | .bool, 0, _, _, hc, _, _, _, _ => by simp [confA] at hc
  | .bool, _ + 1, _, _, hc, _, _, _, _ => by simp [confA] at hc
  | .str, 0, _, _, hc, _, _, _, _ => by simp [confA] at hc
  | .str, _ + 1, _, _, hc, _, _, _, _ => by simp [confA] at hc
  | .sl _, 0, _, _, hc, _, _, _, _ => by simp [confA] at hc
  | .sl _, _ + 1, _, _, hc, _, _, _, _ => by simp [confA] at hc
  | .nil, _ + 1, _, _, hc, _, _, _, _ => by simp [confA] at hc
  | .cons _ _, 0, _, _, hc, _, _, _, _ => by simp [confA] at hc

theorem weightsAll_append (e : TypeId) (l m : List (DataW H)) : DataW.weightsAll P e (l ++ m) = DataW.weightsAll P e l ++ DataW.weightsAll P e m := by
  induction l with
  | nil => simp [DataW.weightsAll]
  | cons x l ih => simp only [List.cons_append, DataW.weightsAll, ih, List.append_assoc]

theorem openSS {d : Nat} (ih : OpensS enc P w d) {ty : Ty} {e : TypeId} (hc : conf P d ty e = true) (hp : pos P d ty e = true) (hn : P.cellsOf e = ty.n) {a : Addr} {m : Nat} : ∀ (elems : List (DataW H × List MemPlace)),
    (∀ i, i < elems.length → (w.cells? 0 (a.add (i * P.cellsOf e)) (P.cellsOf e)).bind (DataW.trod enc P w 0 (fun _ => true) true m e) = elems[i]?) →
    ∃ l : List ty.T, l.length = elems.length ∧ CellsAt w a (l.flatMap ty.vs) ∧ (∀ y ∈ l, ty.ok w y) ∧ (Fit (DataW.weightsAll P e (elems.map (·.1))) → ∀ y ∈ l, ty.big y) := by
  intro elems
  have key : ∀ (k : Nat) (elems : List (DataW H × List MemPlace)), elems.length = k → (∀ i, i < elems.length → (w.cells? 0 (a.add (i * P.cellsOf e)) (P.cellsOf e)).bind (DataW.trod enc P w 0 (fun _ => true) true m e) = elems[i]?) →
      ∃ l : List ty.T, l.length = elems.length ∧ CellsAt w a (l.flatMap ty.vs) ∧ (∀ y ∈ l, ty.ok w y) ∧ (Fit (DataW.weightsAll P e (elems.map (·.1))) → ∀ y ∈ l, ty.big y) := by
    intro k
    induction k with
    | zero =>
      intro elems hk _
      have := List.length_eq_zero_iff.1 hk
      subst this
      exact ⟨[], rfl, fun j v hv => by simp at hv, fun y hy => (List.not_mem_nil hy).elim, fun _ y hy => (List.not_mem_nil hy).elim⟩
    | succ k ih2 =>
      intro elems hk h
      have hne : elems ≠ [] := fun e0 => by rw [e0] at hk; simp at hk
      have hsplit := List.dropLast_concat_getLast hne
      have hlen1 : elems.dropLast.length = k := by simp [hk]
      obtain ⟨l, hl, hcl, hol, hbl⟩ := ih2 elems.dropLast hlen1 (fun i hi => by
        rw [h i (by omega), List.getElem?_eq_getElem (by omega), List.getElem?_eq_getElem hi, List.getElem_dropLast])
      have hy := h k (by omega)
      rw [List.getElem?_eq_getElem (by omega)] at hy
      have hlast : elems[k]'(by omega) = elems.getLast hne := by rw [List.getLast_eq_getElem]; congr 1; omega
      rw [hlast] at hy
      obtain ⟨c, hcs, ht⟩ := Option.bind_eq_some_iff.1 hy
      obtain ⟨v, e1, o1, b1⟩ := ih ty e m c _ hc hp ht
      obtain ⟨_, hlen, hcell⟩ := World.cells?_some hcs
      have hl' : l.length = k := by rw [hl, hlen1]
      refine ⟨l ++ [v], by simp [hl', hk], ?_, ?_, ?_⟩
      · rw [List.flatMap_append, List.flatMap_singleton]
        refine CellsAt.append' hcl ?_
        have : (l.flatMap ty.vs).length = k * P.cellsOf e := by
          rw [hn, ← hl']
          clear hcl hol hl hbl hl' hlast
          induction l with
          | nil => simp
          | cons z l ih3 => rw [List.flatMap_cons, List.length_append, Ty.vs_length, ih3, List.length_cons, Nat.add_mul]; omega
        rw [this]
        intro j u hu
        rw [← e1] at hu
        have hj : j < P.cellsOf e := by rw [← hlen]; exact (List.getElem?_eq_some_iff.1 hu).1
        rw [hcell j hj, hu]
      · intro y hy
        rcases List.mem_append.1 hy with h1 | h1
        · exact hol y h1
        · rw [List.mem_singleton.1 h1]; exact o1
      · intro hw
        rw [← hsplit, List.map_append, weightsAll_append] at hw
        obtain ⟨g1, g2⟩ := Fit.app.1 hw
        simp only [List.map_cons, List.map_nil, DataW.weightsAll, List.append_nil] at g2
        intro y hy
        rcases List.mem_append.1 hy with h1 | h1
        · exact hbl g1 y h1
        · rw [List.mem_singleton.1 h1]; exact b1 g2
  exact key _ elems rfl

theorem opensS : ∀ d : Nat, OpensS enc P w d
  | 0 => fun ty t fuel cs x hc => by simp [conf] at hc
  | d + 1 => by
    have ih := opensS d
    intro ty t fuel cs x hc hp h
    unfold conf at hc
    unfold pos at hp
    split at hc
    · rename_i k k' ht
      obtain ⟨n, rfl, _, hw⟩ := DataW.trod_int ht h
      have := of_decide_eq_true hc
      subst this
      exact ⟨n, rfl, wfRng hw, fun _ => trivial⟩
    · rename_i ht
      obtain ⟨b, rfl, _⟩ := DataW.trod_bool ht h
      exact ⟨b, rfl, trivial, fun _ => trivial⟩
    · rename_i ht
      obtain ⟨s, rfl, rfl, hs⟩ := DataW.trod_string ht h
      refine ⟨s, rfl, hs, fun hw => ?_⟩
      simp only [DataW.weights] at hw
      have := (Fit.cons.1 hw).1
      have e : reachBytes = 140737488351232 := by decide
      rw [e] at this
      simpa [Ty.big] using this
    · rename_i e t' ht
      rw [ht] at hp
      simp only [Bool.and_eq_true, beq_iff_eq] at hc hp
      obtain ⟨hc1, hc2⟩ := hc
      rcases DataW.trod_slice ht h with ⟨rfl, _⟩ | ⟨a, len, cap, elems, rest, n, _, rfl, rfl, hb, hl, hm, hlen, hel, _⟩
      · exact ⟨⟨none, 0, 0, []⟩, rfl, ⟨rfl, Nat.le_refl _, Nat.zero_le _, .inl ⟨rfl, rfl⟩, fun y hy => (List.not_mem_nil hy).elim⟩, fun _ => ⟨by show (0 : Nat) ≤ _; omega, fun y hy => (List.not_mem_nil hy).elim⟩⟩
      · obtain ⟨l, h1, h2, h3, h4⟩ := openSS ih hc1 hp.1 hc2 (a := a) (m := n) elems fun i hi => hel i (by omega)
        refine ⟨⟨some a, len, cap, l⟩, rfl, ⟨by rw [h1, hlen], hl, hm, .inr ⟨a, rfl, h2⟩, h3⟩, fun hw => ?_⟩
        simp only [DataW.weights, ht] at hw
        obtain ⟨g1, g2⟩ := Fit.cons.1 hw
        refine ⟨?_, h4 (Fit.app.1 g2).1⟩
        have hb1 : 1 ≤ P.bytesOf e := Nat.le_of_ble_eq_true hp.2
        rw [List.length_map, List.length_map, hlen] at g1
        have g3 : len * 1 ≤ (len + rest.length) * P.bytesOf e := Nat.mul_le_mul (by omega) hb1
        have : reachBytes = 140737488351232 := by decide
        show len ≤ _
        omega
    · rename_i ty _ _ fs ht
      rw [ht] at hp
      simp only [Bool.and_eq_true, beq_iff_eq] at hc
      obtain ⟨xs, n, _, rfl, hl, hlen, hf⟩ := DataW.trod_struct ht h
      obtain ⟨v, e1, o1, b1⟩ := openFS ih (n := n) (cs := cs) ty fs.toList 0 xs hc.1 (by simpa using hp) (by rw [hl, hc.2]; omega) (by simpa using hlen) fun i f hfi => hf i f (by simpa using hfi)
      refine ⟨v, by simpa using e1, o1, fun hw => b1 ?_⟩
      simpa only [DataW.weights, ht] using hw
    · rename_i ty _ _ n e ht
      rw [ht] at hp
      simp only [Bool.and_eq_true, beq_iff_eq] at hc
      obtain ⟨xs, m, _, rfl, hl, hlen, hf⟩ := DataW.trod_array ht h
      obtain ⟨v, e1, o1, b1⟩ := openAS ih (n := m) (cs := cs) ty n 0 xs hc.1 (by simpa using hp) (by rw [hl, hc.2]; omega) hlen fun j hj => by rw [Nat.zero_add]; exact hf j hj
      refine ⟨v, by simpa using e1, o1, fun hw => b1 ?_⟩
      simpa only [DataW.weights, ht] using hw
    · cases hc

/-- A parameter that is a struct or an array, and the sizes in it. -/
theorem openAggS {ty : Ty} {t : TypeId} {cs : Array Value} {d : Nat} {x : DataW H} {ps : List MemPlace} (hc : conf P d ty t = true) (hp : pos P d ty t = true)
    {ts : List TypeId} {ds : List (DataW H)} {j : Nat} (htj : ts[j]? = some t) (hdj : ds[j]? = some x) (hsz : (DataW.weightsEach P ts ds).all (· ≤ reachBytes) = true)
    (h : DataW.Trod enc P w 0 (fun _ => true) true t (.agg cs) x ps) : ∃ v : ty.T, Value.agg cs = .agg (ty.vs v).toArray ∧ ty.ok w v ∧ ty.big v := by
  obtain ⟨fuel, hf⟩ := h
  obtain ⟨v, e, o, b⟩ := opensS d ty t fuel _ _ hc hp hf
  refine ⟨v, ?_, o, b (List.all_eq_true.2 fun n hn => List.all_eq_true.1 hsz n (DataW.weights_mem_each htj hdj n hn))⟩
  rw [← e]
  simp [Value.cells]
/-- A parameter that is a slice, and the sizes in it. -/
theorem openSlS {ty : Ty} {t : TypeId} {a : Option Addr} {n c : Nat} {d : Nat} {x : DataW H} {ps : List MemPlace} (hc : conf P d (.sl ty) t = true) (hp : pos P d (.sl ty) t = true)
    {ts : List TypeId} {ds : List (DataW H)} {j : Nat} (htj : ts[j]? = some t) (hdj : ds[j]? = some x) (hsz : (DataW.weightsEach P ts ds).all (· ≤ reachBytes) = true)
    (h : DataW.Trod enc P w 0 (fun _ => true) true t (.slice a n c) x ps) : ∃ l : List ty.T, (Ty.sl ty).ok w ⟨a, n, c, l⟩ ∧ (Ty.sl ty).big ⟨a, n, c, l⟩ := by
  obtain ⟨fuel, hf⟩ := h
  obtain ⟨v, e, o, b⟩ := opensS d (.sl ty) t fuel _ _ hc hp hf
  have b := b (List.all_eq_true.2 fun n hn => List.all_eq_true.1 hsz n (DataW.weights_mem_each htj hdj n hn))
  simp [Value.cells, Ty.vs] at e
  obtain ⟨h1, h2, h3⟩ := e
  refine ⟨v.l, ?_⟩
  subst h1; subst h2; subst h3
  exact ⟨o, b⟩
end

end Go.Proofs.Ytfpkaebmiojicaa.Vc

/-! What the laws of layer 13 share. -/
namespace Go.Proofs.Ytfpkaebmiojicaa.Vc
open Go Go.Eng Go.RowKit
set_option linter.unusedVariables false
set_option linter.unusedSimpArgs false

theorem aw13 {w w' : World} (he : Ext w w') : CallV Try.prog 42 #[] w' [.one .bool] fun r w3 => r.1 = true ∧ Ext w w3 := awake13_c.mono fun r w3 ⟨h, e⟩ => ⟨h, he.trans e⟩
abbrev TSt : Ty := .cons (.int .i64) (.cons (.cons (.int .i64) (.cons (.int .i64) .nil)) (.cons (.int .u8) (.cons .bool .nil)))
abbrev LSt : Ty := .sl TSt
/-- A step of both, among other parts. -/
theorem stepS {E : Nat → Prop} {w0 w : World} {Ts : List Asr} {p : Nat} {y : Lay} {C : CD} {L : List TOp} {B : SlP TBd.T} {f : SlP TF.T} {k bl pa sd : Int} {on : Bool} (hC : COk C) (ho : C.ops < 1000000) (hF : fds y.F = C.pl) (hdf : fds f = C.pl) (hdb : B.l.map bdOf = C.bs) (hsd : 0 ≤ sd ∧ sd < 256)
    (hf : LF.rd w (fun k => k < w0.heap.size ∧ ¬ E k) f) (S : Sep E w0 w (RdT (Ty.sl TBd) B :: StarA (ChipP p y C L) :: Ts)) :
    CallV Try.prog 45 #[.pointer (some ⟨p, 0, none⟩), chVal B f C, .agg #[.int .i64 k, .int .i64 bl, .int .i64 pa, .int .u8 sd, .bool on]] w [.agg SH10, .one .bool] fun r w' =>
      r.2.1 = true ∧ ∃ (B' : SlP TBd.T) (y' : Lay) (L' : List TOp), r.1 = chT B' f (stC C k bl pa sd on) ∧ fds y'.F = C.pl ∧ B'.l.map bdOf = (stC C k bl pa sd on).bs ∧ L'.map TOp.dat = L.map TOp.dat ++ stT C k bl pa sd ∧
        Sep E w0 w' (RdT (Ty.sl TBd) B' :: StarA (ChipP p y' (stC C k bl pa sd on) L') :: Ts) := by
  have S := ((S.perm (List.Perm.swap (StarA (ChipP p y C L)) (RdT (Ty.sl TBd) B) Ts)).unfold (Rs := ChipP p y C L)).perm (List.perm_middle (l₁ := ChipP p y C L))
  refine Sep.callB (RdT (Ty.sl TBd) B :: ChipP p y C L) (Ts := Ts) S (fun F hFF SF => step13_c hC ho hF hdf hdb hsd (LF.rd_mono (fun k hk _ hFk => (hFF k hFk).1.elim hk.2 (by omega)) hf) SF) ?_
  rintro F fr r w' ⟨h1, B', ta, tc, L', h2, h3, h4, S'⟩
  refine ⟨h1, B', upT y ta tc, L', h2, hF, h3, h4, ?_⟩
  have S2 := fr _ _ S'
  have S3 : Sep E w0 w' (ChipP p (upT y ta tc) (stC C k bl pa sd on) L' ++ (RdT (Ty.sl TBd) B' :: Ts)) := S2.perm (List.perm_middle (l₁ := ChipP p (upT y ta tc) (stC C k bl pa sd on) L')).symm
  exact S3.fold.perm (List.Perm.swap _ _ _)

theorem fds_byt {w : World} {G : Nat → Prop} {f : SlP TF.T} (hf : LF.rd w G f) : ∀ F ∈ fds f, Byt F.2.2.1 := fun F hF => by
  obtain ⟨x, hx, rfl⟩ := List.mem_map.1 hF
  rw [TF_dat]
  exact fun v hv => rng_u8 ((hf.2.2.2.2 x hx).2.2.1.2.2.2.2 v hv)
theorem readC_right {C : CD} {bl pa : Int} (hg : Right C.g) (ho : C.off = false) : readC C bl pa = if plOk C.g bl pa then 0 else 2 := by
  unfold readC
  rw [if_neg (by rw [ho]; decide)]
  by_cases h : inC C bl pa
  · rw [if_pos h, if_pos ⟨hg, h⟩]
  · rw [if_neg h, if_neg (fun k => h k.2)]
theorem pageOf {H : Nat → Prop} {w : World} {B : SlP TBd.T} {f : SlP TF.T} {C : CD} {bl pa : Int} (h : RefR H w B f C) (hC : COk C) (hi : inC C bl pa) :
    ∃ q x q2 y, B.a = some q ∧ CellsAt w (q.add (bl.toNat * 5)) (bdV x) ∧ q.block < w.heap.size ∧ x.1.a = some q2 ∧ CellsAt w (q2.add (pa.toNat * 1)) (TB.vs y) ∧ q2.block < w.heap.size ∧ TB.rd w All y ∧ y.l = pgC13 C bl pa ∧ (0 ≤ bl ∧ bl < (B.n : Int)) ∧ (0 ≤ pa ∧ pa < (x.1.n : Int)) := by
  obtain ⟨⟨n1, n2⟩, ⟨n3, n4⟩, ⟨n5, n6⟩, n7, n8⟩ := hC.num
  have hBn := h.len
  rw [hC.bl] at hBn
  obtain ⟨h0, h1⟩ := hi.1
  obtain ⟨q, x, hq, hc, hr, hx, hbd, hb⟩ := h.nth (i := bl) h0 (by omega)
  have hbk := (hC.blk hi.1).2
  have hpl : x.1.n = C.g.p.toNat := by rw [← bd_len (x := x) (by rw [hbd]; exact hbk)]; exact hr.1.1.symm
  obtain ⟨p0, p1⟩ := hi.2
  obtain ⟨q2, y, hq2, hy, hc2, hry, -, hb2⟩ := TBB_nth hr.1 (i := pa) (by omega) (by omega)
  refine ⟨q, x, q2, y, hq, hc, hb, hq2, hc2, hb2, hry, ?_, ⟨h0, by omega⟩, ⟨p0, by omega⟩⟩
  have h1 : (x.1.l.map (·.l))[pa.toNat]? = some y.l := by rw [List.getElem?_map, hy]; rfl
  have h2 : (blkC C bl).pg = x.1.l.map (·.l) := by rw [← hbd]; rfl
  show _ = (blkC C bl).pg.getD pa.toNat []
  rw [h2, getD_some h1]
end Go.Proofs.Ytfpkaebmiojicaa.Vc

/-! Places, and geometries, are the same where all their numbers are. -/
namespace Go.Proofs.Ytfpkaebmiojicaa.Vc
open Go Go.Eng Go.RowKit
set_option linter.unusedVariables false
set_option linter.unusedSimpArgs false

set_option maxRecDepth 100000 in
theorem eqPl0 (a1 a2 b1 b2 : Int) (w : World) : (Op.equalIn 10000 81 (.agg #[.int .i64 a1, .int .i64 a2]) (.agg #[.int .i64 b1, .int .i64 b2])).run Try.prog w = .ok (a1 == b1 && a2 == b2) w := by
  have u1 := Try.underlying3
  have v1 := Try.isAgg3
  have z1 := Try.sizeOf3
  have hS : Try.prog.underlying 81 = some (.struct (Try.prog.fieldsOf 81)) := by kernel_rfl
  rw [show (10000 : Nat) = 9999 + 1 from rfl, run_equalIn_agg w 9999 81 _ _ hS (by kernel_rfl)]
  simp only [Program.fieldsOf, Try.underlying81]
  go_simp
  repeat' split
  all_goals simp_all
theorem eqPl {a b c d : Int} {K : Bool → Prop} (hk : K (decide (a = c ∧ b = d))) : AggEq Try.prog 81 #[.int .i64 a, .int .i64 b] #[.int .i64 c, .int .i64 d] K := by
  refine ⟨_, fun w => eqPl0 _ _ _ _ w, by kernel_rfl, ?_⟩
  have : (a == c && b == d) = decide (a = c ∧ b = d) := by
    apply Bool.eq_iff_iff.2
    simp
  rw [this]
  exact hk
set_option maxRecDepth 100000 in
theorem eqGe0 (a1 a2 a3 a4 a5 a6 b1 b2 b3 b4 b5 b6 : Int) (w : World) : (Op.equalIn 10000 23 (.agg #[.int .i64 a1, .int .i64 a2, .int .i64 a3, .int .i64 a4, .int .i64 a5, .int .i64 a6]) (.agg #[.int .i64 b1, .int .i64 b2, .int .i64 b3, .int .i64 b4, .int .i64 b5, .int .i64 b6])).run Try.prog w =
    .ok (a1 == b1 && (a2 == b2 && (a3 == b3 && (a4 == b4 && (a5 == b5 && a6 == b6))))) w := by
  have u1 := Try.underlying3
  have v1 := Try.isAgg3
  have z1 := Try.sizeOf3
  have hS : Try.prog.underlying 23 = some (.struct (Try.prog.fieldsOf 23)) := by kernel_rfl
  rw [show (10000 : Nat) = 9999 + 1 from rfl, run_equalIn_agg w 9999 23 _ _ hS (by kernel_rfl)]
  simp only [Program.fieldsOf, Try.underlying23]
  go_simp
  repeat' split
  all_goals simp_all
theorem eqGe {g : Geo} {K : Bool → Prop} (hk : K true) : AggEq Try.prog 23 #[.int .i64 g.b, .int .i64 g.p, .int .i64 g.s, .int .i64 g.sp, .int .i64 g.wr, .int .i64 g.ro] #[.int .i64 g.b, .int .i64 g.p, .int .i64 g.s, .int .i64 g.sp, .int .i64 g.wr, .int .i64 g.ro] K := by
  refine ⟨_, fun w => eqGe0 _ _ _ _ _ _ _ _ _ _ _ _ w, by kernel_rfl, ?_⟩
  simpa using hk

end Go.Proofs.Ytfpkaebmiojicaa.Vc

/-! The plans of functions as plain statements, printed by wip/tools/vcgen.py; the kernel holds each to the code. -/
namespace Go.Proofs.Ytfpkaebmiojicaa.Vc
open Go Go.Eng
set_option linter.unusedVariables false

/-! ### nepenthe/nepenthelaw13.NandRuns: function 14 -/
-- loop 0 carries 9: .one (.int .i64)
-- loop 1 carries 6: .one (.int .i64)
def law13_NandRuns.A : Ann := .two .no (.two .no (.two .no (.two .no (.two (.two (.draw (.take 0 (.take 1 (.take 2 (.take 3 (.take 5 (.take 6 (.eff 4 (.take 7 (.take 8 (.done))))))))))) .no) (.two .no (.join [2, 6, 7, 8, 57, 58, 59, 60, 61, 62, 63, 64, 65, 66, 67, 68, 69, 70, 71, 72, 73, 74, 75, 76, 77, 78, 79, 80, 81, 82, 83, 84, 85, 86, 87, 88, 89, 90, 91, 92, 93, 94, 95, 96] [] (.two .no (.one (.loop [2, 6, 7, 8, 57, 58, 59, 60, 61, 62, 63, 64, 65, 66, 67, 68, 69, 70, 71, 72, 73, 74, 75, 76, 77, 78, 79, 80, 81, 82, 83, 84, 85, 86, 87, 88, 89, 90, 91, 92, 93, 94, 95, 96] [(6, .one (.int .i64))] (.two .no (.join [2, 7, 8, 68, 69, 70, 71, 72, 73, 74, 75, 76, 77, 78, 79, 80, 81, 82, 83, 84, 85, 86, 87, 88, 89, 90, 91, 92, 93, 94, 95, 96] [] (.one (.two (.draw (.take 0 (.take 1 (.take 2 (.take 3 (.take 4 (.take 5 (.take 6 (.both 7 (.take 8 (.take 9 (.take 10 (.eff 11 (.eff 12 (.take 13 (.done))))))) 11 (.eff 7 (.take 8 (.take 9 (.take 10 (.eff 12 (.take 13 (.done)))))))))))))))) (.two .no (.two (.draw (.take 0 (.take 1 (.take 2 (.take 3 (.take 5 (.take 6 (.eff 4 (.take 7 (.take 8 (.take 9 (.take 10 (.take 12 (.take 13 (.take 14 (.eff 11 (.take 15 (.take 16 (.done))))))))))))))))))) .no)))) .no))))) (.two (.two .no (.one (.loop [2, 9, 10, 97, 98, 99, 100, 101, 102, 103, 104, 105, 106, 107, 108, 109, 110, 111, 112, 113, 114, 115, 116, 117, 118, 119, 120, 121, 122, 123] [(9, .one (.int .i64))] .no))) (.two (.draw (.take 0 (.take 2 (.eff 1 (.eff 3 (.eff 4 (.take 5 (.eff 6 (.take 7 (.take 8 (.done))))))))))) .no))))))))
def law13_NandRuns.P (p0_0 : Int) (p0_1 : Int) (p0_2 : Int) (p0_3 : Int) (p0_4 : Int) (p0_5 : Int) (a0_6 : Option Addr) (n0_6 c0_6 : Nat) (a0_7 : Option Addr) (n0_7 c0_7 : Nat) (w : World) (K : Bool × Unit → World → Prop) : Prop :=
  NewV #[.int .i64 p0_0, .int .i64 p0_1, .int .i64 p0_2, .int .i64 p0_3, .int .i64 p0_4, .int .i64 p0_5, .slice a0_6 n0_6 c0_6, .slice a0_7 n0_7 c0_7] 79 w fun b1 w2 =>
  LoadA w2 ⟨b1, 0, none⟩ [.int .i64, .int .i64, .int .i64, .int .i64, .int .i64, .int .i64] fun (x3 : Int × Int × Int × Int × Int × Int × Unit) =>
  LoadS w2 ⟨b1, 6, none⟩ .sl fun (x4 : SlV) =>
  CallV Try.prog 43 #[.agg #[.int .i64 x3.1, .int .i64 x3.2.1, .int .i64 x3.2.2.1, .int .i64 x3.2.2.2.1, .int .i64 x3.2.2.2.2.1, .int .i64 x3.2.2.2.2.2.1], .slice x4.a x4.n x4.c] w2 [.one .ptr, .one (.int .i64)] fun (r5 : (Option Addr) × Int × Unit) w6 =>
  LoadA w6 ⟨b1, 0, none⟩ [.int .i64, .int .i64, .int .i64, .int .i64, .int .i64, .int .i64] fun (x7 : Int × Int × Int × Int × Int × Int × Unit) =>
  CallV Try.prog 17 #[.agg #[.int .i64 x7.1, .int .i64 x7.2.1, .int .i64 x7.2.2.1, .int .i64 x7.2.2.2.1, .int .i64 x7.2.2.2.2.1, .int .i64 x7.2.2.2.2.2.1]] w6 [.one .bool] fun (r8 : Bool × Unit) w9 =>
  cond (!r8.1)
  (cond (r5.2.1 == 2)
  (cond r5.1.isNone
  (CallV Try.prog 42 #[] w9 [.one .bool] fun (r10 : Bool × Unit) w11 =>
  K (r10.1, ()) w11)
  (K (false, ()) w9))
  (K (false, ()) w9))
  (LoadS w9 ⟨b1, 6, none⟩ .sl fun (x12 : SlV) =>
  CallV Try.prog 40 #[.slice x12.a x12.n x12.c] w9 [.one .bool] fun (r13 : Bool × Unit) w14 =>
  cond (!r13.1)
  (cond (r5.2.1 == 2)
  (cond r5.1.isNone
  (CallV Try.prog 42 #[] w14 [.one .bool] fun (r15 : Bool × Unit) w16 =>
  K (r15.1, ()) w16)
  (K (false, ()) w14))
  (K (false, ()) w14))
  (LoadA w14 ⟨b1, 0, none⟩ [.int .i64, .int .i64, .int .i64, .int .i64, .int .i64, .int .i64] fun (x17 : Int × Int × Int × Int × Int × Int × Unit) =>
  CallV Try.prog 41 #[.agg #[.int .i64 x17.1, .int .i64 x17.2.1, .int .i64 x17.2.2.1, .int .i64 x17.2.2.2.1, .int .i64 x17.2.2.2.2.1, .int .i64 x17.2.2.2.2.2.1]] w14 [.one .bool] fun (r18 : Bool × Unit) w19 =>
  cond (!r18.1)
  (CallV Try.prog 42 #[] w19 [.one .bool] fun (r20 : Bool × Unit) w21 =>
  K (r20.1, ()) w21)
  (DrawV fun D22 =>
  cond (r5.2.1 != 0)
  (K (false, ()) w19.drew)
  ((D22 b1 ∧ LoadA w19.drew ⟨b1, 0, none⟩ [.int .i64, .int .i64, .int .i64, .int .i64, .int .i64, .int .i64] fun (x23 : Int × Int × Int × Int × Int × Int × Unit) =>
  CallV Try.prog 53 #[.pointer r5.1] w19.drew [.agg [.int .i64, .int .i64, .int .i64, .int .i64, .int .i64, .int .i64]] fun (r24 : (Int × Int × Int × Int × Int × Int × Unit) × Unit) w25 =>
  KeepOn D22 w19.drew w25 ∧
  AggEq Try.prog 23 #[.int .i64 r24.1.1, .int .i64 r24.1.2.1, .int .i64 r24.1.2.2.1, .int .i64 r24.1.2.2.2.1, .int .i64 r24.1.2.2.2.2.1, .int .i64 r24.1.2.2.2.2.2.1] #[.int .i64 x23.1, .int .i64 x23.2.1, .int .i64 x23.2.2.1, .int .i64 x23.2.2.2.1, .int .i64 x23.2.2.2.2.1, .int .i64 x23.2.2.2.2.2.1] fun e26 =>
  cond (!e26)
  (K (false, ()) w25)
  (LoadA w25 ⟨b1, 0, none⟩ [.int .i64, .int .i64, .int .i64, .int .i64, .int .i64, .int .i64] fun (x27 : Int × Int × Int × Int × Int × Int × Unit) =>
  LoadS w25 ⟨b1, 6, none⟩ .sl fun (x28 : SlV) =>
  CallV Try.prog 44 #[.agg #[.int .i64 x27.1, .int .i64 x27.2.1, .int .i64 x27.2.2.1, .int .i64 x27.2.2.2.1, .int .i64 x27.2.2.2.2.1, .int .i64 x27.2.2.2.2.2.1], .slice x28.a x28.n x28.c] w25 [.agg [.int .i64, .int .i64, .int .i64, .int .i64, .int .i64, .int .i64, .sl, .sl, .bool, .int .i64]] fun (r29 : (Int × Int × Int × Int × Int × Int × SlV × SlV × Bool × Int × Unit) × Unit) w30 =>
  NewV #[.int .i64 0, .int .i64 0, .int .i64 0, .int .i64 0, .int .i64 0, .int .i64 0, .slice none 0 0, .slice none 0 0, .bool false, .int .i64 0] 88 w30 fun b31 w32 =>
  StoreV w32 ⟨b31, 0, none⟩ [.int .i64 r29.1.1, .int .i64 r29.1.2.1, .int .i64 r29.1.2.2.1, .int .i64 r29.1.2.2.2.1, .int .i64 r29.1.2.2.2.2.1, .int .i64 r29.1.2.2.2.2.2.1, .slice r29.1.2.2.2.2.2.2.1.a r29.1.2.2.2.2.2.2.1.n r29.1.2.2.2.2.2.2.1.c, .slice r29.1.2.2.2.2.2.2.2.1.a r29.1.2.2.2.2.2.2.2.1.n r29.1.2.2.2.2.2.2.2.1.c, .bool r29.1.2.2.2.2.2.2.2.2.1, .int .i64 r29.1.2.2.2.2.2.2.2.2.2.1] fun w33 =>
  JoinV [] (fun (v35 : Unit) w36 =>
  LoopV [.one (.int .i64)] (((-1) : Int), ()) w36 fun (z37 : Int × Unit) w38 (K39 : Int × Unit → World → Prop) =>
  LoadS w38 ⟨b1, 0, none⟩ (.int .i64) fun (x40 : Int) =>
  cond (decide (z37.1 ≤ x40))
  (cond (decide (z37.1 ≥ 0))
  (LoadS w38 ⟨b1, 0, none⟩ (.int .i64) fun (x41 : Int) =>
  cond (decide (z37.1 < x41))
  (LoadS w38 ⟨b31, 6, none⟩ .sl fun (x42 : SlV) =>
  (0 ≤ z37.1 ∧ z37.1 < ((x42.n : Nat) : Int)) ∧ ∃ q43 : Addr, x42.a = some q43 ∧
  LoadS w38 ((q43.add (z37.1.toNat * 5)).add 4) (.int .i64) fun (x44 : Int) =>
  CallV Try.prog 55 #[.pointer r5.1, .int .i64 z37.1] w38 [.one (.int .i64)] fun (r45 : Int × Unit) w46 =>
  cond (r45.1 != x44)
  (K (false, ()) w46)
  (Rng .i64 (z37.1 + 1) ∧
  K39 (z37.1 + 1, ()) w46))
  (CallV Try.prog 55 #[.pointer r5.1, .int .i64 z37.1] w38 [.one (.int .i64)] fun (r47 : Int × Unit) w48 =>
  cond (r47.1 != 0)
  (K (false, ()) w48)
  (Rng .i64 (z37.1 + 1) ∧
  K39 (z37.1 + 1, ()) w48)))
  (CallV Try.prog 55 #[.pointer r5.1, .int .i64 z37.1] w38 [.one (.int .i64)] fun (r49 : Int × Unit) w50 =>
  cond (r49.1 != 0)
  (K (false, ()) w50)
  (Rng .i64 (z37.1 + 1) ∧
  K39 (z37.1 + 1, ()) w50)))
  (DrawV fun D51 =>
  (D51 b31 ∧ LoadA w38.drew ⟨b31, 0, none⟩ [.int .i64, .int .i64, .int .i64, .int .i64, .int .i64, .int .i64, .sl, .sl, .bool, .int .i64] fun (x52 : Int × Int × Int × Int × Int × Int × SlV × SlV × Bool × Int × Unit) =>
  CallV Try.prog 48 #[.pointer r5.1] w38.drew [.one .sl] fun (r53 : SlV × Unit) w54 =>
  KeepOn D51 w38.drew w54 ∧
  CallV Try.prog 56 #[.agg #[.int .i64 x52.1, .int .i64 x52.2.1, .int .i64 x52.2.2.1, .int .i64 x52.2.2.2.1, .int .i64 x52.2.2.2.2.1, .int .i64 x52.2.2.2.2.2.1, .slice x52.2.2.2.2.2.2.1.a x52.2.2.2.2.2.2.1.n x52.2.2.2.2.2.2.1.c, .slice x52.2.2.2.2.2.2.2.1.a x52.2.2.2.2.2.2.2.1.n x52.2.2.2.2.2.2.2.1.c, .bool x52.2.2.2.2.2.2.2.2.1, .int .i64 x52.2.2.2.2.2.2.2.2.2.1]] w54 [.one .sl] fun (r55 : SlV × Unit) w56 =>
  KeepOn D51 w38.drew w56 ∧
  CallV Try.prog 19 #[.slice r53.1.a r53.1.n r53.1.c, .slice r55.1.a r55.1.n r55.1.c] w56 [.one .bool] fun (r57 : Bool × Unit) w58 =>
  KeepOn D51 w38.drew w58 ∧
  cond r57.1
  (CallV Try.prog 42 #[] w58 [.one .bool] fun (r59 : Bool × Unit) w60 =>
  KeepOn D51 w38.drew w60 ∧
  K (r59.1, ()) w60)
  (K (false, ()) w58)))) fun (J34 : Unit → World → Prop) =>
  LoopV [.one (.int .i64)] ((0 : Int), ()) w33 fun (z61 : Int × Unit) w62 (K63 : Int × Unit → World → Prop) =>
  LoadS w62 ⟨b1, 7, none⟩ .sl fun (x64 : SlV) =>
  cond (decide (z61.1 < ((x64.n : Nat) : Int)))
  (cond (decide (z61.1 < 20))
  (JoinV [] (fun (v66 : Unit) w67 =>
  Rng .i64 (z61.1 + 1) ∧
  K63 (z61.1 + 1, ()) w67) fun (J65 : Unit → World → Prop) =>
  DrawV fun D68 =>
  (D68 b31 ∧ LoadA w62.drew ⟨b31, 0, none⟩ [.int .i64, .int .i64, .int .i64, .int .i64, .int .i64, .int .i64, .sl, .sl, .bool, .int .i64] fun (x69 : Int × Int × Int × Int × Int × Int × SlV × SlV × Bool × Int × Unit) =>
  (D68 b1 ∧ LoadS w62.drew ⟨b1, 7, none⟩ .sl fun (x70 : SlV) =>
  (0 ≤ z61.1 ∧ z61.1 < ((x70.n : Nat) : Int)) ∧ ∃ q71 : Addr, x70.a = some q71 ∧
  (D68 (q71.add (z61.1.toNat * 5)).block ∧ LoadA w62.drew (q71.add (z61.1.toNat * 5)) [.int .i64, .int .i64, .int .i64, .int .u8, .bool] fun (x72 : Int × Int × Int × Int × Bool × Unit) =>
  ((CallV Try.prog 45 #[.pointer r5.1, .agg #[.int .i64 x69.1, .int .i64 x69.2.1, .int .i64 x69.2.2.1, .int .i64 x69.2.2.2.1, .int .i64 x69.2.2.2.2.1, .int .i64 x69.2.2.2.2.2.1, .slice x69.2.2.2.2.2.2.1.a x69.2.2.2.2.2.2.1.n x69.2.2.2.2.2.2.1.c, .slice x69.2.2.2.2.2.2.2.1.a x69.2.2.2.2.2.2.2.1.n x69.2.2.2.2.2.2.2.1.c, .bool x69.2.2.2.2.2.2.2.2.1, .int .i64 x69.2.2.2.2.2.2.2.2.2.1], .agg #[.int .i64 x72.1, .int .i64 x72.2.1, .int .i64 x72.2.2.1, .int .u8 x72.2.2.2.1, .bool x72.2.2.2.2.1]] w62.drew [.agg [.int .i64, .int .i64, .int .i64, .int .i64, .int .i64, .int .i64, .sl, .sl, .bool, .int .i64], .one .bool] fun (r73 : (Int × Int × Int × Int × Int × Int × SlV × SlV × Bool × Int × Unit) × Bool × Unit) w74 =>
  KeepOn D68 w62.drew w74 ∧
  NewV #[.int .i64 0, .int .i64 0, .int .i64 0, .int .i64 0, .int .i64 0, .int .i64 0, .slice none 0 0, .slice none 0 0, .bool false, .int .i64 0] 88 w74 fun b75 w76 =>
  KeepOn D68 w62.drew w76 ∧
  StoreV w76 ⟨b75, 0, none⟩ [.int .i64 r73.1.1, .int .i64 r73.1.2.1, .int .i64 r73.1.2.2.1, .int .i64 r73.1.2.2.2.1, .int .i64 r73.1.2.2.2.2.1, .int .i64 r73.1.2.2.2.2.2.1, .slice r73.1.2.2.2.2.2.2.1.a r73.1.2.2.2.2.2.2.1.n r73.1.2.2.2.2.2.2.1.c, .slice r73.1.2.2.2.2.2.2.2.1.a r73.1.2.2.2.2.2.2.2.1.n r73.1.2.2.2.2.2.2.2.1.c, .bool r73.1.2.2.2.2.2.2.2.2.1, .int .i64 r73.1.2.2.2.2.2.2.2.2.2.1] fun w77 =>
  KeepOn D68 w62.drew w77 ∧
  LoadA w77 ⟨b75, 0, none⟩ [.int .i64, .int .i64, .int .i64, .int .i64, .int .i64, .int .i64, .sl, .sl, .bool, .int .i64] fun (x78 : Int × Int × Int × Int × Int × Int × SlV × SlV × Bool × Int × Unit) =>
  StoreV w77 ⟨b31, 0, none⟩ [.int .i64 x78.1, .int .i64 x78.2.1, .int .i64 x78.2.2.1, .int .i64 x78.2.2.2.1, .int .i64 x78.2.2.2.2.1, .int .i64 x78.2.2.2.2.2.1, .slice x78.2.2.2.2.2.2.1.a x78.2.2.2.2.2.2.1.n x78.2.2.2.2.2.2.1.c, .slice x78.2.2.2.2.2.2.2.1.a x78.2.2.2.2.2.2.2.1.n x78.2.2.2.2.2.2.2.1.c, .bool x78.2.2.2.2.2.2.2.2.1, .int .i64 x78.2.2.2.2.2.2.2.2.2.1] fun w79 =>
  DrawV fun D80 =>
  cond (!r73.2.1)
  (K (false, ()) w79.drew)
  ((D80 b31 ∧ LoadS w79.drew ⟨b31, 9, none⟩ (.int .i64) fun (x81 : Int) =>
  CallV Try.prog 49 #[.pointer r5.1] w79.drew [.one (.int .i64)] fun (r82 : Int × Unit) w83 =>
  KeepOn D80 w79.drew w83 ∧
  cond (r82.1 != x81)
  (K (false, ()) w83)
  ((D80 b31 ∧ LoadS w79.drew ⟨b31, 8, none⟩ .bool fun (x84 : Bool) =>
  CallV Try.prog 54 #[.pointer r5.1] w83 [.one .bool] fun (r85 : Bool × Unit) w86 =>
  KeepOn D80 w79.drew w86 ∧
  cond (!(r85.1 == !x84))
  (K (false, ()) w86)
  (J65 (()) w86)))))) ∧
  (NewV #[.int .i64 0, .int .i64 0, .int .i64 0, .int .i64 0, .int .i64 0, .int .i64 0, .slice none 0 0, .slice none 0 0, .bool false, .int .i64 0] 88 w62.drew fun b87 w88 =>
  KeepOn D68 w62.drew w88 ∧
  CallV Try.prog 45 #[.pointer r5.1, .agg #[.int .i64 x69.1, .int .i64 x69.2.1, .int .i64 x69.2.2.1, .int .i64 x69.2.2.2.1, .int .i64 x69.2.2.2.2.1, .int .i64 x69.2.2.2.2.2.1, .slice x69.2.2.2.2.2.2.1.a x69.2.2.2.2.2.2.1.n x69.2.2.2.2.2.2.1.c, .slice x69.2.2.2.2.2.2.2.1.a x69.2.2.2.2.2.2.2.1.n x69.2.2.2.2.2.2.2.1.c, .bool x69.2.2.2.2.2.2.2.2.1, .int .i64 x69.2.2.2.2.2.2.2.2.2.1], .agg #[.int .i64 x72.1, .int .i64 x72.2.1, .int .i64 x72.2.2.1, .int .u8 x72.2.2.2.1, .bool x72.2.2.2.2.1]] w88 [.agg [.int .i64, .int .i64, .int .i64, .int .i64, .int .i64, .int .i64, .sl, .sl, .bool, .int .i64], .one .bool] fun (r89 : (Int × Int × Int × Int × Int × Int × SlV × SlV × Bool × Int × Unit) × Bool × Unit) w90 =>
  KeepOn D68 w62.drew w90 ∧
  StoreV w90 ⟨b87, 0, none⟩ [.int .i64 r89.1.1, .int .i64 r89.1.2.1, .int .i64 r89.1.2.2.1, .int .i64 r89.1.2.2.2.1, .int .i64 r89.1.2.2.2.2.1, .int .i64 r89.1.2.2.2.2.2.1, .slice r89.1.2.2.2.2.2.2.1.a r89.1.2.2.2.2.2.2.1.n r89.1.2.2.2.2.2.2.1.c, .slice r89.1.2.2.2.2.2.2.2.1.a r89.1.2.2.2.2.2.2.2.1.n r89.1.2.2.2.2.2.2.2.1.c, .bool r89.1.2.2.2.2.2.2.2.2.1, .int .i64 r89.1.2.2.2.2.2.2.2.2.2.1] fun w91 =>
  KeepOn D68 w62.drew w91 ∧
  LoadA w91 ⟨b87, 0, none⟩ [.int .i64, .int .i64, .int .i64, .int .i64, .int .i64, .int .i64, .sl, .sl, .bool, .int .i64] fun (x92 : Int × Int × Int × Int × Int × Int × SlV × SlV × Bool × Int × Unit) =>
  StoreV w91 ⟨b31, 0, none⟩ [.int .i64 x92.1, .int .i64 x92.2.1, .int .i64 x92.2.2.1, .int .i64 x92.2.2.2.1, .int .i64 x92.2.2.2.2.1, .int .i64 x92.2.2.2.2.2.1, .slice x92.2.2.2.2.2.2.1.a x92.2.2.2.2.2.2.1.n x92.2.2.2.2.2.2.1.c, .slice x92.2.2.2.2.2.2.2.1.a x92.2.2.2.2.2.2.2.1.n x92.2.2.2.2.2.2.2.1.c, .bool x92.2.2.2.2.2.2.2.2.1, .int .i64 x92.2.2.2.2.2.2.2.2.2.1] fun w93 =>
  DrawV fun D94 =>
  cond (!r89.2.1)
  (K (false, ()) w93.drew)
  ((D94 b31 ∧ LoadS w93.drew ⟨b31, 9, none⟩ (.int .i64) fun (x95 : Int) =>
  CallV Try.prog 49 #[.pointer r5.1] w93.drew [.one (.int .i64)] fun (r96 : Int × Unit) w97 =>
  KeepOn D94 w93.drew w97 ∧
  cond (r96.1 != x95)
  (K (false, ()) w97)
  ((D94 b31 ∧ LoadS w93.drew ⟨b31, 8, none⟩ .bool fun (x98 : Bool) =>
  CallV Try.prog 54 #[.pointer r5.1] w97 [.one .bool] fun (r99 : Bool × Unit) w100 =>
  KeepOn D94 w93.drew w100 ∧
  cond (!(r99.1 == !x98))
  (K (false, ()) w100)
  (J65 (()) w100)))))))))))
  (J34 (()) w62))
  (J34 (()) w62)))))))
theorem law13_NandRuns.vc (p0_0 : Int) (p0_1 : Int) (p0_2 : Int) (p0_3 : Int) (p0_4 : Int) (p0_5 : Int) (a0_6 : Option Addr) (n0_6 c0_6 : Nat) (a0_7 : Option Addr) (n0_7 c0_7 : Nat) (w : World) (K : Bool × Unit → World → Prop) (h : law13_NandRuns.P p0_0 p0_1 p0_2 p0_3 p0_4 p0_5 a0_6 n0_6 c0_6 a0_7 n0_7 c0_7 w K) : CallV Try.prog 14 #[.agg #[.int .i64 p0_0, .int .i64 p0_1, .int .i64 p0_2, .int .i64 p0_3, .int .i64 p0_4, .int .i64 p0_5, .slice a0_6 n0_6 c0_6, .slice a0_7 n0_7 c0_7]] w [.one .bool] K := by
  have e : vcFun Try.prog okf false Try.f14 law13_NandRuns.A #[.agg #[.int .i64 p0_0, .int .i64 p0_1, .int .i64 p0_2, .int .i64 p0_3, .int .i64 p0_4, .int .i64 p0_5, .slice a0_6 n0_6 c0_6, .slice a0_7 n0_7 c0_7]] w [.one .bool] K = law13_NandRuns.P p0_0 p0_1 p0_2 p0_3 p0_4 p0_5 a0_6 n0_6 c0_6 a0_7 n0_7 c0_7 w K := by kernel_rfl
  exact vcFun.calls okf_ok follows Try.func14 (e.symm ▸ h)

end Go.Proofs.Ytfpkaebmiojicaa.Vc

/-! The law NandRuns of layer 13: each call gives true, and what it read stays. -/
namespace Go.Proofs.Ytfpkaebmiojicaa.Vc
open Go Go.Eng Go.RowKit
set_option linter.unusedVariables false
set_option linter.unusedSimpArgs false

abbrev casV (g : Geo) (f : SlP TF.T) (s : SlP TSt.T) : List Value := [.int .i64 g.b, .int .i64 g.p, .int .i64 g.s, .int .i64 g.sp, .int .i64 g.wr, .int .i64 g.ro, .slice f.a f.n f.c, .slice s.a s.n s.c]
theorem opsS {E : Nat → Prop} {w0 w : World} {p : Nat} {y : Lay} {C : CD} {L : List TOp} {Rs : List Asr} (S : Sep E w0 w (StarA (ChipP p y C L) :: Rs)) :
    CallV Try.prog 49 #[.pointer (some ⟨p, 0, none⟩)] w [.one (.int .i64)] fun r w' => r.1 = (C.ops : Int) ∧ w' = w := Ops_c (S.unfold (Rs := ChipP p y C L))
theorem NandRuns_law {w : World} {g : Geo} {f : SlP TF.T} {s : SlP TSt.T} (hf : LF.rd w All f) (hm : mFit (fds f)) (hs : LSt.rd w All s) :
    CallV Try.prog 14 #[.agg (casV g f s).toArray] w [.one .bool] fun r w' => r.1 = true ∧ Ext w w' := by
  apply law13_NandRuns.vc
  unfold law13_NandRuns.P
  have S := Sep.start NoB w
  refine S.newB fun b1 w1 S f1 _ => ?_
  refine S.lb0 (o := 0) rfl (S.ld0 (j := 6) rfl rfl ?_)
  refine (New13_c (g := g) (x := f) (Ty.rd_ext S.ext _ hf) hm).mono ?_
  rintro ⟨pp, (e : Int), ⟨⟩⟩ w2 ⟨x2, hbad, hgood⟩
  dsimp only at hbad hgood
  by_cases hRF : Right g ∧ FRight (fds f)
  case neg =>
    obtain ⟨h1, h2⟩ := hbad hRF
    subst h1; subst h2
    have S := S.stepE x2
    refine S.lb0 (o := 0) rfl ?_
    refine (Right_c (g := g)).mono ?_
    rintro ⟨(r : Bool), ⟨⟩⟩ w4 ⟨h4, x4⟩
    dsimp only at h4 ⊢
    subst h4
    have S := S.stepE x4
    by_cases hR : Right g
    case neg => exact cond_t (by rw [decide_eq_false hR]; rfl) (cond_t rfl (cond_t rfl (aw13 S.ext)))
    refine cond_f (by rw [decide_eq_true hR]; rfl) ?_
    refine S.ld0 (j := 6) rfl rfl ?_
    refine (rRight12_c (Ty.rd_ext S.ext _ hf)).mono ?_
    rintro ⟨(r : Bool), ⟨⟩⟩ _ ⟨h5, rfl⟩
    dsimp only at h5 ⊢
    subst h5
    exact cond_t (by rw [decide_eq_false (fun h => hRF ⟨hR, h⟩)]; rfl) (cond_t rfl (cond_t rfl (aw13 S.ext)))
  obtain ⟨h1, p, y, h2, hyF, S7⟩ := hgood hRF
  subst h1; subst h2
  obtain ⟨hR, hFR⟩ := hRF
  clear hbad hgood
  have S := (S.frame0 S7).fold
  refine S.lb1 (o := 0) rfl ?_
  refine (Right_c (g := g)).mono ?_
  rintro ⟨(r : Bool), ⟨⟩⟩ w4 ⟨h4, x4⟩
  dsimp only at h4 ⊢
  subst h4
  have S := S.stepE x4
  refine cond_f (by rw [decide_eq_true hR]; rfl) ?_
  refine S.ld1 (j := 6) rfl rfl ?_
  refine (rRight12_c (Ty.rd_ext S.ext _ hf)).mono ?_
  rintro ⟨(r : Bool), ⟨⟩⟩ w5 ⟨h5, rfl⟩
  dsimp only at h5 ⊢
  subst h5
  refine cond_f (by rw [decide_eq_true hFR]; rfl) ?_
  refine S.lb1 (o := 0) rfl ?_
  refine (light_c (g := g)).mono ?_
  rintro ⟨(r : Bool), ⟨⟩⟩ w6 ⟨h6, x6⟩
  dsimp only at h6 ⊢
  subst h6
  have S := S.stepE x6
  by_cases hL : LG g
  case neg => exact cond_t (by rw [decide_eq_false hL]; rfl) (aw13 S.ext)
  refine cond_f (by rw [decide_eq_true hL]; rfl) ?_
  have hC0 : COk (newC g (fds f)) := newC_ok hR hL fun F hF => ⟨fds_byt hf F hF, hFR.fit F hF⟩
  refine S.reg fun D hD hkeep S T => cond_f rfl ⟨hD _ S.bl1, S.lb1 (o := 0) rfl ?_⟩
  refine (Geometry_c (y := y) (C := newC g (fds f)) (S.unfold (Rs := ChipP p y (newC g (fds f)) []))).mono ?_
  rintro ⟨_, ⟨⟩⟩ w7 ⟨h7, x7⟩
  dsimp only at h7
  subst h7
  have S := S.stepE x7
  refine ⟨hkeep _ (.of x7), eqGe (g := g) (cond_f rfl ?_)⟩
  clear hkeep hD T
  refine S.lb1 (o := 0) rfl (S.ld1 (j := 6) rfl rfl ?_)
  refine (rNew13_c (f := f) hR (Ty.rd_ext S.ext _ hf)).mono ?_
  rintro ⟨_, ⟨⟩⟩ w8 ⟨B, hB, hRf, x8⟩
  dsimp only at hB
  subst hB
  have S := S.push (R := RdT (Ty.sl TBd) B) (F := fun k => w7.heap.size ≤ k ∧ k < w8.heap.size) (.of x8) ((Ty.sl TBd).rd_mono (fun k h1 h2 => ⟨h1, h2⟩) hRf.rb) fun k hk => hk
  refine S.newB fun b31 w9 S f9 _ => ?_
  refine S.st0 (by rfl) fun w10 S f10 => ?_
  refine ⟨fun (_ : Unit) w' => ∃ (C : CD) (B : SlP TBd.T) (y : Lay) (L : List TOp), COk C ∧ C.g = g ∧ C.pl = fds f ∧ B.l.map bdOf = C.bs ∧ Sep NoB w w' [BoxA b31 88 (chV B f C), RdT (Ty.sl TBd) B, StarA (ChipP p y C L), BoxA b1 79 (casV g f s)], ?_, ?_⟩
  case refine_2 =>
    refine Loop1 (fun (v : Int × Unit) w' => ∃ (i : Nat) (C : CD) (B : SlP TBd.T) (y : Lay) (L : List TOp), v.1 = (i : Int) ∧ i ≤ 20 ∧ COk C ∧ C.g = g ∧ C.ops ≤ i ∧ C.pl = fds f ∧ fds y.F = fds f ∧ B.l.map bdOf = C.bs ∧ Sep NoB w w' [BoxA b31 88 (chV B f C), RdT (Ty.sl TBd) B, StarA (ChipP p y C L), BoxA b1 79 (casV g f s)])
      (fun (v : Int × Unit) _ => ((s.n : Int) - v.1).toNat) ⟨0, newC g (fds f), B, y, [], rfl, by omega, hC0, rfl, Nat.le_refl _, rfl, hyF, hRf.db, S⟩ ?_
    clear S7 hC0 hRf hyF S
    rintro ⟨(v : Int), ⟨⟩⟩ w11 ⟨i, C, B, y, L, hv, hi, hC, hg, ho, hpl, hyF, hdb, S⟩
    dsimp only at hv
    subst hv
    have J : ∃ (C : CD) (B : SlP TBd.T) (y : Lay) (L : List TOp), COk C ∧ C.g = g ∧ C.pl = fds f ∧ B.l.map bdOf = C.bs ∧ Sep NoB w w11 [BoxA b31 88 (chV B f C), RdT (Ty.sl TBd) B, StarA (ChipP p y C L), BoxA b1 79 (casV g f s)] := ⟨C, B, y, L, hC, hg, hpl, hdb, S⟩
    refine S.ld3 (j := 7) rfl rfl ?_
    dsimp only
    refine cond_d (fun hlt => ?_) (fun _ => J)
    refine cond_d (fun h20 => ?_) (fun _ => J)
    clear J
    refine ⟨fun (_ : Unit) w' => ∃ (j : Nat) (C : CD) (B : SlP TBd.T) (y : Lay) (L : List TOp), (i : Int) + 1 = (j : Int) ∧ j ≤ 20 ∧ COk C ∧ C.g = g ∧ C.ops ≤ j ∧ C.pl = fds f ∧ fds y.F = fds f ∧ B.l.map bdOf = C.bs ∧ Sep NoB w w' [BoxA b31 88 (chV B f C), RdT (Ty.sl TBd) B, StarA (ChipP p y C L), BoxA b1 79 (casV g f s)], ?_, ?_⟩
    case refine_1 => exact fun _ w' h => ⟨Rng.i64 (by omega) (by omega), h, by omega⟩
    have S := S.sel [1, 1, 0, 0] rfl
    refine Sep.regC [_, _] S fun G D hG T S hDt hDo hkeep back => ?_
    obtain ⟨q, z, hq, hz, hc, hr, hGq, hqb⟩ := Ty.nth (LSt.rd_mono (G' := fun k => k < w.heap.size) (fun k _ hk => hk) hs) (i := (i : Int)) (by omega) hlt (by decide)
    obtain ⟨zk, ⟨zb, zp, ⟨⟩⟩, zs, zo, ⟨⟩⟩ := z
    refine ⟨hDt 0 _ _ _ rfl, S.la2 rfl ⟨hDt 1 _ _ _ rfl, S.ld3 (j := 7) rfl rfl ⟨⟨by omega, hlt⟩, q, hq, by rw [add_block]; exact hDo _ hGq (fun x => x), (zk, zb, zp, zs, zo, ()), S.ext.cells hc, ?_, ?_⟩⟩⟩
    · refine (stepS (p := p) (y := y) (C := C) (B := B) (f := f) (L := L) (k := zk) (bl := zb) (pa := zp) (sd := zs) (on := zo) (w := w11.drew) (Ts := []) hC (by omega) (by rw [hyF, hpl]) hpl.symm hdb (rng_u8 hr.2.2.1) (LF.rd_mono (fun k hk _ => ⟨Nat.lt_of_lt_of_le hk S.ext.size, fun hGk => by have := (hG k hGk).1.resolve_left (fun x => x); omega⟩) (Ty.rd_ext S.ext _ (LF.rd_mono (G' := fun k => k < w.heap.size) (fun k _ hk => hk) hf))) T).mono ?_
      rintro ⟨_, (ok : Bool), ⟨⟩⟩ w12 ⟨hok, B', y', L', hr1, hF', hdb', hL', T⟩
      dsimp only at hr1 hok
      subst hr1
      refine ⟨hkeep _ T.fr, T.newB fun b75 w13 T f13 _ => ⟨hkeep _ T.fr, T.st0 (by rfl) fun w14 T f14 => ⟨hkeep _ T.fr, T.la0 rfl ?_⟩⟩⟩
      have S := back _ _ T
      dsimp only [List.cons_append, List.nil_append] at S
      refine S.st3 (by rfl) fun w15 S f15 => ?_
      have S := S.sel [3, 1, 1, 1] rfl
      have hC' : COk (stC C zk zb zp zs zo) := stC_ok hC (by omega) (rng_u8 hr.2.2.1)
      have ho' : (stC C zk zb zp zs zo).ops = C.ops + (stT C zk zb zp zs).length := stC_same.2.2
      have hTl := stT_len (C := C) (k := zk) (bl := zb) (pa := zp) (sd := zs)
      refine S.reg fun D hD hkeep S T => cond_f (by rw [hok]; rfl) ⟨hD _ S.bl0, S.ld0 (j := 9) rfl rfl ?_⟩
      refine (opsS (S.sel [2, 0, 0, 0] rfl)).mono ?_
      rintro ⟨(o : Int), ⟨⟩⟩ w30 ⟨h30, rfl⟩
      dsimp only at h30
      subst h30
      refine ⟨hkeep _ (Fr.refl _ _), cond_f (by simp) ⟨hD _ S.bl0, S.ld0 (j := 8) rfl rfl ?_⟩⟩
      refine (On_c hC' ((S.sel [2, 0, 0, 0] rfl).unfold (Rs := ChipP p y' (stC C zk zb zp zs zo) L'))).mono ?_
      rintro ⟨(o : Bool), ⟨⟩⟩ w31 ⟨h31, rfl⟩
      dsimp only at h31
      subst h31
      refine ⟨hkeep _ (Fr.refl _ _), cond_f (by simp) ?_⟩
      exact ⟨i + 1, stC C zk zb zp zs zo, B', y', L', by push_cast; rfl, by omega, hC', by rw [stC_same.1, hg], by omega, by rw [stC_same.2.1, hpl], by rw [hF', hpl], hdb', S⟩
    · refine T.newB fun b87 w12 T f12 _ => ⟨hkeep _ T.fr, ?_⟩
      refine (stepS (p := p) (y := y) (C := C) (B := B) (f := f) (L := L) (k := zk) (bl := zb) (pa := zp) (sd := zs) (on := zo) (w := w12) (Ts := [BoxA b87 _ zCH]) hC (by omega) (by rw [hyF, hpl]) hpl.symm hdb (rng_u8 hr.2.2.1) (LF.rd_mono (fun k hk _ => ⟨Nat.lt_of_lt_of_le hk S.ext.size, fun hGk => by have := (hG k hGk).1.resolve_left (fun x => x); omega⟩) (Ty.rd_ext (S.ext.trans f12.ext) _ (LF.rd_mono (G' := fun k => k < w.heap.size) (fun k _ hk => hk) hf))) (T.sel [1, 1, 0] rfl)).mono ?_
      rintro ⟨_, (ok : Bool), ⟨⟩⟩ w13 ⟨hok, B', y', L', hr1, hF', hdb', hL', T⟩
      dsimp only at hr1 hok
      subst hr1
      refine ⟨hkeep _ T.fr, T.st2 (by rfl) fun w14 T f14 => ⟨hkeep _ T.fr, T.la2 rfl ?_⟩⟩
      have S := back _ _ T
      dsimp only [List.cons_append, List.nil_append] at S
      refine S.st3 (by rfl) fun w15 S f15 => ?_
      have S := S.sel [3, 0, 0, 1] rfl
      have hC' : COk (stC C zk zb zp zs zo) := stC_ok hC (by omega) (rng_u8 hr.2.2.1)
      have ho' : (stC C zk zb zp zs zo).ops = C.ops + (stT C zk zb zp zs).length := stC_same.2.2
      have hTl := stT_len (C := C) (k := zk) (bl := zb) (pa := zp) (sd := zs)
      refine S.reg fun D hD hkeep S T => cond_f (by rw [hok]; rfl) ⟨hD _ S.bl0, S.ld0 (j := 9) rfl rfl ?_⟩
      refine (opsS (S.sel [2, 0, 0, 0] rfl)).mono ?_
      rintro ⟨(o : Int), ⟨⟩⟩ w30 ⟨h30, rfl⟩
      dsimp only at h30
      subst h30
      refine ⟨hkeep _ (Fr.refl _ _), cond_f (by simp) ⟨hD _ S.bl0, S.ld0 (j := 8) rfl rfl ?_⟩⟩
      refine (On_c hC' ((S.sel [2, 0, 0, 0] rfl).unfold (Rs := ChipP p y' (stC C zk zb zp zs zo) L'))).mono ?_
      rintro ⟨(o : Bool), ⟨⟩⟩ w31 ⟨h31, rfl⟩
      dsimp only at h31
      subst h31
      refine ⟨hkeep _ (Fr.refl _ _), cond_f (by simp) ?_⟩
      exact ⟨i + 1, stC C zk zb zp zs zo, B', y', L', by push_cast; rfl, by omega, hC', by rw [stC_same.1, hg], by omega, by rw [stC_same.2.1, hpl], by rw [hF', hpl], hdb', S⟩
  clear S7 hC0 hRf hyF S
  rintro ⟨⟩ w11 ⟨C, B, y, L, hC, hg, hdf, hdb, S⟩
  subst hg
  obtain ⟨⟨n1, n2⟩, ⟨n3, n4⟩, ⟨n5, n6⟩, n7, n8⟩ := hC.num
  have hRR : ∀ {w' : World} {Rs : List Asr}, Sep NoB w w' (BoxA b31 88 (chV B f C) :: RdT (Ty.sl TBd) B :: Rs) → RefR All w' B f C := fun {w' Rs} S => by
    obtain ⟨G, hG, -⟩ := S.get (i := 1) rfl
    exact ⟨(Ty.sl TBd).rd_mono (fun _ _ _ => trivial) hG, hdb, Ty.rd_ext S.ext _ hf, hdf.symm⟩
  refine Loop1 (fun (v : Int × Unit) w' => -1 ≤ v.1 ∧ v.1 ≤ C.g.b + 1 ∧ Sep NoB w w' [BoxA b31 88 (chV B f C), RdT (Ty.sl TBd) B, StarA (ChipP p y C L), BoxA b1 79 (casV C.g f s)]) (fun (v : Int × Unit) _ => (C.g.b + 1 - v.1).toNat) ⟨by decide, by show (-1 : Int) ≤ _; omega, S⟩ ?_
  clear S
  rintro ⟨(v : Int), ⟨⟩⟩ w12 ⟨hv0, hv1, S⟩
  have hv0 : -1 ≤ v := hv0
  have hv1 : v ≤ C.g.b + 1 := hv1
  have r1 : Rng .i64 (v + 1) := Rng.i64 (by omega) (by omega)
  have er : ∀ {w0 w' : World}, Sep NoB w w' [BoxA b31 88 (chV B f C), RdT (Ty.sl TBd) B, StarA (ChipP p y C L), BoxA b1 79 (casV C.g f s)] → CallV Try.prog 55 #[.pointer (some ⟨p, 0, none⟩), .int .i64 v] w' [.one (.int .i64)] fun r w' => r.1 = erasesC C v ∧ Sep NoB w w' [BoxA b31 88 (chV B f C), RdT (Ty.sl TBd) B, StarA (ChipP p y C L), BoxA b1 79 (casV C.g f s)] := fun {w0 w'} S =>
    (Erases_c (Rs := [_, _, _]) (n := v) hC ((S.sel [2, 0, 0, 0] rfl).unfold (Rs := ChipP p y C L))).mono fun r w3 ⟨h, x⟩ => ⟨h, S.stepE x⟩
  refine S.ld3 (j := 0) rfl rfl ?_
  dsimp only
  refine cond_d (fun hle => ?_) (fun hgt => ?_)
  · refine cond_d (fun h0 => ?_) (fun h0 => ?_)
    · refine S.ld3 (j := 0) rfl rfl (cond_d (fun h1 => ?_) (fun h1 => ?_))
      · have h1 : v < C.g.b := h1
        have hBn := (hRR S).len
        rw [hC.bl] at hBn
        obtain ⟨q, x, hq, hc, -, -, hbd, -⟩ := (hRR S).nth (i := v) h0 (by omega)
        refine S.ld0 (j := 6) rfl rfl ⟨⟨h0, by dsimp only; omega⟩, q, hq, ldc hc 4 (h := .int .i64) (x := x.2.2.2.2.1) rfl ?_⟩
        refine (er (w0 := w) S).mono ?_
        rintro ⟨(r : Int), ⟨⟩⟩ w13 ⟨h13, S⟩
        dsimp only at h13 ⊢
        have h2 : r = x.2.2.2.2.1 := by rw [h13]; unfold erasesC; rw [if_pos ⟨h0, h1⟩, ← hbd]; rfl
        exact cond_f (by rw [h2]; simp) ⟨r1, ⟨by omega, by omega, S⟩, by omega⟩
      · have h1 : ¬ v < C.g.b := h1
        refine (er (w0 := w) S).mono ?_
        rintro ⟨(r : Int), ⟨⟩⟩ w13 ⟨h13, S⟩
        dsimp only at h13 ⊢
        have h2 : r = 0 := by rw [h13]; unfold erasesC; rw [if_neg (fun h => h1 h.2)]
        exact cond_f (by rw [h2]; rfl) ⟨r1, ⟨by omega, by omega, S⟩, by omega⟩
    · refine (er (w0 := w) S).mono ?_
      rintro ⟨(r : Int), ⟨⟩⟩ w13 ⟨h13, S⟩
      dsimp only at h13 ⊢
      have h2 : r = 0 := by rw [h13]; unfold erasesC; rw [if_neg (fun h => h0 h.1)]
      exact cond_f (by rw [h2]; rfl) ⟨r1, ⟨by omega, by omega, S⟩, by omega⟩
  · refine S.reg fun D hD hkeep S T => ⟨hD _ S.bl0, S.la0 rfl ?_⟩
    refine (Image_c (Rs := [_, _, _]) hC ((S.sel [2, 0, 0, 0] rfl).unfold (Rs := ChipP p y C L))).mono ?_
    rintro ⟨⟨ia, iN, ic⟩, ⟨⟩⟩ w13 h13
    dsimp only
    have S := S.stepE h13.ext
    refine ⟨hkeep _ (.of h13.ext), ?_⟩
    refine (rImage_c (hRR S) hC).mono ?_
    rintro ⟨⟨ja, jn, jc⟩, ⟨⟩⟩ w14 h14
    dsimp only
    have S := S.stepE h14.ext
    refine ⟨hkeep _ (.of (h13.ext.trans h14.ext)), ?_⟩
    refine (SameBytes_c (h13.ints.ext h14.ext) h14.ints).mono ?_
    rintro ⟨(r : Bool), ⟨⟩⟩ w15 ⟨h15, x15⟩
    dsimp only at h15 ⊢
    subst h15
    have S := S.stepE x15
    refine ⟨hkeep _ (.of ((h13.ext.trans h14.ext).trans x15)), cond_t (decide_eq_true rfl) ?_⟩
    exact awake13_c.mono fun r w16 ⟨h16, x16⟩ => ⟨hkeep _ (.of (((h13.ext.trans h14.ext).trans x15).trans x16)), h16, S.ext.trans x16⟩

theorem NandRuns_of {w : World} {x : (Ty.cons TGeo (.cons LF (.cons LSt .nil))).T} (g0 : (Ty.cons TGeo (.cons LF (.cons LSt .nil))).ok w x) (b0 : (Ty.cons TGeo (.cons LF (.cons LSt .nil))).big x) :
    CallV Try.prog 14 #[.agg ((Ty.cons TGeo (.cons LF (.cons LSt .nil))).vs x).toArray] w [.one .bool] fun r w' => r.1 = true ∧ Ext w w' := by
  obtain ⟨⟨b, p, s, sp, wr, ro, ⟨⟩⟩, f, l, ⟨⟩⟩ := x
  have hf := LF.rd_of g0.2.1
  have hm : mFit (fds f) := by
    intro F hF
    obtain ⟨y, hy, rfl⟩ := List.mem_map.1 hF
    rw [TF_dat]
    have h1 := (b0.2.1.2 y hy).2.2.1.1
    have h2 := (hf.2.2.2.2 y hy).2.2.1.1
    show y.2.2.1.l.length ≤ _
    omega
  exact NandRuns_law (g := ⟨b, p, s, sp, wr, ro⟩) (f := f) (s := l) hf hm (LSt.rd_of g0.2.2.1)
end Go.Proofs.Ytfpkaebmiojicaa.Vc
