/- Texts in one: Calls and single elements in the separate parts. What the parameters of a law are known to be, out of the row's input: whole numbers in their range, slices of whole numbers as cells. Values of several cells in memory of their own: read and written whole, and cell by cell. What any parameter of a law is known to be, out of the row's input: structs, arrays and slices of whole numbers, texts, and of each other. Plain laws of numbers and lists for layer 1. Values that are read, of any shape: where they lie (in which blocks), what data they are, and that they stay while their blocks stay. The functions that may be called, and the order in which regions run. The plans of functions as plain statements, printed by wip/tools/vcgen.py; the kernel holds each to the code. The contracts of layer 21 (ledger): the blocks' changes. The plans of functions as plain statements, printed by wip/tools/vcgen.py; the kernel holds each to the code. The contracts of layer 21 (ledger): its changes. The contracts of layer 21 (ledger): a step, and new ones. Plain laws of layer 21 (ledger): the least one, found upwards and downwards. -/
import Derived.SizedLaws
import Derived.ChangeSlices
import Derived.ChangeShapes
import Derived.ShutString
import Derived.ChangeArms
import Derived.DataReads
import Derived.OpenShut
import Derived.Test.YtiemdjnmghackaaProg
import Derived.KernelRfl
import Derived.Test.YtiemdjnmghackaaZLedgerNila

/-! Calls and single elements in the separate parts. -/
namespace Go.Eng
open Go
set_option linter.unusedVariables false
set_option linter.unusedSimpArgs false

/-- Nothing. -/
def emp : Asr := ⟨fun _ _ => True, fun _ _ => trivial⟩
section
variable {E : Nat → Prop} {w0 w w' : World} {Rs Ts : List Asr}
theorem Sep.emp (S : Sep E w0 w Rs) : Sep E w0 w (Go.Eng.emp :: Rs) := S.push (F := NoB) (Fr.refl _ _) trivial fun _ x => x.elim
/-- A call that owns the first parts. -/
theorem Sep.call {P : Program} {g : FuncId} {args : Array Value} {l : List Sh} (Rs : List Asr) {Ts : List Asr} (S : Sep E w0 w (Rs ++ Ts)) {C : (Nat → Prop) → RT l → World → Prop}
    (hc : ∀ F, Sep F w w Rs → CallV P g args w l fun r w' => C F r w') {K : RT l → World → Prop}
    (hk : ∀ F, (∀ w' Ls, Sep F w w' Ls → Sep E w0 w' (Ls ++ Ts)) → ∀ r w', C F r w' → K r w') : CallV P g args w l K := by
  obtain ⟨F, h1, h2, h3⟩ := S.frame
  exact (hc F (Sep.begin h1 h2)).mono fun r w' h => hk F h3 r w' h
/-- A slice of one's own is a block. -/
theorem Sep.focus {e : TypeId} {sz : Nat} {a : Option Addr} {n c : Nat} {vs : List Value} (S : Sep E w0 w (OwnA e sz a n c vs :: Rs)) (hn : vs ≠ []) :
    ∃ b tl, a = some ⟨b, 0, none⟩ ∧ vs.length = n * sz ∧ (vs ++ tl).length = c * sz ∧ n ≤ c ∧ n ≤ 9223372036854775807 ∧ oneAll vs ∧ Sep E w0 w (BoxA b e (vs ++ tl) :: Rs) := by
  have ho := S.own 0 rfl
  rcases ho.at_ with ⟨_, _, h⟩ | ⟨b, cs, h1, h2, h3, h4, h5⟩
  · exact absurd h hn
  · have he : vs ++ cs.toList.drop vs.length = cs.toList := by conv => rhs; rw [← List.take_append_drop vs.length cs.toList, h5]
    refine ⟨b, cs.toList.drop vs.length, h1, ho.len, by rw [he]; exact h4, ho.cap, ho.lim, ho.one, S.conv fun F h _ => ⟨h.2 _ h1, ?_⟩⟩
    rw [he, Array.toArray_toList]
    exact h3
theorem Sep.unfocus {e : TypeId} {sz : Nat} {n c b : Nat} {vs tl : List Value} (S : Sep E w0 w (BoxA b e (vs ++ tl) :: Rs)) (h1 : vs.length = n * sz) (h2 : (vs ++ tl).length = c * sz) (h3 : n ≤ c) (h4 : n ≤ 9223372036854775807) (h5 : oneAll vs) : Sep E w0 w (OwnA e sz (some ⟨b, 0, none⟩) n c vs :: Rs) :=
  S.conv fun F ⟨hF, h⟩ _ => ⟨⟨h1, h3, h4, h5, .inr ⟨b, (vs ++ tl).toArray, rfl, Nat.zero_le _, h, by simpa using h2, by simp⟩⟩, fun q hq => by cases hq; exact hF⟩
theorem splice_mid {pre xs post news : List Value} {o j : Nat} (ho : o = pre.length) (h : j + news.length ≤ xs.length) :
    (pre ++ (xs ++ post)).take (o + j) ++ (news ++ (pre ++ (xs ++ post)).drop (o + j + news.length)) = pre ++ ((xs.take j ++ (news ++ xs.drop (j + news.length))) ++ post) := by
  subst ho
  rw [List.take_append, List.take_of_length_le (by omega), show pre.length + j - pre.length = j by omega, List.take_append_of_le_length (by omega), show pre.length + j + news.length = pre.length + (j + news.length) by omega,
    ← List.drop_drop, List.drop_append_of_le_length (Nat.le_refl _), List.drop_length, List.nil_append, List.drop_append_of_le_length h]
  simp
variable {b o : Nat} {e : TypeId} {pre xs post : List Value}
theorem Sep.stM (i : Nat) (j : Nat) (S : Sep E w0 w Rs) (hi : Rs[i]? = some (BoxA b e (pre ++ (xs ++ post)))) (ho : o = pre.length) {news : List Value} (hl : j + news.length ≤ xs.length) {K : World → Prop}
    (hk : ∀ w', Sep E w0 w' (Rs.set i (BoxA b e (pre ++ ((xs.take j ++ (news ++ xs.drop (j + news.length))) ++ post)))) → Fr (fun k => k = b) w w' → K w') : StoreV w ((⟨b, o, none⟩ : Addr).add j) news K := by
  rw [show (⟨b, o, none⟩ : Addr).add j = ⟨b, o + j, none⟩ by simp [Addr.add_lit]]
  refine S.store i hi (o + j) (by subst ho; simp only [List.length_append]; omega) fun w' S f => hk w' ?_ f
  rw [← splice_mid ho hl]
  exact S
theorem Sep.stM0 (i : Nat) (S : Sep E w0 w Rs) (hi : Rs[i]? = some (BoxA b e (pre ++ (xs ++ post)))) (ho : o = pre.length) {news : List Value} (hl : news.length ≤ xs.length) {K : World → Prop}
    (hk : ∀ w', Sep E w0 w' (Rs.set i (BoxA b e (pre ++ ((news ++ xs.drop news.length) ++ post)))) → Fr (fun k => k = b) w w' → K w') : StoreV w (⟨b, o, none⟩ : Addr) news K := by
  have := S.stM i 0 hi ho (news := news) (by omega) (K := K) (by simpa using hk)
  rwa [show (⟨b, o, none⟩ : Addr).add 0 = ⟨b, o, none⟩ by simp [Addr.add_lit]] at this
theorem Sep.cellsM (i : Nat) (S : Sep E w0 w Rs) (hi : Rs[i]? = some (BoxA b e (pre ++ (xs ++ post)))) (ho : o = pre.length) : CellsAt w ⟨b, o, none⟩ xs := by
  have h := (S.cells i hi)
  intro j v hv
  have hj : j < xs.length := (List.getElem?_eq_some_iff.1 hv).1
  have := h (pre.length + j) v (by rw [List.getElem?_append_right (by omega), show pre.length + j - pre.length = j by omega, List.getElem?_append_left hj]; exact hv)
  rw [show (⟨b, 0, none⟩ : Addr).add (pre.length + j) = (⟨b, o, none⟩ : Addr).add j by subst ho; simp [Addr.add_lit]] at this
  exact this
theorem Sep.ldM (i : Nat) (j : Nat) (S : Sep E w0 w Rs) (hi : Rs[i]? = some (BoxA b e (pre ++ (xs ++ post)))) (ho : o = pre.length) {h : SS} {v : Value} {x : h.T} (hv : xs[j]? = some v) (hr : h.rd v = some x) {K : h.T → Prop} (hk : K x) : LoadS w ((⟨b, o, none⟩ : Addr).add j) h K :=
  ⟨x, by rw [← SS.rd_v hr]; exact S.cellsM i hi ho j v hv, hk⟩
theorem Sep.ldM0 (i : Nat) (S : Sep E w0 w Rs) (hi : Rs[i]? = some (BoxA b e (pre ++ (xs ++ post)))) (ho : o = pre.length) {h : SS} {v : Value} {x : h.T} (hv : xs[0]? = some v) (hr : h.rd v = some x) {K : h.T → Prop} (hk : K x) : LoadS w (⟨b, o, none⟩ : Addr) h K := by
  have := S.ldM i 0 hi ho hv hr hk
  rwa [show (⟨b, o, none⟩ : Addr).add 0 = ⟨b, o, none⟩ by simp [Addr.add_lit]] at this
end
/-- A variable read from cells. -/
theorem ldc {w : World} {p : Addr} {vs : List Value} (hc : CellsAt w p vs) (j : Nat) {h : SS} {x : h.T} (hv : vs[j]? = some (h.v x)) {K : h.T → Prop} (hk : K x) : LoadS w (p.add j) h K := ⟨x, hc j _ hv, hk⟩
theorem flat_mid {α : Type} {f : α → List Value} {L : List α} {i : Nat} {y z : α} (hy : L[i]? = some y) : L.flatMap f = (L.take i).flatMap f ++ (f y ++ (L.drop (i + 1)).flatMap f) ∧ (L.set i z).flatMap f = (L.take i).flatMap f ++ (f z ++ (L.drop (i + 1)).flatMap f) := by
  have hi : i < L.length := (List.getElem?_eq_some_iff.1 hy).1
  have he : L[i] = y := (List.getElem?_eq_some_iff.1 hy).2
  constructor
  · conv => lhs; rw [← List.take_append_drop i L, List.drop_eq_getElem_cons hi, he]
    rw [List.flatMap_append, List.flatMap_cons]
  · rw [List.set_eq_take_append_cons_drop, if_pos hi, List.flatMap_append, List.flatMap_cons]

section
variable {E : Nat → Prop} {w0 w w' : World} {Rs Ts : List Asr} {α : Type} {f : α → List Value} {m : Nat} {e : TypeId} {a : Option Addr} {n c : Nat} {L : List α}
theorem flatF_len (hm : ∀ x, (f x).length = m) (L : List α) : (L.flatMap f).length = L.length * m := by
  induction L with
  | nil => simp
  | cons x L ih => rw [List.flatMap_cons, List.length_append, hm, ih, List.length_cons, Nat.add_mul]; omega
theorem flatF_one (h1 : ∀ x, oneAll (f x)) (L : List α) : oneAll (L.flatMap f) := fun u hu => by
  obtain ⟨x, -, hx⟩ := List.mem_flatMap.1 hu
  exact h1 x u hx
/-- An element of one's own slice is read. -/
theorem Sep.nthF (i : Nat) (S : Sep E w0 w Rs) (hi : Rs[i]? = some (OwnA e m a n c (L.flatMap f))) (hm : ∀ x, (f x).length = m) (hp : 0 < m) {j : Int} (h0 : 0 ≤ j) (h1 : j < (n : Int)) :
    ∃ q x, a = some q ∧ L[j.toNat]? = some x ∧ CellsAt w (q.add (j.toNat * m)) (f x) := by
  have ho := S.own i hi
  have hl := ho.len
  rw [flatF_len hm] at hl
  have hl : L.length = n := Nat.eq_of_mul_eq_mul_right hp hl
  have hj : j.toNat < L.length := by omega
  rcases ho.rd with ⟨_, h2⟩ | ⟨q, h2, h3⟩
  · have := congrArg List.length h2
    rw [flatF_len hm, List.length_nil] at this
    rcases Nat.mul_eq_zero.1 this with h | h <;> omega
  · refine ⟨q, L[j.toNat], h2, List.getElem?_eq_getElem hj, ?_⟩
    obtain ⟨m1, -⟩ := flat_mid (f := f) (z := L[j.toNat]) (List.getElem?_eq_getElem hj)
    rw [m1] at h3
    have h4 := (h3.drop (j.toNat * m)).take m
    rw [List.drop_append_of_le_length (by rw [flatF_len hm, List.length_take, Nat.min_eq_left (by omega)]; exact Nat.le_refl _), List.drop_eq_nil_of_le (by rw [flatF_len hm, List.length_take, Nat.min_eq_left (by omega)]; exact Nat.le_refl _), List.nil_append, List.take_append_of_le_length (by rw [hm]; exact Nat.le_refl _), List.take_of_length_le (by rw [hm]; exact Nat.le_refl _)] at h4
    exact h4
/-- An element of one's own slice is written. -/
theorem Sep.putF (S : Sep E w0 w (OwnA e m a n c (L.flatMap f) :: Rs)) (hm : ∀ x, (f x).length = m) (h1 : ∀ x, oneAll (f x)) (hp : 0 < m) {j : Int} (hj : 0 ≤ j ∧ j < (n : Int)) (y : α) {K : World → Prop}
    (hk : ∀ w', Sep E w0 w' (OwnA e m a n c ((L.set j.toNat y).flatMap f) :: Rs) → Fr (fun k => ∃ q : Addr, a = some q ∧ k = q.block) w w' → K w') : ∃ q, a = some q ∧ StoreV w (q.add (j.toNat * m)) (f y) K := by
  have hl := (S.own 0 rfl).len
  rw [flatF_len hm] at hl
  have hl : L.length = n := Nat.eq_of_mul_eq_mul_right hp hl
  have hj' : j.toNat < L.length := by omega
  obtain ⟨m1, m2⟩ := flat_mid (f := f) (z := y) (List.getElem?_eq_getElem hj')
  obtain ⟨b, tl, ha, q1, q2, q3, q4, q5, S1⟩ := S.focus (by
    intro h
    have := congrArg List.length h
    rw [flatF_len hm, List.length_nil] at this
    rcases Nat.mul_eq_zero.1 this with h | h <;> omega)
  subst ha
  refine ⟨_, rfl, ?_⟩
  rw [show (⟨b, 0, none⟩ : Addr).add (j.toNat * m) = ⟨b, j.toNat * m, none⟩ by simp [Addr.add_lit]]
  rw [m1, List.append_assoc, List.append_assoc] at S1
  refine S1.stM0 0 rfl (by rw [flatF_len hm, List.length_take, Nat.min_eq_left (by omega)]) (by rw [hm, hm]; exact Nat.le_refl _) fun w' S2 f2 => hk w' ?_ (f2.mono fun k hk => ⟨_, rfl, hk⟩)
  have S2 : Sep E w0 w' (BoxA b e (((L.set j.toNat y).flatMap f) ++ tl) :: Rs) := by
    rw [m2, List.append_assoc, List.append_assoc]
    have hd : (f L[j.toNat]).drop (f y).length = [] := List.drop_eq_nil_of_le (by rw [hm, hm]; exact Nat.le_refl _)
    rw [hd, List.append_nil] at S2
    exact S2
  have hl2 : ((L.set j.toNat y).flatMap f).length = n * m := by rw [flatF_len hm, List.length_set, hl]
  exact S2.unfocus (n := n) (c := c) (sz := m) hl2 (by rw [List.length_append, hl2, ← q2, List.length_append, q1]) q3 q4 (flatF_one h1 _)
end

end Go.Eng

/-! What the parameters of a law are known to be, out of the row's input: whole numbers in their range, slices of whole numbers as cells. -/
namespace Go.Proofs.Ytiemdjnmghackaa.Vc
open Go Go.Eng Go.RowKit Go.ChangeShapes
set_option linter.unusedVariables false
set_option linter.unusedSimpArgs false

theorem wfRng {k : IntKind} {n : Int} (h : (Lit.int k n).wf = true) : Rng k n := by
  simpa [Lit.wf, Rng] using h

/-- A parameter that is a slice of whole numbers. -/
structure SlI (W : World) (k : IntKind) (a : Option Addr) (n c : Nat) (l : List Int) (b : Nat) : Prop where
  ints : Ints W k a n c l
  rng : ∀ x ∈ l, Rng k x
  size : n * b ≤ 140737488351232

theorem openInts {H : Type} {enc : TypeId × Value → H} {P : Program} {W : World} {t e : TypeId} {k : IntKind} (ht : P.underlying t = some (.slice e)) (he : P.underlying e = some (.int k)) (hc : P.cellsOf e = 1)
    {ts : List TypeId} {ds : List (DataW H)} {j : Nat} {d : DataW H} (htj : ts[j]? = some t) (hdj : ds[j]? = some d) (hsz : (DataW.weightsEach P ts ds).all (· ≤ reachBytes) = true)
    {a : Option Addr} {n c : Nat} {ps : List MemPlace} (h : DataW.Trod enc P W 0 (fun _ => true) true t (.slice a n c) d ps) : ∃ l, SlI W k a n c l (P.bytesOf e) := by
  obtain ⟨fuel, hf⟩ := h
  rcases open_ints ht he hc hf with ⟨hcs, hx⟩ | ⟨x, len, cap, zs, hcs, _, hl, hm, hz, hx, hcell, hwz⟩
  · simp [Value.cells] at hcs
    obtain ⟨rfl, rfl, rfl⟩ := hcs
    exact ⟨[], ⟨rfl, Nat.le_refl _, by omega, .inl ⟨rfl, rfl⟩⟩, by simp, by simp⟩
  · simp [Value.cells] at hcs
    obtain ⟨rfl, rfl, rfl⟩ := hcs
    simp only [if_true] at hz
    have hdd : d = .slice (lits k (zs.take n)) (lits k (zs.drop n)) := congrArg Prod.fst hx
    subst hdd
    have hb := sized_slice hsz htj hdj ht
    rw [show (lits k (zs.take n) : List (DataW H)).length + (lits k (zs.drop n) : List (DataW H)).length = c by simp [lits]; omega] at hb
    have hml : maxLen = 9223372036854775807 := by decide
    have hll : (zs.take n).length = n := by simp; omega
    refine ⟨zs.take n, ⟨hll, hl, by omega, .inr ⟨x, rfl, fun i v hv => ?_⟩⟩, fun y hy => wfRng (hwz y (List.mem_of_mem_take hy)), ?_⟩
    · obtain ⟨hi, rfl⟩ := List.getElem?_eq_some_iff.1 hv
      rw [List.length_map, hll] at hi
      rw [hcell i (by omega), List.getElem_map, List.getElem_take, List.getD_eq_getElem?_getD, List.getElem?_eq_getElem (by omega), Option.getD_some]
    · refine Nat.le_trans (Nat.mul_le_mul_right _ hl) ?_
      exact hb

theorem SlI.byt {W : World} {a : Option Addr} {n c : Nat} {l : List Int} {b : Nat} (h : SlI W .u8 a n c l b) : ∀ x ∈ l, 0 ≤ x ∧ x < 256 := fun x hx => by
  have := h.rng x hx
  unfold Rng at this
  have e1 : IntKind.u8.min = 0 := by decide
  have e2 : IntKind.u8.max = 255 := by decide
  omega
theorem rng_u64 {x : Int} (h : Rng .u64 x) : 0 ≤ x ∧ x < 18446744073709551616 := by
  unfold Rng at h
  have e1 : IntKind.u64.min = 0 := by decide
  have e2 : IntKind.u64.max = 18446744073709551615 := by decide
  omega
theorem rng_u8 {x : Int} (h : Rng .u8 x) : 0 ≤ x ∧ x < 256 := by
  unfold Rng at h
  have e1 : IntKind.u8.min = 0 := by decide
  have e2 : IntKind.u8.max = 255 := by decide
  omega
theorem rng_i64 {x : Int} (h : Rng .i64 x) : -9223372036854775808 ≤ x ∧ x ≤ 9223372036854775807 := by
  unfold Rng at h
  have e1 : IntKind.i64.min = -9223372036854775808 := by decide
  have e2 : IntKind.i64.max = 9223372036854775807 := by decide
  omega

end Go.Proofs.Ytiemdjnmghackaa.Vc

/-! Values of several cells in memory of their own: read and written whole, and cell by cell. -/
namespace Go.Proofs.Ytiemdjnmghackaa.Vc
open Go Go.Eng Go.RowKit
set_option linter.unusedVariables false
set_option linter.unusedSimpArgs false

theorem ldC {w : World} {b : Nat} {vs : List Value} (hc : CellsAt w ⟨b, 0, none⟩ vs) {i : Nat} {h : SS} {x : h.T} (hv : vs[i]? = some (h.v x)) {K : h.T → Prop} (hk : K x) : LoadS w ⟨b, i, none⟩ h K := by
  refine ⟨x, ?_, hk⟩
  have := hc i _ hv
  rwa [show (⟨b, 0, none⟩ : Addr).add i = ⟨b, i, none⟩ by simp [Addr.add_lit]] at this
theorem ldp {w : World} {p : Addr} {vs : List Value} (hc : CellsAt w p vs) (i : Nat) {h : SS} {x : h.T} (hv : vs[i]? = some (h.v x)) {K : h.T → Prop} (hk : K x) : LoadS w (p.add i) h K :=
  ⟨x, hc i _ hv, hk⟩
theorem ldp0 {w : World} {p : Addr} {vs : List Value} (hc : CellsAt w p vs) {h : SS} {x : h.T} (hv : vs[0]? = some (h.v x)) {K : h.T → Prop} (hk : K x) : LoadS w p h K := by
  refine ⟨x, ?_, hk⟩
  have := hc 0 _ hv
  rwa [show p.add 0 = p by unfold Addr.add; simp] at this
theorem ldaC {w : World} {p : Addr} {vs : List Value} (hc : CellsAt w p vs) {l : List SS} (x : Tup l) (hv : tupV l x = vs) {K : Tup l → Prop} (hk : K x) : LoadA w p l K :=
  ⟨x, by rw [hv]; exact hc, hk⟩

/-- A block of its own (from number B on), that may be written. -/
structure Box (w : World) (B b : Nat) (e : TypeId) (vs : List Value) : Prop where
  base : B ≤ b
  heap : w.heap[b]? = some (.cells vs.toArray e)
theorem Box.new {w : World} {B : Nat} (hB : B ≤ w.heap.size) (e : TypeId) (vs : List Value) : Box (w.alloc (.cells vs.toArray e)) B w.heap.size e vs := ⟨hB, heap_new w _⟩
theorem Box.ext {w w' : World} {B b : Nat} {e : TypeId} {vs : List Value} (h : Box w B b e vs) (x : Ext w w') : Box w' B b e vs := ⟨h.base, x.heap h.heap⟩
theorem Box.cells {w : World} {B b : Nat} {e : TypeId} {vs : List Value} (h : Box w B b e vs) : CellsAt w ⟨b, 0, none⟩ vs :=
  CellsAt.of_heap (cs := vs.toArray) (e := e) (fr := (0, 0)) h.heap (fun j v hv => by simpa using hv)
theorem Box.ld {w : World} {B b : Nat} {e : TypeId} {vs : List Value} (hb : Box w B b e vs) {i : Nat} {h : SS} {x : h.T} (hv : vs[i]? = some (h.v x)) {K : h.T → Prop} (hk : K x) : LoadS w ⟨b, i, none⟩ h K := ldC hb.cells hv hk
theorem Box.lda {w : World} {B b : Nat} {e : TypeId} {vs : List Value} (hb : Box w B b e vs) {l : List SS} (x : Tup l) (hv : tupV l x = vs) {K : Tup l → Prop} (hk : K x) : LoadA w ⟨b, 0, none⟩ l K := ldaC hb.cells x hv hk
theorem Box.lt {w : World} {B b : Nat} {e : TypeId} {vs : List Value} (h : Box w B b e vs) : b < w.heap.size := by
  have := h.heap
  rw [Array.getElem?_eq_some_iff] at this
  exact this.1
theorem Box.store {w : World} {B b : Nat} {e : TypeId} {vs : List Value} (h : Box w B b e vs) (o : Nat) {news : List Value} (hl : o + news.length ≤ vs.length) {K : World → Prop}
    (hk : ∀ w', Box w' B b e (vs.take o ++ (news ++ vs.drop (o + news.length))) → Below B w w' → (∀ k, k ≠ b → w'.heap[k]? = w.heap[k]?) → w'.heap.size = w.heap.size → K w') : StoreV w ⟨b, o, none⟩ news K := by
  refine ⟨rfl, Free.of_heap h.heap (by simpa using hl), ?_⟩
  rintro w' rfl
  refine hk _ ⟨h.base, ?_⟩ (Bel.setCells (Below.refl _ _) h.base _ _) (fun k hk => setCells_other _ _ _ _ _ hk) (setCells_rest _ _ _ _).2.2.2
  rw [setCells_heap _ _ _ _ _ _ _ h.heap]
  have := splice_toList news vs.toArray o (by simpa using hl)
  rw [List.toList_toArray] at this
  rw [← this, Array.toArray_toList]
theorem Box.other {w w' : World} {B b b2 : Nat} {e : TypeId} {vs : List Value} (h : Box w B b e vs) (hne : b ≠ b2) (x : ∀ k, k ≠ b2 → w'.heap[k]? = w.heap[k]?) : Box w' B b e vs := ⟨h.base, by rw [x _ hne]; exact h.heap⟩

theorem newBox {w : World} {vs : List Value} {e : TypeId} {K : Nat → World → Prop} (h : ∀ b w1, Ext w w1 → Box w1 w.heap.size b e vs → K b w1) : NewV vs.toArray e w K := by
  rintro b w1 rfl rfl
  exact h _ _ (Ext.alloc _ _) (Box.new (Nat.le_refl _) _ _)
theorem mul_bd {a b A B : Int} (h0 : 0 ≤ a) (h1 : a ≤ A) (h2 : 0 ≤ b) (h3 : b ≤ B) : 0 ≤ a * b ∧ a * b ≤ A * B :=
  ⟨Int.mul_nonneg h0 h2, Int.le_trans (Int.mul_le_mul_of_nonneg_right h1 h2) (Int.mul_le_mul_of_nonneg_left h3 (Int.le_trans h0 h1))⟩

end Go.Proofs.Ytiemdjnmghackaa.Vc

/-! What any parameter of a law is known to be, out of the row's input: structs, arrays and slices of whole numbers, texts, and of each other. -/
namespace Go.Proofs.Ytiemdjnmghackaa.Vc
open Go Go.Eng Go.RowKit Go.ChangeShapes
set_option linter.unusedVariables false
set_option linter.unusedSimpArgs false

/-- The kinds of parameters; a struct or an array is a chain of its parts. -/
inductive Ty where
  | int (k : IntKind)
  | bool
  | str
  | sl (e : Ty)
  | nil
  | cons (a r : Ty)
/-- A slice that is read. -/
structure SlP (α : Type) where
  a : Option Addr
  n : Nat
  c : Nat
  l : List α
@[reducible] def Ty.T : Ty → Type
  | .int _ => Int
  | .bool => Bool
  | .str => ByteArray
  | .sl e => SlP e.T
  | .nil => Unit
  | .cons a r => a.T × r.T
def Ty.vs : (t : Ty) → t.T → List Value
  | .int k, (x : Int) => [.int k x]
  | .bool, (x : Bool) => [.bool x]
  | .str, (x : ByteArray) => [.string x]
  | .sl e, (x : SlP e.T) => [.slice x.a x.n x.c]
  | .nil, _ => []
  | .cons a r, (x : a.T × r.T) => a.vs x.1 ++ r.vs x.2
def Ty.ok (w : World) : (t : Ty) → t.T → Prop
  | .int k, (x : Int) => Rng k x
  | .bool, _ => True
  | .str, (x : ByteArray) => x.size ≤ maxLen
  | .sl e, (x : SlP e.T) => x.l.length = x.n ∧ x.n ≤ x.c ∧ x.c ≤ maxLen ∧ RdC w x.a (x.l.flatMap e.vs) ∧ ∀ y ∈ x.l, e.ok w y
  | .nil, _ => True
  | .cons a r, (x : a.T × r.T) => a.ok w x.1 ∧ r.ok w x.2
def Ty.n : Ty → Nat
  | .nil => 0
  | .cons a r => a.n + r.n
  | _ => 1
theorem Ty.vs_length : ∀ (t : Ty) (x : t.T), (t.vs x).length = t.n
  | .int k, x => rfl
  | .bool, x => rfl
  | .str, x => rfl
  | .sl e, x => rfl
  | .nil, x => rfl
  | .cons a r, x => by
    show (a.vs x.1 ++ r.vs x.2).length = _
    rw [List.length_append, Ty.vs_length a, Ty.vs_length r]; rfl

/-- A kind's form as fields from a place on. -/
def confF (P : Program) (cf : Ty → TypeId → Bool) : Ty → List Field → Nat → Bool
  | .nil, [], _ => true
  | .cons a r, f :: fs, o => f.offset == o && cf a f.type && P.cellsOf f.type == a.n && confF P cf r fs (o + a.n)
  | _, _, _ => false
def confA (P : Program) (cf : Ty → TypeId → Bool) (e : TypeId) : Ty → Nat → Bool
  | .nil, 0 => true
  | .cons a r, n + 1 => cf a e && P.cellsOf e == a.n && confA P cf e r n
  | _, _ => false
def conf (P : Program) : Nat → Ty → TypeId → Bool
  | 0, _, _ => false
  | d + 1, t, i =>
    match P.underlying i, t with
    | some (.int k), .int k' => decide (k = k')
    | some .bool, .bool => true
    | some .string, .str => true
    | some (.slice e), .sl t => conf P d t e && P.cellsOf e == t.n
    | some (.struct fs), t => confF P (conf P d) t fs.toList 0 && P.cellsOf i == t.n
    | some (.array n e), t => confA P (conf P d) e t n && P.cellsOf i == t.n
    | _, _ => false

theorem CellsAt.append' {w : World} {p : Addr} {xs ys : List Value} (h : CellsAt w p xs) (h' : CellsAt w (p.add xs.length) ys) : CellsAt w p (xs ++ ys) := by
  intro j v hv
  by_cases hj : j < xs.length
  · rw [List.getElem?_append_left hj] at hv; exact h j v hv
  · rw [List.getElem?_append_right (by omega)] at hv
    have := h' _ v hv
    rwa [add_add, show xs.length + (j - xs.length) = j by omega] at this

section
variable {H : Type} {enc : TypeId × Value → H} {P : Program} {w : World}

def Opens (enc : TypeId × Value → H) (P : Program) (w : World) (d : Nat) : Prop :=
  ∀ (ty : Ty) (t : TypeId) (fuel : Nat) (cs : List Value) (x : DataW H × List MemPlace), conf P d ty t = true → DataW.trod enc P w 0 (fun _ => true) true fuel t cs = some x → ∃ v : ty.T, cs = ty.vs v ∧ ty.ok w v

theorem openF {d : Nat} (ih : Opens enc P w d) {n : Nat} {cs : List Value} : ∀ (ty : Ty) (fs : List Field) (o : Nat), confF P (conf P d) ty fs o = true → cs.length = o + ty.n →
    (∀ f ∈ fs, ∃ y, DataW.trod enc P w 0 (fun _ => true) true n f.type ((cs.drop f.offset).take (P.cellsOf f.type)) = some y) → ∃ v : ty.T, cs.drop o = ty.vs v ∧ ty.ok w v
  | .nil, [], o, hc, hl, hf => ⟨(), by simp [Ty.vs, hl, Ty.n], trivial⟩
  | .cons a r, f :: fs, o, hc, hl, hf => by
    simp only [confF, Bool.and_eq_true, beq_iff_eq] at hc
    obtain ⟨⟨⟨h1, h2⟩, h3⟩, h4⟩ := hc
    obtain ⟨y, hy⟩ := hf f (List.mem_cons_self ..)
    obtain ⟨v1, e1, o1⟩ := ih a f.type n _ y h2 hy
    obtain ⟨v2, e2, o2⟩ := openF ih r fs (o + a.n) h4 (by rw [hl]; simp [Ty.n]; omega) (fun f' hf' => hf f' (List.mem_cons_of_mem _ hf'))
    refine ⟨(v1, v2), ?_, o1, o2⟩
    show _ = a.vs v1 ++ r.vs v2
    rw [← e1, ← e2, h1, h3, ← List.drop_drop, List.take_append_drop]
  | .int _, [], _, hc, _, _ => by simp [confF] at hc
  | .int _, _ :: _, _, hc, _, _ => by simp [confF] at hc
  | .bool, [], _, hc, _, _ => by simp [confF] at hc
  | .bool, _ :: _, _, hc, _, _ => by simp [confF] at hc
  | .str, [], _, hc, _, _ => by simp [confF] at hc
  | .str, _ :: _, _, hc, _, _ => by simp [confF] at hc
  | .sl _, [], _, hc, _, _ => by simp [confF] at hc
  | .sl _, _ :: _, _, hc, _, _ => by simp [confF] at hc
  | .nil, _ :: _, _, hc, _, _ => by simp [confF] at hc
  | .cons _ _, [], _, hc, _, _ => by simp [confF] at hc

theorem openA {d : Nat} (ih : Opens enc P w d) {n : Nat} {cs : List Value} {e : TypeId} : ∀ (ty : Ty) (m : Nat) (i : Nat), confA P (conf P d) e ty m = true → cs.length = i * P.cellsOf e + ty.n →
    (∀ j, j < i + m → ∃ y, DataW.trod enc P w 0 (fun _ => true) true n e ((cs.drop (j * P.cellsOf e)).take (P.cellsOf e)) = some y) → ∃ v : ty.T, cs.drop (i * P.cellsOf e) = ty.vs v ∧ ty.ok w v
  | .nil, 0, i, hc, hl, hf => ⟨(), by simp [Ty.vs, hl, Ty.n], trivial⟩
  | .cons a r, m + 1, i, hc, hl, hf => by
    simp only [confA, Bool.and_eq_true, beq_iff_eq] at hc
    obtain ⟨⟨h2, h3⟩, h4⟩ := hc
    obtain ⟨y, hy⟩ := hf i (by omega)
    obtain ⟨v1, e1, o1⟩ := ih a e n _ y h2 hy
    obtain ⟨v2, e2, o2⟩ := openA ih r m (i + 1) h4 (by rw [hl, Nat.add_mul, h3]; simp [Ty.n]; omega) (fun j hj => hf j (by omega))
    refine ⟨(v1, v2), ?_, o1, o2⟩
    show _ = a.vs v1 ++ r.vs v2
    rw [← e1, ← e2, Nat.add_mul, Nat.one_mul, ← List.drop_drop, List.take_append_drop]
  | .int _, 0, _, hc, _, _ => by simp [confA] at hc
  | .int _, _ + 1, _, hc, _, _ => by simp [confA] at hc
  | .bool, 0, _, hc, _, _ => by simp [confA] at hc
  | .bool, _ + 1, _, hc, _, _ => by simp [confA] at hc
  | .str, 0, _, hc, _, _ => by simp [confA] at hc
  | .str, _ + 1, _, hc, _, _ => by simp [confA] at hc
  | .sl _, 0, _, hc, _, _ => by simp [confA] at hc
  | .sl _, _ + 1, _, hc, _, _ => by simp [confA] at hc
  | .nil, _ + 1, _, hc, _, _ => by simp [confA] at hc
  | .cons _ _, 0, _, hc, _, _ => by simp [confA] at hc

theorem openS {d : Nat} (ih : Opens enc P w d) {ty : Ty} {e : TypeId} (hc : conf P d ty e = true) (hn : P.cellsOf e = ty.n) {a : Addr} {len m : Nat}
    (h : ∀ i, i < len → ∃ y, (w.cells? 0 (a.add (i * P.cellsOf e)) (P.cellsOf e)).bind (DataW.trod enc P w 0 (fun _ => true) true m e) = some y) :
    ∃ l : List ty.T, l.length = len ∧ CellsAt w a (l.flatMap ty.vs) ∧ ∀ y ∈ l, ty.ok w y := by
  induction len with
  | zero => exact ⟨[], rfl, fun j v hv => by simp at hv, fun y hy => (List.not_mem_nil hy).elim⟩
  | succ k ih2 =>
    obtain ⟨l, hl, hcl, hol⟩ := ih2 fun i hi => h i (by omega)
    obtain ⟨y, hy⟩ := h k (by omega)
    obtain ⟨c, hcs, ht⟩ := Option.bind_eq_some_iff.1 hy
    obtain ⟨v, e1, o1⟩ := ih ty e m c y hc ht
    obtain ⟨_, hlen, hcell⟩ := World.cells?_some hcs
    refine ⟨l ++ [v], by simp [hl], ?_, ?_⟩
    · rw [List.flatMap_append, List.flatMap_singleton]
      refine CellsAt.append' hcl ?_
      have : (l.flatMap ty.vs).length = k * P.cellsOf e := by
        rw [hn, ← hl]
        clear hcl hol hl
        induction l with
        | nil => simp
        | cons z l ih3 => rw [List.flatMap_cons, List.length_append, Ty.vs_length, ih3, List.length_cons, Nat.add_mul]; omega
      rw [this]
      intro j u hu
      rw [← e1] at hu
      have hj : j < P.cellsOf e := by rw [← hlen]; exact (List.getElem?_eq_some_iff.1 hu).1
      rw [hcell j hj, hu]
    · intro y hy
      rcases List.mem_append.1 hy with h1 | h1
      · exact hol y h1
      · rw [List.mem_singleton.1 h1]; exact o1

theorem opens : ∀ d : Nat, Opens enc P w d
  | 0 => fun ty t fuel cs x hc => by simp [conf] at hc
  | d + 1 => by
    have ih := opens d
    intro ty t fuel cs x hc h
    unfold conf at hc
    split at hc
    · rename_i k k' ht
      obtain ⟨n, rfl, _, hw⟩ := DataW.trod_int ht h
      have := of_decide_eq_true hc
      subst this
      exact ⟨n, rfl, wfRng hw⟩
    · rename_i ht
      obtain ⟨b, rfl, _⟩ := DataW.trod_bool ht h
      exact ⟨b, rfl, trivial⟩
    · rename_i ht
      obtain ⟨s, rfl, _, hs⟩ := DataW.trod_string ht h
      exact ⟨s, rfl, hs⟩
    · rename_i e t' ht
      simp only [Bool.and_eq_true, beq_iff_eq] at hc
      obtain ⟨hc1, hc2⟩ := hc
      rcases DataW.trod_slice ht h with ⟨rfl, _⟩ | ⟨a, len, cap, elems, rest, n, _, rfl, rfl, hb, hl, hm, hlen, hel, _⟩
      · exact ⟨⟨none, 0, 0, []⟩, rfl, rfl, Nat.le_refl _, Nat.zero_le _, .inl ⟨rfl, rfl⟩, fun y hy => (List.not_mem_nil hy).elim⟩
      · obtain ⟨l, h1, h2, h3⟩ := openS ih hc1 hc2 (a := a) (len := len) (m := n) fun i hi => ⟨elems[i]'(by omega), by rw [hel i hi, List.getElem?_eq_getElem (by omega)]⟩
        exact ⟨⟨some a, len, cap, l⟩, rfl, h1, hl, hm, .inr ⟨a, rfl, h2⟩, h3⟩
    · rename_i ty _ _ fs ht
      simp only [Bool.and_eq_true, beq_iff_eq] at hc
      obtain ⟨xs, n, _, _, hl, hlen, hf⟩ := DataW.trod_struct ht h
      have := openF ih (n := n) (cs := cs) ty fs.toList 0 hc.1 (by rw [hl, hc.2]; omega) fun f hmem => by
        obtain ⟨i, hi, rfl⟩ := List.mem_iff_getElem.1 hmem
        have := hf i fs.toList[i] (by simp at hi ⊢)
        refine ⟨xs[i]'(by simp at hi; omega), ?_⟩
        rw [this, List.getElem?_eq_getElem (by simp at hi; omega)]
      simpa using this
    · rename_i ty _ _ n e ht
      simp only [Bool.and_eq_true, beq_iff_eq] at hc
      obtain ⟨xs, m, _, _, hl, hlen, hf⟩ := DataW.trod_array ht h
      have := openA ih (n := m) (cs := cs) ty n 0 hc.1 (by rw [hl, hc.2]; omega) fun j hj => ⟨xs[j]'(by omega), by rw [hf j (by omega), List.getElem?_eq_getElem (by omega)]⟩
      simpa using this
    · cases hc

/-- A parameter that is a struct or an array. -/
theorem openAgg {ty : Ty} {t : TypeId} {cs : Array Value} {d : Nat} {x : DataW H} {ps : List MemPlace} (hc : conf P d ty t = true) (h : DataW.Trod enc P w 0 (fun _ => true) true t (.agg cs) x ps) : ∃ v : ty.T, Value.agg cs = .agg (ty.vs v).toArray ∧ ty.ok w v := by
  obtain ⟨fuel, hf⟩ := h
  obtain ⟨v, e, o⟩ := opens d ty t fuel _ _ hc hf
  refine ⟨v, ?_, o⟩
  rw [← e]
  simp [Value.cells]
/-- A parameter that is a slice. -/
theorem openSl {ty : Ty} {t : TypeId} {a : Option Addr} {n c : Nat} {d : Nat} {x : DataW H} {ps : List MemPlace} (hc : conf P d (.sl ty) t = true) (h : DataW.Trod enc P w 0 (fun _ => true) true t (.slice a n c) x ps) :
    ∃ l : List ty.T, (Ty.sl ty).ok w ⟨a, n, c, l⟩ := by
  obtain ⟨fuel, hf⟩ := h
  obtain ⟨v, e, o⟩ := opens d (.sl ty) t fuel _ _ hc hf
  simp [Value.cells, Ty.vs] at e
  obtain ⟨h1, h2, h3⟩ := e
  refine ⟨v.l, ?_⟩
  subst h1; subst h2; subst h3
  exact o
theorem okWide_array {r : Reach} {b : Nat} {t : TypeId} {v : Value} {n : Nat} {e : TypeId} (ht : P.underlying t = some (.array n e)) (h : Value.okWide P w r b t v) : ∃ cs, v = .agg cs ∧ cs.size = P.cellsOf t := by
  simp only [Value.okWide, ht] at h
  obtain ⟨cs, h1, h2, _⟩ := h
  exact ⟨cs, h1, h2⟩
end

end Go.Proofs.Ytiemdjnmghackaa.Vc

/-! Plain laws of numbers and lists for layer 1. -/
namespace Go.Eng
open Go
set_option linter.unusedVariables false
set_option linter.unusedSimpArgs false

def Byt (xs : List Int) : Prop := ∀ x ∈ xs, 0 ≤ x ∧ x < 256

theorem u8_wrap (z : Int) : IntKind.u8.wrap z = z % 256 := by simp [IntKind.wrap, IntKind.signed, IntKind.bits]
theorem u32_wrap (z : Int) : IntKind.u32.wrap z = z % 4294967296 := by simp [IntKind.wrap, IntKind.signed, IntKind.bits]
theorem u64_wrap (z : Int) : IntKind.u64.wrap z = z % 18446744073709551616 := by simp [IntKind.wrap, IntKind.signed, IntKind.bits]
theorem u64_id {z : Int} (h0 : 0 ≤ z) (h1 : z < 18446744073709551616) : IntKind.u64.wrap z = z := by rw [u64_wrap]; omega
theorem i64_id {z : Int} (h0 : -9223372036854775808 ≤ z) (h1 : z ≤ 9223372036854775807) : IntKind.i64.wrap z = z := wrap_rng (Rng.i64 h0 h1)

theorem Byt.getD {xs : List Int} (h : Byt xs) (i : Nat) : 0 ≤ xs.getD i 0 ∧ xs.getD i 0 < 256 := by
  rw [List.getD_eq_getElem?_getD]
  cases hi : xs[i]? with
  | none => simp
  | some v => exact h v (List.mem_of_getElem? hi)
theorem Byt.take {xs : List Int} (h : Byt xs) (k : Nat) : Byt (xs.take k) := fun x hx => h x (List.mem_of_mem_take hx)
theorem Byt.drop {xs : List Int} (h : Byt xs) (k : Nat) : Byt (xs.drop k) := fun x hx => h x (List.mem_of_mem_drop hx)
theorem Byt.append {xs ys : List Int} (h : Byt xs) (h' : Byt ys) : Byt (xs ++ ys) := fun x hx => (List.mem_append.1 hx).elim (h x) (h' x)
theorem Byt.reverse {xs : List Int} (h : Byt xs) : Byt xs.reverse := fun x hx => h x (List.mem_reverse.1 hx)
theorem Byt.replicate {x : Int} (h0 : 0 ≤ x) (h1 : x < 256) (n : Nat) : Byt (List.replicate n x) := fun y hy => by rw [(List.mem_replicate.1 hy).2]; exact ⟨h0, h1⟩
theorem Byt.nil : Byt [] := fun x hx => (List.not_mem_nil hx).elim
theorem Byt.cons {x : Int} {xs : List Int} (h0 : 0 ≤ x ∧ x < 256) (h : Byt xs) : Byt (x :: xs) := fun y hy => by rcases List.mem_cons.1 hy with rfl | hy; exact h0; exact h y hy

/-! ### A list filled from the front, or from the back -/
theorem set_step (S : List Value) (z : Value) {k i : Nat} (hk : S.length = k) (hi : i < k) : ((S.take i ++ List.replicate (k - i) z).set i (S[i]'(by omega))) = S.take (i + 1) ++ List.replicate (k - (i + 1)) z := by
  rw [List.set_append_right _ _ (by simp; omega), List.length_take, Nat.min_eq_left (by omega), Nat.sub_self]
  rw [show k - i = (k - (i + 1)) + 1 by omega, List.replicate_succ, List.set_cons_zero, List.take_succ_eq_append_getElem (by omega), List.append_assoc]
  rfl
theorem set_back (S : List Value) (z : Value) {k i : Nat} (hk : S.length = k) (hi : i < k) : ((List.replicate (k - i) z ++ S.drop (k - i)).set (k - 1 - i) (S[k - 1 - i]'(by omega))) = List.replicate (k - (i + 1)) z ++ S.drop (k - (i + 1)) := by
  rw [List.set_append_left _ _ (by simp; omega)]
  rw [show k - i = (k - (i + 1)) + 1 by omega, List.replicate_succ']
  rw [List.set_append_right _ _ (by simp; omega)]
  simp only [List.length_replicate]
  rw [show k - 1 - i - (k - (i + 1)) = 0 by omega, List.set_cons_zero, List.append_assoc]
  congr 1
  rw [List.drop_eq_getElem_cons (i := k - (i + 1)) (by omega)]
  simp only [List.singleton_append]
  congr 1
  simp only [show k - 1 - i = k - (i + 1) by omega]

/-! ### Bytes of numbers -/
def cl8 (k : Int) : Nat := (max 0 (min 8 k)).toNat
def leL (n : Int) (k : Nat) : List Int := (List.range k).map fun i => n / 256 ^ i % 256
theorem leL_length (n : Int) (k : Nat) : (leL n k).length = k := by simp [leL]
theorem leL_get (n : Int) (k i : Nat) (h : i < (leL n k).length) : (leL n k)[i] = n / 256 ^ i % 256 := by simp [leL]
theorem leL_byt (n : Int) (k : Nat) : Byt (leL n k) := by
  intro x hx
  simp only [leL, List.mem_map] at hx
  obtain ⟨i, _, rfl⟩ := hx
  exact ⟨Int.emod_nonneg _ (by omega), Int.emod_lt_of_pos _ (by omega)⟩
theorem leL_succ (n : Int) (k : Nat) : leL n (k + 1) = leL n k ++ [n / 256 ^ k % 256] := by simp [leL, List.range_succ]

theorem fdiv_pos {a b : Int} (hb : 0 ≤ b) : Int.fdiv a b = a / b := Int.fdiv_eq_ediv_of_nonneg a hb
theorem pow8 (i : Nat) (hi : i < 8) : (2 : Int) ^ (Nat.min ((8 : Int) * (i : Int)).toNat 64) = 256 ^ i := by
  have : Nat.min ((8 : Int) * (i : Int)).toNat 64 = 8 * i := by
    have h1 : ((8 : Int) * (i : Int)).toNat = 8 * i := by omega
    rw [h1]; exact Nat.min_eq_left (by omega)
  rw [this, Int.pow_mul]
  rfl
theorem div_step (n : Int) (h : 0 ≤ n) (i : Nat) : Int.tdiv (n / 256 ^ i) 256 = n / 256 ^ (i + 1) := by
  have hp : (0 : Int) < 256 ^ i := Int.pow_pos (by omega)
  rw [Int.tdiv_eq_ediv_of_nonneg (Int.ediv_nonneg h (by omega)), Int.ediv_ediv_of_nonneg (Int.le_of_lt hp), Int.pow_succ]

def leN : List Int → Int
  | [] => 0
  | x :: xs => x + 256 * leN xs
theorem leN_bd : ∀ {xs : List Int}, Byt xs → 0 ≤ leN xs ∧ leN xs < 256 ^ xs.length
  | [], _ => by simp [leN]
  | x :: xs, h => by
    have h1 := leN_bd (xs := xs) fun y hy => h y (List.mem_cons_of_mem _ hy)
    have h2 := h x (List.mem_cons_self)
    simp only [leN, List.length_cons, Int.pow_succ]
    omega
theorem leN_append : ∀ (xs ys : List Int), leN (xs ++ ys) = leN xs + 256 ^ xs.length * leN ys
  | [], ys => by simp [leN]
  | x :: xs, ys => by
    simp only [List.cons_append, leN, leN_append xs ys, List.length_cons, Int.pow_succ]
    rw [Int.mul_add]
    have : 256 * (256 ^ xs.length * leN ys) = 256 ^ xs.length * 256 * leN ys := by
      rw [← Int.mul_assoc, Int.mul_comm 256 (256 ^ xs.length)]
    omega
theorem leN_leL (n : Int) (h : 0 ≤ n) : ∀ k : Nat, leN (leL n k) = n % 256 ^ k
  | 0 => by simp [leL, leN, Int.emod_one]
  | k + 1 => by
    rw [leL_succ, leN_append, leN_leL n h k, leL_length]
    simp only [leN, Int.mul_zero, Int.add_zero]
    rw [Int.pow_succ]
    have hp : (0 : Int) < 256 ^ k := Int.pow_pos (by omega)
    generalize (256 : Int) ^ k = p at hp
    have h1 := Int.emod_add_mul_ediv n p
    have h2 := Int.emod_add_mul_ediv (n / p) 256
    have h3 : n / (p * 256) = n / p / 256 := by rw [Int.ediv_ediv_of_nonneg (Int.le_of_lt hp)]
    have h4 := Int.emod_add_mul_ediv n (p * 256)
    rw [h3] at h4
    have h5 : p * (n / p % 256) = p * (n / p) - p * 256 * (n / p / 256) := by
      have : p * (n / p) = p * (n / p % 256 + 256 * (n / p / 256)) := by rw [h2]
      rw [this, Int.mul_add, Int.mul_assoc]
      omega
    omega

/-- Of the last eight, the greatest first; of the first eight, the least first. -/
def numL (xs : List Int) : Int := leN (xs.take 8)
def numB (xs : List Int) : Int := leN (xs.reverse.take 8)

theorem pow_mono {a b : Nat} (h : a ≤ b) : (256 : Int) ^ a ≤ 256 ^ b := by
  induction h with
  | refl => exact Int.le_refl _
  | step _ ih => rw [Int.pow_succ]; have := Int.pow_pos (n := 256) (m := a) (by omega); omega

theorem numL_bd {xs : List Int} (h : Byt xs) : 0 ≤ numL xs ∧ numL xs < 18446744073709551616 := by
  have h1 := leN_bd (h.take 8)
  have h2 : (xs.take 8).length ≤ 8 := by simp; omega
  have h3 : (256 : Int) ^ (xs.take 8).length ≤ 256 ^ 8 := pow_mono h2
  have h4 : (256 : Int) ^ 8 = 18446744073709551616 := by decide
  unfold numL
  omega

/-! ### Bits -/
theorem cast_pow2 (k : Nat) : ((2 ^ k : Nat) : Int) = (2 : Int) ^ k := by
  induction k with
  | zero => rfl
  | succ k ih => rw [Int.pow_succ, Nat.pow_succ, Int.natCast_mul, ih]; rfl
theorem bits_or (a b : Int) : Go.bits .or .u64 a b = IntKind.u64.wrap (((BitVec.ofInt 64 a) ||| (BitVec.ofInt 64 b)).toNat : Int) := rfl
theorem ofInt64 (x : Nat) (h : x < 18446744073709551616) : (BitVec.ofInt 64 (x : Int)).toNat = x := by
  rw [BitVec.toNat_ofInt]
  have : (2 ^ 64 : Nat) = 18446744073709551616 := by decide
  rw [this]
  omega
theorem or_disj {a b : Int} {k : Nat} (h0 : 0 ≤ a) (h1 : a < 2 ^ k) (h2 : 0 ≤ b) (h3 : a + b * 2 ^ k < 18446744073709551616) : Go.bits .or .u64 a (b * 2 ^ k) = a + b * 2 ^ k := by
  obtain ⟨x, rfl⟩ := Int.eq_ofNat_of_zero_le h0
  obtain ⟨y, rfl⟩ := Int.eq_ofNat_of_zero_le h2
  rw [← cast_pow2] at h1 h3 ⊢
  rw [← Int.natCast_mul] at h3 ⊢
  have h1' : x < 2 ^ k := by omega
  have h3' : x + y * 2 ^ k < 18446744073709551616 := by omega
  have hor : x ||| (y * 2 ^ k) = x + y * 2 ^ k := by
    rw [Nat.or_comm, ← Nat.shiftLeft_eq, ← Nat.shiftLeft_add_eq_or_of_lt h1', Nat.shiftLeft_eq, Nat.add_comm]
  rw [bits_or, BitVec.toNat_or, ofInt64 x (by omega), ofInt64 _ (by omega), hor, u64_wrap]
  omega

theorem byte_or {a b : Int} (h0 : 0 ≤ a) (h1 : a < 72057594037927936) (h2 : 0 ≤ b) (h3 : b < 256) : Go.bits .or .u64 (IntKind.u64.wrap (a * 256)) (IntKind.u64.wrap b) = a * 256 + b := by
  rw [u64_id (by omega) (by omega), u64_id (by omega) (by omega)]
  have hc : Go.bits .or .u64 (a * 256) b = Go.bits .or .u64 b (a * 256) := by
    rw [bits_or, bits_or, BitVec.or_comm]
  rw [hc]
  have := or_disj (a := b) (b := a) (k := 8) h2 (by simpa using h3) h0 (by omega)
  rw [show (2 : Int) ^ 8 = 256 from rfl] at this
  rw [this]
  omega

theorem bits8 (op : BinOp) (a b : Int) : Go.bits op .u8 a b = IntKind.u8.wrap ((match op with | .and => (BitVec.ofInt 8 a) &&& (BitVec.ofInt 8 b) | .or => (BitVec.ofInt 8 a) ||| (BitVec.ofInt 8 b) | .xor => (BitVec.ofInt 8 a) ^^^ (BitVec.ofInt 8 b) | _ => (BitVec.ofInt 8 a) &&& ~~~(BitVec.ofInt 8 b) : BitVec 8).toNat : Int) := rfl
theorem bits8_byt (op : BinOp) (a b : Int) : 0 ≤ Go.bits op .u8 a b ∧ Go.bits op .u8 a b < 256 := by
  rw [bits8, u8_wrap]
  exact ⟨Int.emod_nonneg _ (by omega), Int.emod_lt_of_pos _ (by omega)⟩
/-- A byte is a natural number below 256. -/
theorem byte_nat {a : Int} (h : 0 ≤ a ∧ a < 256) : ∃ x : Fin 256, a = (x.val : Int) := ⟨⟨a.toNat, by omega⟩, by simp; omega⟩
def xor8 (a b : Int) : Int := Go.bits .xor .u8 a b
theorem ofInt8 (x : Nat) (h : x < 256) : (BitVec.ofInt 8 (x : Int)) = BitVec.ofNat 8 x := by simp
theorem xor8_nat (x y : Nat) (hx : x < 256) (hy : y < 256) : xor8 (x : Int) (y : Int) = ((x ^^^ y : Nat) : Int) := by
  unfold xor8
  rw [bits8]
  simp only [ofInt8 x hx, ofInt8 y hy, BitVec.toNat_xor, BitVec.toNat_ofNat, Nat.mod_eq_of_lt hx, Nat.mod_eq_of_lt hy, Nat.reducePow, u8_wrap]
  have : x ^^^ y < 256 := Nat.xor_lt_two_pow (n := 8) hx hy
  omega
theorem xor8_twice {a b : Int} (ha : 0 ≤ a ∧ a < 256) (hb : 0 ≤ b ∧ b < 256) : xor8 (xor8 a b) b = a := by
  obtain ⟨⟨x, hx⟩, rfl⟩ := byte_nat ha
  obtain ⟨⟨y, hy⟩, rfl⟩ := byte_nat hb
  have : x ^^^ y < 256 := Nat.xor_lt_two_pow (n := 8) hx hy
  rw [xor8_nat x y hx hy, xor8_nat _ y this hy, Nat.xor_assoc, Nat.xor_self, Nat.xor_zero]
theorem xor8_comm (a b : Int) : xor8 a b = xor8 b a := by
  unfold xor8
  rw [bits8, bits8]
  simp only [BitVec.xor_comm]
theorem xor8_zero {a b : Int} (ha : 0 ≤ a ∧ a < 256) (hb : 0 ≤ b ∧ b < 256) : xor8 a b = 0 ↔ a = b := by
  obtain ⟨⟨x, hx⟩, rfl⟩ := byte_nat ha
  obtain ⟨⟨y, hy⟩, rfl⟩ := byte_nat hb
  rw [xor8_nat x y hx hy]
  constructor
  · intro h
    have h0 : x ^^^ y = 0 := by omega
    have h1 : x = (x ^^^ y) ^^^ y := by rw [Nat.xor_assoc, Nat.xor_self, Nat.xor_zero]
    rw [h0, Nat.zero_xor] at h1
    simp [h1]
  · intro h
    have : x = y := by simp only at h; omega
    subst this
    simp
theorem or8_zero {a b : Int} (ha : 0 ≤ a ∧ a < 256) (hb : 0 ≤ b ∧ b < 256) : Go.bits .or .u8 a b = 0 ↔ a = 0 ∧ b = 0 := by
  obtain ⟨⟨x, hx⟩, rfl⟩ := byte_nat ha
  obtain ⟨⟨y, hy⟩, rfl⟩ := byte_nat hb
  rw [bits8]
  simp only [ofInt8 x hx, ofInt8 y hy, BitVec.toNat_or, BitVec.toNat_ofNat, Nat.mod_eq_of_lt hx, Nat.mod_eq_of_lt hy, Nat.reducePow, u8_wrap]
  have hlt : x ||| y < 256 := Nat.or_lt_two_pow (n := 8) hx hy
  have h1 : x ≤ x ||| y := Nat.left_le_or
  have h2 : y ≤ x ||| y := Nat.right_le_or
  constructor
  · intro h; omega
  · rintro ⟨h3, h4⟩
    have e1 : x = 0 := by omega
    have e2 : y = 0 := by omega
    subst e1; subst e2
    rfl

/-- Two lists, element by element, as far as the first goes. -/
def xorL (xs ys : List Int) : List Int := (List.range xs.length).map fun i => xor8 (xs.getD i 0) (ys.getD i 0)
theorem xorL_length (xs ys : List Int) : (xorL xs ys).length = xs.length := by simp [xorL]
theorem xorL_get (xs ys : List Int) (i : Nat) (h : i < (xorL xs ys).length) : (xorL xs ys)[i] = xor8 (xs.getD i 0) (ys.getD i 0) := by simp [xorL]
theorem xorL_byt (xs ys : List Int) : Byt (xorL xs ys) := by
  intro x hx
  simp only [xorL, List.mem_map] at hx
  obtain ⟨i, _, rfl⟩ := hx
  exact bits8_byt _ _ _
theorem xorL_take_succ (xs ys : List Int) (i : Nat) (h : i < xs.length) : (xorL xs ys).take (i + 1) = (xorL xs ys).take i ++ [xor8 (xs.getD i 0) (ys.getD i 0)] := by
  rw [List.take_succ_eq_append_getElem (by rw [xorL_length]; exact h), xorL_get]
theorem getD_get {xs : List Int} {i : Nat} (h : i < xs.length) : xs.getD i 0 = xs[i] := by simp [List.getD_eq_getElem?_getD, h]
theorem xorL_twice {xs ys : List Int} (hx : Byt xs) (hy : Byt ys) (hl : xs.length = ys.length) : xorL (xorL xs ys) ys = xs := by
  apply List.ext_getElem (by rw [xorL_length, xorL_length])
  intro i h1 h2
  rw [xorL_get, getD_get (by rw [xorL_length]; exact h2), xorL_get, xor8_twice (hx.getD i) (hy.getD i), getD_get h2]
def invL (xs : List Int) : List Int := xs.map fun x => xor8 255 x
theorem invL_byt (xs : List Int) : Byt (invL xs) := by
  intro x hx
  simp only [invL, List.mem_map] at hx
  obtain ⟨y, _, rfl⟩ := hx
  exact bits8_byt _ _ _
theorem invL_xor (xs : List Int) (n : Nat) (h : n = xs.length) : xorL xs (List.replicate n 255) = invL xs := by
  subst h
  apply List.ext_getElem (by simp [xorL, invL])
  intro i h1 h2
  rw [xorL_get, getD_get (by simpa [invL] using h2), getD_get (by simpa [invL] using h2)]
  simp only [List.getElem_replicate, invL, List.getElem_map]
  exact xor8_comm _ _

end Go.Eng

/-! Values that are read, of any shape: where they lie (in which blocks), what data they are, and that they stay while their blocks stay. -/
namespace Go.Proofs.Ytiemdjnmghackaa.Vc
open Go Go.Eng Go.RowKit
set_option linter.unusedVariables false
set_option linter.unusedSimpArgs false

/-- Blocks of a set are as they were. -/
def Kp (G : Nat → Prop) (w w' : World) : Prop := ∀ k, G k → k < w.heap.size → w'.heap[k]? = w.heap[k]?
abbrev All : Nat → Prop := fun _ => True
theorem Ext_kp {w w' : World} (e : Ext w w') (G : Nat → Prop) : Kp G w w' := fun k _ hk => e.block k hk
theorem Kp.mono {G G' : Nat → Prop} {w w' : World} (h : Kp G w w') (hg : ∀ k, G' k → G k) : Kp G' w w' := fun k hk hl => h k (hg k hk) hl

theorem cells_kp {w w' : World} {p : Addr} {vs : List Value} (hc : CellsAt w p vs) (h : vs ≠ [] → w'.heap[p.block]? = w.heap[p.block]?) : CellsAt w' p vs := by
  cases vs with
  | nil => exact CellsAt.nil
  | cons v vs => exact cells_same (h (by simp)) hc

/-- Cells that are read, in blocks of a set. -/
def RdG (w : World) (G : Nat → Prop) (a : Option Addr) (vs : List Value) : Prop := (a = none ∧ vs = []) ∨ ∃ p, a = some p ∧ CellsAt w p vs ∧ (vs ≠ [] → G p.block)
theorem RdG.rdc {w : World} {G : Nat → Prop} {a : Option Addr} {vs : List Value} (h : RdG w G a vs) : RdC w a vs := h.imp id fun ⟨p, h1, h2, _⟩ => ⟨p, h1, h2⟩
theorem RdG.of {w : World} {a : Option Addr} {vs : List Value} (h : RdC w a vs) : RdG w All a vs := h.imp id fun ⟨p, h1, h2⟩ => ⟨p, h1, h2, fun _ => trivial⟩
theorem RdG.kp {w w' : World} {G : Nat → Prop} {a : Option Addr} {vs : List Value} (h : RdG w G a vs) (k : Kp G w w') : RdG w' G a vs := by
  rcases h with h | ⟨p, h1, h2, h3⟩
  · exact .inl h
  · refine .inr ⟨p, h1, cells_kp h2 fun hne => ?_, h3⟩
    cases vs with
    | nil => exact absurd rfl hne
    | cons v vs => exact k _ (h3 hne) (cells_lt h2)
theorem RdG.mono {w : World} {G G' : Nat → Prop} {a : Option Addr} {vs : List Value} (h : RdG w G a vs) (hg : ∀ k, G k → k < w.heap.size → G' k) : RdG w G' a vs := by
  rcases h with h | ⟨p, h1, h2, h3⟩
  · exact .inl h
  · refine .inr ⟨p, h1, h2, fun hne => ?_⟩
    cases vs with
    | nil => exact absurd rfl hne
    | cons v vs => exact hg _ (h3 hne) (cells_lt h2)

def Ty.rd (w : World) (G : Nat → Prop) : (t : Ty) → t.T → Prop
  | .int k, (x : Int) => Rng k x
  | .bool, _ => True
  | .str, (x : ByteArray) => x.size ≤ maxLen
  | .sl e, (x : SlP e.T) => x.l.length = x.n ∧ x.n ≤ x.c ∧ x.n ≤ maxLen ∧ RdG w G x.a (x.l.flatMap e.vs) ∧ ∀ y ∈ x.l, e.rd w G y
  | .nil, _ => True
  | .cons a r, (x : a.T × r.T) => a.rd w G x.1 ∧ r.rd w G x.2
@[reducible] def Ty.D : Ty → Type
  | .int _ => Int
  | .bool => Bool
  | .str => ByteArray
  | .sl e => List e.D
  | .nil => Unit
  | .cons a r => a.D × r.D
def Ty.dat : (t : Ty) → t.T → t.D
  | .int _, (x : Int) => x
  | .bool, (x : Bool) => x
  | .str, (x : ByteArray) => x
  | .sl e, (x : SlP e.T) => x.l.map e.dat
  | .nil, _ => ()
  | .cons a r, (x : a.T × r.T) => (a.dat x.1, r.dat x.2)

theorem Ty.rd_of {w : World} : ∀ (t : Ty) {x : t.T}, t.ok w x → t.rd w All x
  | .int _, _, h => h
  | .bool, _, _ => trivial
  | .str, _, h => h
  | .sl e, x, h => ⟨h.1, h.2.1, Nat.le_trans h.2.1 h.2.2.1, .of h.2.2.2.1, fun y hy => e.rd_of (h.2.2.2.2 y hy)⟩
  | .nil, _, _ => trivial
  | .cons a r, x, h => ⟨a.rd_of h.1, r.rd_of h.2⟩
theorem Ty.rd_kp {w w' : World} {G : Nat → Prop} (k : Kp G w w') : ∀ (t : Ty) {x : t.T}, t.rd w G x → t.rd w' G x
  | .int _, _, h => h
  | .bool, _, _ => trivial
  | .str, _, h => h
  | .sl e, x, h => ⟨h.1, h.2.1, h.2.2.1, h.2.2.2.1.kp k, fun y hy => e.rd_kp k (h.2.2.2.2 y hy)⟩
  | .nil, _, _ => trivial
  | .cons a r, x, h => ⟨a.rd_kp k h.1, r.rd_kp k h.2⟩
theorem Ty.rd_mono {w : World} {G G' : Nat → Prop} (hg : ∀ k, G k → k < w.heap.size → G' k) : ∀ (t : Ty) {x : t.T}, t.rd w G x → t.rd w G' x
  | .int _, _, h => h
  | .bool, _, _ => trivial
  | .str, _, h => h
  | .sl e, x, h => ⟨h.1, h.2.1, h.2.2.1, h.2.2.2.1.mono hg, fun y hy => e.rd_mono hg (h.2.2.2.2 y hy)⟩
  | .nil, _, _ => trivial
  | .cons a r, x, h => ⟨a.rd_mono hg h.1, r.rd_mono hg h.2⟩
theorem Ty.rd_ext {w w' : World} {G : Nat → Prop} (e : Ext w w') (t : Ty) {x : t.T} (h : t.rd w G x) : t.rd w' G x := t.rd_kp (Ext_kp e G) h

/-! ### Slices of anything -/
theorem flat_len {α : Type} {f : α → List Value} {m : Nat} (hm : ∀ x, (f x).length = m) : ∀ (l : List α), (l.flatMap f).length = l.length * m
  | [] => by simp
  | x :: l => by rw [List.flatMap_cons, List.length_append, hm, flat_len hm l, List.length_cons, Nat.add_mul]; omega
theorem flat_get {α : Type} {f : α → List Value} {m : Nat} (hm : ∀ x, (f x).length = m) : ∀ {l : List α} {i : Nat} {y : α}, l[i]? = some y → ∀ {j : Nat} {v : Value}, (f y)[j]? = some v → (l.flatMap f)[i * m + j]? = some v
  | [], i, y, h, j, v, hv => by simp at h
  | x :: l, 0, y, h, j, v, hv => by
    simp at h; subst h
    rw [List.flatMap_cons, Nat.zero_mul, Nat.zero_add, List.getElem?_append_left (List.getElem?_eq_some_iff.1 hv).1]
    exact hv
  | x :: l, i + 1, y, h, j, v, hv => by
    rw [List.getElem?_cons_succ] at h
    rw [List.flatMap_cons, List.getElem?_append_right (by rw [hm, Nat.add_mul]; omega), hm, show (i + 1) * m + j - m = i * m + j by rw [Nat.add_mul]; omega]
    exact flat_get hm h hv
theorem CellsAt.nth {w : World} {p : Addr} {α : Type} {f : α → List Value} {m : Nat} (hm : ∀ x, (f x).length = m) {l : List α} (h : CellsAt w p (l.flatMap f)) {i : Nat} {y : α} (hy : l[i]? = some y) : CellsAt w (p.add (i * m)) (f y) := by
  intro j v hv
  rw [add_add]
  exact h _ _ (flat_get hm hy hv)

/-- An element of a slice that is read. -/
theorem Ty.nth {w : World} {G : Nat → Prop} {e : Ty} {x : SlP e.T} (h : (Ty.sl e).rd w G x) {i : Int} (h0 : 0 ≤ i) (h1 : i < (x.n : Int)) (he : 0 < e.n) :
    ∃ q y, x.a = some q ∧ x.l[i.toNat]? = some y ∧ CellsAt w (q.add (i.toNat * e.n)) (e.vs y) ∧ e.rd w G y ∧ G q.block ∧ q.block < w.heap.size := by
  obtain ⟨hl, _, _, hr, hy⟩ := h
  have hi : i.toNat < x.l.length := by omega
  have hget : x.l[i.toNat]? = some x.l[i.toNat] := List.getElem?_eq_getElem hi
  rcases hr with ⟨_, h2⟩ | ⟨q, hq, hc, hG⟩
  · have := flat_len (fun z => e.vs_length z) x.l
    have h3 := Nat.mul_pos (show 0 < x.l.length by omega) he
    rw [h2, List.length_nil] at this
    omega
  · have hne : x.l.flatMap e.vs ≠ [] := by
      intro hh
      have := flat_len (fun z => e.vs_length z) x.l
      have h3 := Nat.mul_pos (show 0 < x.l.length by omega) he
      rw [hh, List.length_nil] at this
      omega
    refine ⟨q, x.l[i.toNat], hq, hget, CellsAt.nth (fun z => e.vs_length z) hc hget, hy _ (List.getElem_mem hi), hG hne, ?_⟩
    cases hf : x.l.flatMap e.vs with
    | nil => exact absurd hf hne
    | cons v vs => rw [hf] at hc; exact cells_lt hc

/-- Slices of whole numbers. -/
theorem flat_ints (k : IntKind) (l : List Int) : l.flatMap (Ty.int k).vs = l.map (Value.int k) := by
  induction l with
  | nil => rfl
  | cons x l ih => rw [List.flatMap_cons, ih]; rfl
theorem Ty.ints {w : World} {G : Nat → Prop} {k : IntKind} {x : SlP Int} (h : (Ty.sl (.int k)).rd w G x) : Ints w k x.a x.n x.c x.l := by
  obtain ⟨hl, hc, hm, hr, _⟩ := h
  have hml : maxLen = 9223372036854775807 := by decide
  refine ⟨hl, hc, by omega, ?_⟩
  have := hr.rdc
  rw [show x.l.flatMap (Ty.int k).vs = x.l.map (Value.int k) from flat_ints k x.l] at this
  exact this
theorem Ty.byt {w : World} {G : Nat → Prop} {x : SlP Int} (h : (Ty.sl (.int .u8)).rd w G x) : Byt x.l := fun y hy => rng_u8 (h.2.2.2.2 y hy)
theorem dat_ints {k : IntKind} (l : List Int) : l.map (Ty.int k).dat = l := by
  induction l with
  | nil => rfl
  | cons x l ih => rw [List.map_cons, ih]; rfl

end Go.Proofs.Ytiemdjnmghackaa.Vc

/-! The functions that may be called, and the order in which regions run. -/
namespace Go.Proofs.Ytiemdjnmghackaa.Vc
open Go Go.Eng
def okf : FuncId → Bool := okIn [3, 4, 5, 6, 7, 8, 9, 10, 11, 12, 13, 14, 15, 16, 17, 18, 19, 20, 21, 22, 23, 24, 25, 26, 27, 28, 29, 30, 31, 32, 33, 34, 35, 36, 37, 38, 39, 40, 41, 42, 43, 44, 45, 46, 47, 48, 49, 50, 51, 52, 53, 54, 55, 56, 57, 58, 59, 60, 61, 62, 63, 64, 65, 66, 67, 68, 69, 70, 71, 72, 73, 74, 75, 76, 77, 78, 79, 80, 81, 82, 83, 84, 85, 86, 87, 88, 89, 90, 91, 92, 93, 94, 95, 96, 97, 98, 99, 100, 101, 103, 104, 105, 106, 107, 108, 109, 110, 111, 112, 115, 116, 117, 118, 119, 120, 121, 122, 123, 124, 126, 127, 128, 129, 130, 131, 132]
theorem okf_ok : OkCalls Try.prog okf := okc (okc_cons Try.call3 (okc_cons Try.call4 (okc_cons Try.call5 (okc_cons Try.call6 (okc_cons Try.call7 (okc_cons Try.call8 (okc_cons Try.call9 (okc_cons Try.call10 (okc_cons Try.call11 (okc_cons Try.call12 (okc_cons Try.call13 (okc_cons Try.call14 (okc_cons Try.call15 (okc_cons Try.call16 (okc_cons Try.call17 (okc_cons Try.call18 (okc_cons Try.call19 (okc_cons Try.call20 (okc_cons Try.call21 (okc_cons Try.call22 (okc_cons Try.call23 (okc_cons Try.call24 (okc_cons Try.call25 (okc_cons Try.call26 (okc_cons Try.call27 (okc_cons Try.call28 (okc_cons Try.call29 (okc_cons Try.call30 (okc_cons Try.call31 (okc_cons Try.call32 (okc_cons Try.call33 (okc_cons Try.call34 (okc_cons Try.call35 (okc_cons Try.call36 (okc_cons Try.call37 (okc_cons Try.call38 (okc_cons Try.call39 (okc_cons Try.call40 (okc_cons Try.call41 (okc_cons Try.call42 (okc_cons Try.call43 (okc_cons Try.call44 (okc_cons Try.call45 (okc_cons Try.call46 (okc_cons Try.call47 (okc_cons Try.call48 (okc_cons Try.call49 (okc_cons Try.call50 (okc_cons Try.call51 (okc_cons Try.call52 (okc_cons Try.call53 (okc_cons Try.call54 (okc_cons Try.call55 (okc_cons Try.call56 (okc_cons Try.call57 (okc_cons Try.call58 (okc_cons Try.call59 (okc_cons Try.call60 (okc_cons Try.call61 (okc_cons Try.call62 (okc_cons Try.call63 (okc_cons Try.call64 (okc_cons Try.call65 (okc_cons Try.call66 (okc_cons Try.call67 (okc_cons Try.call68 (okc_cons Try.call69 (okc_cons Try.call70 (okc_cons Try.call71 (okc_cons Try.call72 (okc_cons Try.call73 (okc_cons Try.call74 (okc_cons Try.call75 (okc_cons Try.call76 (okc_cons Try.call77 (okc_cons Try.call78 (okc_cons Try.call79 (okc_cons Try.call80 (okc_cons Try.call81 (okc_cons Try.call82 (okc_cons Try.call83 (okc_cons Try.call84 (okc_cons Try.call85 (okc_cons Try.call86 (okc_cons Try.call87 (okc_cons Try.call88 (okc_cons Try.call89 (okc_cons Try.call90 (okc_cons Try.call91 (okc_cons Try.call92 (okc_cons Try.call93 (okc_cons Try.call94 (okc_cons Try.call95 (okc_cons Try.call96 (okc_cons Try.call97 (okc_cons Try.call98 (okc_cons Try.call99 (okc_cons Try.call100 (okc_cons Try.call101 (okc_cons Try.call103 (okc_cons Try.call104 (okc_cons Try.call105 (okc_cons Try.call106 (okc_cons Try.call107 (okc_cons Try.call108 (okc_cons Try.call109 (okc_cons Try.call110 (okc_cons Try.call111 (okc_cons Try.call112 (okc_cons Try.call115 (okc_cons Try.call116 (okc_cons Try.call117 (okc_cons Try.call118 (okc_cons Try.call119 (okc_cons Try.call120 (okc_cons Try.call121 (okc_cons Try.call122 (okc_cons Try.call123 (okc_cons Try.call124 (okc_cons Try.call126 (okc_cons Try.call127 (okc_cons Try.call128 (okc_cons Try.call129 (okc_cons Try.call130 (okc_cons Try.call131 (okc_cons Try.call132 (okc_nil (P := Try.prog))))))))))))))))))))))))))))))))))))))))))))))))))))))))))))))))))))))))))))))))))))))))))))))))))))))))))))))))))))))))))))))))
theorem follows : Try.prog.follows .mixedOrders = true := by kernel_rfl
end Go.Proofs.Ytiemdjnmghackaa.Vc

/-! The plans of functions as plain statements, printed by wip/tools/vcgen.py; the kernel holds each to the code. -/
namespace Go.Proofs.Ytiemdjnmghackaa.Vc
open Go Go.Eng
set_option linter.unusedVariables false

/-! ### nepenthe/ledger.New: function 10 -/
-- loop 0 carries 14: .one (.int .i64)
def ledger_New.A : Ann := .two .no (.two .no (.two .no (.two (.two .no (.one (.loop [14, 15, 16, 17, 18, 19, 20, 21, 22, 23, 24, 25, 26] [(14, .one (.int .i64))] .no))) .no)))
def ledger_New.P (p0 : Int) (w : World) (K : (Option Addr) × Int × Unit → World → Prop) : Prop :=
  cond (decide (p0 < 0))
  (K (none, (2 : Int), ()) w)
  (cond (decide (p0 > 64))
  (K (none, (2 : Int), ()) w)
  (NewV #[.slice none 0 0] 99 w fun b1 w2 =>
  LoopV [.one (.int .i64)] ((0 : Int), ()) w2 fun (z3 : Int × Unit) w4 (K5 : Int × Unit → World → Prop) =>
  cond (decide (z3.1 < p0))
  (LoadS w4 ⟨b1, 0, none⟩ .sl fun (x6 : SlV) =>
  NewV #[.int .i64 (-1), .int .i64 0, .int .i64 0, .int .i64 0, .bool false, .bool false, .bool false, .bool false, .bool false] 48 w4 fun b7 w8 =>
  AppS w8 (some ⟨b7, 0, none⟩) 1 9 fun ns13 =>
  AppV w8 48 9 40 x6.a x6.n x6.c ns13 1 fun a9 n10 c11 w12 =>
  StoreV w12 ⟨b1, 0, none⟩ [.slice a9 n10 c11] fun w14 =>
  Rng .i64 (z3.1 + 1) ∧
  K5 (z3.1 + 1, ()) w14)
  (K ((some ⟨b1, 0, none⟩), (0 : Int), ()) w4)))
theorem ledger_New.vc (p0 : Int) (w : World) (K : (Option Addr) × Int × Unit → World → Prop) (h : ledger_New.P p0 w K) : CallV Try.prog 10 #[.int .i64 p0] w [.one .ptr, .one (.int .i64)] K := by
  have e : vcFun Try.prog okf false Try.f10 ledger_New.A #[.int .i64 p0] w [.one .ptr, .one (.int .i64)] K = ledger_New.P p0 w K := by kernel_rfl
  exact vcFun.calls okf_ok follows Try.func10 (e.symm ▸ h)

/-! ### (*nepenthe/ledger.Ledger).has: function 71 -/
def ledger_Ledger_has.A : Ann := .no
def ledger_Ledger_has.P (p0 : Addr) (p1 : Int) (w : World) (K : Bool × Unit → World → Prop) : Prop :=
  cond (decide (p1 ≥ 0))
  (CallV Try.prog 30 #[.pointer (some p0)] w [.one (.int .i64)] fun (r1 : Int × Unit) w2 =>
  K (decide (p1 < r1.1), ()) w2)
  (K (false, ()) w)
theorem ledger_Ledger_has.vc (p0 : Addr) (p1 : Int) (w : World) (K : Bool × Unit → World → Prop) (h : ledger_Ledger_has.P p0 p1 w K) : CallV Try.prog 71 #[.pointer (some p0), .int .i64 p1] w [.one .bool] K := by
  have e : vcFun Try.prog okf false Try.f71 ledger_Ledger_has.A #[.pointer (some p0), .int .i64 p1] w [.one .bool] K = ledger_Ledger_has.P p0 p1 w K := by kernel_rfl
  exact vcFun.calls okf_ok follows Try.func71 (e.symm ▸ h)

/-! ### (*nepenthe/ledger.Ledger).Len: function 30 -/
def ledger_Ledger_Len.A : Ann := .no
def ledger_Ledger_Len.P (p0 : Addr) (w : World) (K : Int × Unit → World → Prop) : Prop :=
  LoadS w p0 .sl fun (x1 : SlV) =>
  K (((x1.n : Nat) : Int), ()) w
theorem ledger_Ledger_Len.vc (p0 : Addr) (w : World) (K : Int × Unit → World → Prop) (h : ledger_Ledger_Len.P p0 w K) : CallV Try.prog 30 #[.pointer (some p0)] w [.one (.int .i64)] K := by
  have e : vcFun Try.prog okf false Try.f30 ledger_Ledger_Len.A #[.pointer (some p0)] w [.one (.int .i64)] K = ledger_Ledger_Len.P p0 w K := by kernel_rfl
  exact vcFun.calls okf_ok follows Try.func30 (e.symm ▸ h)

/-! ### (*nepenthe/ledger.Ledger).change: function 72 -/
def ledger_Ledger_change.A : Ann := .no
def ledger_Ledger_change.P (p0 : Addr) (p1 : Int) (g2 : FuncId) (cap2 : Array Value) (w : World) (K : Int × Unit → World → Prop) : Prop :=
  CallV Try.prog 71 #[.pointer (some p0), .int .i64 p1] w [.one .bool] fun (r1 : Bool × Unit) w2 =>
  cond (!r1.1)
  (K ((2 : Int), ()) w2)
  (LoadS w2 p0 .sl fun (x3 : SlV) =>
  (0 ≤ p1 ∧ p1 < ((x3.n : Nat) : Int)) ∧ ∃ q4 : Addr, x3.a = some q4 ∧
  cond (okf g2)
  (CallV Try.prog g2 ([] ++ ((([.pointer (some (q4.add (p1.toNat * 9)))] : List Value)) ++ (cap2).toList)).toArray w2 [] fun (r5 : Unit) w6 =>
  K ((0 : Int), ()) w6)
  False)
theorem ledger_Ledger_change.vc (p0 : Addr) (p1 : Int) (g2 : FuncId) (cap2 : Array Value) (w : World) (K : Int × Unit → World → Prop) (h : ledger_Ledger_change.P p0 p1 g2 cap2 w K) : CallV Try.prog 72 #[.pointer (some p0), .int .i64 p1, .func (.func g2) #[] cap2] w [.one (.int .i64)] K := by
  have e : vcFun Try.prog okf false Try.f72 ledger_Ledger_change.A #[.pointer (some p0), .int .i64 p1, .func (.func g2) #[] cap2] w [.one (.int .i64)] K = ledger_Ledger_change.P p0 p1 g2 cap2 w K := by kernel_rfl
  exact vcFun.calls okf_ok follows Try.func72 (e.symm ▸ h)

/-! ### (*nepenthe/ledger.Ledger).At: function 28 -/
def ledger_Ledger_At.A : Ann := .no
def ledger_Ledger_At.P (p0 : Addr) (p1 : Int) (w : World) (K : (Int × Int × Int × Int × Bool × Bool × Bool × Bool × Bool × Unit) × Unit → World → Prop) : Prop :=
  NewV #[.int .i64 0, .int .i64 0, .int .i64 0, .int .i64 0, .bool false, .bool false, .bool false, .bool false, .bool false] 48 w fun b1 w2 =>
  CallV Try.prog 71 #[.pointer (some p0), .int .i64 p1] w2 [.one .bool] fun (r3 : Bool × Unit) w4 =>
  cond (!r3.1)
  (StoreV w4 ⟨b1, 0, none⟩ [.int .i64 0, .int .i64 0, .int .i64 0, .int .i64 0, .bool false, .bool false, .bool false, .bool false, .bool false] fun w5 =>
  LoadA w5 ⟨b1, 0, none⟩ [.int .i64, .int .i64, .int .i64, .int .i64, .bool, .bool, .bool, .bool, .bool] fun (x6 : Int × Int × Int × Int × Bool × Bool × Bool × Bool × Bool × Unit) =>
  K ((x6.1, x6.2.1, x6.2.2.1, x6.2.2.2.1, x6.2.2.2.2.1, x6.2.2.2.2.2.1, x6.2.2.2.2.2.2.1, x6.2.2.2.2.2.2.2.1, x6.2.2.2.2.2.2.2.2.1, ()), ()) w5)
  (LoadS w4 p0 .sl fun (x7 : SlV) =>
  (0 ≤ p1 ∧ p1 < ((x7.n : Nat) : Int)) ∧ ∃ q8 : Addr, x7.a = some q8 ∧
  LoadA w4 (q8.add (p1.toNat * 9)) [.int .i64, .int .i64, .int .i64, .int .i64, .bool, .bool, .bool, .bool, .bool] fun (x9 : Int × Int × Int × Int × Bool × Bool × Bool × Bool × Bool × Unit) =>
  StoreV w4 ⟨b1, 0, none⟩ [.int .i64 x9.1, .int .i64 x9.2.1, .int .i64 x9.2.2.1, .int .i64 x9.2.2.2.1, .bool x9.2.2.2.2.1, .bool x9.2.2.2.2.2.1, .bool x9.2.2.2.2.2.2.1, .bool x9.2.2.2.2.2.2.2.1, .bool x9.2.2.2.2.2.2.2.2.1] fun w10 =>
  LoadA w10 ⟨b1, 0, none⟩ [.int .i64, .int .i64, .int .i64, .int .i64, .bool, .bool, .bool, .bool, .bool] fun (x11 : Int × Int × Int × Int × Bool × Bool × Bool × Bool × Bool × Unit) =>
  K ((x11.1, x11.2.1, x11.2.2.1, x11.2.2.2.1, x11.2.2.2.2.1, x11.2.2.2.2.2.1, x11.2.2.2.2.2.2.1, x11.2.2.2.2.2.2.2.1, x11.2.2.2.2.2.2.2.2.1, ()), ()) w10)
theorem ledger_Ledger_At.vc (p0 : Addr) (p1 : Int) (w : World) (K : (Int × Int × Int × Int × Bool × Bool × Bool × Bool × Bool × Unit) × Unit → World → Prop) (h : ledger_Ledger_At.P p0 p1 w K) : CallV Try.prog 28 #[.pointer (some p0), .int .i64 p1] w [.agg [.int .i64, .int .i64, .int .i64, .int .i64, .bool, .bool, .bool, .bool, .bool]] K := by
  have e : vcFun Try.prog okf false Try.f28 ledger_Ledger_At.A #[.pointer (some p0), .int .i64 p1] w [.agg [.int .i64, .int .i64, .int .i64, .int .i64, .bool, .bool, .bool, .bool, .bool]] K = ledger_Ledger_At.P p0 p1 w K := by kernel_rfl
  exact vcFun.calls okf_ok follows Try.func28 (e.symm ▸ h)

/-! ### (*nepenthe/ledger.Ledger).Set: function 31 -/
def ledger_Ledger_Set.A : Ann := .no
def ledger_Ledger_Set.P (p0 : Addr) (p1 : Int) (p2_0 : Int) (p2_1 : Int) (p2_2 : Int) (p2_3 : Int) (p2_4 : Bool) (p2_5 : Bool) (p2_6 : Bool) (p2_7 : Bool) (p2_8 : Bool) (w : World) (K : Int × Unit → World → Prop) : Prop :=
  NewV #[.int .i64 p2_0, .int .i64 p2_1, .int .i64 p2_2, .int .i64 p2_3, .bool p2_4, .bool p2_5, .bool p2_6, .bool p2_7, .bool p2_8] 48 w fun b1 w2 =>
  CallV Try.prog 72 #[.pointer (some p0), .int .i64 p1, .func (.func 73) #[] #[.pointer (some ⟨b1, 0, none⟩)]] w2 [.one (.int .i64)] fun (r3 : Int × Unit) w4 =>
  K (r3.1, ()) w4
theorem ledger_Ledger_Set.vc (p0 : Addr) (p1 : Int) (p2_0 : Int) (p2_1 : Int) (p2_2 : Int) (p2_3 : Int) (p2_4 : Bool) (p2_5 : Bool) (p2_6 : Bool) (p2_7 : Bool) (p2_8 : Bool) (w : World) (K : Int × Unit → World → Prop) (h : ledger_Ledger_Set.P p0 p1 p2_0 p2_1 p2_2 p2_3 p2_4 p2_5 p2_6 p2_7 p2_8 w K) : CallV Try.prog 31 #[.pointer (some p0), .int .i64 p1, .agg #[.int .i64 p2_0, .int .i64 p2_1, .int .i64 p2_2, .int .i64 p2_3, .bool p2_4, .bool p2_5, .bool p2_6, .bool p2_7, .bool p2_8]] w [.one (.int .i64)] K := by
  have e : vcFun Try.prog okf false Try.f31 ledger_Ledger_Set.A #[.pointer (some p0), .int .i64 p1, .agg #[.int .i64 p2_0, .int .i64 p2_1, .int .i64 p2_2, .int .i64 p2_3, .bool p2_4, .bool p2_5, .bool p2_6, .bool p2_7, .bool p2_8]] w [.one (.int .i64)] K = ledger_Ledger_Set.P p0 p1 p2_0 p2_1 p2_2 p2_3 p2_4 p2_5 p2_6 p2_7 p2_8 w K := by kernel_rfl
  exact vcFun.calls okf_ok follows Try.func31 (e.symm ▸ h)

/-! ### (*nepenthe/ledger.Ledger).Set$1: function 73 -/
def ledger_Ledger_Set_1.A : Ann := .no
def ledger_Ledger_Set_1.P (p0 : Addr) (q0 : Addr) (w : World) (K : Unit → World → Prop) : Prop :=
  LoadA w q0 [.int .i64, .int .i64, .int .i64, .int .i64, .bool, .bool, .bool, .bool, .bool] fun (x1 : Int × Int × Int × Int × Bool × Bool × Bool × Bool × Bool × Unit) =>
  StoreV w p0 [.int .i64 x1.1, .int .i64 x1.2.1, .int .i64 x1.2.2.1, .int .i64 x1.2.2.2.1, .bool x1.2.2.2.2.1, .bool x1.2.2.2.2.2.1, .bool x1.2.2.2.2.2.2.1, .bool x1.2.2.2.2.2.2.2.1, .bool x1.2.2.2.2.2.2.2.2.1] fun w2 =>
  K () w2
set_option maxRecDepth 65536 in
theorem ledger_Ledger_Set_1.vc (p0 : Addr) (q0 : Addr) (w : World) (K : Unit → World → Prop) (h : ledger_Ledger_Set_1.P p0 q0 w K) : CallV Try.prog 73 #[.pointer (some p0), .pointer (some q0)] w [] K := by
  have e : vcFun Try.prog okf false Try.f73 ledger_Ledger_Set_1.A #[.pointer (some p0), .pointer (some q0)] w [] K = ledger_Ledger_Set_1.P p0 q0 w K := by kernel_rfl
  exact vcFun.calls okf_ok follows Try.func73 (e.mpr h)

/-! ### (*nepenthe/ledger.Ledger).Hold: function 51 -/
def ledger_Ledger_Hold.A : Ann := .no
def ledger_Ledger_Hold.P (p0 : Addr) (p1 : Int) (p2 : Int) (w : World) (K : Int × Unit → World → Prop) : Prop :=
  NewV #[.int .i64 p2] 3 w fun b1 w2 =>
  LoadS w2 ⟨b1, 0, none⟩ (.int .i64) fun (x3 : Int) =>
  cond (decide (x3 < 0))
  (K ((2 : Int), ()) w2)
  (LoadS w2 ⟨b1, 0, none⟩ (.int .i64) fun (x4 : Int) =>
  cond (decide (x4 ≥ 4))
  (K ((2 : Int), ()) w2)
  (CallV Try.prog 72 #[.pointer (some p0), .int .i64 p1, .func (.func 92) #[] #[.pointer (some ⟨b1, 0, none⟩)]] w2 [.one (.int .i64)] fun (r5 : Int × Unit) w6 =>
  K (r5.1, ()) w6))
theorem ledger_Ledger_Hold.vc (p0 : Addr) (p1 : Int) (p2 : Int) (w : World) (K : Int × Unit → World → Prop) (h : ledger_Ledger_Hold.P p0 p1 p2 w K) : CallV Try.prog 51 #[.pointer (some p0), .int .i64 p1, .int .i64 p2] w [.one (.int .i64)] K := by
  have e : vcFun Try.prog okf false Try.f51 ledger_Ledger_Hold.A #[.pointer (some p0), .int .i64 p1, .int .i64 p2] w [.one (.int .i64)] K = ledger_Ledger_Hold.P p0 p1 p2 w K := by kernel_rfl
  exact vcFun.calls okf_ok follows Try.func51 (e.symm ▸ h)

/-! ### (*nepenthe/ledger.Ledger).Hold$1: function 92 -/
def ledger_Ledger_Hold_1.A : Ann := .no
def ledger_Ledger_Hold_1.P (p0 : Addr) (q0 : Addr) (w : World) (K : Unit → World → Prop) : Prop :=
  LoadS w q0 (.int .i64) fun (x1 : Int) =>
  StoreV w p0 [.int .i64 x1] fun w2 =>
  StoreV w2 (p0.add 4) [.bool true] fun w3 =>
  StoreV w3 (p0.add 5) [.bool false] fun w4 =>
  StoreV w4 (p0.add 1) [.int .i64 0] fun w5 =>
  StoreV w5 (p0.add 2) [.int .i64 0] fun w6 =>
  K () w6
set_option maxRecDepth 65536 in
theorem ledger_Ledger_Hold_1.vc (p0 : Addr) (q0 : Addr) (w : World) (K : Unit → World → Prop) (h : ledger_Ledger_Hold_1.P p0 q0 w K) : CallV Try.prog 92 #[.pointer (some p0), .pointer (some q0)] w [] K := by
  have e : vcFun Try.prog okf false Try.f92 ledger_Ledger_Hold_1.A #[.pointer (some p0), .pointer (some q0)] w [] K = ledger_Ledger_Hold_1.P p0 q0 w K := by kernel_rfl
  exact vcFun.calls okf_ok follows Try.func92 (e.mpr h)

/-! ### (*nepenthe/ledger.Ledger).Release: function 52 -/
def ledger_Ledger_Release.A : Ann := .no
def ledger_Ledger_Release.P (p0 : Addr) (p1 : Int) (w : World) (K : Int × Unit → World → Prop) : Prop :=
  CallV Try.prog 72 #[.pointer (some p0), .int .i64 p1, .func (.func 93) #[] #[]] w [.one (.int .i64)] fun (r1 : Int × Unit) w2 =>
  K (r1.1, ()) w2
theorem ledger_Ledger_Release.vc (p0 : Addr) (p1 : Int) (w : World) (K : Int × Unit → World → Prop) (h : ledger_Ledger_Release.P p0 p1 w K) : CallV Try.prog 52 #[.pointer (some p0), .int .i64 p1] w [.one (.int .i64)] K := by
  have e : vcFun Try.prog okf false Try.f52 ledger_Ledger_Release.A #[.pointer (some p0), .int .i64 p1] w [.one (.int .i64)] K = ledger_Ledger_Release.P p0 p1 w K := by kernel_rfl
  exact vcFun.calls okf_ok follows Try.func52 (e.symm ▸ h)

/-! ### (*nepenthe/ledger.Ledger).Release$1: function 93 -/
def ledger_Ledger_Release_1.A : Ann := .no
def ledger_Ledger_Release_1.P (p0 : Addr) (w : World) (K : Unit → World → Prop) : Prop :=
  StoreV w (p0.add 4) [.bool false] fun w1 =>
  StoreV w1 (p0.add 2) [.int .i64 0] fun w2 =>
  K () w2
set_option maxRecDepth 65536 in
theorem ledger_Ledger_Release_1.vc (p0 : Addr) (w : World) (K : Unit → World → Prop) (h : ledger_Ledger_Release_1.P p0 w K) : CallV Try.prog 93 #[.pointer (some p0)] w [] K := by
  have e : vcFun Try.prog okf false Try.f93 ledger_Ledger_Release_1.A #[.pointer (some p0)] w [] K = ledger_Ledger_Release_1.P p0 w K := by kernel_rfl
  exact vcFun.calls okf_ok follows Try.func93 (e.mpr h)

/-! ### (*nepenthe/ledger.Ledger).Erased: function 53 -/
def ledger_Ledger_Erased.A : Ann := .no
def ledger_Ledger_Erased.P (p0 : Addr) (p1 : Int) (w : World) (K : Int × Unit → World → Prop) : Prop :=
  CallV Try.prog 72 #[.pointer (some p0), .int .i64 p1, .func (.func 94) #[] #[]] w [.one (.int .i64)] fun (r1 : Int × Unit) w2 =>
  K (r1.1, ()) w2
theorem ledger_Ledger_Erased.vc (p0 : Addr) (p1 : Int) (w : World) (K : Int × Unit → World → Prop) (h : ledger_Ledger_Erased.P p0 p1 w K) : CallV Try.prog 53 #[.pointer (some p0), .int .i64 p1] w [.one (.int .i64)] K := by
  have e : vcFun Try.prog okf false Try.f53 ledger_Ledger_Erased.A #[.pointer (some p0), .int .i64 p1] w [.one (.int .i64)] K = ledger_Ledger_Erased.P p0 p1 w K := by kernel_rfl
  exact vcFun.calls okf_ok follows Try.func53 (e.symm ▸ h)

/-! ### (*nepenthe/ledger.Ledger).Erased$1: function 94 -/
def ledger_Ledger_Erased_1.A : Ann := .draw (.take 0 (.take 1 (.take 2 (.take 3 (.take 6 (.take 7 (.take 8 (.both 4 (.take 5 (.eff 9 (.take 10 (.take 11 (.eff 12 (.done)))))) 9 (.eff 4 (.take 5 (.take 10 (.take 11 (.eff 12 (.done))))))))))))))
def ledger_Ledger_Erased_1.P (p0 : Addr) (w : World) (K : Unit → World → Prop) : Prop :=
  DrawV fun D1 =>
  ((LoadS w.drew (p0.add 3) (.int .i64) fun (x2 : Int) =>
  KeepOn D1 w.drew w.drew ∧
  Rng .i64 (x2 + 1) ∧
  LoadS w.drew (p0.add 6) .bool fun (x3 : Bool) =>
  KeepOn D1 w.drew w.drew ∧
  StoreV w.drew p0 [.int .i64 (-2), .int .i64 0, .int .i64 0, .int .i64 (x2 + 1), .bool false, .bool true, .bool x3, .bool false, .bool false] fun w4 =>
  KeepOn D1 w.drew w4 ∧
  K () w4) ∧
  (LoadS w.drew (p0.add 6) .bool fun (x5 : Bool) =>
  KeepOn D1 w.drew w.drew ∧
  LoadS w.drew (p0.add 3) (.int .i64) fun (x6 : Int) =>
  KeepOn D1 w.drew w.drew ∧
  Rng .i64 (x6 + 1) ∧
  StoreV w.drew p0 [.int .i64 (-2), .int .i64 0, .int .i64 0, .int .i64 (x6 + 1), .bool false, .bool true, .bool x5, .bool false, .bool false] fun w7 =>
  KeepOn D1 w.drew w7 ∧
  K () w7))
set_option maxRecDepth 65536 in
theorem ledger_Ledger_Erased_1.vc (p0 : Addr) (w : World) (K : Unit → World → Prop) (h : ledger_Ledger_Erased_1.P p0 w K) : CallV Try.prog 94 #[.pointer (some p0)] w [] K := by
  have e : vcFun Try.prog okf false Try.f94 ledger_Ledger_Erased_1.A #[.pointer (some p0)] w [] K = ledger_Ledger_Erased_1.P p0 w K := by kernel_rfl
  exact vcFun.calls okf_ok follows Try.func94 (e.mpr h)

/-! ### (*nepenthe/ledger.Ledger).Failed: function 54 -/
def ledger_Ledger_Failed.A : Ann := .no
def ledger_Ledger_Failed.P (p0 : Addr) (p1 : Int) (w : World) (K : Int × Unit → World → Prop) : Prop :=
  CallV Try.prog 72 #[.pointer (some p0), .int .i64 p1, .func (.func 95) #[] #[]] w [.one (.int .i64)] fun (r1 : Int × Unit) w2 =>
  K (r1.1, ()) w2
theorem ledger_Ledger_Failed.vc (p0 : Addr) (p1 : Int) (w : World) (K : Int × Unit → World → Prop) (h : ledger_Ledger_Failed.P p0 p1 w K) : CallV Try.prog 54 #[.pointer (some p0), .int .i64 p1] w [.one (.int .i64)] K := by
  have e : vcFun Try.prog okf false Try.f54 ledger_Ledger_Failed.A #[.pointer (some p0), .int .i64 p1] w [.one (.int .i64)] K = ledger_Ledger_Failed.P p0 p1 w K := by kernel_rfl
  exact vcFun.calls okf_ok follows Try.func54 (e.symm ▸ h)

/-! ### (*nepenthe/ledger.Ledger).Failed$1: function 95 -/
def ledger_Ledger_Failed_1.A : Ann := .no
def ledger_Ledger_Failed_1.P (p0 : Addr) (w : World) (K : Unit → World → Prop) : Prop :=
  StoreV w (p0.add 6) [.bool true] fun w1 =>
  K () w1
set_option maxRecDepth 65536 in
theorem ledger_Ledger_Failed_1.vc (p0 : Addr) (w : World) (K : Unit → World → Prop) (h : ledger_Ledger_Failed_1.P p0 w K) : CallV Try.prog 95 #[.pointer (some p0)] w [] K := by
  have e : vcFun Try.prog okf false Try.f95 ledger_Ledger_Failed_1.A #[.pointer (some p0)] w [] K = ledger_Ledger_Failed_1.P p0 w K := by kernel_rfl
  exact vcFun.calls okf_ok follows Try.func95 (e.mpr h)

/-! ### (*nepenthe/ledger.Ledger).Scrubbed: function 55 -/
def ledger_Ledger_Scrubbed.A : Ann := .no
def ledger_Ledger_Scrubbed.P (p0 : Addr) (p1 : Int) (p2 : Bool) (w : World) (K : Int × Unit → World → Prop) : Prop :=
  NewV #[.bool p2] 4 w fun b1 w2 =>
  CallV Try.prog 72 #[.pointer (some p0), .int .i64 p1, .func (.func 96) #[] #[.pointer (some ⟨b1, 0, none⟩)]] w2 [.one (.int .i64)] fun (r3 : Int × Unit) w4 =>
  K (r3.1, ()) w4
theorem ledger_Ledger_Scrubbed.vc (p0 : Addr) (p1 : Int) (p2 : Bool) (w : World) (K : Int × Unit → World → Prop) (h : ledger_Ledger_Scrubbed.P p0 p1 p2 w K) : CallV Try.prog 55 #[.pointer (some p0), .int .i64 p1, .bool p2] w [.one (.int .i64)] K := by
  have e : vcFun Try.prog okf false Try.f55 ledger_Ledger_Scrubbed.A #[.pointer (some p0), .int .i64 p1, .bool p2] w [.one (.int .i64)] K = ledger_Ledger_Scrubbed.P p0 p1 p2 w K := by kernel_rfl
  exact vcFun.calls okf_ok follows Try.func55 (e.symm ▸ h)

/-! ### (*nepenthe/ledger.Ledger).Scrubbed$1: function 96 -/
def ledger_Ledger_Scrubbed_1.A : Ann := .draw (.take 0 (.take 1 (.take 2 (.take 3 (.take 4 (.take 5 (.take 6 (.take 7 (.take 8 (.take 9 (.eff 10 (.take 11 (.take 12 (.eff 13 (.take 14 (.take 15 (.eff 16 (.take 17 (.take 18 (.eff 19 (.take 20 (.take 21 (.eff 22 (.done))))))))))))))))))))))))
def ledger_Ledger_Scrubbed_1.P (p0 : Addr) (q0 : Addr) (w : World) (K : Unit → World → Prop) : Prop :=
  DrawV fun D1 =>
  (D1 q0.block ∧ LoadS w.drew q0 .bool fun (x2 : Bool) =>
  (D1 q0.block ∧ LoadS w.drew q0 .bool fun (x3 : Bool) =>
  StoreV w.drew (p0.add 6) [.bool true] fun w4 =>
  KeepOn D1 w.drew w4 ∧
  StoreV w4 (p0.add 5) [.bool false] fun w5 =>
  KeepOn D1 w.drew w5 ∧
  StoreV w5 (p0.add 4) [.bool false] fun w6 =>
  KeepOn D1 w.drew w6 ∧
  StoreV w6 (p0.add 7) [.bool x2] fun w7 =>
  KeepOn D1 w.drew w7 ∧
  StoreV w7 (p0.add 8) [.bool (!x3)] fun w8 =>
  KeepOn D1 w.drew w8 ∧
  K () w8))
set_option maxRecDepth 65536 in
theorem ledger_Ledger_Scrubbed_1.vc (p0 : Addr) (q0 : Addr) (w : World) (K : Unit → World → Prop) (h : ledger_Ledger_Scrubbed_1.P p0 q0 w K) : CallV Try.prog 96 #[.pointer (some p0), .pointer (some q0)] w [] K := by
  have e : vcFun Try.prog okf false Try.f96 ledger_Ledger_Scrubbed_1.A #[.pointer (some p0), .pointer (some q0)] w [] K = ledger_Ledger_Scrubbed_1.P p0 q0 w K := by kernel_rfl
  exact vcFun.calls okf_ok follows Try.func96 (e.mpr h)

/-! ### (*nepenthe/ledger.Ledger).Use: function 56 -/
def ledger_Ledger_Use.A : Ann := .no
def ledger_Ledger_Use.P (p0 : Addr) (p1 : Int) (w : World) (K : Int × Unit → World → Prop) : Prop :=
  CallV Try.prog 72 #[.pointer (some p0), .int .i64 p1, .func (.func 97) #[] #[]] w [.one (.int .i64)] fun (r1 : Int × Unit) w2 =>
  K (r1.1, ()) w2
theorem ledger_Ledger_Use.vc (p0 : Addr) (p1 : Int) (w : World) (K : Int × Unit → World → Prop) (h : ledger_Ledger_Use.P p0 p1 w K) : CallV Try.prog 56 #[.pointer (some p0), .int .i64 p1] w [.one (.int .i64)] K := by
  have e : vcFun Try.prog okf false Try.f56 ledger_Ledger_Use.A #[.pointer (some p0), .int .i64 p1] w [.one (.int .i64)] K = ledger_Ledger_Use.P p0 p1 w K := by kernel_rfl
  exact vcFun.calls okf_ok follows Try.func56 (e.symm ▸ h)

/-! ### (*nepenthe/ledger.Ledger).Use$1: function 97 -/
def ledger_Ledger_Use_1.A : Ann := .no
def ledger_Ledger_Use_1.P (p0 : Addr) (w : World) (K : Unit → World → Prop) : Prop :=
  LoadS w (p0.add 1) (.int .i64) fun (x1 : Int) =>
  Rng .i64 (x1 + 1) ∧
  StoreV w (p0.add 1) [.int .i64 (x1 + 1)] fun w2 =>
  K () w2
set_option maxRecDepth 65536 in
theorem ledger_Ledger_Use_1.vc (p0 : Addr) (w : World) (K : Unit → World → Prop) (h : ledger_Ledger_Use_1.P p0 w K) : CallV Try.prog 97 #[.pointer (some p0)] w [] K := by
  have e : vcFun Try.prog okf false Try.f97 ledger_Ledger_Use_1.A #[.pointer (some p0)] w [] K = ledger_Ledger_Use_1.P p0 w K := by kernel_rfl
  exact vcFun.calls okf_ok follows Try.func97 (e.mpr h)

/-! ### (*nepenthe/ledger.Ledger).Count: function 57 -/
def ledger_Ledger_Count.A : Ann := .no
def ledger_Ledger_Count.P (p0 : Addr) (p1 : Int) (p2 : Int) (w : World) (K : Int × Unit → World → Prop) : Prop :=
  NewV #[.int .i64 p2] 3 w fun b1 w2 =>
  CallV Try.prog 72 #[.pointer (some p0), .int .i64 p1, .func (.func 98) #[] #[.pointer (some ⟨b1, 0, none⟩)]] w2 [.one (.int .i64)] fun (r3 : Int × Unit) w4 =>
  K (r3.1, ()) w4
theorem ledger_Ledger_Count.vc (p0 : Addr) (p1 : Int) (p2 : Int) (w : World) (K : Int × Unit → World → Prop) (h : ledger_Ledger_Count.P p0 p1 p2 w K) : CallV Try.prog 57 #[.pointer (some p0), .int .i64 p1, .int .i64 p2] w [.one (.int .i64)] K := by
  have e : vcFun Try.prog okf false Try.f57 ledger_Ledger_Count.A #[.pointer (some p0), .int .i64 p1, .int .i64 p2] w [.one (.int .i64)] K = ledger_Ledger_Count.P p0 p1 p2 w K := by kernel_rfl
  exact vcFun.calls okf_ok follows Try.func57 (e.symm ▸ h)

/-! ### (*nepenthe/ledger.Ledger).Count$1: function 98 -/
def ledger_Ledger_Count_1.A : Ann := .two (.two (.draw (.take 0 (.take 1 (.take 2 (.take 3 (.take 4 (.take 5 (.take 6 (.done))))))))) .no) (.draw (.take 0 (.take 1 (.take 2 (.take 4 (.eff 3 (.take 5 (.take 6 (.take 7 (.eff 8 (.done)))))))))))
def ledger_Ledger_Count_1.P (p0 : Addr) (q0 : Addr) (w : World) (K : Unit → World → Prop) : Prop :=
  DrawV fun D1 =>
  (D1 q0.block ∧ LoadS w.drew q0 (.int .i64) fun (x2 : Int) =>
  (D1 (p0.add 2).block ∧ LoadS w.drew (p0.add 2) (.int .i64) fun (x3 : Int) =>
  Rng .i64 (0 - x3) ∧
  cond (decide (x2 < (0 - x3)))
  (LoadS w.drew (p0.add 2) (.int .i64) fun (x4 : Int) =>
  Rng .i64 (0 - x4) ∧
  StoreV w.drew q0 [.int .i64 (0 - x4)] fun w5 =>
  DrawV fun D6 =>
  (D6 q0.block ∧ LoadS w5.drew q0 (.int .i64) fun (x7 : Int) =>
  LoadS w5.drew (p0.add 2) (.int .i64) fun (x8 : Int) =>
  KeepOn D6 w5.drew w5.drew ∧
  Rng .i64 (x8 + x7) ∧
  StoreV w5.drew (p0.add 2) [.int .i64 (x8 + x7)] fun w9 =>
  KeepOn D6 w5.drew w9 ∧
  K () w9))
  (DrawV fun D10 =>
  (D10 q0.block ∧ LoadS w.drew.drew q0 (.int .i64) fun (x11 : Int) =>
  LoadS w.drew.drew (p0.add 2) (.int .i64) fun (x12 : Int) =>
  KeepOn D10 w.drew.drew w.drew.drew ∧
  Rng .i64 (x12 + x11) ∧
  StoreV w.drew.drew (p0.add 2) [.int .i64 (x12 + x11)] fun w13 =>
  KeepOn D10 w.drew.drew w13 ∧
  K () w13))))
set_option maxRecDepth 65536 in
theorem ledger_Ledger_Count_1.vc (p0 : Addr) (q0 : Addr) (w : World) (K : Unit → World → Prop) (h : ledger_Ledger_Count_1.P p0 q0 w K) : CallV Try.prog 98 #[.pointer (some p0), .pointer (some q0)] w [] K := by
  have e : vcFun Try.prog okf false Try.f98 ledger_Ledger_Count_1.A #[.pointer (some p0), .pointer (some q0)] w [] K = ledger_Ledger_Count_1.P p0 q0 w K := by kernel_rfl
  exact vcFun.calls okf_ok follows Try.func98 (e.mpr h)

/-! ### (*nepenthe/ledger.Ledger).best: function 59 -/
-- loop 0 carries 7: .one (.int .i64), 11: .one (.int .i64)
def ledger_Ledger_best.A : Ann := .two .no (.two .no (.two (.two .no (.one (.loop [7, 8, 11, 12, 13, 14, 15, 16, 17, 18, 19, 20, 21, 22, 23, 24, 25, 26, 27, 28, 29, 30, 31, 32, 33, 34, 35, 36, 37, 38, 39, 40, 41, 42, 43, 44, 45, 46, 47] [(7, .one (.int .i64)), (11, .one (.int .i64))] (.two .no (.two .no (.two (.one (.two .no (.two (.draw (.take 0 (.take 1 (.take 2 (.take 3 (.take 4 (.take 5 (.take 6 (.take 7 (.take 8 (.eff 9 (.take 10 (.take 11 (.take 12 (.take 13 (.take 14 (.take 15 (.take 16 (.take 17 (.take 18 (.take 19 (.take 20 (.take 21 (.take 22 (.take 23 (.take 24 (.take 25 (.take 26 (.take 27 (.take 28 (.eff 29 (.take 30 (.take 31 (.done)))))))))))))))))))))))))))))))))) .no))) .no)))))) .no))
def ledger_Ledger_best.P (p0 : Addr) (g1 : FuncId) (cap1 : Array Value) (g2 : FuncId) (cap2 : Array Value) (w : World) (K : Int × Unit → World → Prop) : Prop :=
  CallV Try.prog 30 #[.pointer (some p0)] w [.one (.int .i64)] fun (r1 : Int × Unit) w2 =>
  LoopV [.one (.int .i64), .one (.int .i64)] (((-1) : Int), (0 : Int), ()) w2 fun (z3 : Int × Int × Unit) w4 (K5 : Int × Int × Unit → World → Prop) =>
  cond (decide (z3.2.1 < r1.1))
  (DrawV fun D6 =>
  (D6 p0.block ∧ LoadS w4.drew p0 .sl fun (x7 : SlV) =>
  (0 ≤ z3.2.1 ∧ z3.2.1 < ((x7.n : Nat) : Int)) ∧ ∃ q8 : Addr, x7.a = some q8 ∧
  (D6 (q8.add (z3.2.1.toNat * 9)).block ∧ LoadA w4.drew (q8.add (z3.2.1.toNat * 9)) [.int .i64, .int .i64, .int .i64, .int .i64, .bool, .bool, .bool, .bool, .bool] fun (x9 : Int × Int × Int × Int × Bool × Bool × Bool × Bool × Bool × Unit) =>
  cond (okf g1)
  (CallV Try.prog g1 ([] ++ ((([.int .i64 z3.2.1, .agg #[.int .i64 x9.1, .int .i64 x9.2.1, .int .i64 x9.2.2.1, .int .i64 x9.2.2.2.1, .bool x9.2.2.2.2.1, .bool x9.2.2.2.2.2.1, .bool x9.2.2.2.2.2.2.1, .bool x9.2.2.2.2.2.2.2.1, .bool x9.2.2.2.2.2.2.2.2.1]] : List Value)) ++ (cap1).toList)).toArray w4.drew [.one .bool] fun (r10 : Bool × Unit) w11 =>
  KeepOn D6 w4.drew w11 ∧
  cond r10.1
  (cond (decide (z3.1 < 0))
  (Rng .i64 (z3.2.1 + 1) ∧
  K5 (z3.2.1, z3.2.1 + 1, ()) w11)
  ((D6 p0.block ∧ LoadS w4.drew p0 .sl fun (x12 : SlV) =>
  (0 ≤ z3.2.1 ∧ z3.2.1 < ((x12.n : Nat) : Int)) ∧ ∃ q13 : Addr, x12.a = some q13 ∧
  (D6 (q13.add (z3.2.1.toNat * 9)).block ∧ LoadA w4.drew (q13.add (z3.2.1.toNat * 9)) [.int .i64, .int .i64, .int .i64, .int .i64, .bool, .bool, .bool, .bool, .bool] fun (x14 : Int × Int × Int × Int × Bool × Bool × Bool × Bool × Bool × Unit) =>
  (D6 p0.block ∧ LoadS w4.drew p0 .sl fun (x15 : SlV) =>
  (0 ≤ z3.1 ∧ z3.1 < ((x15.n : Nat) : Int)) ∧ ∃ q16 : Addr, x15.a = some q16 ∧
  (D6 (q16.add (z3.1.toNat * 9)).block ∧ LoadA w4.drew (q16.add (z3.1.toNat * 9)) [.int .i64, .int .i64, .int .i64, .int .i64, .bool, .bool, .bool, .bool, .bool] fun (x17 : Int × Int × Int × Int × Bool × Bool × Bool × Bool × Bool × Unit) =>
  cond (okf g2)
  (CallV Try.prog g2 ([] ++ ((([.agg #[.int .i64 x14.1, .int .i64 x14.2.1, .int .i64 x14.2.2.1, .int .i64 x14.2.2.2.1, .bool x14.2.2.2.2.1, .bool x14.2.2.2.2.2.1, .bool x14.2.2.2.2.2.2.1, .bool x14.2.2.2.2.2.2.2.1, .bool x14.2.2.2.2.2.2.2.2.1], .agg #[.int .i64 x17.1, .int .i64 x17.2.1, .int .i64 x17.2.2.1, .int .i64 x17.2.2.2.1, .bool x17.2.2.2.2.1, .bool x17.2.2.2.2.2.1, .bool x17.2.2.2.2.2.2.1, .bool x17.2.2.2.2.2.2.2.1, .bool x17.2.2.2.2.2.2.2.2.1]] : List Value)) ++ (cap2).toList)).toArray w11 [.one .bool] fun (r18 : Bool × Unit) w19 =>
  KeepOn D6 w4.drew w19 ∧
  cond r18.1
  (Rng .i64 (z3.2.1 + 1) ∧
  K5 (z3.2.1, z3.2.1 + 1, ()) w19)
  (Rng .i64 (z3.2.1 + 1) ∧
  K5 (z3.1, z3.2.1 + 1, ()) w19))
  False))))))
  (Rng .i64 (z3.2.1 + 1) ∧
  K5 (z3.1, z3.2.1 + 1, ()) w11))
  False)))
  (K (z3.1, ()) w4)
theorem ledger_Ledger_best.vc (p0 : Addr) (g1 : FuncId) (cap1 : Array Value) (g2 : FuncId) (cap2 : Array Value) (w : World) (K : Int × Unit → World → Prop) (h : ledger_Ledger_best.P p0 g1 cap1 g2 cap2 w K) : CallV Try.prog 59 #[.pointer (some p0), .func (.func g1) #[] cap1, .func (.func g2) #[] cap2] w [.one (.int .i64)] K := by
  have e : vcFun Try.prog okf false Try.f59 ledger_Ledger_best.A #[.pointer (some p0), .func (.func g1) #[] cap1, .func (.func g2) #[] cap2] w [.one (.int .i64)] K = ledger_Ledger_best.P p0 g1 cap1 g2 cap2 w K := by kernel_rfl
  exact vcFun.calls okf_ok follows Try.func59 (e.symm ▸ h)

/-! ### (*nepenthe/ledger.Ledger).Pick: function 15 -/
def ledger_Ledger_Pick.A : Ann := .no
def ledger_Ledger_Pick.P (p0 : Addr) (w : World) (K : Int × Unit → World → Prop) : Prop :=
  CallV Try.prog 59 #[.pointer (some p0), .func (.func 60) #[] #[], .func (.func 61) #[] #[]] w [.one (.int .i64)] fun (r1 : Int × Unit) w2 =>
  K (r1.1, ()) w2
theorem ledger_Ledger_Pick.vc (p0 : Addr) (w : World) (K : Int × Unit → World → Prop) (h : ledger_Ledger_Pick.P p0 w K) : CallV Try.prog 15 #[.pointer (some p0)] w [.one (.int .i64)] K := by
  have e : vcFun Try.prog okf false Try.f15 ledger_Ledger_Pick.A #[.pointer (some p0)] w [.one (.int .i64)] K = ledger_Ledger_Pick.P p0 w K := by kernel_rfl
  exact vcFun.calls okf_ok follows Try.func15 (e.symm ▸ h)

/-! ### (*nepenthe/ledger.Ledger).Pick$1: function 60 -/
def ledger_Ledger_Pick_1.A : Ann := .no
def ledger_Ledger_Pick_1.P (p0 : Int) (p1_0 : Int) (p1_1 : Int) (p1_2 : Int) (p1_3 : Int) (p1_4 : Bool) (p1_5 : Bool) (p1_6 : Bool) (p1_7 : Bool) (p1_8 : Bool) (w : World) (K : Bool × Unit → World → Prop) : Prop :=
  NewV #[.int .i64 p1_0, .int .i64 p1_1, .int .i64 p1_2, .int .i64 p1_3, .bool p1_4, .bool p1_5, .bool p1_6, .bool p1_7, .bool p1_8] 48 w fun b1 w2 =>
  LoadA w2 ⟨b1, 0, none⟩ [.int .i64, .int .i64, .int .i64, .int .i64, .bool, .bool, .bool, .bool, .bool] fun (x3 : Int × Int × Int × Int × Bool × Bool × Bool × Bool × Bool × Unit) =>
  CallV Try.prog 27 #[.agg #[.int .i64 x3.1, .int .i64 x3.2.1, .int .i64 x3.2.2.1, .int .i64 x3.2.2.2.1, .bool x3.2.2.2.2.1, .bool x3.2.2.2.2.2.1, .bool x3.2.2.2.2.2.2.1, .bool x3.2.2.2.2.2.2.2.1, .bool x3.2.2.2.2.2.2.2.2.1]] w2 [.one .bool] fun (r4 : Bool × Unit) w5 =>
  K (r4.1, ()) w5
theorem ledger_Ledger_Pick_1.vc (p0 : Int) (p1_0 : Int) (p1_1 : Int) (p1_2 : Int) (p1_3 : Int) (p1_4 : Bool) (p1_5 : Bool) (p1_6 : Bool) (p1_7 : Bool) (p1_8 : Bool) (w : World) (K : Bool × Unit → World → Prop) (h : ledger_Ledger_Pick_1.P p0 p1_0 p1_1 p1_2 p1_3 p1_4 p1_5 p1_6 p1_7 p1_8 w K) : CallV Try.prog 60 #[.int .i64 p0, .agg #[.int .i64 p1_0, .int .i64 p1_1, .int .i64 p1_2, .int .i64 p1_3, .bool p1_4, .bool p1_5, .bool p1_6, .bool p1_7, .bool p1_8]] w [.one .bool] K := by
  have e : vcFun Try.prog okf false Try.f60 ledger_Ledger_Pick_1.A #[.int .i64 p0, .agg #[.int .i64 p1_0, .int .i64 p1_1, .int .i64 p1_2, .int .i64 p1_3, .bool p1_4, .bool p1_5, .bool p1_6, .bool p1_7, .bool p1_8]] w [.one .bool] K = ledger_Ledger_Pick_1.P p0 p1_0 p1_1 p1_2 p1_3 p1_4 p1_5 p1_6 p1_7 p1_8 w K := by kernel_rfl
  exact vcFun.calls okf_ok follows Try.func60 (e.symm ▸ h)

/-! ### (*nepenthe/ledger.Ledger).Victim: function 16 -/
def ledger_Ledger_Victim.A : Ann := .no
def ledger_Ledger_Victim.P (p0 : Addr) (p1 : Int) (p2 : Int) (w : World) (K : Int × Unit → World → Prop) : Prop :=
  NewV #[.int .i64 p1] 3 w fun b1 w2 =>
  NewV #[.int .i64 p2] 3 w2 fun b3 w4 =>
  CallV Try.prog 59 #[.pointer (some p0), .func (.func 62) #[] #[.pointer (some ⟨b3, 0, none⟩), .pointer (some ⟨b1, 0, none⟩)], .func (.func 64) #[] #[]] w4 [.one (.int .i64)] fun (r5 : Int × Unit) w6 =>
  K (r5.1, ()) w6
theorem ledger_Ledger_Victim.vc (p0 : Addr) (p1 : Int) (p2 : Int) (w : World) (K : Int × Unit → World → Prop) (h : ledger_Ledger_Victim.P p0 p1 p2 w K) : CallV Try.prog 16 #[.pointer (some p0), .int .i64 p1, .int .i64 p2] w [.one (.int .i64)] K := by
  have e : vcFun Try.prog okf false Try.f16 ledger_Ledger_Victim.A #[.pointer (some p0), .int .i64 p1, .int .i64 p2] w [.one (.int .i64)] K = ledger_Ledger_Victim.P p0 p1 p2 w K := by kernel_rfl
  exact vcFun.calls okf_ok follows Try.func16 (e.symm ▸ h)

/-! ### (*nepenthe/ledger.Ledger).Victim$1: function 62 -/
def ledger_Ledger_Victim_1.A : Ann := .no
def ledger_Ledger_Victim_1.P (p0 : Int) (p1_0 : Int) (p1_1 : Int) (p1_2 : Int) (p1_3 : Int) (p1_4 : Bool) (p1_5 : Bool) (p1_6 : Bool) (p1_7 : Bool) (p1_8 : Bool) (q0 : Addr) (q1 : Addr) (w : World) (K : Bool × Unit → World → Prop) : Prop :=
  NewV #[.int .i64 p1_0, .int .i64 p1_1, .int .i64 p1_2, .int .i64 p1_3, .bool p1_4, .bool p1_5, .bool p1_6, .bool p1_7, .bool p1_8] 48 w fun b1 w2 =>
  LoadS w2 q0 (.int .i64) fun (x3 : Int) =>
  cond (p0 != x3)
  (LoadA w2 ⟨b1, 0, none⟩ [.int .i64, .int .i64, .int .i64, .int .i64, .bool, .bool, .bool, .bool, .bool] fun (x4 : Int × Int × Int × Int × Bool × Bool × Bool × Bool × Bool × Unit) =>
  LoadS w2 q1 (.int .i64) fun (x5 : Int) =>
  CallV Try.prog 63 #[.agg #[.int .i64 x4.1, .int .i64 x4.2.1, .int .i64 x4.2.2.1, .int .i64 x4.2.2.2.1, .bool x4.2.2.2.2.1, .bool x4.2.2.2.2.2.1, .bool x4.2.2.2.2.2.2.1, .bool x4.2.2.2.2.2.2.2.1, .bool x4.2.2.2.2.2.2.2.2.1], .int .i64 x5] w2 [.one .bool] fun (r6 : Bool × Unit) w7 =>
  K (r6.1, ()) w7)
  (K (false, ()) w2)
theorem ledger_Ledger_Victim_1.vc (p0 : Int) (p1_0 : Int) (p1_1 : Int) (p1_2 : Int) (p1_3 : Int) (p1_4 : Bool) (p1_5 : Bool) (p1_6 : Bool) (p1_7 : Bool) (p1_8 : Bool) (q0 : Addr) (q1 : Addr) (w : World) (K : Bool × Unit → World → Prop) (h : ledger_Ledger_Victim_1.P p0 p1_0 p1_1 p1_2 p1_3 p1_4 p1_5 p1_6 p1_7 p1_8 q0 q1 w K) : CallV Try.prog 62 #[.int .i64 p0, .agg #[.int .i64 p1_0, .int .i64 p1_1, .int .i64 p1_2, .int .i64 p1_3, .bool p1_4, .bool p1_5, .bool p1_6, .bool p1_7, .bool p1_8], .pointer (some q0), .pointer (some q1)] w [.one .bool] K := by
  have e : vcFun Try.prog okf false Try.f62 ledger_Ledger_Victim_1.A #[.int .i64 p0, .agg #[.int .i64 p1_0, .int .i64 p1_1, .int .i64 p1_2, .int .i64 p1_3, .bool p1_4, .bool p1_5, .bool p1_6, .bool p1_7, .bool p1_8], .pointer (some q0), .pointer (some q1)] w [.one .bool] K = ledger_Ledger_Victim_1.P p0 p1_0 p1_1 p1_2 p1_3 p1_4 p1_5 p1_6 p1_7 p1_8 q0 q1 w K := by kernel_rfl
  exact vcFun.calls okf_ok follows Try.func62 (e.symm ▸ h)

/-! ### (*nepenthe/ledger.Ledger).Victim$2: function 64 -/
def ledger_Ledger_Victim_2.A : Ann := .no
def ledger_Ledger_Victim_2.P (p0_0 : Int) (p0_1 : Int) (p0_2 : Int) (p0_3 : Int) (p0_4 : Bool) (p0_5 : Bool) (p0_6 : Bool) (p0_7 : Bool) (p0_8 : Bool) (p1_0 : Int) (p1_1 : Int) (p1_2 : Int) (p1_3 : Int) (p1_4 : Bool) (p1_5 : Bool) (p1_6 : Bool) (p1_7 : Bool) (p1_8 : Bool) (w : World) (K : Bool × Unit → World → Prop) : Prop :=
  NewV #[.int .i64 p0_0, .int .i64 p0_1, .int .i64 p0_2, .int .i64 p0_3, .bool p0_4, .bool p0_5, .bool p0_6, .bool p0_7, .bool p0_8] 48 w fun b1 w2 =>
  NewV #[.int .i64 p1_0, .int .i64 p1_1, .int .i64 p1_2, .int .i64 p1_3, .bool p1_4, .bool p1_5, .bool p1_6, .bool p1_7, .bool p1_8] 48 w2 fun b3 w4 =>
  LoadS w4 ⟨b1, 2, none⟩ (.int .i64) fun (x5 : Int) =>
  LoadS w4 ⟨b3, 2, none⟩ (.int .i64) fun (x6 : Int) =>
  K (decide (x5 < x6), ()) w4
theorem ledger_Ledger_Victim_2.vc (p0_0 : Int) (p0_1 : Int) (p0_2 : Int) (p0_3 : Int) (p0_4 : Bool) (p0_5 : Bool) (p0_6 : Bool) (p0_7 : Bool) (p0_8 : Bool) (p1_0 : Int) (p1_1 : Int) (p1_2 : Int) (p1_3 : Int) (p1_4 : Bool) (p1_5 : Bool) (p1_6 : Bool) (p1_7 : Bool) (p1_8 : Bool) (w : World) (K : Bool × Unit → World → Prop) (h : ledger_Ledger_Victim_2.P p0_0 p0_1 p0_2 p0_3 p0_4 p0_5 p0_6 p0_7 p0_8 p1_0 p1_1 p1_2 p1_3 p1_4 p1_5 p1_6 p1_7 p1_8 w K) : CallV Try.prog 64 #[.agg #[.int .i64 p0_0, .int .i64 p0_1, .int .i64 p0_2, .int .i64 p0_3, .bool p0_4, .bool p0_5, .bool p0_6, .bool p0_7, .bool p0_8], .agg #[.int .i64 p1_0, .int .i64 p1_1, .int .i64 p1_2, .int .i64 p1_3, .bool p1_4, .bool p1_5, .bool p1_6, .bool p1_7, .bool p1_8]] w [.one .bool] K := by
  have e : vcFun Try.prog okf false Try.f64 ledger_Ledger_Victim_2.A #[.agg #[.int .i64 p0_0, .int .i64 p0_1, .int .i64 p0_2, .int .i64 p0_3, .bool p0_4, .bool p0_5, .bool p0_6, .bool p0_7, .bool p0_8], .agg #[.int .i64 p1_0, .int .i64 p1_1, .int .i64 p1_2, .int .i64 p1_3, .bool p1_4, .bool p1_5, .bool p1_6, .bool p1_7, .bool p1_8]] w [.one .bool] K = ledger_Ledger_Victim_2.P p0_0 p0_1 p0_2 p0_3 p0_4 p0_5 p0_6 p0_7 p0_8 p1_0 p1_1 p1_2 p1_3 p1_4 p1_5 p1_6 p1_7 p1_8 w K := by kernel_rfl
  exact vcFun.calls okf_ok follows Try.func64 (e.symm ▸ h)

/-! ### (*nepenthe/ledger.Ledger).many: function 67 -/
-- loop 0 carries 5: .one (.int .i64), 9: .one (.int .i64)
def ledger_Ledger_many.A : Ann := .two .no (.two .no (.two (.two .no (.one (.loop [5, 6, 9, 10, 11, 12, 13, 14, 15, 16, 17, 18, 19, 20, 21, 22, 23] [(5, .one (.int .i64)), (9, .one (.int .i64))] .no))) .no))
def ledger_Ledger_many.P (p0 : Addr) (g1 : FuncId) (cap1 : Array Value) (w : World) (K : Int × Unit → World → Prop) : Prop :=
  CallV Try.prog 30 #[.pointer (some p0)] w [.one (.int .i64)] fun (r1 : Int × Unit) w2 =>
  LoopV [.one (.int .i64), .one (.int .i64)] ((0 : Int), (0 : Int), ()) w2 fun (z3 : Int × Int × Unit) w4 (K5 : Int × Int × Unit → World → Prop) =>
  cond (decide (z3.2.1 < r1.1))
  (LoadS w4 p0 .sl fun (x6 : SlV) =>
  (0 ≤ z3.2.1 ∧ z3.2.1 < ((x6.n : Nat) : Int)) ∧ ∃ q7 : Addr, x6.a = some q7 ∧
  LoadA w4 (q7.add (z3.2.1.toNat * 9)) [.int .i64, .int .i64, .int .i64, .int .i64, .bool, .bool, .bool, .bool, .bool] fun (x8 : Int × Int × Int × Int × Bool × Bool × Bool × Bool × Bool × Unit) =>
  cond (okf g1)
  (CallV Try.prog g1 ([] ++ ((([.agg #[.int .i64 x8.1, .int .i64 x8.2.1, .int .i64 x8.2.2.1, .int .i64 x8.2.2.2.1, .bool x8.2.2.2.2.1, .bool x8.2.2.2.2.2.1, .bool x8.2.2.2.2.2.2.1, .bool x8.2.2.2.2.2.2.2.1, .bool x8.2.2.2.2.2.2.2.2.1]] : List Value)) ++ (cap1).toList)).toArray w4 [.one .bool] fun (r9 : Bool × Unit) w10 =>
  cond r9.1
  (Rng .i64 (z3.1 + 1) ∧
  Rng .i64 (z3.2.1 + 1) ∧
  K5 (z3.1 + 1, z3.2.1 + 1, ()) w10)
  (Rng .i64 (z3.2.1 + 1) ∧
  K5 (z3.1, z3.2.1 + 1, ()) w10))
  False)
  (K (z3.1, ()) w4)
theorem ledger_Ledger_many.vc (p0 : Addr) (g1 : FuncId) (cap1 : Array Value) (w : World) (K : Int × Unit → World → Prop) (h : ledger_Ledger_many.P p0 g1 cap1 w K) : CallV Try.prog 67 #[.pointer (some p0), .func (.func g1) #[] cap1] w [.one (.int .i64)] K := by
  have e : vcFun Try.prog okf false Try.f67 ledger_Ledger_many.A #[.pointer (some p0), .func (.func g1) #[] cap1] w [.one (.int .i64)] K = ledger_Ledger_many.P p0 g1 cap1 w K := by kernel_rfl
  exact vcFun.calls okf_ok follows Try.func67 (e.symm ▸ h)

/-! ### (*nepenthe/ledger.Ledger).Held: function 21 -/
def ledger_Ledger_Held.A : Ann := .no
def ledger_Ledger_Held.P (p0 : Addr) (p1 : Int) (w : World) (K : Int × Unit → World → Prop) : Prop :=
  NewV #[.int .i64 p1] 3 w fun b1 w2 =>
  CallV Try.prog 67 #[.pointer (some p0), .func (.func 68) #[] #[.pointer (some ⟨b1, 0, none⟩)]] w2 [.one (.int .i64)] fun (r3 : Int × Unit) w4 =>
  K (r3.1, ()) w4
theorem ledger_Ledger_Held.vc (p0 : Addr) (p1 : Int) (w : World) (K : Int × Unit → World → Prop) (h : ledger_Ledger_Held.P p0 p1 w K) : CallV Try.prog 21 #[.pointer (some p0), .int .i64 p1] w [.one (.int .i64)] K := by
  have e : vcFun Try.prog okf false Try.f21 ledger_Ledger_Held.A #[.pointer (some p0), .int .i64 p1] w [.one (.int .i64)] K = ledger_Ledger_Held.P p0 p1 w K := by kernel_rfl
  exact vcFun.calls okf_ok follows Try.func21 (e.symm ▸ h)

/-! ### (*nepenthe/ledger.Ledger).Held$1: function 68 -/
def ledger_Ledger_Held_1.A : Ann := .no
def ledger_Ledger_Held_1.P (p0_0 : Int) (p0_1 : Int) (p0_2 : Int) (p0_3 : Int) (p0_4 : Bool) (p0_5 : Bool) (p0_6 : Bool) (p0_7 : Bool) (p0_8 : Bool) (q0 : Addr) (w : World) (K : Bool × Unit → World → Prop) : Prop :=
  NewV #[.int .i64 p0_0, .int .i64 p0_1, .int .i64 p0_2, .int .i64 p0_3, .bool p0_4, .bool p0_5, .bool p0_6, .bool p0_7, .bool p0_8] 48 w fun b1 w2 =>
  LoadA w2 ⟨b1, 0, none⟩ [.int .i64, .int .i64, .int .i64, .int .i64, .bool, .bool, .bool, .bool, .bool] fun (x3 : Int × Int × Int × Int × Bool × Bool × Bool × Bool × Bool × Unit) =>
  LoadS w2 q0 (.int .i64) fun (x4 : Int) =>
  CallV Try.prog 63 #[.agg #[.int .i64 x3.1, .int .i64 x3.2.1, .int .i64 x3.2.2.1, .int .i64 x3.2.2.2.1, .bool x3.2.2.2.2.1, .bool x3.2.2.2.2.2.1, .bool x3.2.2.2.2.2.2.1, .bool x3.2.2.2.2.2.2.2.1, .bool x3.2.2.2.2.2.2.2.2.1], .int .i64 x4] w2 [.one .bool] fun (r5 : Bool × Unit) w6 =>
  K (r5.1, ()) w6
theorem ledger_Ledger_Held_1.vc (p0_0 : Int) (p0_1 : Int) (p0_2 : Int) (p0_3 : Int) (p0_4 : Bool) (p0_5 : Bool) (p0_6 : Bool) (p0_7 : Bool) (p0_8 : Bool) (q0 : Addr) (w : World) (K : Bool × Unit → World → Prop) (h : ledger_Ledger_Held_1.P p0_0 p0_1 p0_2 p0_3 p0_4 p0_5 p0_6 p0_7 p0_8 q0 w K) : CallV Try.prog 68 #[.agg #[.int .i64 p0_0, .int .i64 p0_1, .int .i64 p0_2, .int .i64 p0_3, .bool p0_4, .bool p0_5, .bool p0_6, .bool p0_7, .bool p0_8], .pointer (some q0)] w [.one .bool] K := by
  have e : vcFun Try.prog okf false Try.f68 ledger_Ledger_Held_1.A #[.agg #[.int .i64 p0_0, .int .i64 p0_1, .int .i64 p0_2, .int .i64 p0_3, .bool p0_4, .bool p0_5, .bool p0_6, .bool p0_7, .bool p0_8], .pointer (some q0)] w [.one .bool] K = ledger_Ledger_Held_1.P p0_0 p0_1 p0_2 p0_3 p0_4 p0_5 p0_6 p0_7 p0_8 q0 w K := by kernel_rfl
  exact vcFun.calls okf_ok follows Try.func68 (e.symm ▸ h)

/-! ### (*nepenthe/ledger.Ledger).Bads: function 23 -/
def ledger_Ledger_Bads.A : Ann := .no
def ledger_Ledger_Bads.P (p0 : Addr) (w : World) (K : Int × Unit → World → Prop) : Prop :=
  CallV Try.prog 67 #[.pointer (some p0), .func (.func 69) #[] #[]] w [.one (.int .i64)] fun (r1 : Int × Unit) w2 =>
  K (r1.1, ()) w2
theorem ledger_Ledger_Bads.vc (p0 : Addr) (w : World) (K : Int × Unit → World → Prop) (h : ledger_Ledger_Bads.P p0 w K) : CallV Try.prog 23 #[.pointer (some p0)] w [.one (.int .i64)] K := by
  have e : vcFun Try.prog okf false Try.f23 ledger_Ledger_Bads.A #[.pointer (some p0)] w [.one (.int .i64)] K = ledger_Ledger_Bads.P p0 w K := by kernel_rfl
  exact vcFun.calls okf_ok follows Try.func23 (e.symm ▸ h)

/-! ### (*nepenthe/ledger.Ledger).Bads$1: function 69 -/
def ledger_Ledger_Bads_1.A : Ann := .no
def ledger_Ledger_Bads_1.P (p0_0 : Int) (p0_1 : Int) (p0_2 : Int) (p0_3 : Int) (p0_4 : Bool) (p0_5 : Bool) (p0_6 : Bool) (p0_7 : Bool) (p0_8 : Bool) (w : World) (K : Bool × Unit → World → Prop) : Prop :=
  NewV #[.int .i64 p0_0, .int .i64 p0_1, .int .i64 p0_2, .int .i64 p0_3, .bool p0_4, .bool p0_5, .bool p0_6, .bool p0_7, .bool p0_8] 48 w fun b1 w2 =>
  LoadS w2 ⟨b1, 6, none⟩ .bool fun (x3 : Bool) =>
  K (x3, ()) w2
theorem ledger_Ledger_Bads_1.vc (p0_0 : Int) (p0_1 : Int) (p0_2 : Int) (p0_3 : Int) (p0_4 : Bool) (p0_5 : Bool) (p0_6 : Bool) (p0_7 : Bool) (p0_8 : Bool) (w : World) (K : Bool × Unit → World → Prop) (h : ledger_Ledger_Bads_1.P p0_0 p0_1 p0_2 p0_3 p0_4 p0_5 p0_6 p0_7 p0_8 w K) : CallV Try.prog 69 #[.agg #[.int .i64 p0_0, .int .i64 p0_1, .int .i64 p0_2, .int .i64 p0_3, .bool p0_4, .bool p0_5, .bool p0_6, .bool p0_7, .bool p0_8]] w [.one .bool] K := by
  have e : vcFun Try.prog okf false Try.f69 ledger_Ledger_Bads_1.A #[.agg #[.int .i64 p0_0, .int .i64 p0_1, .int .i64 p0_2, .int .i64 p0_3, .bool p0_4, .bool p0_5, .bool p0_6, .bool p0_7, .bool p0_8]] w [.one .bool] K = ledger_Ledger_Bads_1.P p0_0 p0_1 p0_2 p0_3 p0_4 p0_5 p0_6 p0_7 p0_8 w K := by kernel_rfl
  exact vcFun.calls okf_ok follows Try.func69 (e.symm ▸ h)

/-! ### (*nepenthe/ledger.Ledger).Spread: function 17 -/
def ledger_Ledger_Spread.A : Ann := .no
def ledger_Ledger_Spread.P (p0 : Addr) (w : World) (K : Int × Int × Unit → World → Prop) : Prop :=
  CallV Try.prog 59 #[.pointer (some p0), .func (.func 65) #[] #[], .func (.func 61) #[] #[]] w [.one (.int .i64)] fun (r1 : Int × Unit) w2 =>
  CallV Try.prog 59 #[.pointer (some p0), .func (.func 65) #[] #[], .func (.func 66) #[] #[]] w2 [.one (.int .i64)] fun (r3 : Int × Unit) w4 =>
  K (r1.1, r3.1, ()) w4
theorem ledger_Ledger_Spread.vc (p0 : Addr) (w : World) (K : Int × Int × Unit → World → Prop) (h : ledger_Ledger_Spread.P p0 w K) : CallV Try.prog 17 #[.pointer (some p0)] w [.one (.int .i64), .one (.int .i64)] K := by
  have e : vcFun Try.prog okf false Try.f17 ledger_Ledger_Spread.A #[.pointer (some p0)] w [.one (.int .i64), .one (.int .i64)] K = ledger_Ledger_Spread.P p0 w K := by kernel_rfl
  exact vcFun.calls okf_ok follows Try.func17 (e.symm ▸ h)

/-! ### (*nepenthe/ledger.Ledger).Spread$1: function 65 -/
def ledger_Ledger_Spread_1.A : Ann := .no
def ledger_Ledger_Spread_1.P (p0 : Int) (p1_0 : Int) (p1_1 : Int) (p1_2 : Int) (p1_3 : Int) (p1_4 : Bool) (p1_5 : Bool) (p1_6 : Bool) (p1_7 : Bool) (p1_8 : Bool) (w : World) (K : Bool × Unit → World → Prop) : Prop :=
  NewV #[.int .i64 p1_0, .int .i64 p1_1, .int .i64 p1_2, .int .i64 p1_3, .bool p1_4, .bool p1_5, .bool p1_6, .bool p1_7, .bool p1_8] 48 w fun b1 w2 =>
  LoadS w2 ⟨b1, 6, none⟩ .bool fun (x3 : Bool) =>
  K (!x3, ()) w2
theorem ledger_Ledger_Spread_1.vc (p0 : Int) (p1_0 : Int) (p1_1 : Int) (p1_2 : Int) (p1_3 : Int) (p1_4 : Bool) (p1_5 : Bool) (p1_6 : Bool) (p1_7 : Bool) (p1_8 : Bool) (w : World) (K : Bool × Unit → World → Prop) (h : ledger_Ledger_Spread_1.P p0 p1_0 p1_1 p1_2 p1_3 p1_4 p1_5 p1_6 p1_7 p1_8 w K) : CallV Try.prog 65 #[.int .i64 p0, .agg #[.int .i64 p1_0, .int .i64 p1_1, .int .i64 p1_2, .int .i64 p1_3, .bool p1_4, .bool p1_5, .bool p1_6, .bool p1_7, .bool p1_8]] w [.one .bool] K := by
  have e : vcFun Try.prog okf false Try.f65 ledger_Ledger_Spread_1.A #[.int .i64 p0, .agg #[.int .i64 p1_0, .int .i64 p1_1, .int .i64 p1_2, .int .i64 p1_3, .bool p1_4, .bool p1_5, .bool p1_6, .bool p1_7, .bool p1_8]] w [.one .bool] K = ledger_Ledger_Spread_1.P p0 p1_0 p1_1 p1_2 p1_3 p1_4 p1_5 p1_6 p1_7 p1_8 w K := by kernel_rfl
  exact vcFun.calls okf_ok follows Try.func65 (e.symm ▸ h)

/-! ### (*nepenthe/ledger.Ledger).Spread$2: function 66 -/
def ledger_Ledger_Spread_2.A : Ann := .no
def ledger_Ledger_Spread_2.P (p0_0 : Int) (p0_1 : Int) (p0_2 : Int) (p0_3 : Int) (p0_4 : Bool) (p0_5 : Bool) (p0_6 : Bool) (p0_7 : Bool) (p0_8 : Bool) (p1_0 : Int) (p1_1 : Int) (p1_2 : Int) (p1_3 : Int) (p1_4 : Bool) (p1_5 : Bool) (p1_6 : Bool) (p1_7 : Bool) (p1_8 : Bool) (w : World) (K : Bool × Unit → World → Prop) : Prop :=
  NewV #[.int .i64 p0_0, .int .i64 p0_1, .int .i64 p0_2, .int .i64 p0_3, .bool p0_4, .bool p0_5, .bool p0_6, .bool p0_7, .bool p0_8] 48 w fun b1 w2 =>
  NewV #[.int .i64 p1_0, .int .i64 p1_1, .int .i64 p1_2, .int .i64 p1_3, .bool p1_4, .bool p1_5, .bool p1_6, .bool p1_7, .bool p1_8] 48 w2 fun b3 w4 =>
  LoadA w4 ⟨b3, 0, none⟩ [.int .i64, .int .i64, .int .i64, .int .i64, .bool, .bool, .bool, .bool, .bool] fun (x5 : Int × Int × Int × Int × Bool × Bool × Bool × Bool × Bool × Unit) =>
  LoadA w4 ⟨b1, 0, none⟩ [.int .i64, .int .i64, .int .i64, .int .i64, .bool, .bool, .bool, .bool, .bool] fun (x6 : Int × Int × Int × Int × Bool × Bool × Bool × Bool × Bool × Unit) =>
  CallV Try.prog 61 #[.agg #[.int .i64 x5.1, .int .i64 x5.2.1, .int .i64 x5.2.2.1, .int .i64 x5.2.2.2.1, .bool x5.2.2.2.2.1, .bool x5.2.2.2.2.2.1, .bool x5.2.2.2.2.2.2.1, .bool x5.2.2.2.2.2.2.2.1, .bool x5.2.2.2.2.2.2.2.2.1], .agg #[.int .i64 x6.1, .int .i64 x6.2.1, .int .i64 x6.2.2.1, .int .i64 x6.2.2.2.1, .bool x6.2.2.2.2.1, .bool x6.2.2.2.2.2.1, .bool x6.2.2.2.2.2.2.1, .bool x6.2.2.2.2.2.2.2.1, .bool x6.2.2.2.2.2.2.2.2.1]] w4 [.one .bool] fun (r7 : Bool × Unit) w8 =>
  K (r7.1, ()) w8
theorem ledger_Ledger_Spread_2.vc (p0_0 : Int) (p0_1 : Int) (p0_2 : Int) (p0_3 : Int) (p0_4 : Bool) (p0_5 : Bool) (p0_6 : Bool) (p0_7 : Bool) (p0_8 : Bool) (p1_0 : Int) (p1_1 : Int) (p1_2 : Int) (p1_3 : Int) (p1_4 : Bool) (p1_5 : Bool) (p1_6 : Bool) (p1_7 : Bool) (p1_8 : Bool) (w : World) (K : Bool × Unit → World → Prop) (h : ledger_Ledger_Spread_2.P p0_0 p0_1 p0_2 p0_3 p0_4 p0_5 p0_6 p0_7 p0_8 p1_0 p1_1 p1_2 p1_3 p1_4 p1_5 p1_6 p1_7 p1_8 w K) : CallV Try.prog 66 #[.agg #[.int .i64 p0_0, .int .i64 p0_1, .int .i64 p0_2, .int .i64 p0_3, .bool p0_4, .bool p0_5, .bool p0_6, .bool p0_7, .bool p0_8], .agg #[.int .i64 p1_0, .int .i64 p1_1, .int .i64 p1_2, .int .i64 p1_3, .bool p1_4, .bool p1_5, .bool p1_6, .bool p1_7, .bool p1_8]] w [.one .bool] K := by
  have e : vcFun Try.prog okf false Try.f66 ledger_Ledger_Spread_2.A #[.agg #[.int .i64 p0_0, .int .i64 p0_1, .int .i64 p0_2, .int .i64 p0_3, .bool p0_4, .bool p0_5, .bool p0_6, .bool p0_7, .bool p0_8], .agg #[.int .i64 p1_0, .int .i64 p1_1, .int .i64 p1_2, .int .i64 p1_3, .bool p1_4, .bool p1_5, .bool p1_6, .bool p1_7, .bool p1_8]] w [.one .bool] K = ledger_Ledger_Spread_2.P p0_0 p0_1 p0_2 p0_3 p0_4 p0_5 p0_6 p0_7 p0_8 p1_0 p1_1 p1_2 p1_3 p1_4 p1_5 p1_6 p1_7 p1_8 w K := by kernel_rfl
  exact vcFun.calls okf_ok follows Try.func66 (e.symm ▸ h)

/-! ### (*nepenthe/ledger.Ledger).Dirty: function 32 -/
def ledger_Ledger_Dirty.A : Ann := .no
def ledger_Ledger_Dirty.P (p0 : Addr) (p1 : Int) (w : World) (K : Bool × Unit → World → Prop) : Prop :=
  CallV Try.prog 71 #[.pointer (some p0), .int .i64 p1] w [.one .bool] fun (r1 : Bool × Unit) w2 =>
  cond r1.1
  (LoadS w2 p0 .sl fun (x3 : SlV) =>
  (0 ≤ p1 ∧ p1 < ((x3.n : Nat) : Int)) ∧ ∃ q4 : Addr, x3.a = some q4 ∧
  LoadA w2 (q4.add (p1.toNat * 9)) [.int .i64, .int .i64, .int .i64, .int .i64, .bool, .bool, .bool, .bool, .bool] fun (x5 : Int × Int × Int × Int × Bool × Bool × Bool × Bool × Bool × Unit) =>
  CallV Try.prog 74 #[.agg #[.int .i64 x5.1, .int .i64 x5.2.1, .int .i64 x5.2.2.1, .int .i64 x5.2.2.2.1, .bool x5.2.2.2.2.1, .bool x5.2.2.2.2.2.1, .bool x5.2.2.2.2.2.2.1, .bool x5.2.2.2.2.2.2.2.1, .bool x5.2.2.2.2.2.2.2.2.1]] w2 [.one .bool] fun (r6 : Bool × Unit) w7 =>
  K (r6.1, ()) w7)
  (K (false, ()) w2)
theorem ledger_Ledger_Dirty.vc (p0 : Addr) (p1 : Int) (w : World) (K : Bool × Unit → World → Prop) (h : ledger_Ledger_Dirty.P p0 p1 w K) : CallV Try.prog 32 #[.pointer (some p0), .int .i64 p1] w [.one .bool] K := by
  have e : vcFun Try.prog okf false Try.f32 ledger_Ledger_Dirty.A #[.pointer (some p0), .int .i64 p1] w [.one .bool] K = ledger_Ledger_Dirty.P p0 p1 w K := by kernel_rfl
  exact vcFun.calls okf_ok follows Try.func32 (e.symm ▸ h)

/-! ### (*nepenthe/ledger.Ledger).Leaks: function 25 -/
def ledger_Ledger_Leaks.A : Ann := .no
def ledger_Ledger_Leaks.P (p0 : Addr) (p1 : Int) (w : World) (K : Bool × Unit → World → Prop) : Prop :=
  NewV #[.int .i64 p1] 3 w fun b1 w2 =>
  CallV Try.prog 67 #[.pointer (some p0), .func (.func 70) #[] #[.pointer (some ⟨b1, 0, none⟩)]] w2 [.one (.int .i64)] fun (r3 : Int × Unit) w4 =>
  K (decide (r3.1 > 0), ()) w4
theorem ledger_Ledger_Leaks.vc (p0 : Addr) (p1 : Int) (w : World) (K : Bool × Unit → World → Prop) (h : ledger_Ledger_Leaks.P p0 p1 w K) : CallV Try.prog 25 #[.pointer (some p0), .int .i64 p1] w [.one .bool] K := by
  have e : vcFun Try.prog okf false Try.f25 ledger_Ledger_Leaks.A #[.pointer (some p0), .int .i64 p1] w [.one .bool] K = ledger_Ledger_Leaks.P p0 p1 w K := by kernel_rfl
  exact vcFun.calls okf_ok follows Try.func25 (e.symm ▸ h)

/-! ### (*nepenthe/ledger.Ledger).Leaks$1: function 70 -/
def ledger_Ledger_Leaks_1.A : Ann := .no
def ledger_Ledger_Leaks_1.P (p0_0 : Int) (p0_1 : Int) (p0_2 : Int) (p0_3 : Int) (p0_4 : Bool) (p0_5 : Bool) (p0_6 : Bool) (p0_7 : Bool) (p0_8 : Bool) (q0 : Addr) (w : World) (K : Bool × Unit → World → Prop) : Prop :=
  NewV #[.int .i64 p0_0, .int .i64 p0_1, .int .i64 p0_2, .int .i64 p0_3, .bool p0_4, .bool p0_5, .bool p0_6, .bool p0_7, .bool p0_8] 48 w fun b1 w2 =>
  LoadS w2 ⟨b1, 8, none⟩ .bool fun (x3 : Bool) =>
  cond x3
  (LoadS w2 ⟨b1, 0, none⟩ (.int .i64) fun (x4 : Int) =>
  LoadS w2 q0 (.int .i64) fun (x5 : Int) =>
  cond (x4 == x5)
  (K (true, ()) w2)
  (LoadS w2 ⟨b1, 0, none⟩ (.int .i64) fun (x6 : Int) =>
  K ((x6 == (-1)), ()) w2))
  (K (false, ()) w2)
theorem ledger_Ledger_Leaks_1.vc (p0_0 : Int) (p0_1 : Int) (p0_2 : Int) (p0_3 : Int) (p0_4 : Bool) (p0_5 : Bool) (p0_6 : Bool) (p0_7 : Bool) (p0_8 : Bool) (q0 : Addr) (w : World) (K : Bool × Unit → World → Prop) (h : ledger_Ledger_Leaks_1.P p0_0 p0_1 p0_2 p0_3 p0_4 p0_5 p0_6 p0_7 p0_8 q0 w K) : CallV Try.prog 70 #[.agg #[.int .i64 p0_0, .int .i64 p0_1, .int .i64 p0_2, .int .i64 p0_3, .bool p0_4, .bool p0_5, .bool p0_6, .bool p0_7, .bool p0_8], .pointer (some q0)] w [.one .bool] K := by
  have e : vcFun Try.prog okf false Try.f70 ledger_Ledger_Leaks_1.A #[.agg #[.int .i64 p0_0, .int .i64 p0_1, .int .i64 p0_2, .int .i64 p0_3, .bool p0_4, .bool p0_5, .bool p0_6, .bool p0_7, .bool p0_8], .pointer (some q0)] w [.one .bool] K = ledger_Ledger_Leaks_1.P p0_0 p0_1 p0_2 p0_3 p0_4 p0_5 p0_6 p0_7 p0_8 q0 w K := by kernel_rfl
  exact vcFun.calls okf_ok follows Try.func70 (e.symm ▸ h)

/-! ### nepenthe/ledger.less: function 61 -/
def ledger_less.A : Ann := .no
def ledger_less.P (p0_0 : Int) (p0_1 : Int) (p0_2 : Int) (p0_3 : Int) (p0_4 : Bool) (p0_5 : Bool) (p0_6 : Bool) (p0_7 : Bool) (p0_8 : Bool) (p1_0 : Int) (p1_1 : Int) (p1_2 : Int) (p1_3 : Int) (p1_4 : Bool) (p1_5 : Bool) (p1_6 : Bool) (p1_7 : Bool) (p1_8 : Bool) (w : World) (K : Bool × Unit → World → Prop) : Prop :=
  NewV #[.int .i64 p0_0, .int .i64 p0_1, .int .i64 p0_2, .int .i64 p0_3, .bool p0_4, .bool p0_5, .bool p0_6, .bool p0_7, .bool p0_8] 48 w fun b1 w2 =>
  NewV #[.int .i64 p1_0, .int .i64 p1_1, .int .i64 p1_2, .int .i64 p1_3, .bool p1_4, .bool p1_5, .bool p1_6, .bool p1_7, .bool p1_8] 48 w2 fun b3 w4 =>
  LoadS w4 ⟨b1, 3, none⟩ (.int .i64) fun (x5 : Int) =>
  LoadS w4 ⟨b3, 3, none⟩ (.int .i64) fun (x6 : Int) =>
  K (decide (x5 < x6), ()) w4
theorem ledger_less.vc (p0_0 : Int) (p0_1 : Int) (p0_2 : Int) (p0_3 : Int) (p0_4 : Bool) (p0_5 : Bool) (p0_6 : Bool) (p0_7 : Bool) (p0_8 : Bool) (p1_0 : Int) (p1_1 : Int) (p1_2 : Int) (p1_3 : Int) (p1_4 : Bool) (p1_5 : Bool) (p1_6 : Bool) (p1_7 : Bool) (p1_8 : Bool) (w : World) (K : Bool × Unit → World → Prop) (h : ledger_less.P p0_0 p0_1 p0_2 p0_3 p0_4 p0_5 p0_6 p0_7 p0_8 p1_0 p1_1 p1_2 p1_3 p1_4 p1_5 p1_6 p1_7 p1_8 w K) : CallV Try.prog 61 #[.agg #[.int .i64 p0_0, .int .i64 p0_1, .int .i64 p0_2, .int .i64 p0_3, .bool p0_4, .bool p0_5, .bool p0_6, .bool p0_7, .bool p0_8], .agg #[.int .i64 p1_0, .int .i64 p1_1, .int .i64 p1_2, .int .i64 p1_3, .bool p1_4, .bool p1_5, .bool p1_6, .bool p1_7, .bool p1_8]] w [.one .bool] K := by
  have e : vcFun Try.prog okf false Try.f61 ledger_less.A #[.agg #[.int .i64 p0_0, .int .i64 p0_1, .int .i64 p0_2, .int .i64 p0_3, .bool p0_4, .bool p0_5, .bool p0_6, .bool p0_7, .bool p0_8], .agg #[.int .i64 p1_0, .int .i64 p1_1, .int .i64 p1_2, .int .i64 p1_3, .bool p1_4, .bool p1_5, .bool p1_6, .bool p1_7, .bool p1_8]] w [.one .bool] K = ledger_less.P p0_0 p0_1 p0_2 p0_3 p0_4 p0_5 p0_6 p0_7 p0_8 p1_0 p1_1 p1_2 p1_3 p1_4 p1_5 p1_6 p1_7 p1_8 w K := by kernel_rfl
  exact vcFun.calls okf_ok follows Try.func61 (e.symm ▸ h)

/-! ### nepenthe/ledger.own: function 63 -/
def ledger_own.A : Ann := .no
def ledger_own.P (p0_0 : Int) (p0_1 : Int) (p0_2 : Int) (p0_3 : Int) (p0_4 : Bool) (p0_5 : Bool) (p0_6 : Bool) (p0_7 : Bool) (p0_8 : Bool) (p1 : Int) (w : World) (K : Bool × Unit → World → Prop) : Prop :=
  NewV #[.int .i64 p0_0, .int .i64 p0_1, .int .i64 p0_2, .int .i64 p0_3, .bool p0_4, .bool p0_5, .bool p0_6, .bool p0_7, .bool p0_8] 48 w fun b1 w2 =>
  LoadS w2 ⟨b1, 4, none⟩ .bool fun (x3 : Bool) =>
  cond x3
  (LoadS w2 ⟨b1, 6, none⟩ .bool fun (x4 : Bool) =>
  cond (!x4)
  (LoadS w2 ⟨b1, 0, none⟩ (.int .i64) fun (x5 : Int) =>
  K ((x5 == p1), ()) w2)
  (K (false, ()) w2))
  (K (false, ()) w2)
theorem ledger_own.vc (p0_0 : Int) (p0_1 : Int) (p0_2 : Int) (p0_3 : Int) (p0_4 : Bool) (p0_5 : Bool) (p0_6 : Bool) (p0_7 : Bool) (p0_8 : Bool) (p1 : Int) (w : World) (K : Bool × Unit → World → Prop) (h : ledger_own.P p0_0 p0_1 p0_2 p0_3 p0_4 p0_5 p0_6 p0_7 p0_8 p1 w K) : CallV Try.prog 63 #[.agg #[.int .i64 p0_0, .int .i64 p0_1, .int .i64 p0_2, .int .i64 p0_3, .bool p0_4, .bool p0_5, .bool p0_6, .bool p0_7, .bool p0_8], .int .i64 p1] w [.one .bool] K := by
  have e : vcFun Try.prog okf false Try.f63 ledger_own.A #[.agg #[.int .i64 p0_0, .int .i64 p0_1, .int .i64 p0_2, .int .i64 p0_3, .bool p0_4, .bool p0_5, .bool p0_6, .bool p0_7, .bool p0_8], .int .i64 p1] w [.one .bool] K = ledger_own.P p0_0 p0_1 p0_2 p0_3 p0_4 p0_5 p0_6 p0_7 p0_8 p1 w K := by kernel_rfl
  exact vcFun.calls okf_ok follows Try.func63 (e.symm ▸ h)

/-! ### nepenthe/ledger.Free: function 27 -/
def ledger_Free.A : Ann := .no
def ledger_Free.P (p0_0 : Int) (p0_1 : Int) (p0_2 : Int) (p0_3 : Int) (p0_4 : Bool) (p0_5 : Bool) (p0_6 : Bool) (p0_7 : Bool) (p0_8 : Bool) (w : World) (K : Bool × Unit → World → Prop) : Prop :=
  NewV #[.int .i64 p0_0, .int .i64 p0_1, .int .i64 p0_2, .int .i64 p0_3, .bool p0_4, .bool p0_5, .bool p0_6, .bool p0_7, .bool p0_8] 48 w fun b1 w2 =>
  LoadS w2 ⟨b1, 4, none⟩ .bool fun (x3 : Bool) =>
  cond (!x3)
  (LoadS w2 ⟨b1, 6, none⟩ .bool fun (x4 : Bool) =>
  K (!x4, ()) w2)
  (K (false, ()) w2)
theorem ledger_Free.vc (p0_0 : Int) (p0_1 : Int) (p0_2 : Int) (p0_3 : Int) (p0_4 : Bool) (p0_5 : Bool) (p0_6 : Bool) (p0_7 : Bool) (p0_8 : Bool) (w : World) (K : Bool × Unit → World → Prop) (h : ledger_Free.P p0_0 p0_1 p0_2 p0_3 p0_4 p0_5 p0_6 p0_7 p0_8 w K) : CallV Try.prog 27 #[.agg #[.int .i64 p0_0, .int .i64 p0_1, .int .i64 p0_2, .int .i64 p0_3, .bool p0_4, .bool p0_5, .bool p0_6, .bool p0_7, .bool p0_8]] w [.one .bool] K := by
  have e : vcFun Try.prog okf false Try.f27 ledger_Free.A #[.agg #[.int .i64 p0_0, .int .i64 p0_1, .int .i64 p0_2, .int .i64 p0_3, .bool p0_4, .bool p0_5, .bool p0_6, .bool p0_7, .bool p0_8]] w [.one .bool] K = ledger_Free.P p0_0 p0_1 p0_2 p0_3 p0_4 p0_5 p0_6 p0_7 p0_8 w K := by kernel_rfl
  exact vcFun.calls okf_ok follows Try.func27 (e.symm ▸ h)

/-! ### nepenthe/ledger.dirty: function 74 -/
def ledger_dirty.A : Ann := .no
def ledger_dirty.P (p0_0 : Int) (p0_1 : Int) (p0_2 : Int) (p0_3 : Int) (p0_4 : Bool) (p0_5 : Bool) (p0_6 : Bool) (p0_7 : Bool) (p0_8 : Bool) (w : World) (K : Bool × Unit → World → Prop) : Prop :=
  NewV #[.int .i64 p0_0, .int .i64 p0_1, .int .i64 p0_2, .int .i64 p0_3, .bool p0_4, .bool p0_5, .bool p0_6, .bool p0_7, .bool p0_8] 48 w fun b1 w2 =>
  LoadS w2 ⟨b1, 6, none⟩ .bool fun (x3 : Bool) =>
  cond x3
  (LoadS w2 ⟨b1, 5, none⟩ .bool fun (x4 : Bool) =>
  cond (!x4)
  (LoadS w2 ⟨b1, 7, none⟩ .bool fun (x5 : Bool) =>
  K (!x5, ()) w2)
  (K (false, ()) w2))
  (LoadS w2 ⟨b1, 4, none⟩ .bool fun (x6 : Bool) =>
  cond x6
  (LoadS w2 ⟨b1, 1, none⟩ (.int .i64) fun (x7 : Int) =>
  LoadS w2 ⟨b1, 2, none⟩ (.int .i64) fun (x8 : Int) =>
  K (decide (x7 > x8), ()) w2)
  (LoadS w2 ⟨b1, 5, none⟩ .bool fun (x9 : Bool) =>
  K (!x9, ()) w2))
theorem ledger_dirty.vc (p0_0 : Int) (p0_1 : Int) (p0_2 : Int) (p0_3 : Int) (p0_4 : Bool) (p0_5 : Bool) (p0_6 : Bool) (p0_7 : Bool) (p0_8 : Bool) (w : World) (K : Bool × Unit → World → Prop) (h : ledger_dirty.P p0_0 p0_1 p0_2 p0_3 p0_4 p0_5 p0_6 p0_7 p0_8 w K) : CallV Try.prog 74 #[.agg #[.int .i64 p0_0, .int .i64 p0_1, .int .i64 p0_2, .int .i64 p0_3, .bool p0_4, .bool p0_5, .bool p0_6, .bool p0_7, .bool p0_8]] w [.one .bool] K := by
  have e : vcFun Try.prog okf false Try.f74 ledger_dirty.A #[.agg #[.int .i64 p0_0, .int .i64 p0_1, .int .i64 p0_2, .int .i64 p0_3, .bool p0_4, .bool p0_5, .bool p0_6, .bool p0_7, .bool p0_8]] w [.one .bool] K = ledger_dirty.P p0_0 p0_1 p0_2 p0_3 p0_4 p0_5 p0_6 p0_7 p0_8 w K := by kernel_rfl
  exact vcFun.calls okf_ok follows Try.func74 (e.symm ▸ h)

end Go.Proofs.Ytiemdjnmghackaa.Vc

/-! The contracts of layer 21 (ledger): the blocks' changes. -/
namespace Go.Proofs.Ytiemdjnmghackaa.Vc
open Go Go.Eng Go.RowKit
set_option linter.unusedVariables false
set_option linter.unusedSimpArgs false

/-- What is known of a block. -/
structure Blk where
  ow : Int
  us : Int
  li : Int
  er : Int
  he : Bool
  cl : Bool
  ba : Bool
  go : Bool
  le : Bool
def Blk.z : Blk := ⟨0, 0, 0, 0, false, false, false, false, false⟩
def Blk.new : Blk := ⟨-1, 0, 0, 0, false, false, false, false, false⟩
instance : Inhabited Blk := ⟨.z⟩
abbrev Blk.vs (x : Blk) : List Value := [.int .i64 x.ow, .int .i64 x.us, .int .i64 x.li, .int .i64 x.er, .bool x.he, .bool x.cl, .bool x.ba, .bool x.go, .bool x.le]
abbrev Blk.tup (x : Blk) : Int × Int × Int × Int × Bool × Bool × Bool × Bool × Bool × Unit := (x.ow, x.us, x.li, x.er, x.he, x.cl, x.ba, x.go, x.le, ())
abbrev Blk.val (x : Blk) : Value := .agg #[.int .i64 x.ow, .int .i64 x.us, .int .i64 x.li, .int .i64 x.er, .bool x.he, .bool x.cl, .bool x.ba, .bool x.go, .bool x.le]
abbrev bvs (L : List Blk) : List Value := L.flatMap Blk.vs
theorem bvs_len (L : List Blk) : (bvs L).length = L.length * 9 := flat_len (f := Blk.vs) (m := 9) (fun _ => rfl) L
theorem bvs_one (L : List Blk) : oneAll (bvs L) := by
  intro u hu
  obtain ⟨x, -, hx⟩ := List.mem_flatMap.1 hu
  simp only [List.mem_cons, List.not_mem_nil, or_false] at hx
  rcases hx with rfl | rfl | rfl | rfl | rfl | rfl | rfl | rfl | rfl <;> rfl

def hB (n : Int) (x : Blk) : Blk := ⟨n, 0, 0, x.er, true, false, x.ba, x.go, x.le⟩
def rB (x : Blk) : Blk := ⟨x.ow, x.us, 0, x.er, false, x.cl, x.ba, x.go, x.le⟩
def eB (x : Blk) : Blk := ⟨-2, 0, 0, x.er + 1, false, true, x.ba, false, false⟩
def fB (x : Blk) : Blk := ⟨x.ow, x.us, x.li, x.er, x.he, x.cl, true, x.go, x.le⟩
def sB (n : Bool) (x : Blk) : Blk := ⟨x.ow, x.us, x.li, x.er, false, false, true, n, !n⟩
def uB (x : Blk) : Blk := ⟨x.ow, x.us + 1, x.li, x.er, x.he, x.cl, x.ba, x.go, x.le⟩
def cB (n : Int) (x : Blk) : Blk := ⟨x.ow, x.us, if n < 0 - x.li then 0 else x.li + n, x.er, x.he, x.cl, x.ba, x.go, x.le⟩

section
variable {F : Nat → Prop} {w : World} {blk o qb : Nat} {e eq : TypeId} {pre post : List Value} {x : Blk} {C : Asr}
theorem Hold1_c {n : Int} (ho : o = pre.length) (S : Sep F w w [BoxA blk e (pre ++ (x.vs ++ post)), BoxA qb eq [.int .i64 n]]) :
    CallV Try.prog 92 #[.pointer (some ⟨blk, o, none⟩), .pointer (some ⟨qb, 0, none⟩)] w [] fun _ w' => Sep F w w' [BoxA blk e (pre ++ ((hB n x).vs ++ post)), BoxA qb eq [.int .i64 n]] := by
  apply ledger_Ledger_Hold_1.vc
  unfold ledger_Ledger_Hold_1.P
  refine S.ld1 rfl rfl ?_
  refine S.stM0 0 rfl ho (by simp) fun w1 S f => ?_
  refine S.stM 0 4 rfl ho (by simp) fun w1 S f => ?_
  refine S.stM 0 5 rfl ho (by simp) fun w1 S f => ?_
  refine S.stM 0 1 rfl ho (by simp) fun w1 S f => ?_
  refine S.stM 0 2 rfl ho (by simp) fun w1 S f => ?_
  exact S
theorem Release1_c (ho : o = pre.length) (S : Sep F w w [BoxA blk e (pre ++ (x.vs ++ post)), C]) :
    CallV Try.prog 93 #[.pointer (some ⟨blk, o, none⟩)] w [] fun _ w' => Sep F w w' [BoxA blk e (pre ++ ((rB x).vs ++ post)), C] := by
  apply ledger_Ledger_Release_1.vc
  unfold ledger_Ledger_Release_1.P
  refine S.stM 0 4 rfl ho (by simp) fun w1 S f => ?_
  refine S.stM 0 2 rfl ho (by simp) fun w1 S f => ?_
  exact S
theorem Failed1_c (ho : o = pre.length) (S : Sep F w w [BoxA blk e (pre ++ (x.vs ++ post)), C]) :
    CallV Try.prog 95 #[.pointer (some ⟨blk, o, none⟩)] w [] fun _ w' => Sep F w w' [BoxA blk e (pre ++ ((fB x).vs ++ post)), C] := by
  apply ledger_Ledger_Failed_1.vc
  unfold ledger_Ledger_Failed_1.P
  refine S.stM 0 6 rfl ho (by simp) fun w1 S f => ?_
  exact S
theorem Use1_c (ho : o = pre.length) (hr : Rng .i64 (x.us + 1)) (S : Sep F w w [BoxA blk e (pre ++ (x.vs ++ post)), C]) :
    CallV Try.prog 97 #[.pointer (some ⟨blk, o, none⟩)] w [] fun _ w' => Sep F w w' [BoxA blk e (pre ++ ((uB x).vs ++ post)), C] := by
  apply ledger_Ledger_Use_1.vc
  unfold ledger_Ledger_Use_1.P
  refine S.ldM 0 1 rfl ho rfl rfl ⟨hr, ?_⟩
  refine S.stM 0 1 rfl ho (by simp) fun w1 S f => ?_
  exact S
theorem Erased1_c (ho : o = pre.length) (hr : Rng .i64 (x.er + 1)) (S : Sep F w w [BoxA blk e (pre ++ (x.vs ++ post)), C]) :
    CallV Try.prog 94 #[.pointer (some ⟨blk, o, none⟩)] w [] fun _ w' => Sep F w w' [BoxA blk e (pre ++ ((eB x).vs ++ post)), C] := by
  apply ledger_Ledger_Erased_1.vc
  unfold ledger_Ledger_Erased_1.P
  refine S.regX (fun k => k = blk) fun D hD hkeep S T => ?_
  have k0 := hkeep _ (Fr.refl _ _)
  refine ⟨?_, ?_⟩
  · refine S.ldM 0 3 rfl ho rfl rfl ⟨k0, hr, S.ldM 0 6 rfl ho rfl rfl ⟨k0, ?_⟩⟩
    refine S.stM0 0 rfl ho (by simp) fun w1 S f => ⟨hkeep _ f, ?_⟩
    exact S
  · refine S.ldM 0 6 rfl ho rfl rfl ⟨k0, S.ldM 0 3 rfl ho rfl rfl ⟨k0, hr, ?_⟩⟩
    refine S.stM0 0 rfl ho (by simp) fun w1 S f => ⟨hkeep _ f, ?_⟩
    exact S
theorem Scrubbed1_c {n : Bool} (ho : o = pre.length) (S : Sep F w w [BoxA blk e (pre ++ (x.vs ++ post)), BoxA qb eq [.bool n]]) :
    CallV Try.prog 96 #[.pointer (some ⟨blk, o, none⟩), .pointer (some ⟨qb, 0, none⟩)] w [] fun _ w' => Sep F w w' [BoxA blk e (pre ++ ((sB n x).vs ++ post)), BoxA qb eq [.bool n]] := by
  apply ledger_Ledger_Scrubbed_1.vc
  unfold ledger_Ledger_Scrubbed_1.P
  have hne := S.ne 0 1 (by decide) rfl rfl
  refine S.regX (fun k => k = blk) fun D hD hkeep S T => ?_
  refine ⟨hD _ S.bl1 (fun h => hne h.symm), S.ld1 rfl rfl ⟨hD _ S.bl1 (fun h => hne h.symm), S.ld1 rfl rfl ?_⟩⟩
  refine S.stM 0 6 rfl ho (by simp) fun w1 S f1 => ⟨hkeep _ f1, ?_⟩
  refine S.stM 0 5 rfl ho (by simp) fun w2 S f2 => ⟨hkeep _ (f1.trans f2), ?_⟩
  refine S.stM 0 4 rfl ho (by simp) fun w3 S f3 => ⟨hkeep _ ((f1.trans f2).trans f3), ?_⟩
  refine S.stM 0 7 rfl ho (by simp) fun w4 S f4 => ⟨hkeep _ (((f1.trans f2).trans f3).trans f4), ?_⟩
  refine S.stM 0 8 rfl ho (by simp) fun w5 S f5 => ⟨hkeep _ ((((f1.trans f2).trans f3).trans f4).trans f5), ?_⟩
  exact S
theorem Count1_c {n : Int} (ho : o = pre.length) (h0 : 0 ≤ x.li ∧ x.li ≤ 1000000000) (hn : -9223372036854775808 ≤ n ∧ n ≤ 1000000) (S : Sep F w w [BoxA blk e (pre ++ (x.vs ++ post)), BoxA qb eq [.int .i64 n]]) :
    CallV Try.prog 98 #[.pointer (some ⟨blk, o, none⟩), .pointer (some ⟨qb, 0, none⟩)] w [] fun _ w' => ∃ m : Int, Sep F w w' [BoxA blk e (pre ++ ((cB n x).vs ++ post)), BoxA qb eq [.int .i64 m]] := by
  apply ledger_Ledger_Count_1.vc
  unfold ledger_Ledger_Count_1.P
  have hne := S.ne 0 1 (by decide) rfl rfl
  refine S.reg fun D hD hkeep S T => ?_
  refine ⟨hD _ S.bl1, S.ld1 rfl rfl ⟨by rw [add_block]; exact hD _ S.bl0, S.ldM 0 2 rfl ho rfl rfl ⟨Rng.i64 (by omega) (by omega), ?_⟩⟩⟩
  refine cond_d (fun hl => ?_) (fun hl => ?_)
  · refine S.ldM 0 2 rfl ho rfl rfl ⟨Rng.i64 (by omega) (by omega), ?_⟩
    refine S.st1 (by rfl) fun w1 S f1 => ?_
    refine S.regX (fun k => k = blk) fun D hD hkeep S T => ?_
    refine ⟨hD _ S.bl1 (fun h => hne h.symm), S.ld1 rfl rfl (S.ldM 0 2 rfl ho rfl rfl ⟨hkeep _ (Fr.refl _ _), Rng.i64 (by omega) (by omega), ?_⟩)⟩
    refine S.stM 0 2 rfl ho (by simp) fun w2 S f2 => ⟨hkeep _ f2, 0 - x.li, ?_⟩
    have e1 : (cB n x).li = x.li + (0 - x.li) := by show (if n < 0 - x.li then (0 : Int) else x.li + n) = _; rw [if_pos hl]; omega
    have e2 : (cB n x).vs = [.int .i64 x.ow, .int .i64 x.us, .int .i64 (x.li + (0 - x.li)), .int .i64 x.er, .bool x.he, .bool x.cl, .bool x.ba, .bool x.go, .bool x.le] := by rw [← e1]; rfl
    rw [e2]
    exact S
  · refine S.regX (fun k => k = blk) fun D hD hkeep S T => ?_
    refine ⟨hD _ S.bl1 (fun h => hne h.symm), S.ld1 rfl rfl (S.ldM 0 2 rfl ho rfl rfl ⟨hkeep _ (Fr.refl _ _), Rng.i64 (by omega) (by omega), ?_⟩)⟩
    refine S.stM 0 2 rfl ho (by simp) fun w2 S f2 => ⟨hkeep _ f2, n, ?_⟩
    have e1 : (cB n x).li = x.li + n := by show (if n < 0 - x.li then (0 : Int) else x.li + n) = _; rw [if_neg hl]
    have e2 : (cB n x).vs = [.int .i64 x.ow, .int .i64 x.us, .int .i64 (x.li + n), .int .i64 x.er, .bool x.he, .bool x.cl, .bool x.ba, .bool x.go, .bool x.le] := by rw [← e1]; rfl
    rw [e2]
    exact S
end

/-! ### The ledger -/
/-- A ledger of one's own. -/
abbrev LedP (p : Nat) (a : Option Addr) (n c : Nat) (L : List Blk) : List Asr := [BoxA p 99 [.slice a n c], OwnA 48 9 a n c (bvs L)]
theorem Len_c {E : Nat → Prop} {w0 w : World} {Rs : List Asr} {p : Nat} {e : TypeId} {a : Option Addr} {n c : Nat} (S : Sep E w0 w (BoxA p e [.slice a n c] :: Rs)) :
    CallV Try.prog 30 #[.pointer (some ⟨p, 0, none⟩)] w [.one (.int .i64)] fun r w' => r.1 = (n : Int) ∧ w' = w := by
  apply ledger_Ledger_Len.vc
  unfold ledger_Ledger_Len.P
  exact S.ld0 rfl rfl ⟨rfl, rfl⟩
theorem has_c {E : Nat → Prop} {w0 w : World} {Rs : List Asr} {p : Nat} {e : TypeId} {a : Option Addr} {n c : Nat} {b : Int} (S : Sep E w0 w (BoxA p e [.slice a n c] :: Rs)) :
    CallV Try.prog 71 #[.pointer (some ⟨p, 0, none⟩), .int .i64 b] w [.one .bool] fun r w' => r.1 = decide (0 ≤ b ∧ b < (n : Int)) ∧ w' = w := by
  apply ledger_Ledger_has.vc
  unfold ledger_Ledger_has.P
  refine cond_d (fun h => ?_) (fun h => ⟨(decide_eq_false (by omega)).symm, rfl⟩)
  refine (Len_c S).mono ?_
  rintro ⟨(r : Int), ⟨⟩⟩ w1 ⟨h1, rfl⟩
  dsimp only at h1 ⊢
  subst h1
  exact ⟨decide_eq_decide.2 (by omega), rfl⟩

/-- One block changed by a closure. -/
theorem change_c {F : Nat → Prop} {w : World} {p : Nat} {a : Option Addr} {n c : Nat} {L : List Blk} {b : Int} {f : FuncId} {cap : Array Value} {C : Asr} {C' : Asr} {φ : Blk → Blk} (hf : okf f = true)
    (h : ∀ (F : Nat → Prop) (w1 : World) (blk o : Nat) (e : TypeId) (pre post : List Value) (x : Blk), x ∈ L → o = pre.length → Sep F w1 w1 [BoxA blk e (pre ++ (x.vs ++ post)), C] →
      CallV Try.prog f ([] ++ ((([.pointer (some ⟨blk, o, none⟩)] : List Value)) ++ cap.toList)).toArray w1 [] fun _ w2 => Sep F w1 w2 [BoxA blk e (pre ++ ((φ x).vs ++ post)), C'])
    (S : Sep F w w (LedP p a n c L ++ [C])) :
    CallV Try.prog 72 #[.pointer (some ⟨p, 0, none⟩), .int .i64 b, .func (.func f) #[] cap] w [.one (.int .i64)] fun r w' =>
      (¬ (0 ≤ b ∧ b < (n : Int)) → r.1 = (2 : Int) ∧ w' = w) ∧ (0 ≤ b ∧ b < (n : Int) → r.1 = (0 : Int) ∧ Sep F w w' (LedP p a n c (L.set b.toNat (φ (L.getD b.toNat default))) ++ [C'])) := by
  apply ledger_Ledger_change.vc
  unfold ledger_Ledger_change.P
  refine (has_c (b := b) S).mono ?_
  rintro ⟨(r : Bool), ⟨⟩⟩ w1 ⟨h1, rfl⟩
  dsimp only at h1 ⊢
  subst h1
  refine cond_of (fun hh => ?_) (fun hh => ?_)
  · have hh : ¬ (0 ≤ b ∧ b < (n : Int)) := fun k => by rw [decide_eq_true k] at hh; cases hh
    exact ⟨fun _ => ⟨rfl, rfl⟩, fun k => absurd k hh⟩
  have hh : 0 ≤ b ∧ b < (n : Int) := by
    by_cases k : 0 ≤ b ∧ b < (n : Int)
    · exact k
    · rw [decide_eq_false k] at hh; cases hh
  refine S.ld0 rfl rfl ⟨hh, ?_⟩
  have lL : L.length = n := by have := (S.own 1 rfl).len; rw [bvs_len] at this; omega
  have hi : b.toNat < L.length := by omega
  have hy : L[b.toNat]? = some (L.getD b.toNat default) := by rw [List.getD_eq_getElem?_getD, List.getElem?_eq_getElem hi]; rfl
  generalize L.getD b.toNat default = x at hy ⊢
  obtain ⟨(m1 : bvs L = _), (m2 : bvs (L.set b.toNat (φ x)) = _)⟩ := flat_mid (f := Blk.vs) (z := φ x) hy
  have S1 := S.sel [1, 0, 0] rfl
  obtain ⟨blk, tl, ha, q1, q2, q3, q4, q5, S1⟩ := S1.focus (by intro e; have := bvs_len L; rw [e] at this; simp at this; omega)
  subst ha
  refine ⟨_, rfl, cond_t hf ?_⟩
  have hadd : (⟨blk, 0, none⟩ : Addr).add (b.toNat * 9) = ⟨blk, b.toNat * 9, none⟩ := by simp [Addr.add_lit]
  rw [hadd]
  rw [m1, List.append_assoc, List.append_assoc] at S1
  have hpre : b.toNat * 9 = ((L.take b.toNat).flatMap Blk.vs).length := by rw [flat_len (f := Blk.vs) (m := 9) (fun _ => rfl), List.length_take, Nat.min_eq_left (by omega)]
  dsimp only at S1
  have S2 := S1.sel [0, 1, 0] rfl
  refine Sep.call [BoxA blk 48 _, C] S2 (fun F S => h F _ blk _ _ _ _ x (List.mem_of_getElem? hy) hpre S) ?_
  intro F2 back r w2 S3
  refine ⟨fun k => absurd hh k, fun _ => ⟨rfl, ?_⟩⟩
  have S4 := back _ _ S3
  rw [← List.append_assoc, ← List.append_assoc, List.append_assoc (List.flatMap _ _), ← m2] at S4
  have hl2 : (bvs (L.set b.toNat (φ x))).length = n * 9 := by rw [bvs_len, List.length_set, lL]
  have S5 := Sep.unfocus (n := n) (c := c) (sz := 9) S4 hl2 (by rw [List.length_append, hl2, ← q2, List.length_append, q1]) q3 q4 (bvs_one _)
  exact S5.sel [2, 0, 0] rfl

end Go.Proofs.Ytiemdjnmghackaa.Vc

/-! The plans of functions as plain statements, printed by wip/tools/vcgen.py; the kernel holds each to the code. -/
namespace Go.Proofs.Ytiemdjnmghackaa.Vc
open Go Go.Eng
set_option linter.unusedVariables false

/-! ### nepenthe/nepentheref21.New: function 11 -/
-- loop 0 carries 3: .one .sl, 4: .one (.int .i64)
def ref21_New.A : Ann := .two .no (.two .no (.two (.two .no (.one (.loop [3, 4, 6, 7, 8, 9, 10, 11, 12, 13, 14] [(3, .one .sl), (4, .one (.int .i64))] .no))) .no))
def ref21_New.P (p0 : Int) (w : World) (K : SlV × Unit → World → Prop) : Prop :=
  NewV #[] 100 w fun b1 w2 =>
  LoopV [.one .sl, .one (.int .i64)] ((⟨(some ⟨b1, 0, none⟩), 0, 0⟩ : SlV), (0 : Int), ()) w2 fun (z3 : SlV × Int × Unit) w4 (K5 : SlV × Int × Unit → World → Prop) =>
  cond (decide (z3.2.1 < p0))
  (NewV #[.int .i64 (-1), .int .i64 0, .int .i64 0, .int .i64 0, .bool false, .bool false, .bool false, .bool false, .bool false] 100 w4 fun b6 w7 =>
  AppS w7 (some ⟨b6, 0, none⟩) 1 9 fun ns12 =>
  AppV w7 100 9 40 z3.1.a z3.1.n z3.1.c ns12 1 fun a8 n9 c10 w11 =>
  Rng .i64 (z3.2.1 + 1) ∧
  K5 ((⟨a8, n9, c10⟩ : SlV), z3.2.1 + 1, ()) w11)
  (K (z3.1, ()) w4)
theorem ref21_New.vc (p0 : Int) (w : World) (K : SlV × Unit → World → Prop) (h : ref21_New.P p0 w K) : CallV Try.prog 11 #[.int .i64 p0] w [.one .sl] K := by
  have e : vcFun Try.prog okf false Try.f11 ref21_New.A #[.int .i64 p0] w [.one .sl] K = ref21_New.P p0 w K := by kernel_rfl
  exact vcFun.calls okf_ok follows Try.func11 (e.symm ▸ h)

/-! ### nepenthe/nepentheref21.Do: function 58 -/
def ref21_Do.A : Ann := .no
def ref21_Do.P (p0_0 : Int) (p0_1 : Int) (p0_2 : Int) (p0_3 : Int) (p0_4 : Bool) (p0_5 : Bool) (p0_6 : Bool) (p0_7 : Bool) (p0_8 : Bool) (p1 : Int) (p2 : Int) (w : World) (K : (Int × Int × Int × Int × Bool × Bool × Bool × Bool × Bool × Unit) × Unit → World → Prop) : Prop :=
  NewV #[.int .i64 p0_0, .int .i64 p0_1, .int .i64 p0_2, .int .i64 p0_3, .bool p0_4, .bool p0_5, .bool p0_6, .bool p0_7, .bool p0_8] 100 w fun b1 w2 =>
  NewV #[.int .i64 0, .int .i64 0, .int .i64 0, .int .i64 0, .bool false, .bool false, .bool false, .bool false, .bool false] 100 w2 fun b3 w4 =>
  cond (p1 == 1)
  (StoreV w4 ⟨b1, 0, none⟩ [.int .i64 p2] fun w5 =>
  StoreV w5 ⟨b1, 4, none⟩ [.bool true] fun w6 =>
  StoreV w6 ⟨b1, 5, none⟩ [.bool false] fun w7 =>
  StoreV w7 ⟨b1, 1, none⟩ [.int .i64 0] fun w8 =>
  StoreV w8 ⟨b1, 2, none⟩ [.int .i64 0] fun w9 =>
  LoadA w9 ⟨b1, 0, none⟩ [.int .i64, .int .i64, .int .i64, .int .i64, .bool, .bool, .bool, .bool, .bool] fun (x10 : Int × Int × Int × Int × Bool × Bool × Bool × Bool × Bool × Unit) =>
  StoreV w9 ⟨b3, 0, none⟩ [.int .i64 x10.1, .int .i64 x10.2.1, .int .i64 x10.2.2.1, .int .i64 x10.2.2.2.1, .bool x10.2.2.2.2.1, .bool x10.2.2.2.2.2.1, .bool x10.2.2.2.2.2.2.1, .bool x10.2.2.2.2.2.2.2.1, .bool x10.2.2.2.2.2.2.2.2.1] fun w11 =>
  LoadA w11 ⟨b3, 0, none⟩ [.int .i64, .int .i64, .int .i64, .int .i64, .bool, .bool, .bool, .bool, .bool] fun (x12 : Int × Int × Int × Int × Bool × Bool × Bool × Bool × Bool × Unit) =>
  K ((x12.1, x12.2.1, x12.2.2.1, x12.2.2.2.1, x12.2.2.2.2.1, x12.2.2.2.2.2.1, x12.2.2.2.2.2.2.1, x12.2.2.2.2.2.2.2.1, x12.2.2.2.2.2.2.2.2.1, ()), ()) w11)
  (cond (p1 == 2)
  (StoreV w4 ⟨b1, 4, none⟩ [.bool false] fun w13 =>
  StoreV w13 ⟨b1, 2, none⟩ [.int .i64 0] fun w14 =>
  LoadA w14 ⟨b1, 0, none⟩ [.int .i64, .int .i64, .int .i64, .int .i64, .bool, .bool, .bool, .bool, .bool] fun (x15 : Int × Int × Int × Int × Bool × Bool × Bool × Bool × Bool × Unit) =>
  StoreV w14 ⟨b3, 0, none⟩ [.int .i64 x15.1, .int .i64 x15.2.1, .int .i64 x15.2.2.1, .int .i64 x15.2.2.2.1, .bool x15.2.2.2.2.1, .bool x15.2.2.2.2.2.1, .bool x15.2.2.2.2.2.2.1, .bool x15.2.2.2.2.2.2.2.1, .bool x15.2.2.2.2.2.2.2.2.1] fun w16 =>
  LoadA w16 ⟨b3, 0, none⟩ [.int .i64, .int .i64, .int .i64, .int .i64, .bool, .bool, .bool, .bool, .bool] fun (x17 : Int × Int × Int × Int × Bool × Bool × Bool × Bool × Bool × Unit) =>
  K ((x17.1, x17.2.1, x17.2.2.1, x17.2.2.2.1, x17.2.2.2.2.1, x17.2.2.2.2.2.1, x17.2.2.2.2.2.2.1, x17.2.2.2.2.2.2.2.1, x17.2.2.2.2.2.2.2.2.1, ()), ()) w16)
  (cond (p1 == 3)
  (LoadS w4 ⟨b1, 3, none⟩ (.int .i64) fun (x18 : Int) =>
  Rng .i64 (x18 + 1) ∧
  LoadS w4 ⟨b1, 6, none⟩ .bool fun (x19 : Bool) =>
  StoreV w4 ⟨b1, 0, none⟩ [.int .i64 (-2), .int .i64 0, .int .i64 0, .int .i64 (x18 + 1), .bool false, .bool true, .bool x19, .bool false, .bool false] fun w20 =>
  LoadA w20 ⟨b1, 0, none⟩ [.int .i64, .int .i64, .int .i64, .int .i64, .bool, .bool, .bool, .bool, .bool] fun (x21 : Int × Int × Int × Int × Bool × Bool × Bool × Bool × Bool × Unit) =>
  StoreV w20 ⟨b3, 0, none⟩ [.int .i64 x21.1, .int .i64 x21.2.1, .int .i64 x21.2.2.1, .int .i64 x21.2.2.2.1, .bool x21.2.2.2.2.1, .bool x21.2.2.2.2.2.1, .bool x21.2.2.2.2.2.2.1, .bool x21.2.2.2.2.2.2.2.1, .bool x21.2.2.2.2.2.2.2.2.1] fun w22 =>
  LoadA w22 ⟨b3, 0, none⟩ [.int .i64, .int .i64, .int .i64, .int .i64, .bool, .bool, .bool, .bool, .bool] fun (x23 : Int × Int × Int × Int × Bool × Bool × Bool × Bool × Bool × Unit) =>
  K ((x23.1, x23.2.1, x23.2.2.1, x23.2.2.2.1, x23.2.2.2.2.1, x23.2.2.2.2.2.1, x23.2.2.2.2.2.2.1, x23.2.2.2.2.2.2.2.1, x23.2.2.2.2.2.2.2.2.1, ()), ()) w22)
  (cond (p1 == 4)
  (StoreV w4 ⟨b1, 6, none⟩ [.bool true] fun w24 =>
  LoadA w24 ⟨b1, 0, none⟩ [.int .i64, .int .i64, .int .i64, .int .i64, .bool, .bool, .bool, .bool, .bool] fun (x25 : Int × Int × Int × Int × Bool × Bool × Bool × Bool × Bool × Unit) =>
  StoreV w24 ⟨b3, 0, none⟩ [.int .i64 x25.1, .int .i64 x25.2.1, .int .i64 x25.2.2.1, .int .i64 x25.2.2.2.1, .bool x25.2.2.2.2.1, .bool x25.2.2.2.2.2.1, .bool x25.2.2.2.2.2.2.1, .bool x25.2.2.2.2.2.2.2.1, .bool x25.2.2.2.2.2.2.2.2.1] fun w26 =>
  LoadA w26 ⟨b3, 0, none⟩ [.int .i64, .int .i64, .int .i64, .int .i64, .bool, .bool, .bool, .bool, .bool] fun (x27 : Int × Int × Int × Int × Bool × Bool × Bool × Bool × Bool × Unit) =>
  K ((x27.1, x27.2.1, x27.2.2.1, x27.2.2.2.1, x27.2.2.2.2.1, x27.2.2.2.2.2.1, x27.2.2.2.2.2.2.1, x27.2.2.2.2.2.2.2.1, x27.2.2.2.2.2.2.2.2.1, ()), ()) w26)
  (cond (p1 == 5)
  (StoreV w4 ⟨b1, 6, none⟩ [.bool true] fun w28 =>
  StoreV w28 ⟨b1, 5, none⟩ [.bool false] fun w29 =>
  StoreV w29 ⟨b1, 4, none⟩ [.bool false] fun w30 =>
  StoreV w30 ⟨b1, 7, none⟩ [.bool (p2 == 1)] fun w31 =>
  StoreV w31 ⟨b1, 8, none⟩ [.bool (p2 != 1)] fun w32 =>
  LoadA w32 ⟨b1, 0, none⟩ [.int .i64, .int .i64, .int .i64, .int .i64, .bool, .bool, .bool, .bool, .bool] fun (x33 : Int × Int × Int × Int × Bool × Bool × Bool × Bool × Bool × Unit) =>
  StoreV w32 ⟨b3, 0, none⟩ [.int .i64 x33.1, .int .i64 x33.2.1, .int .i64 x33.2.2.1, .int .i64 x33.2.2.2.1, .bool x33.2.2.2.2.1, .bool x33.2.2.2.2.2.1, .bool x33.2.2.2.2.2.2.1, .bool x33.2.2.2.2.2.2.2.1, .bool x33.2.2.2.2.2.2.2.2.1] fun w34 =>
  LoadA w34 ⟨b3, 0, none⟩ [.int .i64, .int .i64, .int .i64, .int .i64, .bool, .bool, .bool, .bool, .bool] fun (x35 : Int × Int × Int × Int × Bool × Bool × Bool × Bool × Bool × Unit) =>
  K ((x35.1, x35.2.1, x35.2.2.1, x35.2.2.2.1, x35.2.2.2.2.1, x35.2.2.2.2.2.1, x35.2.2.2.2.2.2.1, x35.2.2.2.2.2.2.2.1, x35.2.2.2.2.2.2.2.2.1, ()), ()) w34)
  (cond (p1 == 6)
  (LoadS w4 ⟨b1, 1, none⟩ (.int .i64) fun (x36 : Int) =>
  Rng .i64 (x36 + 1) ∧
  StoreV w4 ⟨b1, 1, none⟩ [.int .i64 (x36 + 1)] fun w37 =>
  LoadA w37 ⟨b1, 0, none⟩ [.int .i64, .int .i64, .int .i64, .int .i64, .bool, .bool, .bool, .bool, .bool] fun (x38 : Int × Int × Int × Int × Bool × Bool × Bool × Bool × Bool × Unit) =>
  StoreV w37 ⟨b3, 0, none⟩ [.int .i64 x38.1, .int .i64 x38.2.1, .int .i64 x38.2.2.1, .int .i64 x38.2.2.2.1, .bool x38.2.2.2.2.1, .bool x38.2.2.2.2.2.1, .bool x38.2.2.2.2.2.2.1, .bool x38.2.2.2.2.2.2.2.1, .bool x38.2.2.2.2.2.2.2.2.1] fun w39 =>
  LoadA w39 ⟨b3, 0, none⟩ [.int .i64, .int .i64, .int .i64, .int .i64, .bool, .bool, .bool, .bool, .bool] fun (x40 : Int × Int × Int × Int × Bool × Bool × Bool × Bool × Bool × Unit) =>
  K ((x40.1, x40.2.1, x40.2.2.1, x40.2.2.2.1, x40.2.2.2.2.1, x40.2.2.2.2.2.1, x40.2.2.2.2.2.2.1, x40.2.2.2.2.2.2.2.1, x40.2.2.2.2.2.2.2.2.1, ()), ()) w39)
  (cond (p1 == 7)
  (LoadS w4 ⟨b1, 2, none⟩ (.int .i64) fun (x41 : Int) =>
  Rng .i64 ((0 : Int) - x41) ∧
  cond (decide (p2 < ((0 : Int) - x41)))
  (StoreV w4 ⟨b1, 2, none⟩ [.int .i64 0] fun w42 =>
  LoadA w42 ⟨b1, 0, none⟩ [.int .i64, .int .i64, .int .i64, .int .i64, .bool, .bool, .bool, .bool, .bool] fun (x43 : Int × Int × Int × Int × Bool × Bool × Bool × Bool × Bool × Unit) =>
  StoreV w42 ⟨b3, 0, none⟩ [.int .i64 x43.1, .int .i64 x43.2.1, .int .i64 x43.2.2.1, .int .i64 x43.2.2.2.1, .bool x43.2.2.2.2.1, .bool x43.2.2.2.2.2.1, .bool x43.2.2.2.2.2.2.1, .bool x43.2.2.2.2.2.2.2.1, .bool x43.2.2.2.2.2.2.2.2.1] fun w44 =>
  LoadA w44 ⟨b3, 0, none⟩ [.int .i64, .int .i64, .int .i64, .int .i64, .bool, .bool, .bool, .bool, .bool] fun (x45 : Int × Int × Int × Int × Bool × Bool × Bool × Bool × Bool × Unit) =>
  K ((x45.1, x45.2.1, x45.2.2.1, x45.2.2.2.1, x45.2.2.2.2.1, x45.2.2.2.2.2.1, x45.2.2.2.2.2.2.1, x45.2.2.2.2.2.2.2.1, x45.2.2.2.2.2.2.2.2.1, ()), ()) w44)
  (LoadS w4 ⟨b1, 2, none⟩ (.int .i64) fun (x46 : Int) =>
  Rng .i64 (x46 + p2) ∧
  StoreV w4 ⟨b1, 2, none⟩ [.int .i64 (x46 + p2)] fun w47 =>
  LoadA w47 ⟨b1, 0, none⟩ [.int .i64, .int .i64, .int .i64, .int .i64, .bool, .bool, .bool, .bool, .bool] fun (x48 : Int × Int × Int × Int × Bool × Bool × Bool × Bool × Bool × Unit) =>
  StoreV w47 ⟨b3, 0, none⟩ [.int .i64 x48.1, .int .i64 x48.2.1, .int .i64 x48.2.2.1, .int .i64 x48.2.2.2.1, .bool x48.2.2.2.2.1, .bool x48.2.2.2.2.2.1, .bool x48.2.2.2.2.2.2.1, .bool x48.2.2.2.2.2.2.2.1, .bool x48.2.2.2.2.2.2.2.2.1] fun w49 =>
  LoadA w49 ⟨b3, 0, none⟩ [.int .i64, .int .i64, .int .i64, .int .i64, .bool, .bool, .bool, .bool, .bool] fun (x50 : Int × Int × Int × Int × Bool × Bool × Bool × Bool × Bool × Unit) =>
  K ((x50.1, x50.2.1, x50.2.2.1, x50.2.2.2.1, x50.2.2.2.2.1, x50.2.2.2.2.2.1, x50.2.2.2.2.2.2.1, x50.2.2.2.2.2.2.2.1, x50.2.2.2.2.2.2.2.2.1, ()), ()) w49))
  (LoadA w4 ⟨b1, 0, none⟩ [.int .i64, .int .i64, .int .i64, .int .i64, .bool, .bool, .bool, .bool, .bool] fun (x51 : Int × Int × Int × Int × Bool × Bool × Bool × Bool × Bool × Unit) =>
  StoreV w4 ⟨b3, 0, none⟩ [.int .i64 x51.1, .int .i64 x51.2.1, .int .i64 x51.2.2.1, .int .i64 x51.2.2.2.1, .bool x51.2.2.2.2.1, .bool x51.2.2.2.2.2.1, .bool x51.2.2.2.2.2.2.1, .bool x51.2.2.2.2.2.2.2.1, .bool x51.2.2.2.2.2.2.2.2.1] fun w52 =>
  LoadA w52 ⟨b3, 0, none⟩ [.int .i64, .int .i64, .int .i64, .int .i64, .bool, .bool, .bool, .bool, .bool] fun (x53 : Int × Int × Int × Int × Bool × Bool × Bool × Bool × Bool × Unit) =>
  K ((x53.1, x53.2.1, x53.2.2.1, x53.2.2.2.1, x53.2.2.2.2.1, x53.2.2.2.2.2.1, x53.2.2.2.2.2.2.1, x53.2.2.2.2.2.2.2.1, x53.2.2.2.2.2.2.2.2.1, ()), ()) w52)))))))
theorem ref21_Do.vc (p0_0 : Int) (p0_1 : Int) (p0_2 : Int) (p0_3 : Int) (p0_4 : Bool) (p0_5 : Bool) (p0_6 : Bool) (p0_7 : Bool) (p0_8 : Bool) (p1 : Int) (p2 : Int) (w : World) (K : (Int × Int × Int × Int × Bool × Bool × Bool × Bool × Bool × Unit) × Unit → World → Prop) (h : ref21_Do.P p0_0 p0_1 p0_2 p0_3 p0_4 p0_5 p0_6 p0_7 p0_8 p1 p2 w K) : CallV Try.prog 58 #[.agg #[.int .i64 p0_0, .int .i64 p0_1, .int .i64 p0_2, .int .i64 p0_3, .bool p0_4, .bool p0_5, .bool p0_6, .bool p0_7, .bool p0_8], .int .i64 p1, .int .i64 p2] w [.agg [.int .i64, .int .i64, .int .i64, .int .i64, .bool, .bool, .bool, .bool, .bool]] K := by
  have e : vcFun Try.prog okf false Try.f58 ref21_Do.A #[.agg #[.int .i64 p0_0, .int .i64 p0_1, .int .i64 p0_2, .int .i64 p0_3, .bool p0_4, .bool p0_5, .bool p0_6, .bool p0_7, .bool p0_8], .int .i64 p1, .int .i64 p2] w [.agg [.int .i64, .int .i64, .int .i64, .int .i64, .bool, .bool, .bool, .bool, .bool]] K = ref21_Do.P p0_0 p0_1 p0_2 p0_3 p0_4 p0_5 p0_6 p0_7 p0_8 p1 p2 w K := by kernel_rfl
  exact vcFun.calls okf_ok follows Try.func58 (e.symm ▸ h)

/-! ### nepenthe/nepentheref21.Pick: function 19 -/
-- loop 0 carries 3: .one (.int .i64), 4: .one (.int .i64)
def ref21_Pick.A : Ann := .two .no (.two .no (.two (.two .no (.one (.loop [3, 4, 8, 9, 10, 11, 12, 13, 14, 15, 16, 17, 18, 19, 20, 21, 22, 23, 24, 25, 26, 27, 28, 29, 30, 31, 32, 33, 34, 35, 36, 37, 38, 39, 40, 41, 42, 43] [(3, .one (.int .i64)), (4, .one (.int .i64))] (.two .no (.two (.one (.two (.draw (.take 0 (.take 1 (.take 2 (.take 3 (.take 4 (.take 5 (.take 6 (.take 7 (.take 8 (.take 9 (.take 10 (.take 11 (.take 12 (.take 13 (.take 14 (.take 15 (.take 16 (.take 17 (.take 18 (.take 19 (.take 20 (.take 21 (.take 22 (.take 23 (.take 24 (.take 25 (.take 26 (.take 27 (.take 28 (.take 29 (.take 30 (.done))))))))))))))))))))))))))))))))) .no)) .no))))) .no))
def ref21_Pick.P (a0 : Option Addr) (n0 c0 : Nat) (w : World) (K : Int × Unit → World → Prop) : Prop :=
  Rng .i64 (((n0 : Nat) : Int) - 1) ∧
  LoopV [.one (.int .i64), .one (.int .i64)] (((-1) : Int), ((n0 : Nat) : Int) - 1, ()) w fun (z1 : Int × Int × Unit) w2 (K3 : Int × Int × Unit → World → Prop) =>
  cond (decide (z1.2.1 ≥ 0))
  (DrawV fun D4 =>
  (0 ≤ z1.2.1 ∧ z1.2.1 < ((n0 : Nat) : Int)) ∧ ∃ q5 : Addr, a0 = some q5 ∧
  (D4 ((q5.add (z1.2.1.toNat * 9)).add 4).block ∧ LoadS w2.drew ((q5.add (z1.2.1.toNat * 9)).add 4) .bool fun (x6 : Bool) =>
  cond (!x6)
  ((0 ≤ z1.2.1 ∧ z1.2.1 < ((n0 : Nat) : Int)) ∧ ∃ q7 : Addr, a0 = some q7 ∧
  (D4 ((q7.add (z1.2.1.toNat * 9)).add 6).block ∧ LoadS w2.drew ((q7.add (z1.2.1.toNat * 9)).add 6) .bool fun (x8 : Bool) =>
  cond (!x8)
  (cond (decide (z1.1 < 0))
  (Rng .i64 (z1.2.1 - 1) ∧
  K3 (z1.2.1, z1.2.1 - 1, ()) w2.drew)
  ((0 ≤ z1.2.1 ∧ z1.2.1 < ((n0 : Nat) : Int)) ∧ ∃ q9 : Addr, a0 = some q9 ∧
  (D4 ((q9.add (z1.2.1.toNat * 9)).add 3).block ∧ LoadS w2.drew ((q9.add (z1.2.1.toNat * 9)).add 3) (.int .i64) fun (x10 : Int) =>
  (0 ≤ z1.1 ∧ z1.1 < ((n0 : Nat) : Int)) ∧ ∃ q11 : Addr, a0 = some q11 ∧
  (D4 ((q11.add (z1.1.toNat * 9)).add 3).block ∧ LoadS w2.drew ((q11.add (z1.1.toNat * 9)).add 3) (.int .i64) fun (x12 : Int) =>
  cond (decide (x10 ≤ x12))
  (Rng .i64 (z1.2.1 - 1) ∧
  K3 (z1.2.1, z1.2.1 - 1, ()) w2.drew)
  (Rng .i64 (z1.2.1 - 1) ∧
  K3 (z1.1, z1.2.1 - 1, ()) w2.drew)))))
  (Rng .i64 (z1.2.1 - 1) ∧
  K3 (z1.1, z1.2.1 - 1, ()) w2.drew)))
  (Rng .i64 (z1.2.1 - 1) ∧
  K3 (z1.1, z1.2.1 - 1, ()) w2.drew)))
  (K (z1.1, ()) w2)
theorem ref21_Pick.vc (a0 : Option Addr) (n0 c0 : Nat) (w : World) (K : Int × Unit → World → Prop) (h : ref21_Pick.P a0 n0 c0 w K) : CallV Try.prog 19 #[.slice a0 n0 c0] w [.one (.int .i64)] K := by
  have e : vcFun Try.prog okf false Try.f19 ref21_Pick.A #[.slice a0 n0 c0] w [.one (.int .i64)] K = ref21_Pick.P a0 n0 c0 w K := by kernel_rfl
  exact vcFun.calls okf_ok follows Try.func19 (e.symm ▸ h)

/-! ### nepenthe/nepentheref21.Victim: function 20 -/
-- loop 0 carries 7: .one (.int .i64), 8: .one (.int .i64)
def ref21_Victim.A : Ann := .two .no (.two .no (.two (.two .no (.one (.loop [7, 8, 12, 13, 14, 15, 16, 17, 18, 19, 20, 21, 22, 23, 24, 25, 26, 27, 28, 29, 30, 31, 32, 33, 34, 35, 36, 37, 38, 39, 40, 41, 42, 43, 44, 45, 46, 47, 48, 49, 50, 51, 52, 53, 54, 55, 56, 57, 58, 59, 60] [(7, .one (.int .i64)), (8, .one (.int .i64))] (.two .no (.two (.one (.two (.draw (.take 0 (.take 1 (.take 2 (.take 3 (.take 4 (.take 5 (.take 6 (.take 7 (.take 8 (.take 9 (.take 10 (.take 11 (.take 12 (.take 13 (.take 14 (.take 15 (.take 16 (.take 17 (.take 18 (.take 19 (.take 20 (.take 21 (.take 22 (.take 23 (.take 24 (.take 25 (.take 26 (.take 27 (.take 28 (.take 29 (.take 30 (.take 31 (.take 32 (.take 33 (.take 34 (.take 35 (.take 36 (.take 37 (.take 38 (.take 39 (.take 40 (.take 41 (.take 42 (.take 43 (.done)))))))))))))))))))))))))))))))))))))))))))))) .no)) .no))))) .no))
def ref21_Victim.P (a0 : Option Addr) (n0 c0 : Nat) (p1 : Int) (p2 : Int) (w : World) (K : Int × Unit → World → Prop) : Prop :=
  Rng .i64 (((n0 : Nat) : Int) - 1) ∧
  LoopV [.one (.int .i64), .one (.int .i64)] (((-1) : Int), ((n0 : Nat) : Int) - 1, ()) w fun (z1 : Int × Int × Unit) w2 (K3 : Int × Int × Unit → World → Prop) =>
  cond (decide (z1.2.1 ≥ 0))
  (DrawV fun D4 =>
  cond (z1.2.1 != p2)
  ((0 ≤ z1.2.1 ∧ z1.2.1 < ((n0 : Nat) : Int)) ∧ ∃ q5 : Addr, a0 = some q5 ∧
  (D4 ((q5.add (z1.2.1.toNat * 9)).add 4).block ∧ LoadS w2.drew ((q5.add (z1.2.1.toNat * 9)).add 4) .bool fun (x6 : Bool) =>
  cond x6
  ((0 ≤ z1.2.1 ∧ z1.2.1 < ((n0 : Nat) : Int)) ∧ ∃ q7 : Addr, a0 = some q7 ∧
  (D4 ((q7.add (z1.2.1.toNat * 9)).add 6).block ∧ LoadS w2.drew ((q7.add (z1.2.1.toNat * 9)).add 6) .bool fun (x8 : Bool) =>
  cond (!x8)
  ((0 ≤ z1.2.1 ∧ z1.2.1 < ((n0 : Nat) : Int)) ∧ ∃ q9 : Addr, a0 = some q9 ∧
  (D4 (q9.add (z1.2.1.toNat * 9)).block ∧ LoadS w2.drew (q9.add (z1.2.1.toNat * 9)) (.int .i64) fun (x10 : Int) =>
  cond (x10 == p1)
  (cond (decide (z1.1 < 0))
  (Rng .i64 (z1.2.1 - 1) ∧
  K3 (z1.2.1, z1.2.1 - 1, ()) w2.drew)
  ((0 ≤ z1.2.1 ∧ z1.2.1 < ((n0 : Nat) : Int)) ∧ ∃ q11 : Addr, a0 = some q11 ∧
  (D4 ((q11.add (z1.2.1.toNat * 9)).add 2).block ∧ LoadS w2.drew ((q11.add (z1.2.1.toNat * 9)).add 2) (.int .i64) fun (x12 : Int) =>
  (0 ≤ z1.1 ∧ z1.1 < ((n0 : Nat) : Int)) ∧ ∃ q13 : Addr, a0 = some q13 ∧
  (D4 ((q13.add (z1.1.toNat * 9)).add 2).block ∧ LoadS w2.drew ((q13.add (z1.1.toNat * 9)).add 2) (.int .i64) fun (x14 : Int) =>
  cond (decide (x12 ≤ x14))
  (Rng .i64 (z1.2.1 - 1) ∧
  K3 (z1.2.1, z1.2.1 - 1, ()) w2.drew)
  (Rng .i64 (z1.2.1 - 1) ∧
  K3 (z1.1, z1.2.1 - 1, ()) w2.drew)))))
  (Rng .i64 (z1.2.1 - 1) ∧
  K3 (z1.1, z1.2.1 - 1, ()) w2.drew)))
  (Rng .i64 (z1.2.1 - 1) ∧
  K3 (z1.1, z1.2.1 - 1, ()) w2.drew)))
  (Rng .i64 (z1.2.1 - 1) ∧
  K3 (z1.1, z1.2.1 - 1, ()) w2.drew)))
  (Rng .i64 (z1.2.1 - 1) ∧
  K3 (z1.1, z1.2.1 - 1, ()) w2.drew))
  (K (z1.1, ()) w2)
theorem ref21_Victim.vc (a0 : Option Addr) (n0 c0 : Nat) (p1 : Int) (p2 : Int) (w : World) (K : Int × Unit → World → Prop) (h : ref21_Victim.P a0 n0 c0 p1 p2 w K) : CallV Try.prog 20 #[.slice a0 n0 c0, .int .i64 p1, .int .i64 p2] w [.one (.int .i64)] K := by
  have e : vcFun Try.prog okf false Try.f20 ref21_Victim.A #[.slice a0 n0 c0, .int .i64 p1, .int .i64 p2] w [.one (.int .i64)] K = ref21_Victim.P a0 n0 c0 p1 p2 w K := by kernel_rfl
  exact vcFun.calls okf_ok follows Try.func20 (e.symm ▸ h)

/-! ### nepenthe/nepentheref21.Held: function 22 -/
-- loop 0 carries 5: .one (.int .i64), 6: .one (.int .i64)
def ref21_Held.A : Ann := .two .no (.two .no (.two (.two .no (.one (.loop [5, 6, 7, 8, 9, 10, 11, 12, 13, 14, 15, 16, 17, 18, 19, 20, 21, 22, 23, 24, 25, 26, 27, 28, 29, 30, 31, 32, 33, 34, 35, 36] [(5, .one (.int .i64)), (6, .one (.int .i64))] .no))) .no))
def ref21_Held.P (a0 : Option Addr) (n0 c0 : Nat) (p1 : Int) (w : World) (K : Int × Unit → World → Prop) : Prop :=
  LoopV [.one (.int .i64), .one (.int .i64)] ((0 : Int), (0 : Int), ()) w fun (z1 : Int × Int × Unit) w2 (K3 : Int × Int × Unit → World → Prop) =>
  cond (decide (z1.2.1 < ((n0 : Nat) : Int)))
  ((0 ≤ z1.2.1 ∧ z1.2.1 < ((n0 : Nat) : Int)) ∧ ∃ q4 : Addr, a0 = some q4 ∧
  LoadS w2 ((q4.add (z1.2.1.toNat * 9)).add 4) .bool fun (x5 : Bool) =>
  cond x5
  ((0 ≤ z1.2.1 ∧ z1.2.1 < ((n0 : Nat) : Int)) ∧ ∃ q6 : Addr, a0 = some q6 ∧
  LoadS w2 ((q6.add (z1.2.1.toNat * 9)).add 6) .bool fun (x7 : Bool) =>
  cond (!x7)
  ((0 ≤ z1.2.1 ∧ z1.2.1 < ((n0 : Nat) : Int)) ∧ ∃ q8 : Addr, a0 = some q8 ∧
  LoadS w2 (q8.add (z1.2.1.toNat * 9)) (.int .i64) fun (x9 : Int) =>
  cond (x9 == p1)
  (Rng .i64 (z1.1 + 1) ∧
  Rng .i64 (z1.2.1 + 1) ∧
  K3 (z1.1 + 1, z1.2.1 + 1, ()) w2)
  (Rng .i64 (z1.2.1 + 1) ∧
  K3 (z1.1, z1.2.1 + 1, ()) w2))
  (Rng .i64 (z1.2.1 + 1) ∧
  K3 (z1.1, z1.2.1 + 1, ()) w2))
  (Rng .i64 (z1.2.1 + 1) ∧
  K3 (z1.1, z1.2.1 + 1, ()) w2))
  (K (z1.1, ()) w2)
theorem ref21_Held.vc (a0 : Option Addr) (n0 c0 : Nat) (p1 : Int) (w : World) (K : Int × Unit → World → Prop) (h : ref21_Held.P a0 n0 c0 p1 w K) : CallV Try.prog 22 #[.slice a0 n0 c0, .int .i64 p1] w [.one (.int .i64)] K := by
  have e : vcFun Try.prog okf false Try.f22 ref21_Held.A #[.slice a0 n0 c0, .int .i64 p1] w [.one (.int .i64)] K = ref21_Held.P a0 n0 c0 p1 w K := by kernel_rfl
  exact vcFun.calls okf_ok follows Try.func22 (e.symm ▸ h)

/-! ### nepenthe/nepentheref21.Bads: function 24 -/
-- loop 0 carries 3: .one (.int .i64), 4: .one (.int .i64)
def ref21_Bads.A : Ann := .two .no (.two .no (.two (.two .no (.one (.loop [3, 4, 5, 6, 7, 8, 9, 10, 11, 12, 13, 14, 15, 16, 17] [(3, .one (.int .i64)), (4, .one (.int .i64))] .no))) .no))
def ref21_Bads.P (a0 : Option Addr) (n0 c0 : Nat) (w : World) (K : Int × Unit → World → Prop) : Prop :=
  LoopV [.one (.int .i64), .one (.int .i64)] ((0 : Int), (0 : Int), ()) w fun (z1 : Int × Int × Unit) w2 (K3 : Int × Int × Unit → World → Prop) =>
  cond (decide (z1.2.1 < ((n0 : Nat) : Int)))
  ((0 ≤ z1.2.1 ∧ z1.2.1 < ((n0 : Nat) : Int)) ∧ ∃ q4 : Addr, a0 = some q4 ∧
  LoadS w2 ((q4.add (z1.2.1.toNat * 9)).add 6) .bool fun (x5 : Bool) =>
  cond x5
  (Rng .i64 (z1.1 + 1) ∧
  Rng .i64 (z1.2.1 + 1) ∧
  K3 (z1.1 + 1, z1.2.1 + 1, ()) w2)
  (Rng .i64 (z1.2.1 + 1) ∧
  K3 (z1.1, z1.2.1 + 1, ()) w2))
  (K (z1.1, ()) w2)
theorem ref21_Bads.vc (a0 : Option Addr) (n0 c0 : Nat) (w : World) (K : Int × Unit → World → Prop) (h : ref21_Bads.P a0 n0 c0 w K) : CallV Try.prog 24 #[.slice a0 n0 c0] w [.one (.int .i64)] K := by
  have e : vcFun Try.prog okf false Try.f24 ref21_Bads.A #[.slice a0 n0 c0] w [.one (.int .i64)] K = ref21_Bads.P a0 n0 c0 w K := by kernel_rfl
  exact vcFun.calls okf_ok follows Try.func24 (e.symm ▸ h)

/-! ### nepenthe/nepentheref21.Spread: function 18 -/
-- loop 0 carries 4: .one (.int .i64)
def ref21_Spread.A : Ann := .two .no (.two .no (.two (.two .no (.one (.loop [4, 9, 10, 11, 12, 13, 14, 15, 16, 17, 18, 19, 20, 21, 22, 23, 24, 25, 26, 27, 28, 29, 30, 31, 32, 33, 34, 35, 36, 37, 38, 39, 40, 41, 42, 43, 44, 45, 46, 47, 48, 49, 50, 51, 52, 53, 54, 55] [(4, .one (.int .i64))] (.two .no (.two (.one (.two .no (.join [18, 19, 20, 21, 22, 23, 24, 25, 26, 27, 28, 29, 30, 31, 32, 33, 34, 35, 36] [] (.two (.draw (.take 0 (.take 1 (.take 2 (.take 3 (.take 4 (.take 5 (.take 6 (.take 7 (.take 8 (.take 9 (.take 10 (.take 11 (.take 12 (.take 13 (.take 14 (.take 15 (.take 16 (.done))))))))))))))))))) .no) (.two (.draw (.take 0 (.take 1 (.take 2 (.take 3 (.take 4 (.take 5 (.take 6 (.take 7 (.take 8 (.take 9 (.take 10 (.take 11 (.take 12 (.take 13 (.take 14 (.take 15 (.take 16 (.done))))))))))))))))))) .no)))) .no))))) .no))
def ref21_Spread.P (a0 : Option Addr) (n0 c0 : Nat) (w : World) (K : (Int × Int × Unit) × Unit → World → Prop) : Prop :=
  NewV #[.int .i64 0, .int .i64 0] 23 w fun b1 w2 =>
  NewV #[.int .i64 0, .int .i64 0] 23 w2 fun b3 w4 =>
  StoreV w4 ⟨b3, 0, none⟩ [.int .i64 (-1), .int .i64 (-1)] fun w5 =>
  Rng .i64 (((n0 : Nat) : Int) - 1) ∧
  LoopV [.one (.int .i64)] (((n0 : Nat) : Int) - 1, ()) w5 fun (z6 : Int × Unit) w7 (K8 : Int × Unit → World → Prop) =>
  cond (decide (z6.1 ≥ 0))
  ((0 ≤ z6.1 ∧ z6.1 < ((n0 : Nat) : Int)) ∧ ∃ q9 : Addr, a0 = some q9 ∧
  LoadS w7 ((q9.add (z6.1.toNat * 9)).add 6) .bool fun (x10 : Bool) =>
  cond x10
  (Rng .i64 (z6.1 - 1) ∧
  K8 (z6.1 - 1, ()) w7)
  (JoinV [] (fun (v12 : Unit) w13 =>
  DrawV fun D14 =>
  (0 ≤ (1 : Int) ∧ 1 < (2 : Int)) ∧
  (D14 b3 ∧ LoadS w13.drew ⟨b3, 1, none⟩ (.int .i64) fun (x15 : Int) =>
  cond (decide (x15 < 0))
  ((0 ≤ (1 : Int) ∧ 1 < (2 : Int)) ∧
  StoreV w13.drew ⟨b3, 1, none⟩ [.int .i64 z6.1] fun w16 =>
  Rng .i64 (z6.1 - 1) ∧
  K8 (z6.1 - 1, ()) w16)
  ((0 ≤ z6.1 ∧ z6.1 < ((n0 : Nat) : Int)) ∧ ∃ q17 : Addr, a0 = some q17 ∧
  (D14 ((q17.add (z6.1.toNat * 9)).add 3).block ∧ LoadS w13.drew ((q17.add (z6.1.toNat * 9)).add 3) (.int .i64) fun (x18 : Int) =>
  (0 ≤ (1 : Int) ∧ 1 < (2 : Int)) ∧
  (D14 b3 ∧ LoadS w13.drew ⟨b3, 1, none⟩ (.int .i64) fun (x19 : Int) =>
  (0 ≤ x19 ∧ x19 < ((n0 : Nat) : Int)) ∧ ∃ q20 : Addr, a0 = some q20 ∧
  (D14 ((q20.add (x19.toNat * 9)).add 3).block ∧ LoadS w13.drew ((q20.add (x19.toNat * 9)).add 3) (.int .i64) fun (x21 : Int) =>
  cond (decide (x18 ≥ x21))
  ((0 ≤ (1 : Int) ∧ 1 < (2 : Int)) ∧
  StoreV w13.drew ⟨b3, 1, none⟩ [.int .i64 z6.1] fun w22 =>
  Rng .i64 (z6.1 - 1) ∧
  K8 (z6.1 - 1, ()) w22)
  (Rng .i64 (z6.1 - 1) ∧
  K8 (z6.1 - 1, ()) w13.drew))))))) fun (J11 : Unit → World → Prop) =>
  DrawV fun D23 =>
  (0 ≤ (0 : Int) ∧ 0 < (2 : Int)) ∧
  (D23 b3 ∧ LoadS w7.drew ⟨b3, 0, none⟩ (.int .i64) fun (x24 : Int) =>
  cond (decide (x24 < 0))
  ((0 ≤ (0 : Int) ∧ 0 < (2 : Int)) ∧
  StoreV w7.drew ⟨b3, 0, none⟩ [.int .i64 z6.1] fun w25 =>
  J11 (()) w25)
  ((0 ≤ z6.1 ∧ z6.1 < ((n0 : Nat) : Int)) ∧ ∃ q26 : Addr, a0 = some q26 ∧
  (D23 ((q26.add (z6.1.toNat * 9)).add 3).block ∧ LoadS w7.drew ((q26.add (z6.1.toNat * 9)).add 3) (.int .i64) fun (x27 : Int) =>
  (0 ≤ (0 : Int) ∧ 0 < (2 : Int)) ∧
  (D23 b3 ∧ LoadS w7.drew ⟨b3, 0, none⟩ (.int .i64) fun (x28 : Int) =>
  (0 ≤ x28 ∧ x28 < ((n0 : Nat) : Int)) ∧ ∃ q29 : Addr, a0 = some q29 ∧
  (D23 ((q29.add (x28.toNat * 9)).add 3).block ∧ LoadS w7.drew ((q29.add (x28.toNat * 9)).add 3) (.int .i64) fun (x30 : Int) =>
  cond (decide (x27 ≤ x30))
  ((0 ≤ (0 : Int) ∧ 0 < (2 : Int)) ∧
  StoreV w7.drew ⟨b3, 0, none⟩ [.int .i64 z6.1] fun w31 =>
  J11 (()) w31)
  (J11 (()) w7.drew))))))))
  (LoadA w7 ⟨b3, 0, none⟩ [.int .i64, .int .i64] fun (x32 : Int × Int × Unit) =>
  StoreV w7 ⟨b1, 0, none⟩ [.int .i64 x32.1, .int .i64 x32.2.1] fun w33 =>
  LoadA w33 ⟨b1, 0, none⟩ [.int .i64, .int .i64] fun (x34 : Int × Int × Unit) =>
  K ((x34.1, x34.2.1, ()), ()) w33)
theorem ref21_Spread.vc (a0 : Option Addr) (n0 c0 : Nat) (w : World) (K : (Int × Int × Unit) × Unit → World → Prop) (h : ref21_Spread.P a0 n0 c0 w K) : CallV Try.prog 18 #[.slice a0 n0 c0] w [.agg [.int .i64, .int .i64]] K := by
  have e : vcFun Try.prog okf false Try.f18 ref21_Spread.A #[.slice a0 n0 c0] w [.agg [.int .i64, .int .i64]] K = ref21_Spread.P a0 n0 c0 w K := by kernel_rfl
  exact vcFun.calls okf_ok follows Try.func18 (e.symm ▸ h)

/-! ### nepenthe/nepentheref21.Leaks: function 26 -/
-- loop 0 carries 5: .one (.int .i64)
def ref21_Leaks.A : Ann := .two .no (.two (.two .no (.one (.loop [4, 5, 6, 7, 8, 9, 10, 11, 12, 13, 14, 15, 16, 17, 18, 19, 20, 21, 22, 23, 24, 25, 26, 27, 28, 29, 30, 31, 32, 33] [(5, .one (.int .i64))] .no))) .no)
def ref21_Leaks.P (a0 : Option Addr) (n0 c0 : Nat) (p1 : Int) (w : World) (K : Bool × Unit → World → Prop) : Prop :=
  LoopV [.one (.int .i64)] ((0 : Int), ()) w fun (z1 : Int × Unit) w2 (K3 : Int × Unit → World → Prop) =>
  cond (decide (z1.1 < ((n0 : Nat) : Int)))
  ((0 ≤ z1.1 ∧ z1.1 < ((n0 : Nat) : Int)) ∧ ∃ q4 : Addr, a0 = some q4 ∧
  LoadS w2 ((q4.add (z1.1.toNat * 9)).add 8) .bool fun (x5 : Bool) =>
  cond x5
  ((0 ≤ z1.1 ∧ z1.1 < ((n0 : Nat) : Int)) ∧ ∃ q6 : Addr, a0 = some q6 ∧
  LoadS w2 (q6.add (z1.1.toNat * 9)) (.int .i64) fun (x7 : Int) =>
  cond (x7 == p1)
  (K (true, ()) w2)
  ((0 ≤ z1.1 ∧ z1.1 < ((n0 : Nat) : Int)) ∧ ∃ q8 : Addr, a0 = some q8 ∧
  LoadS w2 (q8.add (z1.1.toNat * 9)) (.int .i64) fun (x9 : Int) =>
  cond (x9 == (-1))
  (K (true, ()) w2)
  (Rng .i64 (z1.1 + 1) ∧
  K3 (z1.1 + 1, ()) w2)))
  (Rng .i64 (z1.1 + 1) ∧
  K3 (z1.1 + 1, ()) w2))
  (K (false, ()) w2)
theorem ref21_Leaks.vc (a0 : Option Addr) (n0 c0 : Nat) (p1 : Int) (w : World) (K : Bool × Unit → World → Prop) (h : ref21_Leaks.P a0 n0 c0 p1 w K) : CallV Try.prog 26 #[.slice a0 n0 c0, .int .i64 p1] w [.one .bool] K := by
  have e : vcFun Try.prog okf false Try.f26 ref21_Leaks.A #[.slice a0 n0 c0, .int .i64 p1] w [.one .bool] K = ref21_Leaks.P a0 n0 c0 p1 w K := by kernel_rfl
  exact vcFun.calls okf_ok follows Try.func26 (e.symm ▸ h)

/-! ### nepenthe/nepenthelaw21.right: function 12 -/
def law21_right.A : Ann := .no
def law21_right.P (p0_0 : Int) (p0_1 : Int) (p0_2 : Int) (w : World) (K : Bool × Unit → World → Prop) : Prop :=
  NewV #[.int .i64 p0_0, .int .i64 p0_1, .int .i64 p0_2] 32 w fun b1 w2 =>
  LoadS w2 ⟨b1, 0, none⟩ (.int .i64) fun (x3 : Int) =>
  cond (decide (x3 ≥ 1))
  (LoadS w2 ⟨b1, 0, none⟩ (.int .i64) fun (x4 : Int) =>
  cond (decide (x4 ≤ 7))
  (LoadS w2 ⟨b1, 0, none⟩ (.int .i64) fun (x5 : Int) =>
  cond (x5 != 7)
  (K (true, ()) w2)
  (LoadS w2 ⟨b1, 2, none⟩ (.int .i64) fun (x6 : Int) =>
  K (decide (x6 ≤ 1000000), ()) w2))
  (K (false, ()) w2))
  (K (false, ()) w2)
theorem law21_right.vc (p0_0 : Int) (p0_1 : Int) (p0_2 : Int) (w : World) (K : Bool × Unit → World → Prop) (h : law21_right.P p0_0 p0_1 p0_2 w K) : CallV Try.prog 12 #[.agg #[.int .i64 p0_0, .int .i64 p0_1, .int .i64 p0_2]] w [.one .bool] K := by
  have e : vcFun Try.prog okf false Try.f12 law21_right.A #[.agg #[.int .i64 p0_0, .int .i64 p0_1, .int .i64 p0_2]] w [.one .bool] K = law21_right.P p0_0 p0_1 p0_2 w K := by kernel_rfl
  exact vcFun.calls okf_ok follows Try.func12 (e.symm ▸ h)

/-! ### nepenthe/nepenthelaw21.change: function 13 -/
def law21_change.A : Ann := .no
def law21_change.P (p0 : Addr) (p1_0 : Int) (p1_1 : Int) (p1_2 : Int) (w : World) (K : Int × Unit → World → Prop) : Prop :=
  NewV #[.int .i64 p1_0, .int .i64 p1_1, .int .i64 p1_2] 32 w fun b1 w2 =>
  LoadS w2 ⟨b1, 0, none⟩ (.int .i64) fun (x3 : Int) =>
  cond (x3 == 1)
  (LoadS w2 ⟨b1, 1, none⟩ (.int .i64) fun (x4 : Int) =>
  LoadS w2 ⟨b1, 2, none⟩ (.int .i64) fun (x5 : Int) =>
  CallV Try.prog 51 #[.pointer (some p0), .int .i64 x4, .int .i64 x5] w2 [.one (.int .i64)] fun (r6 : Int × Unit) w7 =>
  K (r6.1, ()) w7)
  (cond (x3 == 2)
  (LoadS w2 ⟨b1, 1, none⟩ (.int .i64) fun (x8 : Int) =>
  CallV Try.prog 52 #[.pointer (some p0), .int .i64 x8] w2 [.one (.int .i64)] fun (r9 : Int × Unit) w10 =>
  K (r9.1, ()) w10)
  (cond (x3 == 3)
  (LoadS w2 ⟨b1, 1, none⟩ (.int .i64) fun (x11 : Int) =>
  CallV Try.prog 53 #[.pointer (some p0), .int .i64 x11] w2 [.one (.int .i64)] fun (r12 : Int × Unit) w13 =>
  K (r12.1, ()) w13)
  (cond (x3 == 4)
  (LoadS w2 ⟨b1, 1, none⟩ (.int .i64) fun (x14 : Int) =>
  CallV Try.prog 54 #[.pointer (some p0), .int .i64 x14] w2 [.one (.int .i64)] fun (r15 : Int × Unit) w16 =>
  K (r15.1, ()) w16)
  (cond (x3 == 5)
  (LoadS w2 ⟨b1, 1, none⟩ (.int .i64) fun (x17 : Int) =>
  LoadS w2 ⟨b1, 2, none⟩ (.int .i64) fun (x18 : Int) =>
  CallV Try.prog 55 #[.pointer (some p0), .int .i64 x17, .bool (x18 == 1)] w2 [.one (.int .i64)] fun (r19 : Int × Unit) w20 =>
  K (r19.1, ()) w20)
  (cond (x3 == 6)
  (LoadS w2 ⟨b1, 1, none⟩ (.int .i64) fun (x21 : Int) =>
  CallV Try.prog 56 #[.pointer (some p0), .int .i64 x21] w2 [.one (.int .i64)] fun (r22 : Int × Unit) w23 =>
  K (r22.1, ()) w23)
  (LoadS w2 ⟨b1, 1, none⟩ (.int .i64) fun (x24 : Int) =>
  LoadS w2 ⟨b1, 2, none⟩ (.int .i64) fun (x25 : Int) =>
  CallV Try.prog 57 #[.pointer (some p0), .int .i64 x24, .int .i64 x25] w2 [.one (.int .i64)] fun (r26 : Int × Unit) w27 =>
  K (r26.1, ()) w27))))))
theorem law21_change.vc (p0 : Addr) (p1_0 : Int) (p1_1 : Int) (p1_2 : Int) (w : World) (K : Int × Unit → World → Prop) (h : law21_change.P p0 p1_0 p1_1 p1_2 w K) : CallV Try.prog 13 #[.pointer (some p0), .agg #[.int .i64 p1_0, .int .i64 p1_1, .int .i64 p1_2]] w [.one (.int .i64)] K := by
  have e : vcFun Try.prog okf false Try.f13 law21_change.A #[.pointer (some p0), .agg #[.int .i64 p1_0, .int .i64 p1_1, .int .i64 p1_2]] w [.one (.int .i64)] K = law21_change.P p0 p1_0 p1_1 p1_2 w K := by kernel_rfl
  exact vcFun.calls okf_ok follows Try.func13 (e.symm ▸ h)

/-! ### nepenthe/nepenthelaw21.apply: function 14 -/
def law21_apply.A : Ann := .two .no (.two .no (.two (.draw (.take 0 (.take 1 (.take 2 (.take 3 (.take 4 (.take 5 (.take 6 (.take 8 (.take 9 (.take 10 (.take 11 (.eff 7 (.eff 12 (.take 13 (.eff 14 (.done))))))))))))))))) .no))
def law21_apply.P (a0 : Option Addr) (n0 c0 : Nat) (p1_0 : Int) (p1_1 : Int) (p1_2 : Int) (w : World) (K : Int × Unit → World → Prop) : Prop :=
  NewV #[.int .i64 p1_0, .int .i64 p1_1, .int .i64 p1_2] 32 w fun b1 w2 =>
  LoadS w2 ⟨b1, 1, none⟩ (.int .i64) fun (x3 : Int) =>
  cond (decide (x3 < 0))
  (K ((2 : Int), ()) w2)
  (LoadS w2 ⟨b1, 1, none⟩ (.int .i64) fun (x4 : Int) =>
  cond (decide (x4 ≥ ((n0 : Nat) : Int)))
  (K ((2 : Int), ()) w2)
  (LoadS w2 ⟨b1, 0, none⟩ (.int .i64) fun (x5 : Int) =>
  cond (x5 == 1)
  (LoadS w2 ⟨b1, 2, none⟩ (.int .i64) fun (x6 : Int) =>
  cond (decide (x6 < 0))
  (K ((2 : Int), ()) w2)
  (LoadS w2 ⟨b1, 2, none⟩ (.int .i64) fun (x7 : Int) =>
  cond (decide (x7 > 3))
  (K ((2 : Int), ()) w2)
  (DrawV fun D8 =>
  (D8 b1 ∧ LoadS w2.drew ⟨b1, 1, none⟩ (.int .i64) fun (x9 : Int) =>
  (D8 b1 ∧ LoadS w2.drew ⟨b1, 1, none⟩ (.int .i64) fun (x10 : Int) =>
  (0 ≤ x10 ∧ x10 < ((n0 : Nat) : Int)) ∧ ∃ q11 : Addr, a0 = some q11 ∧
  (D8 b1 ∧ LoadS w2.drew ⟨b1, 0, none⟩ (.int .i64) fun (x12 : Int) =>
  (D8 b1 ∧ LoadS w2.drew ⟨b1, 2, none⟩ (.int .i64) fun (x13 : Int) =>
  LoadA w2.drew (q11.add (x10.toNat * 9)) [.int .i64, .int .i64, .int .i64, .int .i64, .bool, .bool, .bool, .bool, .bool] fun (x14 : Int × Int × Int × Int × Bool × Bool × Bool × Bool × Bool × Unit) =>
  KeepOn D8 w2.drew w2.drew ∧
  CallV Try.prog 58 #[.agg #[.int .i64 x14.1, .int .i64 x14.2.1, .int .i64 x14.2.2.1, .int .i64 x14.2.2.2.1, .bool x14.2.2.2.2.1, .bool x14.2.2.2.2.2.1, .bool x14.2.2.2.2.2.2.1, .bool x14.2.2.2.2.2.2.2.1, .bool x14.2.2.2.2.2.2.2.2.1], .int .i64 x12, .int .i64 x13] w2.drew [.agg [.int .i64, .int .i64, .int .i64, .int .i64, .bool, .bool, .bool, .bool, .bool]] fun (r15 : (Int × Int × Int × Int × Bool × Bool × Bool × Bool × Bool × Unit) × Unit) w16 =>
  KeepOn D8 w2.drew w16 ∧
  (0 ≤ x9 ∧ x9 < ((n0 : Nat) : Int)) ∧ ∃ q17 : Addr, a0 = some q17 ∧
  StoreV w16 (q17.add (x9.toNat * 9)) [.int .i64 r15.1.1, .int .i64 r15.1.2.1, .int .i64 r15.1.2.2.1, .int .i64 r15.1.2.2.2.1, .bool r15.1.2.2.2.2.1, .bool r15.1.2.2.2.2.2.1, .bool r15.1.2.2.2.2.2.2.1, .bool r15.1.2.2.2.2.2.2.2.1, .bool r15.1.2.2.2.2.2.2.2.2.1] fun w18 =>
  KeepOn D8 w2.drew w18 ∧
  K ((0 : Int), ()) w18)))))))
  (DrawV fun D19 =>
  (D19 b1 ∧ LoadS w2.drew ⟨b1, 1, none⟩ (.int .i64) fun (x20 : Int) =>
  (D19 b1 ∧ LoadS w2.drew ⟨b1, 1, none⟩ (.int .i64) fun (x21 : Int) =>
  (0 ≤ x21 ∧ x21 < ((n0 : Nat) : Int)) ∧ ∃ q22 : Addr, a0 = some q22 ∧
  (D19 b1 ∧ LoadS w2.drew ⟨b1, 0, none⟩ (.int .i64) fun (x23 : Int) =>
  (D19 b1 ∧ LoadS w2.drew ⟨b1, 2, none⟩ (.int .i64) fun (x24 : Int) =>
  LoadA w2.drew (q22.add (x21.toNat * 9)) [.int .i64, .int .i64, .int .i64, .int .i64, .bool, .bool, .bool, .bool, .bool] fun (x25 : Int × Int × Int × Int × Bool × Bool × Bool × Bool × Bool × Unit) =>
  KeepOn D19 w2.drew w2.drew ∧
  CallV Try.prog 58 #[.agg #[.int .i64 x25.1, .int .i64 x25.2.1, .int .i64 x25.2.2.1, .int .i64 x25.2.2.2.1, .bool x25.2.2.2.2.1, .bool x25.2.2.2.2.2.1, .bool x25.2.2.2.2.2.2.1, .bool x25.2.2.2.2.2.2.2.1, .bool x25.2.2.2.2.2.2.2.2.1], .int .i64 x23, .int .i64 x24] w2.drew [.agg [.int .i64, .int .i64, .int .i64, .int .i64, .bool, .bool, .bool, .bool, .bool]] fun (r26 : (Int × Int × Int × Int × Bool × Bool × Bool × Bool × Bool × Unit) × Unit) w27 =>
  KeepOn D19 w2.drew w27 ∧
  (0 ≤ x20 ∧ x20 < ((n0 : Nat) : Int)) ∧ ∃ q28 : Addr, a0 = some q28 ∧
  StoreV w27 (q28.add (x20.toNat * 9)) [.int .i64 r26.1.1, .int .i64 r26.1.2.1, .int .i64 r26.1.2.2.1, .int .i64 r26.1.2.2.2.1, .bool r26.1.2.2.2.2.1, .bool r26.1.2.2.2.2.2.1, .bool r26.1.2.2.2.2.2.2.1, .bool r26.1.2.2.2.2.2.2.2.1, .bool r26.1.2.2.2.2.2.2.2.2.1] fun w29 =>
  KeepOn D19 w2.drew w29 ∧
  K ((0 : Int), ()) w29)))))))
theorem law21_apply.vc (a0 : Option Addr) (n0 c0 : Nat) (p1_0 : Int) (p1_1 : Int) (p1_2 : Int) (w : World) (K : Int × Unit → World → Prop) (h : law21_apply.P a0 n0 c0 p1_0 p1_1 p1_2 w K) : CallV Try.prog 14 #[.slice a0 n0 c0, .agg #[.int .i64 p1_0, .int .i64 p1_1, .int .i64 p1_2]] w [.one (.int .i64)] K := by
  have e : vcFun Try.prog okf false Try.f14 law21_apply.A #[.slice a0 n0 c0, .agg #[.int .i64 p1_0, .int .i64 p1_1, .int .i64 p1_2]] w [.one (.int .i64)] K = law21_apply.P a0 n0 c0 p1_0 p1_1 p1_2 w K := by kernel_rfl
  exact vcFun.calls okf_ok follows Try.func14 (e.symm ▸ h)

/-! ### nepenthe/nepenthelaw21.awake: function 29 -/
def law21_awake.A : Ann := .no
def law21_awake.P  (w : World) (K : Bool × Unit → World → Prop) : Prop :=
  CallV Try.prog 10 #[.int .i64 3] w [.one .ptr, .one (.int .i64)] fun (r1 : (Option Addr) × Int × Unit) w2 =>
  cond (r1.2.1 == 0)
  (CallV Try.prog 30 #[.pointer r1.1] w2 [.one (.int .i64)] fun (r3 : Int × Unit) w4 =>
  cond (r3.1 == 3)
  (CallV Try.prog 15 #[.pointer r1.1] w4 [.one (.int .i64)] fun (r5 : Int × Unit) w6 =>
  cond (r5.1 == 0)
  (CallV Try.prog 53 #[.pointer r1.1, .int .i64 0] w6 [.one (.int .i64)] fun (r7 : Int × Unit) w8 =>
  cond (r7.1 == 0)
  (CallV Try.prog 15 #[.pointer r1.1] w8 [.one (.int .i64)] fun (r9 : Int × Unit) w10 =>
  K ((r9.1 == 1), ()) w10)
  (K (false, ()) w8))
  (K (false, ()) w6))
  (K (false, ()) w4))
  (K (false, ()) w2)
theorem law21_awake.vc  (w : World) (K : Bool × Unit → World → Prop) (h : law21_awake.P  w K) : CallV Try.prog 29 #[] w [.one .bool] K := by
  have e : vcFun Try.prog okf false Try.f29 law21_awake.A #[] w [.one .bool] K = law21_awake.P  w K := by kernel_rfl
  exact vcFun.calls okf_ok follows Try.func29 (e.symm ▸ h)

end Go.Proofs.Ytiemdjnmghackaa.Vc

/-! The contracts of layer 21 (ledger): its changes. -/
namespace Go.Proofs.Ytiemdjnmghackaa.Vc
open Go Go.Eng Go.RowKit
set_option linter.unusedVariables false
set_option linter.unusedSimpArgs false

def inB (b : Int) (n : Nat) : Prop := 0 ≤ b ∧ b < (n : Int)
instance (b : Int) (n : Nat) : Decidable (inB b n) := by unfold inB; infer_instance
def chL (b : Int) (n : Nat) (φ : Blk → Blk) (L : List Blk) : List Blk := if inB b n then L.set b.toNat (φ (L.getD b.toNat default)) else L
def chE (b : Int) (n : Nat) : Int := if inB b n then 0 else 2
theorem change_d {F : Nat → Prop} {w : World} {p : Nat} {a : Option Addr} {n c : Nat} {L : List Blk} {b : Int} {f : FuncId} {cap : Array Value} {C : Asr} {C' : Asr} {φ : Blk → Blk} (hf : okf f = true)
    (h : ∀ (F : Nat → Prop) (w1 : World) (blk o : Nat) (e : TypeId) (pre post : List Value) (x : Blk), x ∈ L → o = pre.length → Sep F w1 w1 [BoxA blk e (pre ++ (x.vs ++ post)), C] →
      CallV Try.prog f ([] ++ ((([.pointer (some ⟨blk, o, none⟩)] : List Value)) ++ cap.toList)).toArray w1 [] fun _ w2 => Sep F w1 w2 [BoxA blk e (pre ++ ((φ x).vs ++ post)), C'])
    (S : Sep F w w (LedP p a n c L ++ [C])) :
    CallV Try.prog 72 #[.pointer (some ⟨p, 0, none⟩), .int .i64 b, .func (.func f) #[] cap] w [.one (.int .i64)] fun r w' =>
      r.1 = chE b n ∧ Sep F w w' (LedP p a n c (chL b n φ L)) := by
  refine (change_c (b := b) hf h S).mono ?_
  rintro ⟨(r : Int), ⟨⟩⟩ w1 ⟨h1, h2⟩
  dsimp only at h1 h2 ⊢
  unfold chE chL
  by_cases hb : inB b n
  · rw [if_pos hb, if_pos hb]
    exact ⟨(h2 hb).1, (h2 hb).2.sel [0, 0] rfl⟩
  · rw [if_neg hb, if_neg hb]
    obtain ⟨k1, rfl⟩ := h1 hb
    exact ⟨k1, S.sel [0, 0] rfl⟩

section
variable {F : Nat → Prop} {w : World} {p : Nat} {a : Option Addr} {n c : Nat} {L : List Blk} {b : Int}
theorem Hold21_c {ns : Int} (S : Sep F w w (LedP p a n c L)) : CallV Try.prog 51 #[.pointer (some ⟨p, 0, none⟩), .int .i64 b, .int .i64 ns] w [.one (.int .i64)] fun r w' =>
    r.1 = (if 0 ≤ ns ∧ ns < 4 then chE b n else 2) ∧ Sep F w w' (LedP p a n c (if 0 ≤ ns ∧ ns < 4 then chL b n (hB ns) L else L)) := by
  apply ledger_Ledger_Hold.vc
  unfold ledger_Ledger_Hold.P
  refine S.newB fun qb w1 S1 f1 _ => ?_
  refine S1.ld0 rfl rfl (cond_d (fun h => ?_) fun h => S1.ld0 rfl rfl (cond_d (fun h' => ?_) fun h' => ?_))
  · rw [if_neg (by omega), if_neg (by omega)]; exact ⟨rfl, S1.tail⟩
  · rw [if_neg (by omega), if_neg (by omega)]; exact ⟨rfl, S1.tail⟩
  rw [if_pos (by omega), if_pos (by omega)]
  refine Sep.call (LedP p a n c L ++ [BoxA qb _ [.int .i64 ns]]) (Ts := []) (S1.sel [1, 1, 0] rfl) (fun F S => change_d (b := b) (φ := hB ns) (C' := BoxA qb _ [.int .i64 ns]) (by kernel_rfl) (fun F w1 blk o e pre post x _ ho S => Hold1_c ho S) S) ?_
  rintro F2 back ⟨(r : Int), ⟨⟩⟩ w2 ⟨h, S3⟩
  exact ⟨h, (back _ _ S3).sel [0, 0] rfl⟩
theorem Scrubbed_c {m : Bool} (S : Sep F w w (LedP p a n c L)) : CallV Try.prog 55 #[.pointer (some ⟨p, 0, none⟩), .int .i64 b, .bool m] w [.one (.int .i64)] fun r w' =>
    r.1 = chE b n ∧ Sep F w w' (LedP p a n c (chL b n (sB m) L)) := by
  apply ledger_Ledger_Scrubbed.vc
  unfold ledger_Ledger_Scrubbed.P
  refine S.newB fun qb w1 S1 f1 _ => ?_
  refine Sep.call (LedP p a n c L ++ [BoxA qb _ [.bool m]]) (Ts := []) (S1.sel [1, 1, 0] rfl) (fun F S => change_d (b := b) (φ := sB m) (C' := BoxA qb _ [.bool m]) (by kernel_rfl) (fun F w1 blk o e pre post x _ ho S => Scrubbed1_c ho S) S) ?_
  rintro F2 back ⟨(r : Int), ⟨⟩⟩ w2 ⟨h, S3⟩
  exact ⟨h, (back _ _ S3).sel [0, 0] rfl⟩
theorem Count_c {m : Int} (hL : ∀ x ∈ L, 0 ≤ x.li ∧ x.li ≤ 1000000000) (hm : -9223372036854775808 ≤ m ∧ m ≤ 1000000) (S : Sep F w w (LedP p a n c L)) : CallV Try.prog 57 #[.pointer (some ⟨p, 0, none⟩), .int .i64 b, .int .i64 m] w [.one (.int .i64)] fun r w' =>
    r.1 = chE b n ∧ Sep F w w' (LedP p a n c (chL b n (cB m) L)) := by
  apply ledger_Ledger_Count.vc
  unfold ledger_Ledger_Count.P
  refine S.newB fun qb w1 S1 f1 _ => ?_
  refine Sep.call (LedP p a n c L ++ [BoxA qb _ [.int .i64 m]]) (Ts := []) (S1.sel [1, 1, 0] rfl) (fun F S => change_d (b := b) (φ := cB m) (C' := emp) (by kernel_rfl) (fun F w1 blk o e pre post x hx ho S => (Count1_c ho (hL x hx) hm S).mono fun r w' ⟨m', S⟩ => (S.take1.emp).sel [1, 0] rfl) S) ?_
  rintro F2 back ⟨(r : Int), ⟨⟩⟩ w2 ⟨h, S3⟩
  exact ⟨h, (back _ _ S3).sel [0, 0] rfl⟩
theorem Release_c (S : Sep F w w (LedP p a n c L)) : CallV Try.prog 52 #[.pointer (some ⟨p, 0, none⟩), .int .i64 b] w [.one (.int .i64)] fun r w' =>
    r.1 = chE b n ∧ Sep F w w' (LedP p a n c (chL b n rB L)) := by
  apply ledger_Ledger_Release.vc
  unfold ledger_Ledger_Release.P
  exact change_d (b := b) (φ := rB) (C' := emp) (by kernel_rfl) (fun F w1 blk o e pre post x hx ho S => Release1_c ho S) (S.emp.sel [1, 1, 0] rfl)
theorem Erased_c (hL : ∀ x ∈ L, 0 ≤ x.er ∧ x.er ≤ 1000000000) (S : Sep F w w (LedP p a n c L)) : CallV Try.prog 53 #[.pointer (some ⟨p, 0, none⟩), .int .i64 b] w [.one (.int .i64)] fun r w' =>
    r.1 = chE b n ∧ Sep F w w' (LedP p a n c (chL b n eB L)) := by
  apply ledger_Ledger_Erased.vc
  unfold ledger_Ledger_Erased.P
  exact change_d (b := b) (φ := eB) (C' := emp) (by kernel_rfl) (fun F w1 blk o e pre post x hx ho S => Erased1_c ho (by have := hL x hx; exact Rng.i64 (by omega) (by omega)) S) (S.emp.sel [1, 1, 0] rfl)
theorem Failed_c (S : Sep F w w (LedP p a n c L)) : CallV Try.prog 54 #[.pointer (some ⟨p, 0, none⟩), .int .i64 b] w [.one (.int .i64)] fun r w' =>
    r.1 = chE b n ∧ Sep F w w' (LedP p a n c (chL b n fB L)) := by
  apply ledger_Ledger_Failed.vc
  unfold ledger_Ledger_Failed.P
  exact change_d (b := b) (φ := fB) (C' := emp) (by kernel_rfl) (fun F w1 blk o e pre post x hx ho S => Failed1_c ho S) (S.emp.sel [1, 1, 0] rfl)
theorem Use_c (hL : ∀ x ∈ L, 0 ≤ x.us ∧ x.us ≤ 1000000000) (S : Sep F w w (LedP p a n c L)) : CallV Try.prog 56 #[.pointer (some ⟨p, 0, none⟩), .int .i64 b] w [.one (.int .i64)] fun r w' =>
    r.1 = chE b n ∧ Sep F w w' (LedP p a n c (chL b n uB L)) := by
  apply ledger_Ledger_Use.vc
  unfold ledger_Ledger_Use.P
  exact change_d (b := b) (φ := uB) (C' := emp) (by kernel_rfl) (fun F w1 blk o e pre post x hx ho S => Use1_c ho (by have := hL x hx; exact Rng.i64 (by omega) (by omega)) S) (S.emp.sel [1, 1, 0] rfl)
end

/-! ### The document's change -/
def doB (k n : Int) (x : Blk) : Blk :=
  if k = 1 then hB n x else if k = 2 then rB x else if k = 3 then eB x else if k = 4 then fB x else if k = 5 then sB (n == 1) x else if k = 6 then uB x else if k = 7 then cB n x else x
def okS (k b n : Int) (N : Nat) : Prop := inB b N ∧ (k = 1 → 0 ≤ n ∧ n < 4)
instance (k b n : Int) (N : Nat) : Decidable (okS k b n N) := by unfold okS; infer_instance
def stL (k b n : Int) (N : Nat) (L : List Blk) : List Blk := if okS k b n N then L.set b.toNat (doB k n (L.getD b.toNat default)) else L
def stE (k b n : Int) (N : Nat) : Int := if okS k b n N then 0 else 2
theorem okS_ne {k b n : Int} {N : Nat} (h : k ≠ 1) : okS k b n N ↔ inB b N := ⟨fun x => x.1, fun x => ⟨x, fun e => absurd e h⟩⟩
theorem stE_ne {k b n : Int} {N : Nat} (h : k ≠ 1) : stE k b n N = chE b N := by
  unfold stE chE
  by_cases hb : inB b N
  · rw [if_pos ((okS_ne h).2 hb), if_pos hb]
  · rw [if_neg (fun k => hb ((okS_ne h).1 k)), if_neg hb]
theorem stL_ne {k b n : Int} {N : Nat} {L : List Blk} (h : k ≠ 1) : stL k b n N L = chL b N (doB k n) L := by
  unfold stL chL
  by_cases hb : inB b N
  · rw [if_pos ((okS_ne h).2 hb), if_pos hb]
  · rw [if_neg (fun k => hb ((okS_ne h).1 k)), if_neg hb]
/-- What changes of a right kind may be played on. -/
structure BndB (i : Nat) (x : Blk) : Prop where
  us : 0 ≤ x.us ∧ x.us ≤ (i : Int)
  li : 0 ≤ x.li ∧ x.li ≤ 1000000 * (i : Int)
  er : 0 ≤ x.er ∧ x.er ≤ (i : Int)
theorem doB_bnd {k n : Int} {i : Nat} {x : Blk} (hx : BndB i x) (hn : k = 7 → n ≤ 1000000) : BndB (i + 1) (doB k n x) := by
  obtain ⟨h1, h2, h3⟩ := hx
  unfold doB
  split
  · exact ⟨⟨by show (0 : Int) ≤ 0; omega, by show (0 : Int) ≤ _; omega⟩, ⟨by show (0 : Int) ≤ 0; omega, by show (0 : Int) ≤ _; omega⟩, ⟨h3.1, by show x.er ≤ _; push_cast; omega⟩⟩
  split
  · exact ⟨⟨h1.1, by show x.us ≤ _; push_cast; omega⟩, ⟨by show (0 : Int) ≤ 0; omega, by show (0 : Int) ≤ _; omega⟩, ⟨h3.1, by show x.er ≤ _; push_cast; omega⟩⟩
  split
  · exact ⟨⟨by show (0 : Int) ≤ 0; omega, by show (0 : Int) ≤ _; omega⟩, ⟨by show (0 : Int) ≤ 0; omega, by show (0 : Int) ≤ _; omega⟩, ⟨by show 0 ≤ x.er + 1; omega, by show x.er + 1 ≤ _; push_cast; omega⟩⟩
  split
  · exact ⟨⟨h1.1, by show x.us ≤ _; push_cast; omega⟩, ⟨h2.1, by show x.li ≤ _; push_cast; omega⟩, ⟨h3.1, by show x.er ≤ _; push_cast; omega⟩⟩
  split
  · exact ⟨⟨h1.1, by show x.us ≤ _; push_cast; omega⟩, ⟨h2.1, by show x.li ≤ _; push_cast; omega⟩, ⟨h3.1, by show x.er ≤ _; push_cast; omega⟩⟩
  split
  · exact ⟨⟨by show 0 ≤ x.us + 1; omega, by show x.us + 1 ≤ _; push_cast; omega⟩, ⟨h2.1, by show x.li ≤ _; push_cast; omega⟩, ⟨h3.1, by show x.er ≤ _; push_cast; omega⟩⟩
  split
  · rename_i hk
    have := hn hk
    refine ⟨⟨h1.1, by show x.us ≤ _; push_cast; omega⟩, ?_, ⟨h3.1, by show x.er ≤ _; push_cast; omega⟩⟩
    show 0 ≤ (if n < 0 - x.li then (0 : Int) else x.li + n) ∧ (if n < 0 - x.li then (0 : Int) else x.li + n) ≤ 1000000 * ((i + 1 : Nat) : Int)
    by_cases hc : n < 0 - x.li
    · rw [if_pos hc]; exact ⟨by omega, by omega⟩
    · rw [if_neg hc]; exact ⟨by omega, by omega⟩
  · exact ⟨⟨h1.1, by push_cast; omega⟩, ⟨h2.1, by push_cast; omega⟩, ⟨h3.1, by push_cast; omega⟩⟩

theorem Do_c {w : World} {x : Blk} {k n : Int} {i : Nat} (hx : BndB i x) (hi : i ≤ 100) (hn : Rng .i64 n ∧ (k = 7 → n ≤ 1000000)) :
    CallV Try.prog 58 #[x.val, .int .i64 k, .int .i64 n] w [.agg [.int .i64, .int .i64, .int .i64, .int .i64, .bool, .bool, .bool, .bool, .bool]] fun r w' => r.1 = (doB k n x).tup ∧ Ext w w' := by
  apply ref21_Do.vc
  unfold ref21_Do.P doB
  obtain ⟨h1, h2, h3⟩ := hx
  have S := Sep.start NoB w
  refine S.newB fun b1 w1 S f1 _ => ?_
  refine S.newB fun b3 w3 S f3 _ => ?_
  refine cond_eq (fun hk => ?_) (fun hk => ?_)
  · rw [if_pos hk]
    (repeat ((first | refine S.newB fun _ _ S f _ => ?_ | refine S.la0 rfl ?_ | refine S.la1 rfl ?_ | refine S.la2 rfl ?_ | refine S.la3 rfl ?_ | refine S.la4 rfl ?_ | refine S.la5 rfl ?_ | refine S.ld0 rfl rfl ?_ | refine S.ld1 rfl rfl ?_ | refine S.ld2 rfl rfl ?_ | refine S.ld3 rfl rfl ?_ | refine S.ld4 rfl rfl ?_ | refine S.ld5 rfl rfl ?_ | refine S.st0 (by rfl) fun _ S f => ?_ | refine S.st1 (by rfl) fun _ S f => ?_ | refine S.st2 (by rfl) fun _ S f => ?_ | refine S.st3 (by rfl) fun _ S f => ?_ | refine S.st4 (by rfl) fun _ S f => ?_ | refine S.st5 (by rfl) fun _ S f => ?_ | refine S.su0 (by rfl) fun _ S f => ?_ | refine S.su1 (by rfl) fun _ S f => ?_ | refine S.su2 (by rfl) fun _ S f => ?_ | refine S.su3 (by rfl) fun _ S f => ?_ | refine S.su4 (by rfl) fun _ S f => ?_ | refine S.su5 (by rfl) fun _ S f => ?_ | refine ⟨by decide, ?_⟩); try dsimp only [List.set_cons_zero, List.set_cons_succ, cond_true, cond_false, Bool.not_true, Bool.not_false]))
    exact ⟨rfl, S.ext⟩
  rw [if_neg hk]
  refine cond_eq (fun hk => ?_) (fun hk => ?_)
  · rw [if_pos hk]
    (repeat ((first | refine S.newB fun _ _ S f _ => ?_ | refine S.la0 rfl ?_ | refine S.la1 rfl ?_ | refine S.la2 rfl ?_ | refine S.la3 rfl ?_ | refine S.la4 rfl ?_ | refine S.la5 rfl ?_ | refine S.ld0 rfl rfl ?_ | refine S.ld1 rfl rfl ?_ | refine S.ld2 rfl rfl ?_ | refine S.ld3 rfl rfl ?_ | refine S.ld4 rfl rfl ?_ | refine S.ld5 rfl rfl ?_ | refine S.st0 (by rfl) fun _ S f => ?_ | refine S.st1 (by rfl) fun _ S f => ?_ | refine S.st2 (by rfl) fun _ S f => ?_ | refine S.st3 (by rfl) fun _ S f => ?_ | refine S.st4 (by rfl) fun _ S f => ?_ | refine S.st5 (by rfl) fun _ S f => ?_ | refine S.su0 (by rfl) fun _ S f => ?_ | refine S.su1 (by rfl) fun _ S f => ?_ | refine S.su2 (by rfl) fun _ S f => ?_ | refine S.su3 (by rfl) fun _ S f => ?_ | refine S.su4 (by rfl) fun _ S f => ?_ | refine S.su5 (by rfl) fun _ S f => ?_ | refine ⟨by decide, ?_⟩); try dsimp only [List.set_cons_zero, List.set_cons_succ, cond_true, cond_false, Bool.not_true, Bool.not_false]))
    exact ⟨rfl, S.ext⟩
  rw [if_neg hk]
  refine cond_eq (fun hk => ?_) (fun hk => ?_)
  · rw [if_pos hk]
    refine S.ld1 rfl rfl ⟨Rng.i64 (by omega) (by omega), S.ld1 rfl rfl ?_⟩
    (repeat ((first | refine S.newB fun _ _ S f _ => ?_ | refine S.la0 rfl ?_ | refine S.la1 rfl ?_ | refine S.la2 rfl ?_ | refine S.la3 rfl ?_ | refine S.la4 rfl ?_ | refine S.la5 rfl ?_ | refine S.ld0 rfl rfl ?_ | refine S.ld1 rfl rfl ?_ | refine S.ld2 rfl rfl ?_ | refine S.ld3 rfl rfl ?_ | refine S.ld4 rfl rfl ?_ | refine S.ld5 rfl rfl ?_ | refine S.st0 (by rfl) fun _ S f => ?_ | refine S.st1 (by rfl) fun _ S f => ?_ | refine S.st2 (by rfl) fun _ S f => ?_ | refine S.st3 (by rfl) fun _ S f => ?_ | refine S.st4 (by rfl) fun _ S f => ?_ | refine S.st5 (by rfl) fun _ S f => ?_ | refine S.su0 (by rfl) fun _ S f => ?_ | refine S.su1 (by rfl) fun _ S f => ?_ | refine S.su2 (by rfl) fun _ S f => ?_ | refine S.su3 (by rfl) fun _ S f => ?_ | refine S.su4 (by rfl) fun _ S f => ?_ | refine S.su5 (by rfl) fun _ S f => ?_ | refine ⟨by decide, ?_⟩); try dsimp only [List.set_cons_zero, List.set_cons_succ, cond_true, cond_false, Bool.not_true, Bool.not_false]))
    exact ⟨rfl, S.ext⟩
  rw [if_neg hk]
  refine cond_eq (fun hk => ?_) (fun hk => ?_)
  · rw [if_pos hk]
    (repeat ((first | refine S.newB fun _ _ S f _ => ?_ | refine S.la0 rfl ?_ | refine S.la1 rfl ?_ | refine S.la2 rfl ?_ | refine S.la3 rfl ?_ | refine S.la4 rfl ?_ | refine S.la5 rfl ?_ | refine S.ld0 rfl rfl ?_ | refine S.ld1 rfl rfl ?_ | refine S.ld2 rfl rfl ?_ | refine S.ld3 rfl rfl ?_ | refine S.ld4 rfl rfl ?_ | refine S.ld5 rfl rfl ?_ | refine S.st0 (by rfl) fun _ S f => ?_ | refine S.st1 (by rfl) fun _ S f => ?_ | refine S.st2 (by rfl) fun _ S f => ?_ | refine S.st3 (by rfl) fun _ S f => ?_ | refine S.st4 (by rfl) fun _ S f => ?_ | refine S.st5 (by rfl) fun _ S f => ?_ | refine S.su0 (by rfl) fun _ S f => ?_ | refine S.su1 (by rfl) fun _ S f => ?_ | refine S.su2 (by rfl) fun _ S f => ?_ | refine S.su3 (by rfl) fun _ S f => ?_ | refine S.su4 (by rfl) fun _ S f => ?_ | refine S.su5 (by rfl) fun _ S f => ?_ | refine ⟨by decide, ?_⟩); try dsimp only [List.set_cons_zero, List.set_cons_succ, cond_true, cond_false, Bool.not_true, Bool.not_false]))
    exact ⟨rfl, S.ext⟩
  rw [if_neg hk]
  refine cond_eq (fun hk => ?_) (fun hk => ?_)
  · rw [if_pos hk]
    (repeat ((first | refine S.newB fun _ _ S f _ => ?_ | refine S.la0 rfl ?_ | refine S.la1 rfl ?_ | refine S.la2 rfl ?_ | refine S.la3 rfl ?_ | refine S.la4 rfl ?_ | refine S.la5 rfl ?_ | refine S.ld0 rfl rfl ?_ | refine S.ld1 rfl rfl ?_ | refine S.ld2 rfl rfl ?_ | refine S.ld3 rfl rfl ?_ | refine S.ld4 rfl rfl ?_ | refine S.ld5 rfl rfl ?_ | refine S.st0 (by rfl) fun _ S f => ?_ | refine S.st1 (by rfl) fun _ S f => ?_ | refine S.st2 (by rfl) fun _ S f => ?_ | refine S.st3 (by rfl) fun _ S f => ?_ | refine S.st4 (by rfl) fun _ S f => ?_ | refine S.st5 (by rfl) fun _ S f => ?_ | refine S.su0 (by rfl) fun _ S f => ?_ | refine S.su1 (by rfl) fun _ S f => ?_ | refine S.su2 (by rfl) fun _ S f => ?_ | refine S.su3 (by rfl) fun _ S f => ?_ | refine S.su4 (by rfl) fun _ S f => ?_ | refine S.su5 (by rfl) fun _ S f => ?_ | refine ⟨by decide, ?_⟩); try dsimp only [List.set_cons_zero, List.set_cons_succ, cond_true, cond_false, Bool.not_true, Bool.not_false]))
    refine ⟨?_, S.ext⟩
    show _ = (sB (n == 1) x).tup
    unfold sB
    rfl
  rw [if_neg hk]
  refine cond_eq (fun hk => ?_) (fun hk => ?_)
  · rw [if_pos hk]
    refine S.ld1 rfl rfl ⟨Rng.i64 (by omega) (by omega), ?_⟩
    (repeat ((first | refine S.newB fun _ _ S f _ => ?_ | refine S.la0 rfl ?_ | refine S.la1 rfl ?_ | refine S.la2 rfl ?_ | refine S.la3 rfl ?_ | refine S.la4 rfl ?_ | refine S.la5 rfl ?_ | refine S.ld0 rfl rfl ?_ | refine S.ld1 rfl rfl ?_ | refine S.ld2 rfl rfl ?_ | refine S.ld3 rfl rfl ?_ | refine S.ld4 rfl rfl ?_ | refine S.ld5 rfl rfl ?_ | refine S.st0 (by rfl) fun _ S f => ?_ | refine S.st1 (by rfl) fun _ S f => ?_ | refine S.st2 (by rfl) fun _ S f => ?_ | refine S.st3 (by rfl) fun _ S f => ?_ | refine S.st4 (by rfl) fun _ S f => ?_ | refine S.st5 (by rfl) fun _ S f => ?_ | refine S.su0 (by rfl) fun _ S f => ?_ | refine S.su1 (by rfl) fun _ S f => ?_ | refine S.su2 (by rfl) fun _ S f => ?_ | refine S.su3 (by rfl) fun _ S f => ?_ | refine S.su4 (by rfl) fun _ S f => ?_ | refine S.su5 (by rfl) fun _ S f => ?_ | refine ⟨by decide, ?_⟩); try dsimp only [List.set_cons_zero, List.set_cons_succ, cond_true, cond_false, Bool.not_true, Bool.not_false]))
    exact ⟨rfl, S.ext⟩
  rw [if_neg hk]
  refine cond_eq (fun hk => ?_) (fun hk => ?_)
  · rw [if_pos hk]
    have hn7 := hn.2 hk
    obtain ⟨n0, n1⟩ : -9223372036854775808 ≤ n ∧ n ≤ 9223372036854775807 := hn.1
    refine S.ld1 rfl rfl ⟨Rng.i64 (by omega) (by omega), ?_⟩
    refine cond_d (fun hl => ?_) (fun hl => ?_)
    · (repeat ((first | refine S.newB fun _ _ S f _ => ?_ | refine S.la0 rfl ?_ | refine S.la1 rfl ?_ | refine S.la2 rfl ?_ | refine S.la3 rfl ?_ | refine S.la4 rfl ?_ | refine S.la5 rfl ?_ | refine S.ld0 rfl rfl ?_ | refine S.ld1 rfl rfl ?_ | refine S.ld2 rfl rfl ?_ | refine S.ld3 rfl rfl ?_ | refine S.ld4 rfl rfl ?_ | refine S.ld5 rfl rfl ?_ | refine S.st0 (by rfl) fun _ S f => ?_ | refine S.st1 (by rfl) fun _ S f => ?_ | refine S.st2 (by rfl) fun _ S f => ?_ | refine S.st3 (by rfl) fun _ S f => ?_ | refine S.st4 (by rfl) fun _ S f => ?_ | refine S.st5 (by rfl) fun _ S f => ?_ | refine S.su0 (by rfl) fun _ S f => ?_ | refine S.su1 (by rfl) fun _ S f => ?_ | refine S.su2 (by rfl) fun _ S f => ?_ | refine S.su3 (by rfl) fun _ S f => ?_ | refine S.su4 (by rfl) fun _ S f => ?_ | refine S.su5 (by rfl) fun _ S f => ?_ | refine ⟨by decide, ?_⟩); try dsimp only [List.set_cons_zero, List.set_cons_succ, cond_true, cond_false, Bool.not_true, Bool.not_false]))
      refine ⟨?_, S.ext⟩
      unfold cB
      rw [if_pos hl]
    · refine S.ld1 rfl rfl ⟨Rng.i64 (by omega) (by omega), ?_⟩
      (repeat ((first | refine S.newB fun _ _ S f _ => ?_ | refine S.la0 rfl ?_ | refine S.la1 rfl ?_ | refine S.la2 rfl ?_ | refine S.la3 rfl ?_ | refine S.la4 rfl ?_ | refine S.la5 rfl ?_ | refine S.ld0 rfl rfl ?_ | refine S.ld1 rfl rfl ?_ | refine S.ld2 rfl rfl ?_ | refine S.ld3 rfl rfl ?_ | refine S.ld4 rfl rfl ?_ | refine S.ld5 rfl rfl ?_ | refine S.st0 (by rfl) fun _ S f => ?_ | refine S.st1 (by rfl) fun _ S f => ?_ | refine S.st2 (by rfl) fun _ S f => ?_ | refine S.st3 (by rfl) fun _ S f => ?_ | refine S.st4 (by rfl) fun _ S f => ?_ | refine S.st5 (by rfl) fun _ S f => ?_ | refine S.su0 (by rfl) fun _ S f => ?_ | refine S.su1 (by rfl) fun _ S f => ?_ | refine S.su2 (by rfl) fun _ S f => ?_ | refine S.su3 (by rfl) fun _ S f => ?_ | refine S.su4 (by rfl) fun _ S f => ?_ | refine S.su5 (by rfl) fun _ S f => ?_ | refine ⟨by decide, ?_⟩); try dsimp only [List.set_cons_zero, List.set_cons_succ, cond_true, cond_false, Bool.not_true, Bool.not_false]))
      refine ⟨?_, S.ext⟩
      unfold cB
      rw [if_neg hl]
  rw [if_neg hk]
  (repeat ((first | refine S.newB fun _ _ S f _ => ?_ | refine S.la0 rfl ?_ | refine S.la1 rfl ?_ | refine S.la2 rfl ?_ | refine S.la3 rfl ?_ | refine S.la4 rfl ?_ | refine S.la5 rfl ?_ | refine S.ld0 rfl rfl ?_ | refine S.ld1 rfl rfl ?_ | refine S.ld2 rfl rfl ?_ | refine S.ld3 rfl rfl ?_ | refine S.ld4 rfl rfl ?_ | refine S.ld5 rfl rfl ?_ | refine S.st0 (by rfl) fun _ S f => ?_ | refine S.st1 (by rfl) fun _ S f => ?_ | refine S.st2 (by rfl) fun _ S f => ?_ | refine S.st3 (by rfl) fun _ S f => ?_ | refine S.st4 (by rfl) fun _ S f => ?_ | refine S.st5 (by rfl) fun _ S f => ?_ | refine S.su0 (by rfl) fun _ S f => ?_ | refine S.su1 (by rfl) fun _ S f => ?_ | refine S.su2 (by rfl) fun _ S f => ?_ | refine S.su3 (by rfl) fun _ S f => ?_ | refine S.su4 (by rfl) fun _ S f => ?_ | refine S.su5 (by rfl) fun _ S f => ?_ | refine ⟨by decide, ?_⟩); try dsimp only [List.set_cons_zero, List.set_cons_succ, cond_true, cond_false, Bool.not_true, Bool.not_false]))
  exact ⟨rfl, S.ext⟩

end Go.Proofs.Ytiemdjnmghackaa.Vc

/-! The contracts of layer 21 (ledger): a step, and new ones. -/
namespace Go.Proofs.Ytiemdjnmghackaa.Vc
open Go Go.Eng Go.RowKit
set_option linter.unusedVariables false
set_option linter.unusedSimpArgs false

def rightS (k n : Int) : Prop := 1 ≤ k ∧ k ≤ 7 ∧ (k = 7 → n ≤ 1000000)
instance (k n : Int) : Decidable (rightS k n) := by unfold rightS; infer_instance
theorem right_c {w : World} {k b n : Int} : CallV Try.prog 12 #[.agg #[.int .i64 k, .int .i64 b, .int .i64 n]] w [.one .bool] fun r w' => r.1 = decide (rightS k n) ∧ Ext w w' := by
  apply law21_right.vc
  unfold law21_right.P
  have S := Sep.start NoB w
  refine S.newB fun b1 w1 S f1 _ => ?_
  refine S.ld0 rfl rfl (cond_d (fun h1 => ?_) fun h1 => ⟨(decide_eq_false fun h => h1 h.1).symm, S.ext⟩)
  refine S.ld0 rfl rfl (cond_d (fun h2 => ?_) fun h2 => ⟨(decide_eq_false fun h => h2 h.2.1).symm, S.ext⟩)
  refine S.ld0 rfl rfl (cond_ne (fun h3 => ⟨(decide_eq_true (show rightS k n from ⟨h1, h2, fun e => absurd e h3⟩)).symm, S.ext⟩) fun h3 => ?_)
  exact S.ld0 rfl rfl ⟨decide_eq_decide.2 ⟨fun h => ⟨h1, h2, fun _ => h⟩, fun h => h.2.2 h3⟩, S.ext⟩

abbrev LstP (a : Option Addr) (n c : Nat) (L : List Blk) : Asr := OwnA 100 9 a n c (bvs L)
theorem vs_one : ∀ x : Blk, oneAll x.vs := fun x u hu => by
  simp only [List.mem_cons, List.not_mem_nil, or_false] at hu
  rcases hu with rfl | rfl | rfl | rfl | rfl | rfl | rfl | rfl | rfl <;> rfl
theorem getD_of {L : List Blk} {i : Nat} {x : Blk} (h : L[i]? = some x) : L.getD i default = x := by rw [List.getD_eq_getElem?_getD, h]; rfl

theorem apply_c {F : Nat → Prop} {w : World} {a : Option Addr} {n c i : Nat} {L : List Blk} {k b m : Int} (hb : ∀ x ∈ L, BndB i x) (hi : i ≤ 100) (hm : Rng .i64 m ∧ (k = 7 → m ≤ 1000000)) (S : Sep F w w [LstP a n c L]) :
    CallV Try.prog 14 #[.slice a n c, .agg #[.int .i64 k, .int .i64 b, .int .i64 m]] w [.one (.int .i64)] fun r w' => r.1 = stE k b m n ∧ Sep F w w' [LstP a n c (stL k b m n L)] := by
  apply law21_apply.vc
  unfold law21_apply.P
  refine S.newB fun b1 w1 S f1 _ => ?_
  have no : ∀ {w' : World}, ¬ okS k b m n → Sep F w w' [BoxA b1 32 [.int .i64 k, .int .i64 b, .int .i64 m], LstP a n c L] → (2 : Int) = stE k b m n ∧ Sep F w w' [LstP a n c (stL k b m n L)] := fun h S => by
    unfold stE stL
    rw [if_neg h, if_neg h]
    exact ⟨rfl, S.tail⟩
  refine S.ld0 rfl rfl (cond_d (fun h => no (fun h' => by have := h'.1.1; omega) S) fun h0 => ?_)
  refine S.ld0 rfl rfl (cond_d (fun h => no (fun h' => by have := h'.1.2; omega) S) fun h1 => ?_)
  have hin : inB b n := ⟨by omega, by omega⟩
  have yes : ∀ {w1 : World}, okS k b m n → Sep F w w1 [BoxA b1 32 [.int .i64 k, .int .i64 b, .int .i64 m], LstP a n c L] →
      (DrawV fun D19 => (D19 b1 ∧ LoadS w1.drew ⟨b1, 1, none⟩ (.int .i64) fun (x20 : Int) => (D19 b1 ∧ LoadS w1.drew ⟨b1, 1, none⟩ (.int .i64) fun (x21 : Int) =>
        (0 ≤ x21 ∧ x21 < ((n : Nat) : Int)) ∧ ∃ q22 : Addr, a = some q22 ∧ (D19 b1 ∧ LoadS w1.drew ⟨b1, 0, none⟩ (.int .i64) fun (x23 : Int) => (D19 b1 ∧ LoadS w1.drew ⟨b1, 2, none⟩ (.int .i64) fun (x24 : Int) =>
        LoadA w1.drew (q22.add (x21.toNat * 9)) [.int .i64, .int .i64, .int .i64, .int .i64, .bool, .bool, .bool, .bool, .bool] fun (x25 : Int × Int × Int × Int × Bool × Bool × Bool × Bool × Bool × Unit) =>
        KeepOn D19 w1.drew w1.drew ∧ CallV Try.prog 58 #[.agg #[.int .i64 x25.1, .int .i64 x25.2.1, .int .i64 x25.2.2.1, .int .i64 x25.2.2.2.1, .bool x25.2.2.2.2.1, .bool x25.2.2.2.2.2.1, .bool x25.2.2.2.2.2.2.1, .bool x25.2.2.2.2.2.2.2.1, .bool x25.2.2.2.2.2.2.2.2.1], .int .i64 x23, .int .i64 x24] w1.drew [.agg [.int .i64, .int .i64, .int .i64, .int .i64, .bool, .bool, .bool, .bool, .bool]] fun (r26 : (Int × Int × Int × Int × Bool × Bool × Bool × Bool × Bool × Unit) × Unit) w27 =>
        KeepOn D19 w1.drew w27 ∧ (0 ≤ x20 ∧ x20 < ((n : Nat) : Int)) ∧ ∃ q28 : Addr, a = some q28 ∧
        StoreV w27 (q28.add (x20.toNat * 9)) [.int .i64 r26.1.1, .int .i64 r26.1.2.1, .int .i64 r26.1.2.2.1, .int .i64 r26.1.2.2.2.1, .bool r26.1.2.2.2.2.1, .bool r26.1.2.2.2.2.2.1, .bool r26.1.2.2.2.2.2.2.1, .bool r26.1.2.2.2.2.2.2.2.1, .bool r26.1.2.2.2.2.2.2.2.2.1] fun w29 =>
        KeepOn D19 w1.drew w29 ∧ ((0 : Int) = stE k b m n ∧ Sep F w w29 [LstP a n c (stL k b m n L)])))))) := by
    intro w1 hok S
    refine S.regX (fun k => ∃ q : Addr, a = some q ∧ k = q.block) fun D hD hkeep S T => ?_
    have hb1 : D b1 := hD _ S.bl0 (fun ⟨q, hq, he⟩ => by
      have S2 := S.sel [1, 0] rfl
      obtain ⟨F, ⟨F1, F2, h1, ⟨F3, F4, h2, _, _, h7, _⟩, h4, h5, h6⟩, _⟩ := S2.ex
      exact h4 _ (h1.2 q hq) (h7 _ (by rw [← he]; exact h2.1)))
    obtain ⟨q, x, hq, hx, hc⟩ := S.nthF (f := Blk.vs) (m := 9) 1 rfl (fun _ => rfl) (by decide) hin.1 hin.2
    refine ⟨hb1, S.ld0 rfl rfl ⟨hb1, S.ld0 rfl rfl ⟨hin, q, hq, hb1, S.ld0 rfl rfl ⟨hb1, S.ld0 rfl rfl ⟨x.tup, hc, hkeep _ (Fr.refl _ _), ?_⟩⟩⟩⟩⟩
    refine (Do_c (x := x) (k := k) (n := m) (hb x (List.mem_of_getElem? hx)) hi hm).mono ?_
    rintro ⟨_, ⟨⟩⟩ w3 ⟨h3, x3⟩
    dsimp only at h3
    subst h3
    have f3 : Fr NoB _ _ := .of x3
    refine ⟨hkeep _ f3.any, hin, ?_⟩
    have S := S.stepE x3
    refine (S.sel [1, 0] rfl).putF (f := Blk.vs) (m := 9) (fun _ => rfl) vs_one (by decide) hin (doB k m x) fun w4 S f4 => ⟨hkeep _ (f3.any.trans f4), ?_⟩
    unfold stE stL
    rw [if_pos hok, if_pos hok, getD_of hx]
    exact ⟨rfl, S.take1⟩
  refine S.ld0 rfl rfl ?_
  refine cond_eq (fun h2 => ?_) (fun h2 => ?_)
  · refine S.ld0 rfl rfl (cond_d (fun h => no (fun h' => by have := (h'.2 h2).1; omega) S) fun h3 => ?_)
    refine S.ld0 rfl rfl (cond_d (fun h => no (fun h' => by have := (h'.2 h2).2; omega) S) fun h4 => ?_)
    exact yes ⟨hin, fun _ => ⟨by omega, by omega⟩⟩ S
  · exact yes ⟨hin, fun e => absurd e h2⟩ S

theorem chgS_c {F : Nat → Prop} {w : World} {p : Nat} {a : Option Addr} {n c i : Nat} {L : List Blk} {k b m : Int} (hb : ∀ x ∈ L, BndB i x) (hi : i ≤ 100) (hm : Rng .i64 m) (hr : rightS k m) (S : Sep F w w (LedP p a n c L)) :
    CallV Try.prog 13 #[.pointer (some ⟨p, 0, none⟩), .agg #[.int .i64 k, .int .i64 b, .int .i64 m]] w [.one (.int .i64)] fun r w' => r.1 = stE k b m n ∧ Sep F w w' (LedP p a n c (stL k b m n L)) := by
  apply law21_change.vc
  unfold law21_change.P
  refine S.newB fun b1 w1 S f1 _ => ?_
  obtain ⟨m0, m1⟩ : -9223372036854775808 ≤ m ∧ m ≤ 9223372036854775807 := hm
  have go : ∀ {f : FuncId} {args : Array Value} {K1 : Int → Prop} {L1 : List Blk}, (∀ F, Sep F w1 w1 (LedP p a n c L) → CallV Try.prog f args w1 [.one (.int .i64)] fun r w' => K1 r.1 ∧ Sep F w1 w' (LedP p a n c L1)) →
      CallV Try.prog f args w1 [.one (.int .i64)] fun r w' => K1 r.1 ∧ Sep F w w' (LedP p a n c L1) := fun h => by
    refine Sep.call (LedP p a n c L) (Ts := []) (S.sel [1, 1] rfl) (fun F S => h F S) ?_
    rintro F2 back ⟨(r : Int), ⟨⟩⟩ w2 ⟨h, S3⟩
    exact ⟨h, (back _ _ S3).sel [0, 0] rfl⟩
  refine S.ld0 rfl rfl ?_
  refine cond_eq (fun hk => ?_) (fun hk => ?_)
  · subst hk
    refine S.ld0 rfl rfl (S.ld0 rfl rfl ?_)
    refine (go (K1 := fun r => r = stE 1 b m n) (L1 := stL 1 b m n L) fun F S => (Hold21_c (b := b) (ns := m) S).mono fun r w' ⟨h1, h2⟩ => ?_).mono fun r w' h => h
    have e1 : stE 1 b m n = if 0 ≤ m ∧ m < 4 then chE b n else 2 := by
      unfold stE chE okS
      by_cases hm : 0 ≤ m ∧ m < 4 <;> by_cases hb : inB b n <;> simp [hm, hb]
    have e2 : stL 1 b m n L = if 0 ≤ m ∧ m < 4 then chL b n (hB m) L else L := by
      unfold stL chL okS
      by_cases hm : 0 ≤ m ∧ m < 4 <;> by_cases hb : inB b n <;> simp [hm, hb, doB]
    rw [e1, e2]
    exact ⟨h1, h2⟩
  rw [stE_ne hk, stL_ne hk]
  refine cond_eq (fun hk => ?_) (fun hk => ?_)
  · subst hk
    refine S.ld0 rfl rfl ?_
    exact go (K1 := fun r => r = chE b n) fun F S => Release_c (b := b) S
  refine cond_eq (fun hk => ?_) (fun hk => ?_)
  · subst hk
    refine S.ld0 rfl rfl ?_
    exact go (K1 := fun r => r = chE b n) fun F S => Erased_c (b := b) (fun x hx => by have := (hb x hx).er; omega) S
  refine cond_eq (fun hk => ?_) (fun hk => ?_)
  · subst hk
    refine S.ld0 rfl rfl ?_
    exact go (K1 := fun r => r = chE b n) fun F S => Failed_c (b := b) S
  refine cond_eq (fun hk => ?_) (fun hk => ?_)
  · subst hk
    refine S.ld0 rfl rfl (S.ld0 rfl rfl ?_)
    exact go (K1 := fun r => r = chE b n) fun F S => Scrubbed_c (b := b) (m := (m == 1)) S
  refine cond_eq (fun hk => ?_) (fun hk => ?_)
  · subst hk
    refine S.ld0 rfl rfl ?_
    exact go (K1 := fun r => r = chE b n) fun F S => Use_c (b := b) (fun x hx => by have := (hb x hx).us; omega) S
  · have hk : k = 7 := by have h1 := hr.1; have h2 := hr.2.1; omega
    subst hk
    refine S.ld0 rfl rfl (S.ld0 rfl rfl ?_)
    exact go (K1 := fun r => r = chE b n) fun F S => Count_c (b := b) (m := m) (fun x hx => by have := (hb x hx).li; omega) ⟨m0, hr.2.2 rfl⟩ S

end Go.Proofs.Ytiemdjnmghackaa.Vc

/-! Plain laws of layer 21 (ledger): the least one, found upwards and downwards. -/
namespace Go.Proofs.Ytiemdjnmghackaa.Vc
open Go Go.Eng Go.RowKit
set_option linter.unusedVariables false
set_option linter.unusedSimpArgs false

abbrev gx (L : List Blk) (i : Nat) : Blk := L.getD i default
def bestT (L : List Blk) (m : Nat → Blk → Bool) (ah : Blk → Blk → Bool) : Nat → Int
  | 0 => -1
  | i + 1 => if m i (gx L i) = true ∧ (bestT L m ah i < 0 ∨ ah (gx L i) (gx L (bestT L m ah i).toNat) = true) then (i : Int) else bestT L m ah i
def dnT (L : List Blk) (m : Nat → Blk → Bool) (le : Blk → Blk → Bool) (n : Nat) : Nat → Int
  | 0 => -1
  | k + 1 => if m (n - 1 - k) (gx L (n - 1 - k)) = true ∧ (dnT L m le n k < 0 ∨ le (gx L (n - 1 - k)) (gx L (dnT L m le n k).toNat) = true) then ((n - 1 - k : Nat) : Int) else dnT L m le n k
/-- The first one of the least. -/
def Least (L : List Blk) (m : Nat → Blk → Bool) (key : Blk → Int) (N : Nat → Prop) (t : Int) : Prop :=
  (t = -1 ∧ ∀ j, N j → m j (gx L j) = false) ∨ ∃ a : Nat, t = (a : Int) ∧ N a ∧ m a (gx L a) = true ∧ ∀ j, N j → m j (gx L j) = true → key (gx L a) ≤ key (gx L j) ∧ (key (gx L j) = key (gx L a) → a ≤ j)
theorem Least.uniq {L : List Blk} {m : Nat → Blk → Bool} {key : Blk → Int} {N : Nat → Prop} {s t : Int} (h : Least L m key N s) (k : Least L m key N t) : s = t := by
  rcases h with ⟨h1, h2⟩ | ⟨a, h1, h2, h3, h4⟩ <;> rcases k with ⟨k1, k2⟩ | ⟨b, k1, k2, k3, k4⟩
  · rw [h1, k1]
  · rw [h2 b k2] at k3; cases k3
  · rw [k2 a h2] at h3; cases h3
  · have p := h4 b k2 k3
    have q := k4 a h2 h3
    have e : key (gx L a) = key (gx L b) := by omega
    have p2 := p.2 e.symm
    have q2 := q.2 e
    omega
theorem bestT_least {L : List Blk} {m : Nat → Blk → Bool} {ah : Blk → Blk → Bool} {key : Blk → Int} (ha : ∀ x y, ah x y = decide (key x < key y)) : ∀ i, Least L m key (fun j => j < i) (bestT L m ah i)
  | 0 => .inl ⟨rfl, fun j hj => absurd hj (Nat.not_lt_zero j)⟩
  | i + 1 => by
    have ih := bestT_least (L := L) (m := m) ha i
    unfold bestT
    rcases ih with ⟨h1, h2⟩ | ⟨a, h1, h2, h3, h4⟩
    · by_cases hm : m i (gx L i) = true
      · rw [if_pos ⟨hm, .inl (by omega)⟩]
        refine .inr ⟨i, rfl, by omega, hm, fun j hj hmj => ?_⟩
        by_cases e : j = i
        · subst e; exact ⟨Int.le_refl _, fun _ => Nat.le_refl _⟩
        · rw [h2 j (by omega)] at hmj; cases hmj
      · rw [if_neg (fun h => hm h.1)]
        refine .inl ⟨h1, fun j hj => ?_⟩
        by_cases e : j = i
        · subst e; simpa using hm
        · exact h2 j (by omega)
    · rw [h1, Int.toNat_natCast, ha]
      by_cases hm : m i (gx L i) = true ∧ key (gx L i) < key (gx L a)
      · rw [if_pos ⟨hm.1, .inr (decide_eq_true hm.2)⟩]
        refine .inr ⟨i, rfl, by omega, hm.1, fun j hj hmj => ?_⟩
        by_cases e : j = i
        · subst e; exact ⟨Int.le_refl _, fun _ => Nat.le_refl _⟩
        · have := h4 j (by omega) hmj; omega
      · rw [if_neg (fun h => hm ⟨h.1, by rcases h.2 with k | k; omega; exact of_decide_eq_true k⟩)]
        refine .inr ⟨a, rfl, by omega, h3, fun j hj hmj => ?_⟩
        by_cases e : j = i
        · subst e
          have : ¬ key (gx L j) < key (gx L a) := fun k => hm ⟨hmj, k⟩
          exact ⟨by omega, fun _ => by omega⟩
        · exact h4 j (by omega) hmj
theorem dnT_least {L : List Blk} {m : Nat → Blk → Bool} {le : Blk → Blk → Bool} {key : Blk → Int} (ha : ∀ x y, le x y = decide (key x ≤ key y)) (n : Nat) : ∀ k, k ≤ n → Least L m key (fun j => n - k ≤ j ∧ j < n) (dnT L m le n k)
  | 0, _ => .inl ⟨rfl, fun j hj => by omega⟩
  | k + 1, hk => by
    have ih := dnT_least (L := L) (m := m) ha n k (by omega)
    unfold dnT
    generalize hi : n - 1 - k = i
    rcases ih with ⟨h1, h2⟩ | ⟨a, h1, h2, h3, h4⟩
    · by_cases hm : m i (gx L i) = true
      · rw [if_pos ⟨hm, .inl (by omega)⟩]
        refine .inr ⟨i, rfl, by omega, hm, fun j hj hmj => ?_⟩
        by_cases e : j = i
        · subst e; exact ⟨Int.le_refl _, fun _ => Nat.le_refl _⟩
        · rw [h2 j (by omega)] at hmj; cases hmj
      · rw [if_neg (fun h => hm h.1)]
        refine .inl ⟨h1, fun j hj => ?_⟩
        by_cases e : j = i
        · subst e; simpa using hm
        · exact h2 j (by omega)
    · rw [h1, Int.toNat_natCast, ha]
      by_cases hm : m i (gx L i) = true ∧ key (gx L i) ≤ key (gx L a)
      · rw [if_pos ⟨hm.1, .inr (decide_eq_true hm.2)⟩]
        refine .inr ⟨i, rfl, by omega, hm.1, fun j hj hmj => ?_⟩
        by_cases e : j = i
        · subst e; exact ⟨Int.le_refl _, fun _ => Nat.le_refl _⟩
        · have := h4 j (by omega) hmj; exact ⟨by omega, fun _ => by omega⟩
      · rw [if_neg (fun h => hm ⟨h.1, by rcases h.2 with k | k; omega; exact of_decide_eq_true k⟩)]
        refine .inr ⟨a, rfl, by omega, h3, fun j hj hmj => ?_⟩
        by_cases e : j = i
        · subst e
          have : ¬ key (gx L j) ≤ key (gx L a) := fun k => hm ⟨hmj, k⟩
          exact ⟨by omega, fun _ => by omega⟩
        · exact h4 j (by omega) hmj
theorem best_dn {L : List Blk} {m : Nat → Blk → Bool} {ah le : Blk → Blk → Bool} {key : Blk → Int} (h1 : ∀ x y, ah x y = decide (key x < key y)) (h2 : ∀ x y, le x y = decide (key x ≤ key y)) (n : Nat) : bestT L m ah n = dnT L m le n n := by
  refine (bestT_least h1 n).uniq (Eq.mp (congrArg (fun N => Least L m key N _) (funext fun j => propext ?_)) (dnT_least h2 n n (Nat.le_refl _)))
  omega
theorem bestT_bd {L : List Blk} {m : Nat → Blk → Bool} {ah : Blk → Blk → Bool} : ∀ i, -1 ≤ bestT L m ah i ∧ bestT L m ah i < (i : Int)
  | 0 => by show -1 ≤ (-1 : Int) ∧ (-1 : Int) < 0; omega
  | i + 1 => by
    have := bestT_bd (L := L) (m := m) (ah := ah) i
    unfold bestT
    split <;> push_cast <;> omega
theorem dnT_bd {L : List Blk} {m : Nat → Blk → Bool} {le : Blk → Blk → Bool} {n : Nat} : ∀ k, k ≤ n → -1 ≤ dnT L m le n k ∧ dnT L m le n k < (n : Int)
  | 0, _ => by show -1 ≤ (-1 : Int) ∧ (-1 : Int) < (n : Int); omega
  | k + 1, hk => by
    have := dnT_bd (L := L) (m := m) (le := le) (n := n) k (by omega)
    unfold dnT
    split <;> omega
/-- What the found one is. -/
theorem bestT_is {L : List Blk} {m : Nat → Blk → Bool} {ah : Blk → Blk → Bool} : ∀ i, 0 ≤ bestT L m ah i → m (bestT L m ah i).toNat (gx L (bestT L m ah i).toNat) = true
  | 0, h => by have h : (0 : Int) ≤ -1 := h; omega
  | i + 1, h => by
    unfold bestT at h ⊢
    by_cases hc : m i (gx L i) = true ∧ (bestT L m ah i < 0 ∨ ah (gx L i) (gx L (bestT L m ah i).toNat) = true)
    · rw [if_pos hc, Int.toNat_natCast]; exact hc.1
    · rw [if_neg hc] at h ⊢; exact bestT_is i h

/-- How many. -/
def manyT (L : List Blk) (m : Blk → Bool) : Nat → Int
  | 0 => 0
  | i + 1 => if m (gx L i) = true then manyT L m i + 1 else manyT L m i
theorem manyT_bd {L : List Blk} {m : Blk → Bool} : ∀ i, 0 ≤ manyT L m i ∧ manyT L m i ≤ (i : Int)
  | 0 => by show (0 : Int) ≤ 0 ∧ (0 : Int) ≤ 0; omega
  | i + 1 => by
    have := manyT_bd (L := L) (m := m) i
    unfold manyT
    split <;> push_cast <;> omega
theorem manyT_none {L : List Blk} {m : Blk → Bool} : ∀ i, (∀ j, j < i → m (gx L j) = false) → manyT L m i = 0
  | 0, _ => rfl
  | i + 1, h => by
    unfold manyT
    rw [if_neg (by rw [h i (by omega)]; simp), manyT_none i fun j hj => h j (by omega)]
theorem manyT_some {L : List Blk} {m : Blk → Bool} : ∀ i j, j < i → m (gx L j) = true → 0 < manyT L m i
  | 0, j, hj, _ => by omega
  | i + 1, j, hj, hm => by
    have b := manyT_bd (L := L) (m := m) i
    unfold manyT
    by_cases e : j = i
    · subst e; rw [if_pos hm]; omega
    · have := manyT_some i j (by omega) hm
      split <;> omega

end Go.Proofs.Ytiemdjnmghackaa.Vc
