/- The reading operations of the model, all of them: what they yield, and that the machine does so. -/
import Derived.Test.YtombjhkdakmhpaaEng1
namespace Go.Eng
open Go
set_option linter.unusedVariables false
set_option linter.unusedSimpArgs false

def szOf (P : Program) (t : TypeId) : Option Nat := (P.info? t).map (·.size)

theorem run_sizeOf' {P : Program} {t : TypeId} {n : Nat} (h : szOf P t = some n) (w : World) : (sizeOf t).run P w = .ok n w := by
  unfold szOf at h
  cases hi : P.info? t with
  | none => simp [hi] at h
  | some i => simp [hi] at h; subst h; simp [sizeOf, typeInfo, program, Sem.run, hi]

def isAggD : TypeDesc → Bool
  | .struct _ | .array _ _ => true
  | _ => false

theorem run_isAgg' {P : Program} {t : TypeId} {d : TypeDesc} (h : P.underlying t = some d) (w : World) : (isAgg t).run P w = .ok (isAggD d) w := by
  cases d <;> simp [isAgg, run_underlying h, isAggD]

/-- How a reading of memory is guarded: in text order not at all; in an open order the block must be one that stays. -/
def Grd := Addr → Prop → Prop
def Grd.no : Grd := fun _ X => X
def Grd.on (D : Nat → Prop) : Grd := fun p X => D p.block ∧ X
/-- What a guard gives, in a world that may be met. -/
def Grd.Ok (G : Grd) (w0 w : World) : Prop := ∀ p X, G p X → X ∧ w.heap[p.block]? = w0.heap[p.block]?
theorem Grd.Ok.no (w : World) : Grd.no.Ok w w := fun _ _ h => ⟨h, rfl⟩

theorem cell_same {w w' : World} {p : Addr} (h : w'.heap[p.block]? = w.heap[p.block]?) : w'.cell? p = w.cell? p := by
  unfold World.cell?; rw [h]
theorem add_block (p : Addr) (j : Nat) : (p.add j).block = p.block := by unfold Addr.add; split <;> rfl
theorem cells_same {w w' : World} {p : Addr} {vs : List Value} (h : w'.heap[p.block]? = w.heap[p.block]?) (hc : CellsAt w p vs) : CellsAt w' p vs :=
  fun j v hv => (cell_same (p := p.add j) (by rw [add_block]; exact h)).trans (hc j v hv)

/-- A variable is read. -/
def rLoad (P : Program) (t : TypeId) (G : Grd) (w : World) (p : Addr) (V : Value → Prop) : Prop :=
  match P.underlying t, szOf P t with
  | some (.struct fs), some n => (match flat P 8 t with | l => cond (Nat.beq l.length n) (G p (LoadA w p l fun x => V (.agg (tupV l x).toArray))) False)
  | some (.array k e), some n => (match flat P 8 t with | l => cond (Nat.beq l.length n) (G p (LoadA w p l fun x => V (.agg (tupV l x).toArray))) False)
  | some d, some n => G p (LoadS w p (ssOf (some d)) fun x => V ((ssOf (some d)).v x))
  | _, _ => False

theorem tupV_length : ∀ (l : List SS) (x : Tup l), (tupV l x).length = l.length
  | [], _ => rfl
  | _ :: t, x => by simp [tupV, tupV_length t x.2]

theorem run_loadVar_agg {P : Program} {t : TypeId} {d : TypeDesc} (hu : P.underlying t = some d) (hd : isAggD d = true) {n : Nat} (hs : szOf P t = some n) {w : World} {p : Addr} {vs : List Value} (hl : vs.length = n) (hc : CellsAt w p vs) :
    (loadVar t p).run P w = .ok (.agg vs.toArray) w := by
  subst hl
  simp [loadVar, run_isAgg' hu, hd, run_sizeOf' hs, run_loadCells_list w p vs hc]

theorem run_loadVar_one {P : Program} {t : TypeId} {d : TypeDesc} (hu : P.underlying t = some d) (hd : isAggD d = false) {w : World} {p : Addr} {v : Value} (hc : w.cell? p = some v) :
    (loadVar t p).run P w = .ok v w := by
  simp [loadVar, run_isAgg' hu, hd, load, Sem.run, hc]

theorem run_rLoad {P : Program} {t : TypeId} {G : Grd} {w0 : World} {p : Addr} {V : Value → Prop} (h : rLoad P t G w0 p V) {S : World → Prop} (hS : ∃ w, S w) (hG : ∀ w, S w → G.Ok w0 w) :
    ∃ v, V v ∧ ∀ w, S w → (loadVar t p).run P w = .ok v w := by
  obtain ⟨ws, hws⟩ := hS
  unfold rLoad at h
  cases hu : P.underlying t with
  | none => simp [hu] at h
  | some d =>
    cases hs : szOf P t with
    | none => cases d <;> simp [hu, hs] at h
    | some n =>
      have agg : ∀ (hd : isAggD d = true), (cond (Nat.beq (flat P 8 t).length n) (G p (LoadA w0 p (flat P 8 t) fun x => V (.agg (tupV (flat P 8 t) x).toArray))) False) →
          ∃ v, V v ∧ ∀ w, S w → (loadVar t p).run P w = .ok v w := by
        intro hd h
        cases hb : Nat.beq (flat P 8 t).length n
        · rw [hb] at h; exact h.elim
        · rw [hb] at h
          obtain ⟨x, hc, hv⟩ := (hG ws hws p _ h).1
          exact ⟨_, hv, fun w hk => run_loadVar_agg hu hd hs (by rw [tupV_length]; exact Nat.eq_of_beq_eq_true hb) (cells_same (hG w hk p _ h).2 hc)⟩
      have one : ∀ (hd : isAggD d = false), (G p (LoadS w0 p (ssOf (some d)) fun x => V ((ssOf (some d)).v x))) →
          ∃ v, V v ∧ ∀ w, S w → (loadVar t p).run P w = .ok v w := by
        intro hd h
        obtain ⟨x, hc, hv⟩ := (hG ws hws p _ h).1
        exact ⟨_, hv, fun w hk => run_loadVar_one hu hd (by rw [cell_same (hG w hk p _ h).2]; exact hc)⟩
      cases d <;> simp only [hu, hs] at h <;> first | exact agg rfl h | exact one rfl h

/-! ### Addresses -/
def fieldK (P : Program) (s : TypeId) (j : Nat) (K : Nat → TypeId → Prop) : Prop :=
  match P.underlying s with
  | some (.struct fs) =>
    match fs.toList[j]? with
    | some fd => K fd.offset fd.type
    | none => False
  | _ => False

theorem run_fieldAt' {P : Program} {s : TypeId} {j : Nat} {p : Addr} {V : Value → Prop}
    (h : fieldK P s j fun off ft => match szOf P ft with | some (n + 1) => V (.pointer (some (p.add off))) | _ => False) :
    ∃ v, V v ∧ ∀ w, (Instr.fieldAt s (.pointer (some p)) j).run P w = .ok v w := by
  unfold fieldK at h
  split at h
  · rename_i fs hu
    split at h
    · rename_i fd hf
      split at h
      · rename_i n hs
        refine ⟨_, h, fun w => ?_⟩
        have hf' : fs[j]? = some fd := by rw [← Array.getElem?_toList]; exact hf
        simp [Instr.fieldAt, run_underlying hu, hf', Instr.sureAddr, fieldPlace, run_sizeOf' hs]
      · exact h.elim
    · exact h.elim
  · exact h.elim

/-- The element's address. -/
def rIndexAt (P : Program) (t : TypeId) (x ix : Value) (V : Value → Prop) : Prop :=
  match P.underlying t, x, ix with
  | some (.slice e), .slice a n _, .int _ i =>
    (match szOf P e with
     | some sz => (0 ≤ i ∧ i < (n : Int)) ∧ ∃ q, a = some q ∧ V (.pointer (some (q.add (i.toNat * sz))))
     | none => False)
  | some (.array n e), .pointer (some p), .int _ i =>
    (match szOf P e with
     | some sz => (0 ≤ i ∧ i < (n : Int)) ∧ V (.pointer (some (p.add (i.toNat * sz))))
     | none => False)
  | _, _, _ => False

theorem run_rIndexAt {P : Program} {t : TypeId} {x ix : Value} {V : Value → Prop} (h : rIndexAt P t x ix V) :
    ∃ v, V v ∧ ∀ w, (Instr.indexAt t x ix).run P w = .ok v w := by
  unfold rIndexAt at h
  split at h
  · rename_i hu
    split at h
    · rename_i sz hs
      obtain ⟨hb, q, rfl, hv⟩ := h
      exact ⟨_, hv, fun w => by simp [Instr.indexAt, asIntOf, run_underlying hu, hb, run_sizeOf' hs]⟩
    · exact h.elim
  · rename_i hu
    split at h
    · rename_i sz hs
      obtain ⟨hb, hv⟩ := h
      exact ⟨_, hv, fun w => by simp [Instr.indexAt, asIntOf, run_underlying hu, Instr.sureAddr, hb, run_sizeOf' hs]⟩
    · exact h.elim
  · exact h.elim

/-! ### Parts of values -/
def partK (P : Program) (t : TypeId) (cs : List Value) (off : Nat) (V : Value → Prop) : Prop :=
  match P.underlying t, szOf P t with
  | some (.struct _), some n => V (.agg ((cs.drop off).take n).toArray)
  | some (.array _ _), some n => V (.agg ((cs.drop off).take n).toArray)
  | some _, some _ => (match cs[off]? with | some v => V v | none => False)
  | _, _ => False

theorem run_partK {P : Program} {t : TypeId} {cs : Array Value} {off : Nat} {V : Value → Prop} (h : partK P t cs.toList off V) :
    ∃ v, V v ∧ ∀ w, (part t cs off).run P w = .ok v w := by
  unfold partK at h
  cases hu : P.underlying t with
  | none => simp [hu] at h
  | some d =>
    cases hs : szOf P t with
    | none => cases d <;> simp [hu, hs] at h
    | some n =>
      have agg : ∀ (hd : isAggD d = true), V (.agg ((cs.toList.drop off).take n).toArray) → ∃ v, V v ∧ ∀ w, (part t cs off).run P w = .ok v w := by
        intro hd h
        refine ⟨_, h, fun w => ?_⟩
        have he : cs.extract off (off + n) = ((cs.toList.drop off).take n).toArray := by
          apply Array.ext'
          simp [Array.toList_extract, List.extract_eq_take_drop]
        simp [part, run_isAgg' hu, hd, run_sizeOf' hs, he]
      have one : ∀ (hd : isAggD d = false), (match cs.toList[off]? with | some v => V v | none => False) → ∃ v, V v ∧ ∀ w, (part t cs off).run P w = .ok v w := by
        intro hd h
        split at h
        · rename_i v hc
          refine ⟨_, h, fun w => ?_⟩
          have hc' : cs[off]? = some v := by rw [← Array.getElem?_toList]; exact hc
          simp [part, run_isAgg' hu, hd, hc']
        · exact h.elim
      cases d <;> simp only [hu, hs] at h <;> first | exact agg rfl h | exact one rfl h

/-- An array's element, at an index that may be unknown. -/
def rIndex (P : Program) (t : TypeId) (x ix : Value) (V : Value → Prop) : Prop :=
  match P.underlying t, x, ix with
  | some (.array n e), .agg cs, .int _ i =>
    (match P.underlying e, szOf P e with
     | some (.struct _), some sz => (0 ≤ i ∧ i < (n : Int)) ∧ ∃ y : Tup (flat P 8 e), ((cs.toList.drop (i.toNat * sz)).take sz) = tupV _ y ∧ V (.agg (tupV _ y).toArray)
     | some (.array _ _), some sz => (0 ≤ i ∧ i < (n : Int)) ∧ ∃ y : Tup (flat P 8 e), ((cs.toList.drop (i.toNat * sz)).take sz) = tupV _ y ∧ V (.agg (tupV _ y).toArray)
     | some d, some sz => (0 ≤ i ∧ i < (n : Int)) ∧ ∃ y : (ssOf (some d)).T, cs.toList[i.toNat * sz]? = some ((ssOf (some d)).v y) ∧ V ((ssOf (some d)).v y)
     | _, _ => False)
  | some .string, .string s, .int _ i => (0 ≤ i ∧ i < (s.size : Int)) ∧ ∃ b : UInt8, s[i.toNat]? = some b ∧ V (.int .u8 b.toNat)
  | _, _, _ => False

theorem run_rIndex {P : Program} {t : TypeId} {x ix : Value} {V : Value → Prop} (h : rIndex P t x ix V) :
    ∃ v, V v ∧ ∀ w, (Instr.index t x ix).run P w = .ok v w := by
  unfold rIndex at h
  split at h
  · rename_i n e cs k i hu
    cases hue : P.underlying e with
    | none => simp [hue] at h
    | some d =>
      cases hs : szOf P e with
      | none => cases d <;> simp [hue, hs] at h
      | some sz =>
        have agg : ∀ (hd : isAggD d = true), ((0 ≤ i ∧ i < (n : Int)) ∧ ∃ y : Tup (flat P 8 e), ((cs.toList.drop (i.toNat * sz)).take sz) = tupV _ y ∧ V (.agg (tupV _ y).toArray)) →
            ∃ v, V v ∧ ∀ w, (Instr.index t (.agg cs) (.int k i)).run P w = .ok v w := by
          rintro hd ⟨hb, y, hy, hv⟩
          have hp : partK P e cs.toList (i.toNat * sz) (fun u => u = .agg (tupV _ y).toArray) := by
            unfold partK
            cases d <;> simp only [isAggD, Bool.false_eq_true] at hd <;> simp only [hue, hs, hy]
          obtain ⟨v, rfl, hr⟩ := run_partK hp
          exact ⟨_, hv, fun w => by simp [Instr.index, asIntOf, run_underlying hu, hb, run_sizeOf' hs, hr]⟩
        have one : ∀ (hd : isAggD d = false), ((0 ≤ i ∧ i < (n : Int)) ∧ ∃ y : (ssOf (some d)).T, cs.toList[i.toNat * sz]? = some ((ssOf (some d)).v y) ∧ V ((ssOf (some d)).v y)) →
            ∃ v, V v ∧ ∀ w, (Instr.index t (.agg cs) (.int k i)).run P w = .ok v w := by
          rintro hd ⟨hb, y, hy, hv⟩
          have hp : partK P e cs.toList (i.toNat * sz) (fun u => u = (ssOf (some d)).v y) := by
            unfold partK
            cases d <;> simp only [isAggD, Bool.true_eq_false] at hd <;> simp only [hue, hs, hy]
          obtain ⟨v, rfl, hr⟩ := run_partK hp
          exact ⟨_, hv, fun w => by simp [Instr.index, asIntOf, run_underlying hu, hb, run_sizeOf' hs, hr]⟩
        cases d <;> simp only [hue, hs] at h <;> first | exact agg rfl h | exact one rfl h
  · rename_i s k i hu
    obtain ⟨hb, b, hs, hv⟩ := h
    exact ⟨_, hv, fun w => by simp [Instr.index, asIntOf, run_underlying hu, hb.1, hs]⟩
  · exact h.elim

end Go.Eng
