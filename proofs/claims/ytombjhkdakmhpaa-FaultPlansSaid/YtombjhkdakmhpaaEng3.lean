/- Slicing, building, converting; the plan of any reading operation. -/
import Derived.Test.YtombjhkdakmhpaaEng2
import Derived.Laws.BytesString
namespace Go.Eng
open Go
set_option linter.unusedVariables false
set_option linter.unusedSimpArgs false

/-! ### Slicing -/
def optI (f : PF) : Option Operand → Option (Option Int)
  | none => some none
  | some x => match ev f x with | some (.int _ i) => some (some i) | _ => none

theorem Fits.optI {n : Nat} {f : PF} {a : Act} (h : Fits n f a) {x : Option Operand} {r : Option Int} (e : Eng.optI f x = some r) :
    (r = none ∧ x.map a.eval = none) ∨ ∃ i k, r = some i ∧ x.map a.eval = some (.int k i) := by
  cases x with
  | none => simp [Eng.optI] at e; exact .inl ⟨e.symm, rfl⟩
  | some o =>
    simp only [Eng.optI] at e
    split at e
    · rename_i k i he
      simp only [Option.some.injEq] at e
      exact .inr ⟨i, k, e.symm, by simp [h.ev he]⟩
    · cases e

/-- The three bounds, as numbers. -/
def bndK (len cap : Nat) (lo hi mx : Option Int) (K : Nat → Nat → Nat → Prop) : Prop :=
  match mx, hi, lo with
  | some m, some h, some l => (0 ≤ l ∧ l ≤ h ∧ h ≤ m ∧ m ≤ (cap : Int)) ∧ K l.toNat h.toNat m.toNat
  | some m, some h, none => (0 ≤ h ∧ h ≤ m ∧ m ≤ (cap : Int)) ∧ K 0 h.toNat m.toNat
  | none, some h, some l => (0 ≤ l ∧ l ≤ h ∧ h ≤ (cap : Int)) ∧ K l.toNat h.toNat cap
  | none, some h, none => (0 ≤ h ∧ h ≤ (cap : Int)) ∧ K 0 h.toNat cap
  | none, none, some l => (0 ≤ l ∧ l ≤ (len : Int)) ∧ K l.toNat len cap
  | none, none, none => K 0 len cap
  | some _, none, _ => False

theorem run_sliceBound {P : Program} {k : IntKind} {i : Int} {y : Nat} {c : BoundsCode} (h0 : 0 ≤ i) (h1 : i ≤ (y : Int)) (w : World) :
    (Instr.sliceBound (.int k i) y c).run P w = .ok i.toNat w := by
  simp [Instr.sliceBound, asIntOf, h0, h1]

theorem run_bounds {P : Program} {f : PF} {n : Nat} {a : Act} (hf : Fits n f a) {b : Bool} {len cap : Nat} {lo hi mx : Option Operand} {l h m : Option Int}
    (el : optI f lo = some l) (eh : optI f hi = some h) (em : optI f mx = some m) {K : Nat → Nat → Nat → Prop} (hk : bndK len cap l h m K) :
    ∃ l' h' m', K l' h' m' ∧ ∀ w, (Instr.sliceBounds b len cap (lo.map a.eval) (hi.map a.eval) (mx.map a.eval)).run P w = .ok (l', h', m') w := by
  rcases hf.optI el with ⟨rfl, e1⟩ | ⟨i, k, rfl, e1⟩ <;> rcases hf.optI eh with ⟨rfl, e2⟩ | ⟨j, k2, rfl, e2⟩ <;> rcases hf.optI em with ⟨rfl, e3⟩ | ⟨q, k3, rfl, e3⟩ <;> simp only [bndK] at hk
  · exact ⟨_, _, _, hk, fun w => by rw [e1, e2, e3]; rfl⟩
  · obtain ⟨⟨h1, h2⟩, hk⟩ := hk
    refine ⟨_, _, _, hk, fun w => ?_⟩
    rw [e1, e2, e3]
    simp only [Instr.sliceBounds, Sem.run_bind, Sem.run_pure, Result.andThen_ok, run_sliceBound h1 h2]
  · obtain ⟨⟨h1, h2, h3⟩, hk⟩ := hk
    refine ⟨_, _, _, hk, fun w => ?_⟩
    rw [e1, e2, e3]
    simp only [Instr.sliceBounds, Sem.run_bind, Sem.run_pure, Result.andThen_ok, run_sliceBound (show 0 ≤ q by omega) h3, run_sliceBound (y := q.toNat) h1 (by omega)]
  · obtain ⟨⟨h1, h2⟩, hk⟩ := hk
    refine ⟨_, _, _, hk, fun w => ?_⟩
    rw [e1, e2, e3]
    simp only [Instr.sliceBounds, Sem.run_bind, Sem.run_pure, Result.andThen_ok, run_sliceBound h1 h2]
  · obtain ⟨⟨h1, h2, h3⟩, hk⟩ := hk
    refine ⟨_, _, _, hk, fun w => ?_⟩
    rw [e1, e2, e3]
    simp only [Instr.sliceBounds, Sem.run_bind, Sem.run_pure, Result.andThen_ok, run_sliceBound (show 0 ≤ j by omega) h3, run_sliceBound (y := j.toNat) h1 (by omega)]
  · obtain ⟨⟨h1, h2, h3, h4⟩, hk⟩ := hk
    refine ⟨_, _, _, hk, fun w => ?_⟩
    rw [e1, e2, e3]
    simp only [Instr.sliceBounds, Sem.run_bind, Sem.run_pure, Result.andThen_ok, run_sliceBound (show 0 ≤ q by omega) h4, run_sliceBound (y := q.toNat) (show 0 ≤ j by omega) (by omega), run_sliceBound (y := j.toNat) h1 (by omega)]

/-- The address of a cut. -/
def SubK (a : Option Addr) (l m sz : Nat) (K : Option Addr → Prop) : Prop := ∀ a', a' = (if m = l then a else a.map (·.add (l * sz))) → K a'

def rSlice (P : Program) (t : TypeId) (x : Value) (lo hi mx : Option Int) (V : Value → Prop) : Prop :=
  match P.underlying t, x with
  | some (.slice e), .slice a n c =>
    (match szOf P e with
     | some sz => bndK n c lo hi mx fun l h m => SubK a l m sz fun a' => V (.slice a' (h - l) (m - l))
     | none => False)
  | some (.array n e), .pointer (some p) =>
    (match szOf P e with
     | some sz => bndK n n lo hi mx fun l h m => SubK (some p) l m sz fun a' => V (.slice a' (h - l) (m - l))
     | none => False)
  | some .string, .string s =>
    (match mx with
     | none => bndK s.size s.size lo hi none fun l h _ => V (.string (s.extract l h))
     | some _ => False)
  | _, _ => False

theorem run_rSlice {P : Program} {f : PF} {n : Nat} {a : Act} (hf : Fits n f a) {t : TypeId} {x : Value} {lo hi mx : Option Operand} {l h m : Option Int}
    (el : optI f lo = some l) (eh : optI f hi = some h) (em : optI f mx = some m) {V : Value → Prop} (hk : rSlice P t x l h m V) :
    ∃ v, V v ∧ ∀ w, (Instr.sliceAt t x (lo.map a.eval) (hi.map a.eval) (mx.map a.eval)).run P w = .ok v w := by
  unfold rSlice at hk
  split at hk
  · rename_i e ad len cap hu
    split at hk
    · rename_i sz hs
      obtain ⟨l', h', m', hv, hr⟩ := run_bounds (P := P) (b := true) hf el eh em hk
      exact ⟨_, hv _ rfl, fun w => by simp [Instr.sliceAt, Instr.slice, run_underlying hu, hr, run_sizeOf' hs]⟩
    · exact hk.elim
  · rename_i e p hu
    split at hk
    · rename_i sz hs
      obtain ⟨l', h', m', hv, hr⟩ := run_bounds (P := P) (b := false) hf el eh em hk
      refine ⟨_, hv _ rfl, fun w => ?_⟩
      simp [Instr.sliceAt, run_underlying hu, hr, run_sizeOf' hs, Instr.sureAddr]
      split <;> rfl
    · exact hk.elim
  · rename_i s hu
    split at hk
    · rcases hf.optI em with ⟨_, e3⟩ | ⟨q, k3, h1, e3⟩
      · obtain ⟨l', h', m', hv, hr⟩ := run_bounds (P := P) (b := false) (mx := none) hf el eh rfl hk
        exact ⟨_, hv, fun w => by rw [e3]; simp [Instr.sliceAt, Instr.slice, run_underlying hu]; simp at hr; simp [hr]⟩
      · cases h1
    · exact hk.elim
  · exact hk.elim

/-! ### Building -/
def fillL (place : Nat → Option (Nat × Nat)) (cells : List Value) : List (Nat × Value) → Option (List Value)
  | [] => some cells
  | (i, v) :: rest =>
    match place i with
    | none => none
    | some (off, size) =>
      match v.cells.toList with
      | vs => cond (Nat.beq vs.length size && Nat.ble (off + vs.length) cells.length) (fillL place (cells.take off ++ (vs ++ cells.drop (off + vs.length))) rest) none

theorem foldl_set (off : Nat) : ∀ (vs : List Value) (k : Nat) (cs : Array Value), off + k + vs.length ≤ cs.size →
    ((vs.zipIdx k).foldl (fun (cs : Array Value) (p : Value × Nat) => cs.setIfInBounds (off + p.2) p.1) cs).toList = cs.toList.take (off + k) ++ (vs ++ cs.toList.drop (off + k + vs.length))
  | [], k, cs, h => by simp
  | v :: vs, k, cs, h => by
    simp only [List.length_cons] at h
    rw [List.zipIdx_cons, List.foldl_cons, foldl_set off vs (k + 1) _ (by simp; omega)]
    simp only [Array.toList_setIfInBounds]
    have hk : off + k < cs.toList.length := by simp; omega
    rw [show off + (k + 1) = off + k + 1 by omega, List.take_succ_eq_append_getElem (by simp; omega), List.take_set_of_le (by omega)]
    rw [List.getElem_set_self, List.append_assoc, List.drop_set_of_lt (by omega)]
    simp only [List.cons_append, List.nil_append, List.length_cons]
    rw [show off + k + 1 + vs.length = off + k + (vs.length + 1) by omega]

theorem fill_of_fillL {place : Nat → Option (Nat × Nat)} : ∀ {parts : List (Nat × Value)} {cs : Array Value} {r : List Value}, fillL place cs.toList parts = some r → Instr.fill place cs parts = some r.toArray
  | [], cs, r, h => by simp [fillL] at h; subst h; simp [Instr.fill]
  | (i, v) :: rest, cs, r, h => by
    simp only [fillL] at h
    simp only [Instr.fill]
    split at h
    · cases h
    · rename_i off size hp
      rw [hp]
      simp only
      cases hc : (Nat.beq v.cells.toList.length size && Nat.ble (off + v.cells.toList.length) cs.toList.length)
      · rw [hc] at h; cases h
      · rw [hc] at h
        simp only [Bool.and_eq_true] at hc
        have h1 := Nat.eq_of_beq_eq_true hc.1
        have h2 := Nat.le_of_ble_eq_true hc.2
        simp only [Array.length_toList] at h1 h2
        have hn : ¬ ((decide (v.cells.size ≠ size) || decide (off + v.cells.size > cs.size)) = true) := by simp; omega
        rw [if_neg (by simpa using hn)]
        apply fill_of_fillL
        simp only [cond_true] at h
        rw [← h]
        congr 1
        have hz : (v.cells.zipIdx.foldl (fun (cs : Array Value) (x : Value × Nat) => match x with | (c, j) => cs.setIfInBounds (off + j) c) cs).toList = cs.toList.take (off + 0) ++ (v.cells.toList ++ cs.toList.drop (off + 0 + v.cells.toList.length)) := by
          rw [← Array.foldl_toList, Array.toList_zipIdx]
          exact foldl_set off v.cells.toList 0 cs (by simp; omega)
        rw [hz]
        simp

def placesL (P : Program) : List Field → List (Option (Nat × Nat))
  | [] => []
  | fd :: fs => (match szOf P fd.type with | some n => some (fd.offset, n) | none => none) :: placesL P fs

def zeroL (P : Program) (t : TypeId) : Option (List Value) :=
  match P.info? t with
  | some i => match i.zero with | some z => some z.cells.toList | none => none
  | none => none

def allSome : List (Option (Nat × Nat)) → Bool
  | [] => true
  | some _ :: l => allSome l
  | none :: _ => false

def rBuild (P : Program) (t : TypeId) (parts : List (Nat × Value)) (V : Value → Prop) : Prop :=
  match P.underlying t, zeroL P t with
  | some (.struct fs), some z =>
    (match placesL P fs.toList with
     | pl => cond (allSome pl) (match fillL (fun i => (pl[i]?).bind id) z parts with | some r => V (.agg r.toArray) | none => False) False)
  | some (.array _ e), some z =>
    (match szOf P e with
     | some n => (match fillL (fun i => some (i * n, n)) z parts with | some r => V (.agg r.toArray) | none => False)
     | none => False)
  | _, _ => False

theorem run_zero' {P : Program} {t : TypeId} {z : List Value} (h : zeroL P t = some z) (w : World) : ∃ v, v.cells = z.toArray ∧ (zeroValue t).run P w = .ok v w ∧ ∃ i, P.info? t = some i ∧ i.zero = some v := by
  unfold zeroL at h
  split at h
  · rename_i i hi
    split at h
    · rename_i v hv
      simp only [Option.some.injEq] at h
      exact ⟨v, by rw [← h], by simp [zeroValue, typeInfo, program, Sem.run, hi, hv], i, hi, hv⟩
    · cases h
  · cases h

theorem run_places {P : Program} (w : World) : ∀ (fs : List Field), allSome (placesL P fs) = true →
    ∃ r, (fs.mapM fun f => do pure (f.offset, ← sizeOf f.type) : Sem (List (Nat × Nat))).run P w = .ok r w ∧ r.map some = placesL P fs
  | [], _ => ⟨[], by simp [List.mapM_nil], rfl⟩
  | fd :: fs, h => by
    simp only [placesL] at h
    cases hs : szOf P fd.type with
    | none => simp [hs, allSome] at h
    | some n =>
      simp only [hs, allSome] at h
      obtain ⟨r, hr, he⟩ := run_places w fs h
      refine ⟨(fd.offset, n) :: r, ?_, by simp [placesL, hs, he]⟩
      simp only [List.mapM_cons, Sem.run_bind, run_sizeOf' hs, Result.andThen_ok, Sem.run_pure] at hr ⊢
      simp only [hr, Result.andThen_ok]

theorem run_rBuild {P : Program} {t : TypeId} {parts : List (Nat × Value)} {V : Value → Prop} (h : rBuild P t parts V) :
    ∃ v, V v ∧ ∀ w, (Instr.build t parts.toArray).run P w = .ok v w := by
  unfold rBuild at h
  split at h
  · rename_i fs z hu hz
    cases hall : allSome (placesL P fs.toList)
    · simp [hall] at h
    · simp only [hall, cond_true] at h
      split at h
      · rename_i r hfl
        refine ⟨_, h, fun w => ?_⟩
        obtain ⟨zv, hzc, hzr, _⟩ := run_zero' hz w
        obtain ⟨pl, hpl, hpe⟩ := run_places w fs.toList hall
        have hpl' : (fs.mapM fun f => do pure (f.offset, ← sizeOf f.type) : Sem (Array (Nat × Nat))).run P w = .ok pl.toArray w := by
          rw [Array.mapM_eq_mapM_toList]
          simp only [Sem.run_map, hpl, Result.andThen_ok]
        have hfl' := fill_of_fillL (cs := z.toArray) (by simpa using hfl)
        have hpe' : (fun (i : Nat) => ((placesL P fs.toList)[i]?).bind id) = fun (i : Nat) => pl.toArray[i]? := by
          funext i
          rw [← hpe]
          simp
          cases pl[i]? <;> rfl
        rw [hpe'] at hfl'
        simp only [Instr.build, Sem.run_bind, hzr, Result.andThen_ok, run_underlying hu, hpl', hzc]
        simp only [hfl']
        rfl
      · exact h.elim
  · rename_i e z hu hz
    split at h
    · rename_i n hs
      split at h
      · rename_i r hfl
        refine ⟨_, h, fun w => ?_⟩
        obtain ⟨zv, hzc, hzr, _⟩ := run_zero' hz w
        have hfl' := fill_of_fillL (cs := z.toArray) (by simpa using hfl)
        simp only [Instr.build, Sem.run_bind, hzr, Result.andThen_ok, run_underlying hu, run_sizeOf' hs, hzc]
        simp only [hfl']
        rfl
      · exact h.elim
    · exact h.elim
  · exact h.elim

end Go.Eng
