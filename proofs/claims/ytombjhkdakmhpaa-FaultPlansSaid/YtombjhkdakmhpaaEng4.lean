/- The plan of any reading operation, in one word. -/
import Derived.Test.YtombjhkdakmhpaaEng3
namespace Go.Eng
open Go
set_option linter.unusedVariables false
set_option linter.unusedSimpArgs false

def rConv (P : Program) (s d : TypeId) (x : Value) (G : Grd) (w0 : World) (V : Value → Prop) : Prop :=
  match P.underlying s, P.underlying d, x with
  | some (.int _), some (.int k), .int _ n => V (.int k (k.wrap n))
  | some .string, some .string, .string z => V (.string z)
  | some (.slice e), some .string, .slice a n _ =>
    (match P.underlying e with
     | some (.int .u8) => ∃ ns : List Int, ns.length = n ∧ ((a = none ∧ n = 0) ∨ ∃ p, a = some p ∧ G p (CellsAt w0 p (ns.map (Value.int .u8)))) ∧ V (.string (ns.foldl (fun r m => r.push (UInt8.ofNat m.toNat)) ByteArray.empty))
     | _ => False)
  | _, _, _ => False

theorem run_rConv {P : Program} {s d : TypeId} {x : Value} {G : Grd} {w0 : World} {V : Value → Prop} (h : rConv P s d x G w0 V) {S : World → Prop} (hS : ∃ w, S w) (hG : ∀ w, S w → G.Ok w0 w) :
    ∃ v, V v ∧ ∀ w, S w → (convert s d x).run P w = .ok v w := by
  obtain ⟨ws, hws⟩ := hS
  unfold rConv at h
  split at h
  · rename_i h1 h2
    exact ⟨_, h, fun w _ => by simp [convert, run_underlying h1, run_underlying h2, Conv.intToInt]⟩
  · rename_i h1 h2
    exact ⟨_, h, fun w _ => by simp [convert, run_underlying h1, run_underlying h2]⟩
  · rename_i e a n c h1 h2
    split at h
    · rename_i h3
      obtain ⟨ns, hl, hc, hv⟩ := h
      refine ⟨_, hv, fun w hk => ?_⟩
      rcases hc with ⟨rfl, hn⟩ | ⟨p, rfl, hc⟩
      · have : ns = [] := List.length_eq_zero_iff.1 (by omega)
        subst this
        simp [convert, run_underlying h1, run_underlying h2, run_underlying h3, Conv.bytesToString]
      · have hcs := run_loadCells_list (P := P) w p (ns.map (Value.int .u8)) (cells_same (hG w hk p _ hc).2 (hG w hk p _ hc).1)
        rw [List.length_map, hl] at hcs
        simp [convert, run_underlying h1, run_underlying h2, run_underlying h3, run_bytesToString w p n c ns hcs]
    · exact h.elim
  · exact h.elim

def rExtract (x : Value) (i : Nat) (V : Value → Prop) : Prop :=
  match x with
  | .tuple vs => (match vs.toList[i]? with | some v => V v | none => False)
  | _ => False

def lenV (P : Program) (t : TypeId) (x : Value) (V : Value → Prop) : Prop :=
  match P.underlying t, x with
  | some .string, .string s => V (.int .i64 (s.size : Int))
  | some (.slice _), .slice _ n _ => V (.int .i64 (n : Int))
  | some (.array n _), _ => V (.int .i64 (n : Int))
  | _, _ => False

theorem run_lenV {P : Program} {t ty : TypeId} {x : Value} {V : Value → Prop} (h : lenV P t x V) :
    ∃ v, V v ∧ ∀ w, (Builtin.len_ #[t] ty #[x]).run P w = .ok v w := by
  unfold lenV at h
  split at h
  · rename_i hu; exact ⟨_, h, fun w => by simp [Builtin.len_, run_underlying hu, goInt]⟩
  · rename_i hu; exact ⟨_, h, fun w => by simp [Builtin.len_, run_underlying hu, goInt]⟩
  · rename_i hu; exact ⟨_, h, fun w => by simp [Builtin.len_, run_underlying hu, goInt]⟩
  · exact h.elim

/-- A number gets a name. -/
def NameI (t : Int) (K : Int → Prop) : Prop := ∀ z, z = t → K z

def rBuiltin (P : Program) (b : Builtin) (ts : List TypeId) (vs : List Value) (V : Value → Prop) : Prop :=
  match b, ts, vs with
  | .len, [t], [x] => lenV P t x V
  | .min, _, [.int k x, .int k' y] => NameI (min x y) fun z => V (.int k z)
  | .max, _, [.int k x, .int k' y] => NameI (max x y) fun z => V (.int k z)
  | _, _, _ => False

theorem run_rBuiltin {P : Program} {b : Builtin} {ts : Array TypeId} {ty : TypeId} {vs : Array Value} {V : Value → Prop} (h : rBuiltin P b ts.toList vs.toList V) :
    ∃ v, V v ∧ ∀ cs w, (builtin b ts ty cs vs).run P w = .ok (.value v) w := by
  unfold rBuiltin at h
  split at h
  · rename_i t x ht hv
    obtain ⟨v, h1, h2⟩ := run_lenV (ty := ty) h
    refine ⟨v, h1, fun cs w => ?_⟩
    have e1 : ts = #[t] := by apply Array.ext'; simpa using ht
    have e2 : vs = #[x] := by apply Array.ext'; simpa using hv
    subst e1; subst e2
    simp [builtin, h2]
  · rename_i k x k' y hv
    refine ⟨_, h _ rfl, fun cs w => ?_⟩
    have e2 : vs = #[.int k x, .int k' y] := by apply Array.ext'; simpa using hv
    subst e2
    have e3 : (if y < x then y else x) = min x y := by split <;> omega
    simp [builtin, Builtin.min_, Builtin.min2, e3]
  · rename_i k x k' y hv
    refine ⟨_, h _ rfl, fun cs w => ?_⟩
    have e2 : vs = #[.int k x, .int k' y] := by apply Array.ext'; simpa using hv
    subst e2
    have e3 : (if y > x then y else x) = max x y := by split <;> omega
    simp [builtin, Builtin.max_, Builtin.max2, e3]
  · exact h.elim

/-- THE PLAN of a reading operation. -/
def rOp (P : Program) (wr : Bool) (op : Op) (f : PF) (G : Grd) (w0 : World) (V : Value → Prop) : Prop :=
  match op with
  | .move x => (match ev f x with | some v => V v | none => False)
  | .assign x => (match ev f x with | some v => V v | none => False)
  | .pick c a b => (match ev f c, ev f a, ev f b with | some (.bool t), some x, some y => cond t (V x) (V y) | _, _, _ => False)
  | .load t x => (match ev f x with | some (.pointer (some p)) => rLoad P t G w0 p V | _ => False)
  | .nilCheck x => (match ev f x with | some (.pointer (some p)) => V (.pointer (some p)) | some (.func (.func g) fs cs) => V (.func (.func g) fs cs) | _ => False)
  | .binOp o t x y _ => (match ev f x, ev f y with | some a, some b => rBin P wr o t a b V | _, _ => False)
  | .unOp o _ x => (match ev f x with | some a => rUn wr o a V | none => False)
  | .convert s d x => (match ev f x with | some a => rConv P s d a G w0 V | none => False)
  | .makeFunc fn first cap => (match evL f first.toList, evL f cap.toList with | some l, some m => V (.func fn l.toArray m.toArray) | _, _ => False)
  | .slice t x lo hi mx => (match ev f x, optI f lo, optI f hi, optI f mx with | some v, some l, some h, some m => rSlice P t v l h m V | _, _, _, _ => False)
  | .fieldAddr s x j => (match ev f x with | some (.pointer (some p)) => fieldK P s j fun off ft => (match szOf P ft with | some (n + 1) => V (.pointer (some (p.add off))) | _ => False) | _ => False)
  | .field t x j => (match ev f x with | some (.agg cs) => fieldK P t j fun off ft => partK P ft cs.toList off V | _ => False)
  | .indexAddr t x i => (match ev f x, ev f i with | some v, some u => rIndexAt P t v u V | _, _ => False)
  | .index t x i => (match ev f x, ev f i with | some v, some u => rIndex P t v u V | _, _ => False)
  | .extract x i => (match ev f x with | some v => rExtract v i V | none => False)
  | .build t parts => (match evP f parts.toList with | some ps => rBuild P t ps V | none => False)
  | .call ⟨.builtin b, args, ts⟩ => (match evL f args.toList with | some vs => rBuiltin P b ts.toList vs V | none => False)
  | _ => False

theorem rOp.sound {P : Program} {wr : Bool} {o : Oper} {f : PF} {n : Nat} {a : Act} (hf : Fits n f a) {G : Grd} {w0 : World} {V : Value → Prop} (h : rOp P wr o.op f G w0 V) {S : World → Prop} (hS : ∃ w, S w) (hG : ∀ w, S w → G.Ok w0 w) :
    ∃ v, V v ∧ ∀ w, S w → (execOp a.eval o).run P w = .ok (.value v) w := by
  obtain ⟨dst, op, ty, pos, after, guard⟩ := o
  simp only at h
  unfold rOp at h
  have lift : ∀ {s : Sem Value}, (∃ v, V v ∧ ∀ w, s.run P w = .ok v w) → ∃ v, V v ∧ ∀ w, S w → (do pure (Next.value (← s))).run P w = .ok (.value v) w :=
    fun ⟨v, h1, h2⟩ => ⟨v, h1, fun w _ => by simp [h2]⟩
  have liftK : ∀ {s : Sem Value}, (∃ v, V v ∧ ∀ w, S w → s.run P w = .ok v w) → ∃ v, V v ∧ ∀ w, S w → (do pure (Next.value (← s))).run P w = .ok (.value v) w :=
    fun ⟨v, h1, h2⟩ => ⟨v, h1, fun w hk => by simp [h2 w hk]⟩
  split at h
  · split at h
    · rename_i v he; exact ⟨v, h, fun w _ => by simp [execOp, hf.ev he]⟩
    · exact h.elim
  · split at h
    · rename_i v he; exact ⟨v, h, fun w _ => by simp [execOp, hf.ev he]⟩
    · exact h.elim
  · split at h
    · rename_i t x y h1 h2 h3
      cases t
      · exact ⟨y, h, fun w _ => by simp [execOp, hf.ev h1, hf.ev h2, hf.ev h3, asBool]⟩
      · exact ⟨x, h, fun w _ => by simp [execOp, hf.ev h1, hf.ev h2, hf.ev h3, asBool]⟩
    · exact h.elim
  · split at h
    · rename_i p he
      have := liftK (run_rLoad h hS hG)
      simpa [execOp, hf.ev he, Instr.loadAt, Instr.sureAddr] using this
    · exact h.elim
  · split at h
    · rename_i p he; exact ⟨_, h, fun w _ => by simp [execOp, hf.ev he]⟩
    · rename_i g fs cs he; exact ⟨_, h, fun w _ => by simp [execOp, hf.ev he]⟩
    · exact h.elim
  · split at h
    · rename_i u v h1 h2
      obtain ⟨r, hv, hr⟩ := run_rBin h
      refine ⟨r, hv, fun w _ => ?_⟩
      have := hr w
      simp only [execOp, hf.ev h1, hf.ev h2]
      rw [Sem.run_bind, this]
      rfl
    · exact h.elim
  · split at h
    · rename_i u he
      have := lift (run_rUn (P := P) h)
      simpa [execOp, hf.ev he] using this
    · exact h.elim
  · split at h
    · rename_i u he
      have := liftK (run_rConv h hS hG)
      simpa [execOp, hf.ev he] using this
    · exact h.elim
  · rename_i fn first cap
    split at h
    · rename_i l m h1 h2
      refine ⟨_, h, fun w _ => ?_⟩
      have e1 : first.map a.eval = l.toArray := by apply Array.ext'; rw [Array.toList_map]; exact hf.evL h1
      have e2 : cap.map a.eval = m.toArray := by apply Array.ext'; rw [Array.toList_map]; exact hf.evL h2
      simp [execOp, Instr.makeFunc, e1, e2]
    · exact h.elim
  · split at h
    · rename_i v l hh m h1 h2 h3 h4
      have := lift (run_rSlice hf h2 h3 h4 h)
      simpa [execOp, hf.ev h1] using this
    · exact h.elim
  · split at h
    · rename_i p he
      have := lift (run_fieldAt' h)
      simpa [execOp, hf.ev he] using this
    · exact h.elim
  · rename_i t x j
    split at h
    · rename_i cs he
      unfold fieldK at h
      split at h
      · rename_i fs hu
        split at h
        · rename_i fd hfd
          obtain ⟨v, hv, hr⟩ := run_partK h
          have hf' : fs[j]? = some fd := by rw [← Array.getElem?_toList]; exact hfd
          exact ⟨v, hv, fun w _ => by simp [execOp, hf.ev he, Instr.field, run_underlying hu, hf', asAgg, hr]⟩
        · exact h.elim
      · exact h.elim
    · exact h.elim
  · split at h
    · rename_i u v h1 h2
      have := lift (run_rIndexAt h)
      simpa [execOp, hf.ev h1, hf.ev h2] using this
    · exact h.elim
  · split at h
    · rename_i u v h1 h2
      have := lift (run_rIndex h)
      simpa [execOp, hf.ev h1, hf.ev h2] using this
    · exact h.elim
  · rename_i x i
    split at h
    · rename_i v he
      unfold rExtract at h
      split at h
      · rename_i vs
        split at h
        · rename_i u hu
          have hu' : vs[i]? = some u := by rw [← Array.getElem?_toList]; exact hu
          exact ⟨u, h, fun w _ => by simp [execOp, hf.ev he, Instr.extract, hu']⟩
        · exact h.elim
      · exact h.elim
    · exact h.elim
  · rename_i t parts
    split at h
    · rename_i ps he
      have := lift (run_rBuild h)
      have e1 : parts.map (fun (x : Nat × Operand) => (x.1, a.eval x.2)) = ps.toArray := by apply Array.ext'; rw [Array.toList_map]; exact hf.evP he
      simpa [execOp, e1] using this
    · exact h.elim
  · rename_i b args ts
    split at h
    · rename_i vs he
      have e1 : args.map a.eval = vs.toArray := by apply Array.ext'; rw [Array.toList_map]; exact hf.evL he
      obtain ⟨v, hv, hr⟩ := run_rBuiltin (ts := ts) (vs := vs.toArray) (ty := ty) (by simpa using h)
      refine ⟨v, hv, fun w _ => ?_⟩
      simp only [execOp, resolve, e1, Sem.run_bind, Sem.run_pure, Result.andThen_ok]
      exact hr _ w
    · exact h.elim
  · exact h.elim

end Go.Eng
