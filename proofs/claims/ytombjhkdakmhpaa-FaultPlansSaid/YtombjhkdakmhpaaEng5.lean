/- The operations that make or write memory, and calls: their plan, and that the machine does so. -/
import Derived.Test.YtombjhkdakmhpaaEng4
namespace Go.Eng
open Go
set_option linter.unusedVariables false
set_option linter.unusedSimpArgs false

def byOf (P : Program) (t : TypeId) : Option Nat := (P.info? t).map (·.bytes)

/-- Nothing is read behind a nil slice; else the cells. -/
def RdC (w : World) (a : Option Addr) (vs : List Value) : Prop := (a = none ∧ vs = []) ∨ ∃ p, a = some p ∧ CellsAt w p vs

def oneAll (vs : List Value) : Prop := ∀ u ∈ vs, u.oneCell' = true

/-! ### Zeros -/
theorem zeros_eq (z : Array Value) : ∀ n : Nat, ((List.range (n * z.size)).map fun i => z[i % z.size]!) = (List.replicate n z.toList).flatten
  | 0 => by simp
  | n + 1 => by
    rw [Nat.add_mul, Nat.one_mul, List.range_add, List.map_append, zeros_eq z n, List.replicate_succ', List.flatten_append]
    congr 1
    simp only [List.map_map, List.flatten_cons, List.flatten_nil, List.append_nil]
    apply List.ext_getElem
    · simp
    · intro i h1 h2
      simp only [List.length_map, List.length_range] at h1
      simp only [List.getElem_map, List.getElem_range, Function.comp_apply]
      rw [Nat.mul_comm, Nat.mul_add_mod, Nat.mod_eq_of_lt h1]
      simp [h1]

theorem zeros_arr (z : Array Value) (n : Nat) : ((Array.range (n * z.size)).map fun i => z[i % z.size]!) = (List.replicate n z.toList).flatten.toArray := by
  apply Array.ext'
  rw [Array.toList_map, Array.toList_range, zeros_eq]

/-! ### append -/
theorem nextcap_le {need cap : Nat} (h : cap < need) : Builtin.nextslicecap need cap ≤ 2 * need + 256 := by
  unfold Builtin.nextslicecap
  split
  · omega
  · split
    · omega
    · have key : ∀ r c, c ≤ 2 * need + 256 → Builtin.growBy need r c ≤ 2 * need + 256 := by
        intro r
        induction r with
        | zero => intro c hc; simpa [Builtin.growBy] using hc
        | succ r ih =>
          intro c hc
          simp only [Builtin.growBy]
          split
          · exact hc
          · exact ih _ (by omega)
      exact key _ _ (by omega)

/-- append: 'm' elements whose cells are 'news'. -/
def AppV (w : World) (e : TypeId) (sz by' : Nat) (a : Option Addr) (n c : Nat) (news : List Value) (m : Nat) (K : Option Addr → Nat → Nat → World → Prop) : Prop :=
  news.length = m * sz ∧ oneAll news ∧ (2 * (n + m) + 256) * by' ≤ 281474976710656 ∧ (n + m) ≤ 9223372036854775807 ∧
  ((m = 0 ∧ n ≤ c ∧ K a n c w) ∨
   (∃ olds : List Value, olds.length = n * sz ∧ RdC w a olds ∧
    (n + m ≤ c → ∃ p, a = some p ∧ p.spot = none ∧ Free w (p.add (n * sz)) news.length ∧ K a (n + m) c (w.setCells p.block (p.off + n * sz) news)) ∧
    (c < n + m → ∀ (c' : Nat) (rest : List Value), n + m ≤ c' → (olds ++ news ++ rest).length = c' * sz →
      K (some ⟨w.heap.size, 0, none⟩) (n + m) c' (w.drew.alloc (.cells (olds ++ news ++ rest).toArray e)))))

theorem RdC.first {P : Program} {w : World} {a : Option Addr} {vs : List Value} {n c sz : Nat} (h : RdC w a vs) (hl : vs.length = n * sz) :
    (Builtin.firstCells sz n (.slice a n c)).run P w = .ok vs.toArray w := by
  rcases h with ⟨rfl, rfl⟩ | ⟨p, rfl, hc⟩
  · exact run_firstCells_none w sz n n c
  · exact run_firstCells_some w sz n p n c vs hl hc

theorem RdC.drew {w : World} {a : Option Addr} {vs : List Value} (h : RdC w a vs) : RdC w.drew a vs := h

theorem run_appV {P : Program} {ts tx e : TypeId} (ty : TypeId) {sz by' : Nat} (hu : P.underlying ts = some (.slice e)) (hs : szOf P e = some sz) (hb : byOf P e = some by') {z : List Value} (hz : zeroL P e = some z) (hzs : z.length = sz)
    {w : World} {a : Option Addr} {n c m : Nat} {x : Value} {news : List Value} (hsrc : Src P sz tx x m news w) {K : Option Addr → Nat → Nat → World → Prop} (h : AppV w e sz by' a n c news m K) :
    ∃ a' n' c' w', K a' n' c' w' ∧ (Builtin.append_ #[ts, tx] ty #[.slice a n c, x]).run P w = .ok (.slice a' n' c') w' := by
  obtain ⟨hl, h1, hby, h63, h⟩ := h
  obtain ⟨zv, hzc, _, i, hi, hzi⟩ := run_zero' hz (default : World)
  have hsi : i.size = sz := by simpa [szOf, hi] using hs
  have hbi : i.bytes = by' := by simpa [byOf, hi] using hb
  subst hsi; subst hbi
  rcases h with ⟨rfl, hnc, hk⟩ | ⟨olds, hol, hro, hroom, hgrow⟩
  · have hnews : news = [] := List.length_eq_zero_iff.1 (by omega)
    subst hnews
    exact ⟨_, _, _, _, hk, run_append_nothing w ts tx ty e i hu hi a n c hnc x hsrc⟩
  · by_cases hc : n + m ≤ c
    · obtain ⟨⟨b, off, sp⟩, rfl, hsp, hfree, hk⟩ := hroom hc
      simp only at hsp
      subst hsp
      have hadd : ∀ j, ((⟨b, off, none⟩ : Addr).add (n * i.size)).add j = ⟨b, off + n * i.size + j, none⟩ := by
        intro j; simp [Addr.add_lit]
      exact ⟨_, _, _, _, hk, run_append_room_src w ts tx ty e i hu hi b off n c x m news hsrc hc (fun j hj => by rw [← hadd]; exact (hfree j hj).1) (fun j hj => by rw [← hadd]; exact (hfree j hj).2)⟩
    · have hfit : Builtin.nextslicecap (n + m) c * i.bytes ≤ 281474976710656 :=
        Nat.le_trans (Nat.mul_le_mul_right _ (nextcap_le (by omega))) hby
      have hr := run_append_grow_src w ts tx ty e i zv hu hi hzi a n c olds (RdC.first hro.drew hol) x m news hsrc (by omega) (by omega) hfit
      generalize hg : grownCap w (n + m) c e = g at hr
      have hge : n + m ≤ g := by
        rw [← hg]
        unfold grownCap
        simp only [Question.cut]
        omega
      have hzero : Builtin.zeroCells zv.cells (g - (n + m)) = (List.replicate (g - (n + m)) z).flatten.toArray := by
        unfold Builtin.zeroCells
        rw [hzc]
        exact zeros_arr z.toArray _
      rw [hzero] at hr
      have hlen : (List.replicate (g - (n + m)) z).flatten.length = (g - (n + m)) * i.size := by
        simp [hzs]
      refine ⟨_, _, _, _, hgrow (by omega) g (List.replicate (g - (n + m)) z).flatten hge ?_, ?_⟩
      · simp only [List.length_append, hol, hl, hlen]
        rw [← Nat.add_mul, ← Nat.add_mul]
        congr 1
        omega
      · rw [hr]
        congr 3
        apply Array.ext'
        simp

/-! ### THE PLAN of an operation that acts -/
def Val2 (V : Value → World → Prop) (v : Option Value) (w : World) : Prop := match v with | some x => V x w | none => False

def AppS (w : World) (b : Option Addr) (m sz : Nat) (K : List Value → Prop) : Prop := ∃ news : List Value, news.length = m * sz ∧ RdC w b news ∧ K news
def AppArg (P : Program) (w : World) (tx : TypeId) (sz : Nat) (x : Value) (K : List Value → Nat → Prop) : Prop :=
  match P.underlying tx, x with
  | some (.slice _), .slice b m _ => AppS w b m sz fun news => K news m
  | some .string, .string s => sz = 1 ∧ K (byteCells s) s.size
  | _, _ => False

def FreeK (w : World) (a : Option Addr) (vs : List Value) (K : World → Prop) : Prop :=
  (vs = [] ∧ K w) ∨ ∃ p, a = some p ∧ p.spot = none ∧ Free w p vs.length ∧ ∀ w', w' = w.setCells p.block p.off vs → K w'

def CopyV (w : World) (a b : Option Addr) (k sz : Nat) (K : World → Prop) : Prop := ∃ vs : List Value, vs.length = k * sz ∧ RdC w b vs ∧ oneAll vs ∧ FreeK w a vs K
def ClearV (w : World) (a : Option Addr) (n : Nat) (z : List Value) (K : World → Prop) : Prop := oneAll z ∧ FreeK w a (List.replicate n z).flatten K

def eBuiltin (P : Program) (b : Builtin) (ts : List TypeId) (vs : List Value) (w : World) (V : Value → World → Prop) : Prop :=
  match b, ts, vs with
  | .append, [t, tx], [.slice a n c, x] =>
    (match P.underlying t with
     | some (.slice e) =>
       (match szOf P e, byOf P e, zeroL P e with
        | some sz, some by', some z => cond (Nat.beq z.length sz) (AppArg P w tx sz x fun news m => AppV w e sz by' a n c news m fun a' n' c' w' => V (.slice a' n' c') w') False
        | _, _, _ => False)
     | _ => False)
  | .copy, [t, _], [.slice a n _, .slice b m _] =>
    (match P.underlying t with
     | some (.slice e) =>
       (match szOf P e with
        | some sz => CopyV w a b (Nat.min m n) sz fun w' => V (.int .i64 (Nat.min m n : Nat)) w'
        | none => False)
     | _ => False)
  | .clear, [t], [.slice a n _] =>
    (match P.underlying t with
     | some (.slice e) => (match zeroL P e with | some z => ClearV w a n z fun w' => V (.tuple #[]) w' | none => False)
     | _ => False)
  | _, _, _ => False

/-- Bounds of a make. -/
def MkV (P : Program) (e : TypeId) (l c : Int) (w : World) (K : Nat → World → Prop) : Prop :=
  match szOf P e, byOf P e, zeroL P e with
  | some sz, some by', some z => cond (Nat.beq z.length sz) ((0 ≤ l ∧ l ≤ c ∧ c ≤ 9223372036854775807 ∧ (by' : Int) * c ≤ 140737488355328) ∧ NewV (List.replicate c.toNat z).flatten.toArray e w K) False
  | _, _, _ => False

def eOp (P : Program) (ok : FuncId → Bool) (op : Op) (ty : TypeId) (f : PF) (w : World) (V : Value → World → Prop) : Prop :=
  match op with
  | .alloc e => (match zeroL P e with | some z => NewV z.toArray e w fun b w' => V (.pointer (some ⟨b, 0, none⟩)) w' | none => False)
  | .box e x => (match ev f x with | some v => NewV v.cells e w fun b w' => V (.pointer (some ⟨b, 0, none⟩)) w' | none => False)
  | .buildSlice t len parts =>
    (match P.underlying t, evP f parts.toList with
     | some (.slice e), some ps =>
       (match szOf P e, zeroL P e with
        | some sz, some z =>
          cond (Nat.beq z.length sz && Nat.ble (len * sz) 16777216)
            (match fillL (fun i => some (i * sz, sz)) (List.replicate len z).flatten ps with
             | some r => NewV r.toArray e w fun b w' => V (.slice (some ⟨b, 0, none⟩) len len) w'
             | none => False) False
        | _, _ => False)
     | _, _ => False)
  | .store t x y =>
    (match ev f x, ev f y, szOf P t with
     | some (.pointer (some p)), some v, some n => (match v.cells.toList with | vs => cond (Nat.beq vs.length n && vs.all (·.oneCell')) (StoreV w p vs fun w' => V undef w') False)
     | _, _, _ => False)
  | .makeSlice t l c =>
    (match P.underlying t, ev f l, ev f c with
     | some (.slice e), some (.int .i64 l), some (.int .i64 c) => MkV P e l c w fun b w' => V (.slice (some ⟨b, 0, none⟩) l.toNat c.toNat) w'
     | _, _, _ => False)
  | .call ⟨.value g, args, _⟩ =>
    (match ev f g, evL f args.toList with
     | some (.func (.func g) first cap), some vs => cond (ok g) (CallV P g (first.toList ++ (vs ++ cap.toList)).toArray w (resSh P ty) fun x w' => V (packV _ x) w') False
     | _, _ => False)
  | .call ⟨.builtin b, args, ts⟩ => (match evL f args.toList with | some vs => eBuiltin P b ts.toList vs w V | none => False)
  | _ => False

theorem upon_ok {P : Program} {o : Oper} {a : Act} {w w' : World} {next : Act → World → Prop} {Q : Exit → Act → World → Prop} {v : Value}
    (h : (execOp a.eval o).run P w = .ok (.value v) w') (hn : next (a.put o.dst v) w') : o.wp P a w next Q := by
  unfold Oper.wp; rw [h]; exact hn

theorem run_newRow' {P : Program} (e : TypeId) (c : Array Value) (w : World) : (newRow e c).run P w = .ok ⟨w.heap.size, 0, none⟩ (w.alloc (.cells c e)) := rfl

theorem run_buildSlice' {P : Program} {t e : TypeId} {len sz : Nat} {ps : List (Nat × Value)} {z r : List Value} (hu : P.underlying t = some (.slice e)) (hs : szOf P e = some sz) (hz : zeroL P e = some z) (hzs : z.length = sz)
    (hle : len * sz ≤ 16777216) (hfl : fillL (fun i => some (i * sz, sz)) (List.replicate len z).flatten ps = some r) (w : World) :
    (Instr.buildSlice t len ps.toArray).run P w = .ok (.slice (some ⟨w.heap.size, 0, none⟩) len len) (w.alloc (.cells r.toArray e)) := by
  obtain ⟨zv, hzc, hzr, _⟩ := run_zero' hz w
  have hn : ¬ (len * sz > 2 ^ 24) := by omega
  have hfl' := fill_of_fillL (cs := (List.replicate len z).flatten.toArray) (by simpa using hfl)
  simp only [Instr.buildSlice, Sem.run_bind, run_underlying hu, Result.andThen_ok, run_sizeOf' hs]
  rw [if_neg hn]
  by_cases h0 : len * sz = 0
  · have hnil : (List.replicate len z).flatten = [] := by
      apply List.length_eq_zero_iff.1
      simp [hzs, h0]
    rw [hnil] at hfl'
    rw [if_pos h0]
    simp only [Sem.run_bind, Sem.run_pure, Result.andThen_ok, h0]
    have hr0 : ∀ g : Nat → Value, (Array.range 0).map g = ([] : List Value).toArray := fun g => by simp
    rw [hr0, hfl']
    rfl
  · rw [if_neg h0]
    have := zeros_arr z.toArray len
    simp only [List.size_toArray, hzs] at this
    simp only [Sem.run_bind, hzr, Result.andThen_ok, Sem.run_pure, hzc, List.size_toArray, hzs, this, hfl']
    rfl

theorem i64_wrap {z : Int} (h0 : -9223372036854775808 ≤ z) (h1 : z ≤ 9223372036854775807) : IntKind.i64.wrap z = z :=
  wrap_rng ⟨by simpa [IntKind.min, IntKind.signed, IntKind.bits] using h0, by simpa [IntKind.max, IntKind.signed, IntKind.bits] using h1⟩

theorem run_makeSlice' {P : Program} {t e : TypeId} {sz by' : Nat} {z : List Value} {l c : Int} (hu : P.underlying t = some (.slice e)) (hs : szOf P e = some sz) (hb : byOf P e = some by') (hz : zeroL P e = some z) (hzs : z.length = sz)
    (hl : 0 ≤ l) (hlc : l ≤ c) (hc63 : c ≤ 9223372036854775807) (hby : (by' : Int) * c ≤ 140737488355328) (w : World) :
    (Instr.makeSlice t (.int .i64 l) (.int .i64 c)).run P w = .ok (.slice (some ⟨w.heap.size, 0, none⟩) l.toNat c.toNat) (w.alloc (.cells (List.replicate c.toNat z).flatten.toArray e)) := by
  obtain ⟨zv, hzc, hzr, i, hi, _⟩ := run_zero' hz w
  have hbi : i.bytes = by' := by simpa [byOf, hi] using hb
  subst hbi
  have wl : IntKind.i64.wrap l = l := i64_wrap (by omega) (by omega)
  have wc : IntKind.i64.wrap c = c := i64_wrap (by omega) hc63
  have hroom : ¬ (c.toNat * i.bytes > 2 ^ 47) := by
    have h3 : ((c.toNat * i.bytes : Nat) : Int) ≤ 140737488355328 := by
      rw [Int.natCast_mul, Int.toNat_of_nonneg (by omega), Int.mul_comm]; exact hby
    omega
  have hc0 : ¬ ((decide (c < 0) || decide ((i.bytes : Int) * c > 2 ^ 48)) || decide (l < 0) || decide (l > c)) = true := by
    simp only [Bool.or_eq_true, decide_eq_true_eq]
    omega
  simp only [Instr.makeSlice, Sem.run_bind, run_underlying hu, Result.andThen_ok, asInt, asIntOf, Sem.run_pure, typeInfo, program, Sem.run, hi, wl, wc]
  rw [if_neg hc0]
  have har : (askRoom (c.toNat * i.bytes)).run P w = .ok () w := by
    unfold askRoom roomBytes
    rw [if_neg hroom]
    rfl
  simp only [Sem.run_bind, har, Sem.run_pure, Result.andThen_ok, run_sizeOf' hs]
  by_cases h0 : c.toNat * sz = 0
  · have hnil : (List.replicate c.toNat z).flatten = [] := by
      apply List.length_eq_zero_iff.1
      simp [hzs, h0]
    rw [if_pos h0, hnil]
    simp only [Sem.run_bind, Sem.run_pure, Result.andThen_ok, h0]
    have hr0 : ∀ g : Nat → Value, (Array.range 0).map g = ([] : List Value).toArray := fun g => by simp
    rw [hr0]
    rfl
  · rw [if_neg h0]
    have := zeros_arr z.toArray c.toNat
    simp only [List.size_toArray, hzs] at this
    simp only [Sem.run_bind, hzr, Result.andThen_ok, Sem.run_pure, hzc, List.size_toArray, hzs, this]
    rfl

theorem run_store' {P : Program} {w : World} {b o : Nat} {us : List Value} (hfr : Free w ⟨b, o, none⟩ us.length) (h1 : oneAll us) : (storeCells ⟨b, o, none⟩ us).run P w = .ok () (w.setCells b o us) :=
  run_storeCells_cells (P := P) b o us 0 w (fun j hj => by have := (hfr j hj).1; simpa [Addr.add_lit] using this) (fun j hj => by have := (hfr j hj).2; simpa [Addr.add_lit] using this) h1

theorem run_eBuiltin {P : Program} {b : Builtin} {ts : List TypeId} {vs : List Value} {w : World} {V : Value → World → Prop} (h : eBuiltin P b ts vs w V) :
    ∃ v w', V v w' ∧ ∀ ty cs, (builtin b ts.toArray ty cs vs.toArray).run P w = .ok (.value v) w' := by
  unfold eBuiltin at h
  split at h
  · rename_i t tx av nv cv x
    split at h
    · rename_i e hu
      split at h
      · rename_i sz by' z hs hb hz
        cases hc : Nat.beq z.length sz
        · simp only [hc, cond_false] at h
        · simp only [hc, cond_true] at h
          have hzs := Nat.eq_of_beq_eq_true hc
          have fin : ∀ {m : Nat} {news : List Value}, Src P sz tx x m news w → AppV w e sz by' av nv cv news m (fun a' n' c' w' => V (.slice a' n' c') w') →
              ∃ v w', V v w' ∧ ∀ ty cs, (builtin .append [t, tx].toArray ty cs [.slice av nv cv, x].toArray).run P w = .ok (.value v) w' := by
            intro m news hsrc happ
            have hty : ∀ ty, ∃ a' n' c' w', V (.slice a' n' c') w' ∧ (Builtin.append_ #[t, tx] ty #[.slice av nv cv, x]).run P w = .ok (.slice a' n' c') w' := fun ty => run_appV ty hu hs hb hz hzs hsrc happ
            obtain ⟨a', n', c', w', hk, hr⟩ := hty 0
            exact ⟨_, _, hk, fun ty cs => by
              have hr' : (Builtin.append_ #[t, tx] ty #[.slice av nv cv, x]).run P w = .ok (.slice a' n' c') w' := hr
              simp only [builtin, Sem.run_bind, hr', Result.andThen_ok, Sem.run_pure]⟩
          unfold AppArg at h
          split at h
          · rename_i e' b m c' hux
            obtain ⟨news, hl, hrd, happ⟩ := h
            refine fin ?_ happ
            have h1 := happ.2.1
            rcases hrd with ⟨rfl, rfl⟩ | ⟨p, rfl, hcs⟩
            · exact ⟨.inl ⟨_, hux⟩, fun _ => rfl, run_firstCells_none w sz m m c', run_firstCells_none w.drew sz m m c', hl, h1⟩
            · exact Src.ofSlice w hux p m c' news hl hcs h1
          · rename_i z' hux
            obtain ⟨rfl, happ⟩ := h
            exact fin (Src.ofString w hux _) happ
          · exact h.elim
      · exact h.elim
    · exact h.elim
  · rename_i t tx av nv cv b m cm
    split at h
    · rename_i e hu
      split at h
      · rename_i sz hs
        obtain ⟨us, hl, hrd, h1, hfree⟩ := h
        have hfirst : (Builtin.firstCells sz (Nat.min m nv) (.slice b m cm)).run P w = .ok us.toArray w := by
          rcases hrd with ⟨rfl, rfl⟩ | ⟨p, rfl, hcs⟩
          · exact run_firstCells_none w sz (Nat.min m nv) m cm
          · exact run_firstCells_some w sz (Nat.min m nv) p m cm us hl hcs
        have hcopy : ∀ ty w', ((match av with | some p => storeCells p us | none => pure ()) : Sem Unit).run P w = .ok () w' →
            (Builtin.copy_ #[t, tx] ty #[.slice av nv cv, .slice b m cm]).run P w = .ok (.int .i64 (Nat.min m nv : Nat)) w' := by
          intro ty w' hst
          cases av with
          | none =>
            have : w' = w := by simpa [Sem.run_pure] using hst.symm
            subst this
            simp only [Builtin.copy_, Sem.run_bind, run_underlying hu, Result.andThen_ok, run_sizeOf' hs, Builtin.lenOf, Sem.run_pure]
            simp [hfirst, run_underlying hu, run_sizeOf' hs, goInt]
          | some p =>
            simp [Builtin.copy_, run_underlying hu, run_sizeOf' hs, Builtin.lenOf, hfirst, hst, goInt]
        rcases hfree with ⟨rfl, hk⟩ | ⟨⟨pb, po, ps⟩, rfl, hsp, hfr, hk⟩
        · refine ⟨_, _, hk, fun ty cs => ?_⟩
          simp only [builtin, Sem.run_bind]
          rw [hcopy ty w (by cases av <;> rfl)]
          rfl
        · simp only at hsp
          subst hsp
          refine ⟨_, _, hk _ rfl, fun ty cs => ?_⟩
          simp only [builtin, Sem.run_bind]
          rw [hcopy ty _ (run_store' hfr h1)]
          rfl
      · exact h.elim
    · exact h.elim
  · rename_i t av nv cv
    split at h
    · rename_i e hu
      split at h
      · rename_i z hz
        obtain ⟨h1, hfree⟩ := h
        obtain ⟨zv, hzc, hzr, _⟩ := run_zero' hz w
        have hzero : (Builtin.zeroCells zv.cells nv).toList = (List.replicate nv z).flatten := by
          unfold Builtin.zeroCells
          rw [hzc, zeros_arr z.toArray nv]
        have hone : oneAll (List.replicate nv z).flatten := by
          intro u hu
          obtain ⟨l, hl, hul⟩ := List.mem_flatten.1 hu
          rw [(List.mem_replicate.1 hl).2] at hul
          exact h1 u hul
        have hclear : ∀ ty w', ((match av with | some p => storeCells p (List.replicate nv z).flatten | none => pure ()) : Sem Unit).run P w = .ok () w' →
            (Builtin.clear_ #[t] ty #[.slice av nv cv]).run P w = .ok (.tuple #[]) w' := by
          intro ty w' hst
          cases av with
          | none =>
            have : w' = w := by simpa [Sem.run_pure] using hst.symm
            subst this
            simp [Builtin.clear_, run_underlying hu]
          | some p =>
            cases nv with
            | zero =>
              have : w' = w := by simpa [Sem.run_pure, storeCells] using hst.symm
              subst this
              simp [Builtin.clear_, run_underlying hu]
            | succ nv => simp [Builtin.clear_, run_underlying hu, hzr, hzero, hst]
        rcases hfree with ⟨h0, hk⟩ | ⟨⟨pb, po, ps⟩, rfl, hsp, hfr, hk⟩
        · refine ⟨_, _, hk, fun ty cs => ?_⟩
          simp only [builtin, Sem.run_bind]
          rw [hclear ty w (by cases av <;> first | rfl | (simp only [h0]; rfl))]
          rfl
        · simp only at hsp
          subst hsp
          refine ⟨_, _, hk _ rfl, fun ty cs => ?_⟩
          simp only [builtin, Sem.run_bind]
          rw [hclear ty _ (run_store' hfr hone)]
          rfl
      · exact h.elim
    · exact h.elim
  · exact h.elim

theorem eOp.sound {P : Program} {ok : FuncId → Bool} (hok : ∀ g, ok g = true → ∀ args w, (callFunc g args).run P w = .ok (.enter g args) w) {o : Oper} {f : PF} {n : Nat} {a : Act} (hf : Fits n f a) {w : World} {V : Value → World → Prop}
    {next : Act → World → Prop} {Q : Exit → Act → World → Prop} (hV : ∀ v w', V v w' → next (a.put o.dst v) w') (h : eOp P ok o.op o.type f w V) : o.wp P a w next Q := by
  obtain ⟨dst, op, ty, pos, after, guard⟩ := o
  simp only at h hV
  unfold eOp at h
  split at h
  · rename_i e
    split at h
    · rename_i z hz
      obtain ⟨zv, hzc, hzr, _⟩ := run_zero' hz w
      refine upon_ok (w' := w.alloc (.cells z.toArray e)) ?_ (hV _ _ (h _ _ rfl rfl))
      simp only [execOp, Instr.alloc, Sem.run_bind, hzr, Result.andThen_ok, newVar, run_newRow', hzc]
      rfl
    · exact h.elim
  · rename_i e x
    split at h
    · rename_i v he
      refine upon_ok (w' := w.alloc (.cells v.cells e)) ?_ (hV _ _ (h _ _ rfl rfl))
      simp only [execOp, Instr.box, Sem.run_bind, hf.ev he, Result.andThen_ok, newVar, run_newRow']
      rfl
    · exact h.elim
  · rename_i t len parts
    split at h
    · rename_i e ps hu he
      split at h
      · rename_i sz z hs hz
        cases hc : (Nat.beq z.length sz && Nat.ble (len * sz) 16777216)
        · simp only [hc, cond_false] at h
        · simp only [hc, cond_true] at h
          simp only [Bool.and_eq_true] at hc
          have hzs := Nat.eq_of_beq_eq_true hc.1
          have hle := Nat.le_of_ble_eq_true hc.2
          split at h
          · rename_i r hfl
            refine upon_ok (w' := w.alloc (.cells r.toArray e)) ?_ (hV _ _ (h _ _ rfl rfl))
            have e1 : parts.map (fun (x : Nat × Operand) => (x.1, a.eval x.2)) = ps.toArray := by apply Array.ext'; rw [Array.toList_map]; exact hf.evP he
            have e2 : (parts.map fun x => match x with | (i, x) => (i, a.eval x)) = ps.toArray := e1
            simp only [execOp, e2, Sem.run_bind, run_buildSlice' hu hs hz hzs hle hfl, Result.andThen_ok, Sem.run_pure]
          · exact h.elim
      · exact h.elim
    · exact h.elim
  · rename_i t x y
    split at h
    · rename_i p v n' h1 h2 hs
      cases hc : (Nat.beq v.cells.toList.length n' && v.cells.toList.all (·.oneCell'))
      · simp only [hc, cond_false] at h
      · simp only [hc, cond_true] at h
        simp only [Bool.and_eq_true] at hc
        have hl := Nat.eq_of_beq_eq_true hc.1
        obtain ⟨hsp, hfree, hk⟩ := h
        obtain ⟨b, off, sp⟩ := p
        simp only at hsp
        subst hsp
        have hst := run_storeCells_cells (P := P) b off v.cells.toList 0 w (fun j hj => by have := (hfree j hj).1; simpa [Addr.add_lit] using this) (fun j hj => by have := (hfree j hj).2; simpa [Addr.add_lit] using this)
          (fun u hu => List.all_eq_true.1 hc.2 u hu)
        unfold Oper.wp
        have hr : (execOp a.eval ⟨dst, .store t x y, ty, pos, after, guard⟩).run P w = .ok .skip (w.setCells b off v.cells.toList) := by
          simp only [execOp, hf.ev h1, hf.ev h2, Instr.storeAt, Instr.sureAddr, storeVar, Sem.run_bind, Sem.run_pure, Result.andThen_ok, run_sizeOf' hs]
          rw [if_neg (by simpa using hl)]
          simp only [hst, Nat.add_zero]
          rfl
        rw [hr]
        exact hV _ _ (hk _ rfl)
    · exact h.elim
  · rename_i t xl xc
    split at h
    · rename_i e l c hu h1 h2
      unfold MkV at h
      split at h
      · rename_i sz by' z hs hb hz
        cases hc : Nat.beq z.length sz
        · simp only [hc, cond_false] at h
        · simp only [hc, cond_true] at h
          have hzs := Nat.eq_of_beq_eq_true hc
          obtain ⟨⟨hl, hlc, hc63, hby⟩, hk⟩ := h
          refine upon_ok (w' := w.alloc (.cells (List.replicate c.toNat z).flatten.toArray e)) ?_ (hV _ _ (hk _ _ rfl rfl))
          simp only [execOp, hf.ev h1, hf.ev h2, Sem.run_bind, run_makeSlice' hu hs hb hz hzs hl hlc hc63 hby, Result.andThen_ok, Sem.run_pure]
      · exact h.elim
    · exact h.elim
  · rename_i g args ts
    split at h
    · rename_i g' first cap vs h1 h2
      cases hg : ok g'
      · simp only [hg, cond_false] at h
      · simp only [hg, cond_true] at h
        have e1 : args.map a.eval = vs.toArray := by apply Array.ext'; rw [Array.toList_map]; exact hf.evL h2
        unfold Oper.wp
        have hr : (execOp a.eval ⟨dst, .call ⟨.value g, args, ts⟩, ty, pos, after, guard⟩).run P w = .ok (.enter g' (first.toList ++ (vs ++ cap.toList)).toArray) w := by
          simp only [execOp, resolve, hf.ev h1, e1, Deferred.ofValue, Sem.run_bind, Sem.run_pure, Result.andThen_ok, invoke]
          rw [hok g' hg]
          congr 2
          apply Array.ext'
          simp
        rw [hr]
        exact Calls.mono h fun e w' ⟨x, he, hx⟩ => by subst he; exact hV _ _ hx
    · exact h.elim
  · rename_i b args ts
    split at h
    · rename_i vs he
      have e1 : args.map a.eval = vs.toArray := by apply Array.ext'; rw [Array.toList_map]; exact hf.evL he
      obtain ⟨v, w', hv, hr⟩ := run_eBuiltin h
      refine upon_ok (w' := w') (v := v) ?_ (hV _ _ hv)
      simp only [execOp, resolve, e1, Sem.run_bind, Sem.run_pure, Result.andThen_ok, invoke]
      exact hr _ _
    · exact h.elim
  · exact h.elim

end Go.Eng
