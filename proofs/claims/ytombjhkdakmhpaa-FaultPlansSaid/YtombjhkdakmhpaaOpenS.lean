/- What any parameter of a law is known to be, with the sizes of what it holds: structs, arrays and slices of whole numbers, texts, and of each other. -/
import Derived.Test.YtombjhkdakmhpaaOpenG
namespace Go.Proofs.Ytombjhkdakmhpaa.Vc
open Go Go.Eng Go.RowKit Go.ChangeShapes
set_option linter.unusedVariables false
set_option linter.unusedSimpArgs false

/-- No slice or text in it is longer than what an address space holds. -/
def Ty.big : (t : Ty) → t.T → Prop
  | .int _, _ => True
  | .bool, _ => True
  | .str, (x : ByteArray) => x.size ≤ 140737488351232
  | .sl e, (x : SlP e.T) => x.n ≤ 140737488351232 ∧ ∀ y ∈ x.l, e.big y
  | .nil, _ => True
  | .cons a r, (x : a.T × r.T) => a.big x.1 ∧ r.big x.2

/-- The elements of every slice have some byte. -/
def posF (P : Program) (cf : Ty → TypeId → Bool) : Ty → List Field → Bool
  | .cons a r, f :: fs => cf a f.type && posF P cf r fs
  | _, _ => true
def posA (cf : Ty → TypeId → Bool) (e : TypeId) : Ty → Nat → Bool
  | .cons a r, n + 1 => cf a e && posA cf e r n
  | _, _ => true
def pos (P : Program) : Nat → Ty → TypeId → Bool
  | 0, _, _ => false
  | d + 1, t, i =>
    match P.underlying i, t with
    | some (.slice e), .sl t => pos P d t e && Nat.ble 1 (P.bytesOf e)
    | some (.struct fs), t => posF P (pos P d) t fs.toList
    | some (.array n e), t => posA (pos P d) e t n
    | _, _ => true

section
variable {H : Type} {enc : TypeId × Value → H} {P : Program} {w : World}
def Fit (l : List Nat) : Prop := l.all (· ≤ reachBytes) = true
theorem Fit.app {l m : List Nat} : Fit (l ++ m) ↔ Fit l ∧ Fit m := by unfold Fit; rw [List.all_append, Bool.and_eq_true]
theorem Fit.cons {a : Nat} {m : List Nat} : Fit (a :: m) ↔ a ≤ reachBytes ∧ Fit m := by unfold Fit; rw [List.all_cons, Bool.and_eq_true]; simp

def OpensS (enc : TypeId × Value → H) (P : Program) (w : World) (d : Nat) : Prop :=
  ∀ (ty : Ty) (t : TypeId) (fuel : Nat) (cs : List Value) (x : DataW H × List MemPlace), conf P d ty t = true → pos P d ty t = true → DataW.trod enc P w 0 (fun _ => true) true fuel t cs = some x →
    ∃ v : ty.T, cs = ty.vs v ∧ ty.ok w v ∧ (Fit (x.1.weights P t) → ty.big v)

theorem openFS {d : Nat} (ih : OpensS enc P w d) {n : Nat} {cs : List Value} : ∀ (ty : Ty) (fs : List Field) (o : Nat) (xs : List (DataW H × List MemPlace)), confF P (conf P d) ty fs o = true → posF P (pos P d) ty fs = true → cs.length = o + ty.n → xs.length = fs.length →
    (∀ (i : Nat) (f : Field), fs[i]? = some f → DataW.trod enc P w 0 (fun _ => true) true n f.type ((cs.drop f.offset).take (P.cellsOf f.type)) = xs[i]?) →
    ∃ v : ty.T, cs.drop o = ty.vs v ∧ ty.ok w v ∧ (Fit (DataW.weightsEach P (fs.map (·.type)) (xs.map (·.1))) → ty.big v)
  | .nil, [], o, xs, hc, hp, hl, hx, hf => ⟨(), by simp [Ty.vs, hl, Ty.n], trivial, fun _ => trivial⟩
  | .cons a r, f :: fs, o, x :: xs, hc, hp, hl, hx, hf => by
    simp only [confF, Bool.and_eq_true, beq_iff_eq] at hc
    simp only [posF, Bool.and_eq_true] at hp
    obtain ⟨⟨⟨h1, h2⟩, h3⟩, h4⟩ := hc
    have hy := hf 0 f rfl
    obtain ⟨v1, e1, o1, b1⟩ := ih a f.type n _ x h2 hp.1 hy
    obtain ⟨v2, e2, o2, b2⟩ := openFS ih r fs (o + a.n) xs h4 hp.2 (by rw [hl]; simp [Ty.n]; omega) (by simpa using hx) (fun i f' hf' => hf (i + 1) f' (by simpa using hf'))
    refine ⟨(v1, v2), ?_, ⟨o1, o2⟩, fun hw => ?_⟩
    · show _ = a.vs v1 ++ r.vs v2
      rw [← e1, ← e2, h1, h3, ← List.drop_drop, List.take_append_drop]
    · have hw' := Fit.app.1 (by simpa only [List.map_cons, DataW.weightsEach] using hw)
      exact ⟨b1 hw'.1, b2 hw'.2⟩
  | .cons _ _, _ :: _, _, [], _, _, _, hx, _ => by simp at hx
  | .int _, [], _, _, hc, _, _, _, _ => by simp [confF] at hc
  | .int _, _ :: _, _, _, hc, _, _, _, _ => by simp [confF] at hc
  | .bool, [], _, _, hc, _, _, _, _ => by simp [confF] at hc
  | .bool, _ :: _, _, _, hc, _, _, _, _ => by simp [confF] at hc
  | .str, [], _, _, hc, _, _, _, _ => by simp [confF] at hc
  | .str, _ :: _, _, _, hc, _, _, _, _ => by simp [confF] at hc
  | .sl _, [], _, _, hc, _, _, _, _ => by simp [confF] at hc
  | .sl _, _ :: _, _, _, hc, _, _, _, _ => by simp [confF] at hc
  | .nil, _ :: _, _, _, hc, _, _, _, _ => by simp [confF] at hc
  | .cons _ _, [], _, _, hc, _, _, _, _ => by simp [confF] at hc

theorem openAS {d : Nat} (ih : OpensS enc P w d) {n : Nat} {cs : List Value} {e : TypeId} : ∀ (ty : Ty) (m : Nat) (i : Nat) (xs : List (DataW H × List MemPlace)), confA P (conf P d) e ty m = true → posA (pos P d) e ty m = true → cs.length = i * P.cellsOf e + ty.n → xs.length = m →
    (∀ j, j < m → DataW.trod enc P w 0 (fun _ => true) true n e ((cs.drop ((i + j) * P.cellsOf e)).take (P.cellsOf e)) = xs[j]?) → ∃ v : ty.T, cs.drop (i * P.cellsOf e) = ty.vs v ∧ ty.ok w v ∧ (Fit (DataW.weightsAll P e (xs.map (·.1))) → ty.big v)
  | .nil, 0, i, xs, hc, hp, hl, hx, hf => ⟨(), by simp [Ty.vs, hl, Ty.n], trivial, fun _ => trivial⟩
  | .cons a r, m + 1, i, x :: xs, hc, hp, hl, hx, hf => by
    simp only [confA, Bool.and_eq_true, beq_iff_eq] at hc
    simp only [posA, Bool.and_eq_true] at hp
    obtain ⟨⟨h2, h3⟩, h4⟩ := hc
    have hy := hf 0 (by omega)
    obtain ⟨v1, e1, o1, b1⟩ := ih a e n _ x h2 hp.1 hy
    obtain ⟨v2, e2, o2, b2⟩ := openAS ih r m (i + 1) xs h4 hp.2 (by rw [hl, Nat.add_mul, h3]; simp [Ty.n]; omega) (by simpa using hx) (fun j hj => by
      have := hf (j + 1) (by omega)
      rw [show i + 1 + j = i + (j + 1) by omega]
      simpa using this)
    refine ⟨(v1, v2), ?_, ⟨o1, o2⟩, fun hw => ?_⟩
    · show _ = a.vs v1 ++ r.vs v2
      rw [← e1, ← e2, Nat.add_zero, Nat.add_mul, Nat.one_mul, ← List.drop_drop, List.take_append_drop]
    · have hw' := Fit.app.1 (by simpa only [List.map_cons, DataW.weightsAll] using hw)
      exact ⟨b1 hw'.1, b2 hw'.2⟩
  | .cons _ _, _ + 1, _, [], _, _, _, hx, _ => by simp at hx
  | .int _, 0, _, _, hc, _, _, _, _ => by simp [confA] at hc
  | .int _, _ + 1, _, _, hc, _, _, _, _ => by simp [confA] at hc
  | .bool, 0, _, _, hc, _, _, _, _ => by simp [confA] at hc
  | .bool, _ + 1, _, _, hc, _, _, _, _ => by simp [confA] at hc
  | .str, 0, _, _, hc, _, _, _, _ => by simp [confA] at hc
  | .str, _ + 1, _, _, hc, _, _, _, _ => by simp [confA] at hc
  | .sl _, 0, _, _, hc, _, _, _, _ => by simp [confA] at hc
  | .sl _, _ + 1, _, _, hc, _, _, _, _ => by simp [confA] at hc
  | .nil, _ + 1, _, _, hc, _, _, _, _ => by simp [confA] at hc
  | .cons _ _, 0, _, _, hc, _, _, _, _ => by simp [confA] at hc

theorem weightsAll_append (e : TypeId) (l m : List (DataW H)) : DataW.weightsAll P e (l ++ m) = DataW.weightsAll P e l ++ DataW.weightsAll P e m := by
  induction l with
  | nil => simp [DataW.weightsAll]
  | cons x l ih => simp only [List.cons_append, DataW.weightsAll, ih, List.append_assoc]

theorem openSS {d : Nat} (ih : OpensS enc P w d) {ty : Ty} {e : TypeId} (hc : conf P d ty e = true) (hp : pos P d ty e = true) (hn : P.cellsOf e = ty.n) {a : Addr} {m : Nat} : ∀ (elems : List (DataW H × List MemPlace)),
    (∀ i, i < elems.length → (w.cells? 0 (a.add (i * P.cellsOf e)) (P.cellsOf e)).bind (DataW.trod enc P w 0 (fun _ => true) true m e) = elems[i]?) →
    ∃ l : List ty.T, l.length = elems.length ∧ CellsAt w a (l.flatMap ty.vs) ∧ (∀ y ∈ l, ty.ok w y) ∧ (Fit (DataW.weightsAll P e (elems.map (·.1))) → ∀ y ∈ l, ty.big y) := by
  intro elems
  have key : ∀ (k : Nat) (elems : List (DataW H × List MemPlace)), elems.length = k → (∀ i, i < elems.length → (w.cells? 0 (a.add (i * P.cellsOf e)) (P.cellsOf e)).bind (DataW.trod enc P w 0 (fun _ => true) true m e) = elems[i]?) →
      ∃ l : List ty.T, l.length = elems.length ∧ CellsAt w a (l.flatMap ty.vs) ∧ (∀ y ∈ l, ty.ok w y) ∧ (Fit (DataW.weightsAll P e (elems.map (·.1))) → ∀ y ∈ l, ty.big y) := by
    intro k
    induction k with
    | zero =>
      intro elems hk _
      have := List.length_eq_zero_iff.1 hk
      subst this
      exact ⟨[], rfl, fun j v hv => by simp at hv, fun y hy => (List.not_mem_nil hy).elim, fun _ y hy => (List.not_mem_nil hy).elim⟩
    | succ k ih2 =>
      intro elems hk h
      have hne : elems ≠ [] := fun e0 => by rw [e0] at hk; simp at hk
      have hsplit := List.dropLast_concat_getLast hne
      have hlen1 : elems.dropLast.length = k := by simp [hk]
      obtain ⟨l, hl, hcl, hol, hbl⟩ := ih2 elems.dropLast hlen1 (fun i hi => by
        rw [h i (by omega), List.getElem?_eq_getElem (by omega), List.getElem?_eq_getElem hi, List.getElem_dropLast])
      have hy := h k (by omega)
      rw [List.getElem?_eq_getElem (by omega)] at hy
      have hlast : elems[k]'(by omega) = elems.getLast hne := by rw [List.getLast_eq_getElem]; congr 1; omega
      rw [hlast] at hy
      obtain ⟨c, hcs, ht⟩ := Option.bind_eq_some_iff.1 hy
      obtain ⟨v, e1, o1, b1⟩ := ih ty e m c _ hc hp ht
      obtain ⟨_, hlen, hcell⟩ := World.cells?_some hcs
      have hl' : l.length = k := by rw [hl, hlen1]
      refine ⟨l ++ [v], by simp [hl', hk], ?_, ?_, ?_⟩
      · rw [List.flatMap_append, List.flatMap_singleton]
        refine CellsAt.append' hcl ?_
        have : (l.flatMap ty.vs).length = k * P.cellsOf e := by
          rw [hn, ← hl']
          clear hcl hol hl hbl hl' hlast
          induction l with
          | nil => simp
          | cons z l ih3 => rw [List.flatMap_cons, List.length_append, Ty.vs_length, ih3, List.length_cons, Nat.add_mul]; omega
        rw [this]
        intro j u hu
        rw [← e1] at hu
        have hj : j < P.cellsOf e := by rw [← hlen]; exact (List.getElem?_eq_some_iff.1 hu).1
        rw [hcell j hj, hu]
      · intro y hy
        rcases List.mem_append.1 hy with h1 | h1
        · exact hol y h1
        · rw [List.mem_singleton.1 h1]; exact o1
      · intro hw
        rw [← hsplit, List.map_append, weightsAll_append] at hw
        obtain ⟨g1, g2⟩ := Fit.app.1 hw
        simp only [List.map_cons, List.map_nil, DataW.weightsAll, List.append_nil] at g2
        intro y hy
        rcases List.mem_append.1 hy with h1 | h1
        · exact hbl g1 y h1
        · rw [List.mem_singleton.1 h1]; exact b1 g2
  exact key _ elems rfl

theorem opensS : ∀ d : Nat, OpensS enc P w d
  | 0 => fun ty t fuel cs x hc => by simp [conf] at hc
  | d + 1 => by
    have ih := opensS d
    intro ty t fuel cs x hc hp h
    unfold conf at hc
    unfold pos at hp
    split at hc
    · rename_i k k' ht
      obtain ⟨n, rfl, _, hw⟩ := DataW.trod_int ht h
      have := of_decide_eq_true hc
      subst this
      exact ⟨n, rfl, wfRng hw, fun _ => trivial⟩
    · rename_i ht
      obtain ⟨b, rfl, _⟩ := DataW.trod_bool ht h
      exact ⟨b, rfl, trivial, fun _ => trivial⟩
    · rename_i ht
      obtain ⟨s, rfl, rfl, hs⟩ := DataW.trod_string ht h
      refine ⟨s, rfl, hs, fun hw => ?_⟩
      simp only [DataW.weights] at hw
      have := (Fit.cons.1 hw).1
      have e : reachBytes = 140737488351232 := by decide
      rw [e] at this
      simpa [Ty.big] using this
    · rename_i e t' ht
      rw [ht] at hp
      simp only [Bool.and_eq_true, beq_iff_eq] at hc hp
      obtain ⟨hc1, hc2⟩ := hc
      rcases DataW.trod_slice ht h with ⟨rfl, _⟩ | ⟨a, len, cap, elems, rest, n, _, rfl, rfl, hb, hl, hm, hlen, hel, _⟩
      · exact ⟨⟨none, 0, 0, []⟩, rfl, ⟨rfl, Nat.le_refl _, Nat.zero_le _, .inl ⟨rfl, rfl⟩, fun y hy => (List.not_mem_nil hy).elim⟩, fun _ => ⟨by show (0 : Nat) ≤ _; omega, fun y hy => (List.not_mem_nil hy).elim⟩⟩
      · obtain ⟨l, h1, h2, h3, h4⟩ := openSS ih hc1 hp.1 hc2 (a := a) (m := n) elems fun i hi => hel i (by omega)
        refine ⟨⟨some a, len, cap, l⟩, rfl, ⟨by rw [h1, hlen], hl, hm, .inr ⟨a, rfl, h2⟩, h3⟩, fun hw => ?_⟩
        simp only [DataW.weights, ht] at hw
        obtain ⟨g1, g2⟩ := Fit.cons.1 hw
        refine ⟨?_, h4 (Fit.app.1 g2).1⟩
        have hb1 : 1 ≤ P.bytesOf e := Nat.le_of_ble_eq_true hp.2
        rw [List.length_map, List.length_map, hlen] at g1
        have g3 : len * 1 ≤ (len + rest.length) * P.bytesOf e := Nat.mul_le_mul (by omega) hb1
        have : reachBytes = 140737488351232 := by decide
        show len ≤ _
        omega
    · rename_i ty _ _ fs ht
      rw [ht] at hp
      simp only [Bool.and_eq_true, beq_iff_eq] at hc
      obtain ⟨xs, n, _, rfl, hl, hlen, hf⟩ := DataW.trod_struct ht h
      obtain ⟨v, e1, o1, b1⟩ := openFS ih (n := n) (cs := cs) ty fs.toList 0 xs hc.1 (by simpa using hp) (by rw [hl, hc.2]; omega) (by simpa using hlen) fun i f hfi => hf i f (by simpa using hfi)
      refine ⟨v, by simpa using e1, o1, fun hw => b1 ?_⟩
      simpa only [DataW.weights, ht] using hw
    · rename_i ty _ _ n e ht
      rw [ht] at hp
      simp only [Bool.and_eq_true, beq_iff_eq] at hc
      obtain ⟨xs, m, _, rfl, hl, hlen, hf⟩ := DataW.trod_array ht h
      obtain ⟨v, e1, o1, b1⟩ := openAS ih (n := m) (cs := cs) ty n 0 xs hc.1 (by simpa using hp) (by rw [hl, hc.2]; omega) hlen fun j hj => by rw [Nat.zero_add]; exact hf j hj
      refine ⟨v, by simpa using e1, o1, fun hw => b1 ?_⟩
      simpa only [DataW.weights, ht] using hw
    · cases hc

/-- A parameter that is a struct or an array, and the sizes in it. -/
theorem openAggS {ty : Ty} {t : TypeId} {cs : Array Value} {d : Nat} {x : DataW H} {ps : List MemPlace} (hc : conf P d ty t = true) (hp : pos P d ty t = true)
    {ts : List TypeId} {ds : List (DataW H)} {j : Nat} (htj : ts[j]? = some t) (hdj : ds[j]? = some x) (hsz : (DataW.weightsEach P ts ds).all (· ≤ reachBytes) = true)
    (h : DataW.Trod enc P w 0 (fun _ => true) true t (.agg cs) x ps) : ∃ v : ty.T, Value.agg cs = .agg (ty.vs v).toArray ∧ ty.ok w v ∧ ty.big v := by
  obtain ⟨fuel, hf⟩ := h
  obtain ⟨v, e, o, b⟩ := opensS d ty t fuel _ _ hc hp hf
  refine ⟨v, ?_, o, b (List.all_eq_true.2 fun n hn => List.all_eq_true.1 hsz n (DataW.weights_mem_each htj hdj n hn))⟩
  rw [← e]
  simp [Value.cells]
/-- A parameter that is a slice, and the sizes in it. -/
theorem openSlS {ty : Ty} {t : TypeId} {a : Option Addr} {n c : Nat} {d : Nat} {x : DataW H} {ps : List MemPlace} (hc : conf P d (.sl ty) t = true) (hp : pos P d (.sl ty) t = true)
    {ts : List TypeId} {ds : List (DataW H)} {j : Nat} (htj : ts[j]? = some t) (hdj : ds[j]? = some x) (hsz : (DataW.weightsEach P ts ds).all (· ≤ reachBytes) = true)
    (h : DataW.Trod enc P w 0 (fun _ => true) true t (.slice a n c) x ps) : ∃ l : List ty.T, (Ty.sl ty).ok w ⟨a, n, c, l⟩ ∧ (Ty.sl ty).big ⟨a, n, c, l⟩ := by
  obtain ⟨fuel, hf⟩ := h
  obtain ⟨v, e, o, b⟩ := opensS d (.sl ty) t fuel _ _ hc hp hf
  have b := b (List.all_eq_true.2 fun n hn => List.all_eq_true.1 hsz n (DataW.weights_mem_each htj hdj n hn))
  simp [Value.cells, Ty.vs] at e
  obtain ⟨h1, h2, h3⟩ := e
  refine ⟨v.l, ?_⟩
  subst h1; subst h2; subst h3
  exact ⟨o, b⟩
end

end Go.Proofs.Ytombjhkdakmhpaa.Vc
