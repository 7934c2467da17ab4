/- Texts in one: What any parameter of a law is known to be, with the sizes of what it holds: structs, arrays and slices of whole numbers, texts, and of each other. What the laws of layer 13 share. The contracts of layer 24: what the laws share: payloads, cases, and a new pool by both. Plain laws of layer 13: what a trace tells of programs. Plain laws of layer 13: what only clears. Plain laws of layer 24 (pool): what a block has that was destroyed, or opened. Plain laws of layer 20 (keybox): a record that is written without a fault. Plain laws of layer 20 (keybox): the first record, without a fault; what an Open finds. The plans of functions as plain statements, printed by wip/tools/vcgen.py; the kernel holds each to the code. What the laws of layer 24 share: a step keeps a pool right; does the program answer at all? The contracts of keybox (layer 20): does a block leak; what the laws share. The contracts of layer 20 (keybox): is a block gone; may a case be played. The contracts of layer 20 (keybox), the document's: Open; is a key store the document's? The plans of functions as plain statements, printed by wip/tools/vcgen.py; the kernel holds each to the code. Layer 20 (keybox): KeyboxRuns. -/
import Derived.Test.YtlpeoaphdmfjdaaGreatZKeyboxRunsf

set_option linter.unusedVariables false
set_option linter.unusedSimpArgs false
/-! What any parameter of a law is known to be, with the sizes of what it holds: structs, arrays and slices of whole numbers, texts, and of each other. -/
namespace Go.Proofs.YtlpeoaphdmfjdaaGreat.Vc
open Go Go.Eng Go.RowKit Go.ChangeShapes
def Ty.big : (t : Ty) → t.T → Prop
  | .int _, _ => True
  | .bool, _ => True
  | .str, (x : ByteArray) => x.size ≤ 140737488351232
  | .sl e, (x : SlP e.T) => x.n ≤ 140737488351232 ∧ ∀ y ∈ x.l, e.big y
  | .nil, _ => True
  | .cons a r, (x : a.T × r.T) => a.big x.1 ∧ r.big x.2
def posF (P : Program) (cf : Ty → TypeId → Bool) : Ty → List Field → Bool
  | .cons a r, f :: fs => cf a f.type && posF P cf r fs
  | _, _ => true
def posA (cf : Ty → TypeId → Bool) (e : TypeId) : Ty → Nat → Bool
  | .cons a r, n + 1 => cf a e && posA cf e r n
  | _, _ => true
def pos (P : Program) : Nat → Ty → TypeId → Bool
  | 0, _, _ => false
  | d + 1, t, i =>
    match P.underlying i, t with
    | some (.slice e), .sl t => pos P d t e && Nat.ble 1 (P.bytesOf e)
    | some (.struct fs), t => posF P (pos P d) t fs.toList
    | some (.array n e), t => posA (pos P d) e t n
    | _, _ => true
section
variable {H : Type} {enc : TypeId × Value → H} {P : Program} {w : World}
def Fit (l : List Nat) : Prop := l.all (· ≤ reachBytes) = true
theorem Fit.app {l m : List Nat} : Fit (l ++ m) ↔ Fit l ∧ Fit m := by unfold Fit; rw [List.all_append, Bool.and_eq_true]
theorem Fit.cons {a : Nat} {m : List Nat} : Fit (a :: m) ↔ a ≤ reachBytes ∧ Fit m := by unfold Fit; rw [List.all_cons, Bool.and_eq_true]; simp
def OpensS (enc : TypeId × Value → H) (P : Program) (w : World) (d : Nat) : Prop :=
  ∀ (ty : Ty) (t : TypeId) (fuel : Nat) (cs : List Value) (x : DataW H × List MemPlace), conf P d ty t = true → pos P d ty t = true → DataW.trod enc P w 0 (fun _ => true) true fuel t cs = some x →
    ∃ v : ty.T, cs = ty.vs v ∧ ty.ok w v ∧ (Fit (x.1.weights P t) → ty.big v)
theorem openFS {d : Nat} (ih : OpensS enc P w d) {n : Nat} {cs : List Value} : ∀ (ty : Ty) (fs : List Field) (o : Nat) (xs : List (DataW H × List MemPlace)), confF P (conf P d) ty fs o = true → posF P (pos P d) ty fs = true → cs.length = o + ty.n → xs.length = fs.length →
    (∀ (i : Nat) (f : Field), fs[i]? = some f → DataW.trod enc P w 0 (fun _ => true) true n f.type ((cs.drop f.offset).take (P.cellsOf f.type)) = xs[i]?) →
    ∃ v : ty.T, cs.drop o = ty.vs v ∧ ty.ok w v ∧ (Fit (DataW.weightsEach P (fs.map (·.type)) (xs.map (·.1))) → ty.big v)
  | .nil, [], o, xs, hc, hp, hl, hx, hf => ⟨(), by simp [Ty.vs, hl, Ty.n], trivial, fun _ => trivial⟩
  | .cons a r, f :: fs, o, x :: xs, hc, hp, hl, hx, hf => by
    simp only [confF, Bool.and_eq_true, beq_iff_eq] at hc
    simp only [posF, Bool.and_eq_true] at hp
    obtain ⟨⟨⟨h1, h2⟩, h3⟩, h4⟩ := hc
    have hy := hf 0 f rfl
    obtain ⟨v1, e1, o1, b1⟩ := ih a f.type n _ x h2 hp.1 hy
    obtain ⟨v2, e2, o2, b2⟩ := openFS ih r fs (o + a.n) xs h4 hp.2 (by rw [hl]; simp [Ty.n]; omega) (by simpa using hx) (fun i f' hf' => hf (i + 1) f' (by simpa using hf'))
    refine ⟨(v1, v2), ?_, ⟨o1, o2⟩, fun hw => ?_⟩
    · show _ = a.vs v1 ++ r.vs v2
      rw [← e1, ← e2, h1, h3, ← List.drop_drop, List.take_append_drop]
    · have hw' := Fit.app.1 (by simpa only [List.map_cons, DataW.weightsEach] using hw)
      exact ⟨b1 hw'.1, b2 hw'.2⟩
  | .cons _ _, _ :: _, _, [], _, _, _, hx, _ => by simp at hx
  | .int _, [], _, _, hc, _, _, _, _ => by simp [confF] at hc
  | .int _, _ :: _, _, _, hc, _, _, _, _ => by simp [confF] at hc
  | .bool, [], _, _, hc, _, _, _, _ => by simp [confF] at hc
  | .bool, _ :: _, _, _, hc, _, _, _, _ => by simp [confF] at hc
  | .str, [], _, _, hc, _, _, _, _ => by simp [confF] at hc
  | .str, _ :: _, _, _, hc, _, _, _, _ => by simp [confF] at hc
  | .sl _, [], _, _, hc, _, _, _, _ => by simp [confF] at hc
  | .sl _, _ :: _, _, _, hc, _, _, _, _ => by simp [confF] at hc
  | .nil, _ :: _, _, _, hc, _, _, _, _ => by simp [confF] at hc
  | .cons _ _, [], _, _, hc, _, _, _, _ => by simp [confF] at hc
theorem openAS {d : Nat} (ih : OpensS enc P w d) {n : Nat} {cs : List Value} {e : TypeId} : ∀ (ty : Ty) (m : Nat) (i : Nat) (xs : List (DataW H × List MemPlace)), confA P (conf P d) e ty m = true → posA (pos P d) e ty m = true → cs.length = i * P.cellsOf e + ty.n → xs.length = m →
    (∀ j, j < m → DataW.trod enc P w 0 (fun _ => true) true n e ((cs.drop ((i + j) * P.cellsOf e)).take (P.cellsOf e)) = xs[j]?) → ∃ v : ty.T, cs.drop (i * P.cellsOf e) = ty.vs v ∧ ty.ok w v ∧ (Fit (DataW.weightsAll P e (xs.map (·.1))) → ty.big v)
  | .nil, 0, i, xs, hc, hp, hl, hx, hf => ⟨(), by simp [Ty.vs, hl, Ty.n], trivial, fun _ => trivial⟩
  | .cons a r, m + 1, i, x :: xs, hc, hp, hl, hx, hf => by
    simp only [confA, Bool.and_eq_true, beq_iff_eq] at hc
    simp only [posA, Bool.and_eq_true] at hp
    obtain ⟨⟨h2, h3⟩, h4⟩ := hc
    have hy := hf 0 (by omega)
    obtain ⟨v1, e1, o1, b1⟩ := ih a e n _ x h2 hp.1 hy
    obtain ⟨v2, e2, o2, b2⟩ := openAS ih r m (i + 1) xs h4 hp.2 (by rw [hl, Nat.add_mul, h3]; simp [Ty.n]; omega) (by simpa using hx) (fun j hj => by
      have := hf (j + 1) (by omega)
      rw [show i + 1 + j = i + (j + 1) by omega]
      simpa using this)
    refine ⟨(v1, v2), ?_, ⟨o1, o2⟩, fun hw => ?_⟩
    · show _ = a.vs v1 ++ r.vs v2
      rw [← e1, ← e2, Nat.add_zero, Nat.add_mul, Nat.one_mul, ← List.drop_drop, List.take_append_drop]
    · have hw' := Fit.app.1 (by simpa only [List.map_cons, DataW.weightsAll] using hw)
      exact ⟨b1 hw'.1, b2 hw'.2⟩
  | .cons _ _, _ + 1, _, [], _, _, _, hx, _ => by simp at hx
  | .int _, 0, _, _, hc, _, _, _, _ => by simp [confA] at hc
  | .int _, _ + 1, _, _, hc, _, _, _, _ => by simp [confA] at hc
  | .bool, 0, _, _, hc, _, _, _, _ => by simp [confA] at hc
  | .bool, _ + 1, _, _, hc, _, _, _, _ => by simp [confA] at hc
  | .str, 0, _, _, hc, _, _, _, _ => by simp [confA] at hc
  | .str, _ + 1, _, _, hc, _, _, _, _ => by simp [confA] at hc
  | .sl _, 0, _, _, hc, _, _, _, _ => by simp [confA] at hc
  | .sl _, _ + 1, _, _, hc, _, _, _, _ => by simp [confA] at hc
  | .nil, _ + 1, _, _, hc, _, _, _, _ => by simp [confA] at hc
  | .cons _ _, 0, _, _, hc, _, _, _, _ => by simp [confA] at hc
theorem weightsAll_append (e : TypeId) (l m : List (DataW H)) : DataW.weightsAll P e (l ++ m) = DataW.weightsAll P e l ++ DataW.weightsAll P e m := by
  induction l with
  | nil => simp [DataW.weightsAll]
  | cons x l ih => simp only [List.cons_append, DataW.weightsAll, ih, List.append_assoc]
theorem openSS {d : Nat} (ih : OpensS enc P w d) {ty : Ty} {e : TypeId} (hc : conf P d ty e = true) (hp : pos P d ty e = true) (hn : P.cellsOf e = ty.n) {a : Addr} {m : Nat} : ∀ (elems : List (DataW H × List MemPlace)),
    (∀ i, i < elems.length → (w.cells? 0 (a.add (i * P.cellsOf e)) (P.cellsOf e)).bind (DataW.trod enc P w 0 (fun _ => true) true m e) = elems[i]?) →
    ∃ l : List ty.T, l.length = elems.length ∧ CellsAt w a (l.flatMap ty.vs) ∧ (∀ y ∈ l, ty.ok w y) ∧ (Fit (DataW.weightsAll P e (elems.map (·.1))) → ∀ y ∈ l, ty.big y) := by
  intro elems
  have key : ∀ (k : Nat) (elems : List (DataW H × List MemPlace)), elems.length = k → (∀ i, i < elems.length → (w.cells? 0 (a.add (i * P.cellsOf e)) (P.cellsOf e)).bind (DataW.trod enc P w 0 (fun _ => true) true m e) = elems[i]?) →
      ∃ l : List ty.T, l.length = elems.length ∧ CellsAt w a (l.flatMap ty.vs) ∧ (∀ y ∈ l, ty.ok w y) ∧ (Fit (DataW.weightsAll P e (elems.map (·.1))) → ∀ y ∈ l, ty.big y) := by
    intro k
    induction k with
    | zero =>
      intro elems hk _
      have := List.length_eq_zero_iff.1 hk
      subst this
      exact ⟨[], rfl, fun j v hv => by simp at hv, fun y hy => (List.not_mem_nil hy).elim, fun _ y hy => (List.not_mem_nil hy).elim⟩
    | succ k ih2 =>
      intro elems hk h
      have hne : elems ≠ [] := fun e0 => by rw [e0] at hk; simp at hk
      have hsplit := List.dropLast_concat_getLast hne
      have hlen1 : elems.dropLast.length = k := by simp [hk]
      obtain ⟨l, hl, hcl, hol, hbl⟩ := ih2 elems.dropLast hlen1 (fun i hi => by
        rw [h i (by omega), List.getElem?_eq_getElem (by omega), List.getElem?_eq_getElem hi, List.getElem_dropLast])
      have hy := h k (by omega)
      rw [List.getElem?_eq_getElem (by omega)] at hy
      have hlast : elems[k]'(by omega) = elems.getLast hne := by rw [List.getLast_eq_getElem]; congr 1; omega
      rw [hlast] at hy
      obtain ⟨c, hcs, ht⟩ := Option.bind_eq_some_iff.1 hy
      obtain ⟨v, e1, o1, b1⟩ := ih ty e m c _ hc hp ht
      obtain ⟨_, hlen, hcell⟩ := World.cells?_some hcs
      have hl' : l.length = k := by rw [hl, hlen1]
      refine ⟨l ++ [v], by simp [hl', hk], ?_, ?_, ?_⟩
      · rw [List.flatMap_append, List.flatMap_singleton]
        refine CellsAt.append' hcl ?_
        have : (l.flatMap ty.vs).length = k * P.cellsOf e := by
          rw [hn, ← hl']
          clear hcl hol hl hbl hl' hlast
          induction l with
          | nil => simp
          | cons z l ih3 => rw [List.flatMap_cons, List.length_append, Ty.vs_length, ih3, List.length_cons, Nat.add_mul]; omega
        rw [this]
        intro j u hu
        rw [← e1] at hu
        have hj : j < P.cellsOf e := by rw [← hlen]; exact (List.getElem?_eq_some_iff.1 hu).1
        rw [hcell j hj, hu]
      · intro y hy
        rcases List.mem_append.1 hy with h1 | h1
        · exact hol y h1
        · rw [List.mem_singleton.1 h1]; exact o1
      · intro hw
        rw [← hsplit, List.map_append, weightsAll_append] at hw
        obtain ⟨g1, g2⟩ := Fit.app.1 hw
        simp only [List.map_cons, List.map_nil, DataW.weightsAll, List.append_nil] at g2
        intro y hy
        rcases List.mem_append.1 hy with h1 | h1
        · exact hbl g1 y h1
        · rw [List.mem_singleton.1 h1]; exact b1 g2
  exact key _ elems rfl
theorem opensS : ∀ d : Nat, OpensS enc P w d
  | 0 => fun ty t fuel cs x hc => by simp [conf] at hc
  | d + 1 => by
    have ih := opensS d
    intro ty t fuel cs x hc hp h
    unfold conf at hc
    unfold pos at hp
    split at hc
    · rename_i k k' ht
      obtain ⟨n, rfl, _, hw⟩ := DataW.trod_int ht h
      have := of_decide_eq_true hc
      subst this
      exact ⟨n, rfl, wfRng hw, fun _ => trivial⟩
    · rename_i ht
      obtain ⟨b, rfl, _⟩ := DataW.trod_bool ht h
      exact ⟨b, rfl, trivial, fun _ => trivial⟩
    · rename_i ht
      obtain ⟨s, rfl, rfl, hs⟩ := DataW.trod_string ht h
      refine ⟨s, rfl, hs, fun hw => ?_⟩
      simp only [DataW.weights] at hw
      have := (Fit.cons.1 hw).1
      have e : reachBytes = 140737488351232 := by decide
      rw [e] at this
      simpa [Ty.big] using this
    · rename_i e t' ht
      rw [ht] at hp
      simp only [Bool.and_eq_true, beq_iff_eq] at hc hp
      obtain ⟨hc1, hc2⟩ := hc
      rcases DataW.trod_slice ht h with ⟨rfl, _⟩ | ⟨a, len, cap, elems, rest, n, _, rfl, rfl, hb, hl, hm, hlen, hel, _⟩
      · exact ⟨⟨none, 0, 0, []⟩, rfl, ⟨rfl, Nat.le_refl _, Nat.zero_le _, .inl ⟨rfl, rfl⟩, fun y hy => (List.not_mem_nil hy).elim⟩, fun _ => ⟨by show (0 : Nat) ≤ _; omega, fun y hy => (List.not_mem_nil hy).elim⟩⟩
      · obtain ⟨l, h1, h2, h3, h4⟩ := openSS ih hc1 hp.1 hc2 (a := a) (m := n) elems fun i hi => hel i (by omega)
        refine ⟨⟨some a, len, cap, l⟩, rfl, ⟨by rw [h1, hlen], hl, hm, .inr ⟨a, rfl, h2⟩, h3⟩, fun hw => ?_⟩
        simp only [DataW.weights, ht] at hw
        obtain ⟨g1, g2⟩ := Fit.cons.1 hw
        refine ⟨?_, h4 (Fit.app.1 g2).1⟩
        have hb1 : 1 ≤ P.bytesOf e := Nat.le_of_ble_eq_true hp.2
        rw [List.length_map, List.length_map, hlen] at g1
        have g3 : len * 1 ≤ (len + rest.length) * P.bytesOf e := Nat.mul_le_mul (by omega) hb1
        have : reachBytes = 140737488351232 := by decide
        show len ≤ _
        omega
    · rename_i ty _ _ fs ht
      rw [ht] at hp
      simp only [Bool.and_eq_true, beq_iff_eq] at hc
      obtain ⟨xs, n, _, rfl, hl, hlen, hf⟩ := DataW.trod_struct ht h
      obtain ⟨v, e1, o1, b1⟩ := openFS ih (n := n) (cs := cs) ty fs.toList 0 xs hc.1 (by simpa using hp) (by rw [hl, hc.2]; omega) (by simpa using hlen) fun i f hfi => hf i f (by simpa using hfi)
      refine ⟨v, by simpa using e1, o1, fun hw => b1 ?_⟩
      simpa only [DataW.weights, ht] using hw
    · rename_i ty _ _ n e ht
      rw [ht] at hp
      simp only [Bool.and_eq_true, beq_iff_eq] at hc
      obtain ⟨xs, m, _, rfl, hl, hlen, hf⟩ := DataW.trod_array ht h
      obtain ⟨v, e1, o1, b1⟩ := openAS ih (n := m) (cs := cs) ty n 0 xs hc.1 (by simpa using hp) (by rw [hl, hc.2]; omega) hlen fun j hj => by rw [Nat.zero_add]; exact hf j hj
      refine ⟨v, by simpa using e1, o1, fun hw => b1 ?_⟩
      simpa only [DataW.weights, ht] using hw
    · cases hc
theorem openAggS {ty : Ty} {t : TypeId} {cs : Array Value} {d : Nat} {x : DataW H} {ps : List MemPlace} (hc : conf P d ty t = true) (hp : pos P d ty t = true)
    {ts : List TypeId} {ds : List (DataW H)} {j : Nat} (htj : ts[j]? = some t) (hdj : ds[j]? = some x) (hsz : (DataW.weightsEach P ts ds).all (· ≤ reachBytes) = true)
    (h : DataW.Trod enc P w 0 (fun _ => true) true t (.agg cs) x ps) : ∃ v : ty.T, Value.agg cs = .agg (ty.vs v).toArray ∧ ty.ok w v ∧ ty.big v := by
  obtain ⟨fuel, hf⟩ := h
  obtain ⟨v, e, o, b⟩ := opensS d ty t fuel _ _ hc hp hf
  refine ⟨v, ?_, o, b (List.all_eq_true.2 fun n hn => List.all_eq_true.1 hsz n (DataW.weights_mem_each htj hdj n hn))⟩
  rw [← e]
  simp [Value.cells]
end
end Go.Proofs.YtlpeoaphdmfjdaaGreat.Vc
/-! What the laws of layer 13 share. -/
namespace Go.Proofs.YtlpeoaphdmfjdaaGreat.Vc
open Go Go.Eng Go.RowKit
theorem fds_byt {w : World} {G : Nat → Prop} {f : SlP TF.T} (hf : LF.rd w G f) : ∀ F ∈ fds f, Byt F.2.2.1 := fun F hF => by
  obtain ⟨x, hx, rfl⟩ := List.mem_map.1 hF
  rw [TF_dat]
  exact fun v hv => rng_u8 ((hf.2.2.2.2 x hx).2.2.1.2.2.2.2 v hv)
end Go.Proofs.YtlpeoaphdmfjdaaGreat.Vc
/-! The contracts of layer 24: what the laws share: payloads, cases, and a new pool by both. -/
namespace Go.Proofs.YtlpeoaphdmfjdaaGreat.Vc
open Go Go.Eng Go.RowKit
abbrev casV24 (g : Geo) (f : SlP TF.T) (s : SlV) : List Value := [.int .i64 g.b, .int .i64 g.p, .int .i64 g.s, .int .i64 g.sp, .int .i64 g.wr, .int .i64 g.ro, .slice f.a f.n f.c, .slice s.a s.n s.c]
end Go.Proofs.YtlpeoaphdmfjdaaGreat.Vc
/-! Plain laws of layer 13: what a trace tells of programs. -/
namespace Go.Proofs.YtlpeoaphdmfjdaaGreat.Vc
open Go Go.Eng Go.RowKit
theorem ref_in {C : CD} {bl pa : Int} {n : Nat} (h : refC C bl pa n = 0) : inC C bl pa ∧ n = szP C.g ∧ usC C bl pa ≤ 1 := by
  unfold refC at h
  split at h
  · cases h
  split at h
  · cases h
  rename_i h2
  have h2 := Classical.not_not.1 h2
  split at h
  · cases h
  rename_i h3
  exact ⟨h2.1, h2.2, by omega⟩
end Go.Proofs.YtlpeoaphdmfjdaaGreat.Vc
/-! Plain laws of layer 13: what only clears. -/
namespace Go.Proofs.YtlpeoaphdmfjdaaGreat.Vc
open Go Go.Eng Go.RowKit
theorem cl_of {xs ys : List Int} (bx : Byt xs) (by' : Byt ys) (hl : ys.length = xs.length) (h : ∀ i, i < 8 * xs.length → hasL ys i = true → hasL xs i = true) : andL xs ys = ys := by
  refine bits_ext (andL_byt _ _) by' (by rw [andL_length, hl]) fun i hi => ?_
  rw [andL_length] at hi
  rw [hasL_and bx by' hi]
  cases hy : hasL ys i
  · exact Bool.and_false _
  · rw [h i hi hy]; rfl
end Go.Proofs.YtlpeoaphdmfjdaaGreat.Vc
/-! Plain laws of layer 24 (pool): what a block has that was destroyed, or opened. -/
namespace Go.Proofs.YtlpeoaphdmfjdaaGreat.Vc
open Go Go.Eng Go.RowKit
theorem blk_set {C C' : CD} {n : Int} {x : BD} (hC : COk C) (hn : 0 ≤ n ∧ n < C.g.b) (hb : C'.bs = C.bs.set n.toNat x) : blkC C' n = x := by
  unfold blkC
  rw [hb, List.getD_eq_getElem?_getD, List.getElem?_set_self (by rw [hC.bl]; omega)]
  rfl
theorem blk_oth {C C' : CD} {n m : Int} {x : BD} (hb : C'.bs = C.bs.set n.toNat x) (hne : m.toNat ≠ n.toNat) : blkC C' m = blkC C m := by
  unfold blkC
  rw [hb, List.getD_eq_getElem?_getD, List.getD_eq_getElem?_getD, List.getElem?_set_ne (fun h => hne h.symm)]
theorem era_zero {C : CD} (hC : COk C) {n : Int} (hn : 0 ≤ n ∧ n < C.g.b) (h : (eraC C n).2 = 0) : blkC (eraC C n).1 n = { blankB C.g with er := (blkC C n).er + 1 } := by
  unfold eraC at h ⊢
  by_cases hm : mayC C n = 0
  · rw [if_pos hm] at h ⊢
    have h : (codeC C).1 = 0 := h
    refine blk_set hC hn (x := { blankB C.g with er := (blkC C n).er + 1 }) ?_
    show C.bs.set n.toNat (if (codeC C).1 = 0 then _ else _) = _
    rw [if_pos h]
  · rw [if_neg hm] at h
    exact absurd h hm
def BIn (C : CD) : Prop := ∀ x ∈ C.bs, x.sc = false → ∀ (i : Nat) (q : List Int), x.la < (i : Int) → x.pg[i]? = some q → q = List.replicate (szP C.g) 255
theorem BIn.off {C : CD} (h : BIn C) (b : Bool) : BIn { C with off := b } := h
theorem bit255 : ∀ j : Fin 8, bitB 255 j.val = true := by decide
end Go.Proofs.YtlpeoaphdmfjdaaGreat.Vc
/-! Plain laws of layer 20 (keybox): a record that is written without a fault. -/
namespace Go.Proofs.YtlpeoaphdmfjdaaGreat.Vc
open Go Go.Eng Go.RowKit
def QT (C : CD) (m : Nat) : Prop := ∀ o : Nat, o < m → atF C.pl ((C.ops + o : Nat) : Int) = none
theorem code_q {C : CD} {m : Nat} (h : QT C (m + 1)) : codeC C = (0, [], false) := by
  have h0 : atF C.pl (C.ops : Int) = none := h 0 (by omega)
  unfold codeC
  rw [h0]
theorem QT.less {C : CD} {m n : Nat} (h : QT C m) (hn : n ≤ m) : QT C n := fun o ho => h o (by omega)
theorem QT.next {C C' : CD} {m : Nat} (h : QT C (m + 1)) (hp : C'.pl = C.pl) (ho : C'.ops = C.ops + 1) : QT C' m := fun o hm => by
  have := h (o + 1) (by omega)
  rw [hp, ho, show C.ops + 1 + o = C.ops + (o + 1) from by omega]
  exact this
theorem QT.skip {C C' : CD} {m n : Nat} (h : QT C (n + m)) (hp : C'.pl = C.pl) (ho : C'.ops = C.ops + n) : QT C' m := fun o hm => by
  have := h (n + o) (by omega)
  rw [hp, ho, show C.ops + n + o = C.ops + (n + o) from by omega]
  exact this
structure Same (C C' : CD) (k : Int) : Prop where
  g : C'.g = C.g
  pl : C'.pl = C.pl
  oth : ∀ m : Int, m.toNat ≠ k.toNat → blkC C' m = blkC C m
theorem Same.refl (C : CD) (k : Int) : Same C C k := ⟨rfl, rfl, fun _ _ => rfl⟩
theorem Same.trans {C C' C'' : CD} {k : Int} (h : Same C C' k) (h' : Same C' C'' k) : Same C C'' k := ⟨h'.g.trans h.g, h'.pl.trans h.pl, fun m hm => (h'.oth m hm).trans (h.oth m hm)⟩
theorem era_same (C : CD) (k : Int) : Same C (eraC C k).1 k := by
  unfold eraC
  split
  · exact ⟨rfl, rfl, fun m hm => blk_oth (C' := eraX C k) rfl hm⟩
  · exact .refl C k
theorem prog_same (C : CD) (k i : Int) (b : List Int) : Same C (progC C k i b).1 k := by
  unfold progC
  split
  · exact ⟨rfl, rfl, fun m hm => blk_oth (C' := progX C k i b) rfl hm⟩
  · exact .refl C k
theorem era_q {C : CD} {k : Int} {m : Nat} (hk : 0 ≤ k ∧ k < C.g.b) (ho : C.off = false) (hq : QT C (m + 1)) : (eraC C k).2 = 0 ∧ (eraC C k).1.off = false ∧ (eraC C k).1.ops = C.ops + 1 := by
  have hm : mayC C k = 0 := by unfold mayC; rw [if_neg (by rw [ho]; simp), if_neg (fun h => h hk)]
  have hc := code_q hq
  unfold eraC
  rw [if_pos hm]
  refine ⟨by rw [hc], ?_, rfl⟩
  show (codeC C).2.2 = false
  rw [hc]
theorem prog_zero {C : CD} {k i : Int} {b : List Int} (hC : COk C) (h : (progC C k i b).2 = 0) : C.off = false ∧ inC C k i ∧ b.length = szP C.g ∧ (blkC C k).sc = false ∧ (progC C k i b).1.off = false ∧ (progC C k i b).1.ops = C.ops + 1 ∧
    blkC (progC C k i b).1 k = { blkC C k with pg := (blkC C k).pg.set i.toNat (andL (pgC13 C k i) b), us := (blkC C k).us.set i.toNat (usC C k i + 1), la := max (blkC C k).la i } := by
  unfold progC at h ⊢
  by_cases hr : refC C k i b.length = 0
  case neg => rw [if_neg hr] at h; exact absurd h hr
  rw [if_pos hr] at h ⊢
  have h : (codeC C).1 = 0 := h
  obtain ⟨h1, h2, -⟩ := ref_in hr
  have hoff : C.off = false ∧ (blkC C k).sc = false := by
    unfold refC at hr
    split at hr
    · cases hr
    rename_i ho
    split at hr
    · cases hr
    split at hr
    · cases hr
    rename_i hs
    exact ⟨by cases hq : C.off; rfl; exact absurd hq ho, by cases hq : (blkC C k).sc; rfl; exact absurd (.inl hq) hs⟩
  refine ⟨hoff.1, h1, h2, hoff.2, ((code_off C).1 h).1, rfl, ?_⟩
  refine blk_set (C' := progX C k i b) hC h1.1 ?_
  show C.bs.set k.toNat { blkC C k with pg := (blkC C k).pg.set i.toNat (if (codeC C).1 = 0 then _ else _), us := _, la := _ } = _
  rw [if_pos h]
structure WrI (g : Geo) (X : BD) (i : Nat) : Prop where
  sc : X.sc = false
  la : X.la < i
  us : ∀ j, i ≤ j → X.us.getD j 0 = 0
  pg : ∀ j, i ≤ j → j < g.p.toNat → X.pg.getD j [] = List.replicate (szP g) 255
theorem WrI.blank (g : Geo) (e : Int) : WrI g { blankB g with er := e } 0 := by
  refine ⟨rfl, by show (-1 : Int) < ((0 : Nat) : Int); omega, fun j _ => ?_, fun j _ hj => ?_⟩
  · show (List.replicate g.p.toNat (0 : Int)).getD j 0 = 0
    rw [List.getD_eq_getElem?_getD, List.getElem?_replicate]
    split <;> rfl
  · show (List.replicate g.p.toNat (List.replicate (szP g) (255 : Int))).getD j [] = _
    rw [List.getD_eq_getElem?_getD, List.getElem?_replicate, if_pos hj]
    rfl
theorem and_blank {n : Nat} {b : List Int} (bb : Byt b) (hl : b.length = n) : andL (List.replicate n 255) b = b := by
  refine cl_of (Byt.replicate (by decide) (by decide) _) bb (by rw [List.length_replicate, hl]) fun i hi' _ => ?_
  rw [List.length_replicate] at hi'
  unfold hasL
  rw [List.getD_eq_getElem?_getD, List.getElem?_replicate, if_pos (by omega)]
  exact bit255 ⟨i % 8, Nat.mod_lt _ (by decide)⟩
theorem set_drop {α : Type} {l : List α} {i : Nat} {x : α} (h : i < l.length) (m : Nat) : (l.set i x).take (i + 1) = l.take i ++ [x] ∧ (l.set i x).drop (i + 1 + m) = l.drop (i + 1 + m) := by
  constructor
  · rw [List.take_succ_eq_append_getElem (by rw [List.length_set]; exact h), List.take_set_of_le (Nat.le_refl _), List.getElem_set_self]
  · rw [List.drop_set_of_lt (by omega)]
theorem wrPg_done {k : Int} : ∀ {l : List (List Int)} {i : Nat} {C : CD}, COk C → (0 ≤ k ∧ k < C.g.b) → WrI C.g (blkC C k) i → i + l.length ≤ C.g.p.toNat → (∀ x ∈ l, x.length = szP C.g ∧ Byt x) → C.ops + l.length ≤ 1000000 →
    (C.off = false → QT C l.length → (wrPg k l (i : Int) C).2 = 0) ∧ ((wrPg k l (i : Int) C).2 = 0 → C.off = false → (wrPg k l (i : Int) C).1.off = false ∧ (wrPg k l (i : Int) C).1.ops = C.ops + l.length ∧
      WrI C.g (blkC (wrPg k l (i : Int) C).1 k) (i + l.length) ∧ (blkC (wrPg k l (i : Int) C).1 k).pg = (blkC C k).pg.take i ++ (l ++ (blkC C k).pg.drop (i + l.length)) ∧ (∀ j, i ≤ j → j < i + l.length → (blkC (wrPg k l (i : Int) C).1 k).us.getD j 0 = 1) ∧ (∀ j, j < i → (blkC (wrPg k l (i : Int) C).1 k).us.getD j 0 = (blkC C k).us.getD j 0))
  | [], i, C, hC, hk, hW, hi, hl, ho => ⟨fun _ _ => rfl, fun _ hf => ⟨hf, rfl, hW, by rw [List.nil_append]; exact (List.take_append_drop _ _).symm, fun j h1 h2 => absurd h2 (by have : ([] : List (List Int)).length = 0 := rfl; omega), fun _ _ => rfl⟩⟩
  | p :: ps, i, C, hC, hk, hW, hi, hl, ho => by
    rw [List.length_cons] at hi ho ⊢
    have hp := hl p List.mem_cons_self
    have hin : inC C k (i : Int) := ⟨hk, by omega⟩
    have hbo := (hC.blk hk).2
    obtain ⟨a1, a2, a3⟩ := progC_ok hC k (i : Int) hp.2 (by omega)
    have hs := prog_same C k (i : Int) p
    have hlp : i < (blkC C k).pg.length := by rw [hbo.pl]; omega
    have hlu : i < (blkC C k).us.length := by rw [hbo.ul]; omega
    have hpg : pgC13 C k (i : Int) = List.replicate (szP C.g) 255 := hW.pg i (Nat.le_refl _) (by omega)
    have hus : usC C k (i : Int) = 0 := hW.us i (Nat.le_refl _)
    have nxt : (progC C k (i : Int) p).2 = 0 → C.off = false ∧ (progC C k (i : Int) p).1.off = false ∧ (progC C k (i : Int) p).1.ops = C.ops + 1 ∧ WrI C.g (blkC (progC C k (i : Int) p).1 k) (i + 1) ∧ blkC (progC C k (i : Int) p).1 k = { blkC C k with pg := (blkC C k).pg.set i p, us := (blkC C k).us.set i 1, la := max (blkC C k).la i } := fun h => by
      obtain ⟨z1, z2, z3, z4, z5, z6, z7⟩ := prog_zero hC h
      rw [hpg, and_blank hp.2 hp.1, hus] at z7
      have z7 : blkC (progC C k (i : Int) p).1 k = { blkC C k with pg := (blkC C k).pg.set i p, us := (blkC C k).us.set i 1, la := max (blkC C k).la i } := z7
      have hla := hW.la
      refine ⟨z1, z5, z6, ?_, z7⟩
      rw [z7]
      refine ⟨z4, by dsimp only; omega, fun j hj => ?_, fun j hj hj2 => ?_⟩
      · dsimp only
        rw [List.getD_eq_getElem?_getD, List.getElem?_set_ne (by omega), ← List.getD_eq_getElem?_getD]
        exact hW.us j (by omega)
      · dsimp only
        rw [List.getD_eq_getElem?_getD, List.getElem?_set_ne (by omega), ← List.getD_eq_getElem?_getD]
        exact hW.pg j (by omega) hj2
    have rec' := fun (h : (progC C k (i : Int) p).2 = 0) => wrPg_done (k := k) (l := ps) (i := i + 1) a1 (by rw [hs.g]; exact hk) (by rw [hs.g]; exact (nxt h).2.2.2.1) (by rw [hs.g]; omega) (fun x hx => by rw [hs.g]; exact hl x (List.mem_cons_of_mem _ hx)) (by rw [(nxt h).2.2.1]; omega)
    have ei : (i : Int) + 1 = ((i + 1 : Nat) : Int) := by push_cast; rfl
    unfold wrPg
    constructor
    · intro hoff hq
      have hla := hW.la
      have hr : refC C k (i : Int) p.length = 0 := by
        unfold refC
        rw [if_neg (by rw [hoff]; simp), if_neg (fun h => h ⟨hin, hp.1⟩), if_neg (fun h => h.elim (fun h => by rw [hW.sc] at h; cases h) (fun h => by omega)), if_neg (fun h => by omega)]
      have h0 : (progC C k (i : Int) p).2 = 0 := by
        unfold progC
        rw [if_pos hr]
        show (codeC C).1 = 0
        rw [code_q hq]
      rw [if_pos h0, ei]
      exact (rec' h0).1 (nxt h0).2.1 (hq.next hs.pl (nxt h0).2.2.1)
    · intro h hoff
      by_cases h0 : (progC C k (i : Int) p).2 = 0
      case neg => rw [if_neg h0] at h; exact absurd h h0
      rw [if_pos h0, ei] at h ⊢
      obtain ⟨n1, n2, n3, n4, n5⟩ := nxt h0
      obtain ⟨b1, b2, b3, b4, b5, b6⟩ := (rec' h0).2 h n2
      rw [hs.g] at b3
      have hd := set_drop (x := p) hlp ps.length
      refine ⟨b1, by omega, by rw [show i + (ps.length + 1) = i + 1 + ps.length from by omega]; exact b3, ?_, fun j h1 h2 => ?_, fun j h1 => ?_⟩
      · rw [b4, n5]
        dsimp only
        rw [hd.1, hd.2, List.append_assoc, show i + 1 + ps.length = i + (ps.length + 1) from by omega]
        rfl
      · by_cases hj : j = i
        · subst hj
          rw [b6 j (by omega), n5]
          dsimp only
          rw [List.getD_eq_getElem?_getD, List.getElem?_set_self hlu]
          rfl
        · exact b5 j (by omega) (by omega)
      · rw [b6 j (by omega), n5]
        dsimp only
        rw [List.getD_eq_getElem?_getD, List.getElem?_set_ne (by omega), ← List.getD_eq_getElem?_getD]
theorem wrPg_same (k : Int) : ∀ (l : List (List Int)) (i : Int) (C : CD), Same C (wrPg k l i C).1 k
  | [], i, C => .refl C k
  | p :: ps, i, C => by
    unfold wrPg
    split
    · exact (prog_same C k i p).trans (wrPg_same k ps (i + 1) _)
    · exact prog_same C k i p
theorem wrK_same (C : CD) (k : Int) (l : List (List Int)) : Same C (wrK C k l).1 k := by
  unfold wrK
  split
  · exact (wrPg_same k l 0 C).trans (prog_same _ k _ _)
  · exact wrPg_same k l 0 C
theorem wrK_done {C : CD} {k : Int} {rec : List Int} {gen : Int} (hC : COk C) (hk : 0 ≤ k ∧ k < C.g.b) (hW : WrI C.g (blkC C k) 0) (hr : rec.length = 624) (br : Byt rec) (hgen : 0 ≤ gen ∧ gen < 18446744073709551616) (hoff : C.off = false) (ho : C.ops + (nCh C.g).toNat + 1 ≤ 1000000) :
    (QT C ((nCh C.g).toNat + 1) → (wrK C k (pagesL C.g rec gen)).2 = 0) ∧ ((wrK C k (pagesL C.g rec gen)).2 = 0 → (wrK C k (pagesL C.g rec gen)).1.off = false ∧ (wrK C k (pagesL C.g rec gen)).1.ops = C.ops + (nCh C.g).toNat + 1 ∧
      (blkC (wrK C k (pagesL C.g rec gen)).1 k).pg.take (nCh C.g).toNat = mkdL C.g rec gen) := by
  have hR := hC.g
  have hn := (nCh_bd hR).1
  have hll := pagesL_length C.g rec gen
  obtain ⟨n1, n2, n3, n4, n5⟩ := hC.num
  have hnp : nCh C.g ≤ C.g.p := by unfold Right at hR; exact hR.2.1
  have hbt := pagesL_byt hR br hgen
  have hl : ∀ x ∈ pagesL C.g rec gen, x.length = szP C.g ∧ Byt x := fun x hx => by
    refine ⟨?_, hbt x hx⟩
    obtain ⟨i, hi, rfl⟩ := List.mem_map.1 hx
    have hi := List.mem_range.1 hi
    have hc := chk_length hR hr hi
    unfold pgOf mkL payL
    rw [List.length_append, endL_length _ (.inl rfl), if_neg (by omega), hc, n4]
  obtain ⟨w1, w2⟩ := wrPg_done (k := k) (l := pagesL C.g rec gen) (i := 0) hC hk hW (by rw [hll]; omega) hl (by rw [hll]; omega)
  rw [hll] at w1 w2
  rw [Nat.zero_add] at w2
  rw [show ((0 : Nat) : Int) = 0 from rfl] at w1 w2
  have w1 : C.off = false → QT C (nCh C.g).toNat → (wrPg k (pagesL C.g rec gen) 0 C).2 = 0 := w1
  obtain ⟨o1, o2, o3, o4, o5⟩ := wrPg_ok k (l := pagesL C.g rec gen) (i := 0) hC hbt (by rw [hll]; omega)
  have hsm := wrPg_same k (pagesL C.g rec gen) 0 C
  have e1 : (((nCh C.g).toNat : Nat) : Int) - 1 = (((nCh C.g).toNat - 1 : Nat) : Int) := by omega
  unfold wrK
  rw [hll, e1]
  generalize hN : (nCh C.g).toNat = N at *
  constructor
  · intro hq
    have h0 := w1 hoff (hq.less (by omega))
    obtain ⟨b1, b2, b3, b4, b5, b6⟩ := w2 h0 hoff
    rw [if_pos h0]
    unfold progC
    have hin : inC (wrPg k (pagesL C.g rec gen) 0 C).1 k ((N - 1 : Nat) : Int) := by unfold inC; rw [o2]; exact ⟨hk, by omega⟩
    have hu : usC (wrPg k (pagesL C.g rec gen) 0 C).1 k ((N - 1 : Nat) : Int) = 1 := b5 (N - 1) (by omega) (by omega)
    have hcl : (comL C.g).length = szP (wrPg k (pagesL C.g rec gen) 0 C).1.g := by rw [o2, comL_len]; omega
    have hr : refC (wrPg k (pagesL C.g rec gen) 0 C).1 k ((N - 1 : Nat) : Int) (comL C.g).length = 0 := by
      unfold refC
      rw [if_neg (by rw [b1]; simp), if_neg (fun h => h ⟨hin, hcl⟩), if_neg (fun h => h.elim (fun h => by rw [b3.sc] at h; cases h) (fun h => by omega)), if_neg (fun h => by omega)]
    rw [if_pos hr]
    show (codeC (wrPg k (pagesL C.g rec gen) 0 C).1).1 = 0
    rw [code_q (hq.skip (m := 1) o3 b2)]
  · intro h
    by_cases h0 : (wrPg k (pagesL C.g rec gen) 0 C).2 = 0
    case neg => rw [if_neg h0] at h; exact absurd h h0
    rw [if_pos h0] at h ⊢
    obtain ⟨b1, b2, b3, b4, b5, b6⟩ := w2 h0 hoff
    obtain ⟨z1, z2, z3, z4, z5, z6, z7⟩ := prog_zero o1 h
    refine ⟨z5, by omega, ?_⟩
    rw [z7]
    dsimp only
    have b4 : (blkC (wrPg k (pagesL C.g rec gen) 0 C).1 k).pg = [] ++ (pagesL C.g rec gen ++ (blkC C k).pg.drop N) := b4
    rw [List.nil_append] at b4
    have hpp : pgC13 (wrPg k (pagesL C.g rec gen) 0 C).1 k ((N - 1 : Nat) : Int) = pgOf C.g rec gen (N - 1) := by
      unfold pgC13
      rw [b4, Int.toNat_natCast, List.getD_eq_getElem?_getD, List.getElem?_append_left (by rw [hll]; omega), pagesL_get (by omega)]
      rfl
    rw [hpp, Int.toNat_natCast, b4, List.set_append_left _ _ (by rw [hll]; omega), List.take_append_of_le_length (by rw [List.length_set, hll]; omega), List.take_of_length_le (by rw [List.length_set, hll]; omega)]
    unfold mkdL lastM pgOf
    rw [hN]
    congr 1
    refine and_mk hR.sec (chk_len2 hR hr (by omega)) (ownH_right (by omega)) (chk_byt br _) Byt.nil (.inl rfl)
end Go.Proofs.YtlpeoaphdmfjdaaGreat.Vc
/-! Plain laws of layer 20 (keybox): the first record, without a fault; what an Open finds. -/
namespace Go.Proofs.YtlpeoaphdmfjdaaGreat.Vc
open Go Go.Eng Go.RowKit
abbrev F4 : List Bool := [false, false, false, false]
theorem bpK_eq {C : CD} (hC : COk C) {k : Int} (hk : 0 ≤ k ∧ k < C.g.b) {n : Nat} (hn : n ≤ C.g.p.toNat) : bpK C k n = (blkC C k).pg.take n := by
  have hbo := (hC.blk hk).2
  unfold bpK
  refine List.ext_getElem (by rw [List.length_take, hbo.pl, Nat.min_eq_left hn]; simp) fun i h1 h2 => ?_
  rw [List.getElem_take, List.getElem_map, List.getElem_range]
  unfold pgC13
  rw [Int.toNat_natCast, List.getD_eq_getElem?_getD, List.getElem?_eq_getElem]
  rfl
theorem bks_get (C : CD) {k : Nat} (hk : k < 4) : (bksK C 4).getD k [] = bpK C (k : Int) (nCh C.g).toNat := by
  unfold bksK
  rw [List.getD_eq_getElem?_getD, List.getElem?_map, List.getElem?_range hk]
  rfl
theorem blank_none {C : CD} (hC : COk C) {k : Int} (hk : 0 ≤ k ∧ k < C.g.b) (h : (blkC C k).pg = List.replicate C.g.p.toNat (List.replicate (szP C.g) 255)) : ¬ holds C.g (bpK C k (nCh C.g).toNat) := fun hh => by
  have hR := hC.g
  have hn := (nCh_bd hR).1
  have hnp : nCh C.g ≤ C.g.p := by unfold Right at hR; exact hR.2.1
  obtain ⟨-, -, n3, n4, n5⟩ := hC.num
  have h0 := (hh.2.2 0 (by omega)).2.1
  rw [bpK_eq hC hk (by omega), h, List.take_replicate, List.getD_eq_getElem?_getD, List.getElem?_replicate, if_pos (by omega)] at h0
  have h0 : okR (endP C.g (List.replicate (szP C.g) 255)) := h0
  rw [endP_rep] at h0
  exact blank_ok (by omega) h0
theorem cur_no {g : Geo} {bs : List (List (List Int))} {i : Nat} (h : ¬ holds g (bs.getD i [])) : curTo g bs (i + 1) = curTo g bs i :=
  curTo_no fun hh => by rw [holdS_no h] at hh; exact Bool.noConfusion hh.1
theorem cur_new {g : Geo} {pl : List FD} (hC : COk (newC g pl)) : curK (newC g pl) = (-1, 0, []) := by
  have hn := hC.num.1
  have h : ∀ k : Nat, k < 4 → ¬ holds g ((bksK (newC g pl) 4).getD k []) := fun k hk => by
    rw [bks_get _ hk]
    refine blank_none hC (k := (k : Int)) (by omega) ?_
    show ((List.replicate g.b.toNat (blankB g)).getD ((k : Int)).toNat default).pg = _
    have hg : (newC g pl).g = g := rfl
    rw [hg] at hn
    rw [List.getD_eq_getElem?_getD, List.getElem?_replicate, if_pos (by omega)]
    rfl
  unfold curK
  have hg : (newC g pl).g = g := rfl
  rw [hg, cur_no (h 3 (by omega)), cur_no (h 2 (by omega)), cur_no (h 1 (by omega)), cur_no (h 0 (by omega))]
  rfl
theorem opKB_new {g : Geo} {pl : List FD} (hC : COk (newC g pl)) : opKB (newC g pl) = ⟨newC g pl, -1, 0, F4, F4, F4⟩ := by
  unfold opKB
  rw [cur_new hC]
  rfl
theorem ds_q {g : Geo} {B : KB} {k : Int} {m : Nat} (hk : 0 ≤ k ∧ k < B.C.g.b) (ho : B.C.off = false) (hq : QT B.C (m + 1)) : dsK B k = (⟨(eraC B.C k).1, B.cu, B.ge, B.cl.set k.toNat true, B.bd, B.lk.set k.toNat false⟩, 0) := by
  obtain ⟨h1, -, -⟩ := era_q hk ho hq
  unfold dsK
  rw [if_neg (by omega), if_pos h1]
theorem first_q {C : CD} {ge : Int} {rec : List Int} {gen : Int} (hC : COk C) (hoff : C.off = false) (hq : QT C ((nCh C.g).toNat + 5)) (hr : rec.length = 624) (br : Byt rec) (hgen : 0 ≤ gen ∧ gen < 18446744073709551616) (hop : C.ops + 200 ≤ 1000000) :
    ∃ C' : CD, coK ⟨C, -1, ge, F4, F4, F4⟩ rec gen = (⟨C', 0, gen, [false, true, true, true], F4, F4⟩, 0) ∧ COk C' ∧ C'.off = false ∧ C'.g = C.g ∧ C'.pl = C.pl ∧ C'.ops = C.ops + (nCh C.g).toNat + 5 ∧
      (blkC C' 0).pg.take (nCh C.g).toNat = mkdL C.g rec gen ∧ ∀ k : Int, 1 ≤ k → k < 4 → ∃ e, blkC C' k = { blankB C.g with er := e } := by
  have hb := hC.num.1
  have hn := (nCh_bd hC.g).1
  have hlen := pagesL_length C.g rec gen
  obtain ⟨a1, a2, a3⟩ := era_q (k := 0) (by omega) hoff (hq.less (m := (nCh C.g).toNat + 5) (n := ((nCh C.g).toNat + 4) + 1) (by omega))
  obtain ⟨b1, b2, b3⟩ := eraC_ok hC 0 (by omega)
  have s1 := era_same C 0
  have z1 := era_zero hC (n := 0) (by omega) a1
  have d1 := ds_q (g := C.g) (B := ⟨C, -1, ge, F4, F4, F4⟩) (k := 0) (by dsimp only; omega) hoff (hq.less (m := (nCh C.g).toNat + 5) (n := ((nCh C.g).toNat + 4) + 1) (by omega))
  have d1 : dsK ⟨C, -1, ge, F4, F4, F4⟩ 0 = (⟨(eraC C 0).1, -1, ge, [true, false, false, false], F4, F4⟩, 0) := d1
  have q1 : QT (eraC C 0).1 ((nCh C.g).toNat + 4) := QT.next (hq.less (n := (nCh C.g).toNat + 4 + 1) (by omega)) s1.pl a3
  generalize (eraC C 0).1 = C1 at *
  clear hq a1
  have hW : WrI C1.g (blkC C1 0) 0 := by rw [z1, s1.g]; exact .blank C.g _
  obtain ⟨w1, w2⟩ := wrK_done (k := 0) (rec := rec) (gen := gen) b1 (by rw [s1.g]; omega) hW hr br hgen a2 (by rw [s1.g]; omega)
  rw [s1.g] at w1 w2
  have e0 := w1 (q1.less (by omega))
  obtain ⟨w3, w4, w5⟩ := w2 e0
  have s2 := wrK_same C1 0 (pagesL C.g rec gen)
  obtain ⟨c1, c2, c3, c4, c5⟩ := wrK_ok b1 0 (pagesL_byt hC.g br hgen) (by rw [hlen]; omega)
  have t1 : tyK ⟨C, -1, ge, F4, F4, F4⟩ 0 (pagesL C.g rec gen) = (⟨(wrK C1 0 (pagesL C.g rec gen)).1, -1, ge, F4, F4, F4⟩, 0) := by
    unfold tyK
    rw [d1, if_neg (show ¬ KB.c ⟨C, -1, ge, F4, F4, F4⟩ 0 = true from fun h => by cases h), if_pos rfl]
    unfold ty2K
    rw [if_pos (.inl e0), e0]
    rfl
  have q2 : QT (wrK C1 0 (pagesL C.g rec gen)).1 3 := QT.skip (n := (nCh C.g).toNat + 1) (m := 3) (q1.less (by omega)) c3 (by omega)
  generalize (wrK C1 0 (pagesL C.g rec gen)).1 = C2 at *
  clear w1 w2 e0 d1
  have g2 : C2.g = C.g := c2.trans s1.g
  have p2 : C2.pl = C.pl := c3.trans s1.pl
  have hx : ∀ {Cx : CD} {k : Int} {m : Nat}, COk Cx → Cx.off = false → Cx.g = C.g → QT Cx (m + 1) → (1 ≤ k ∧ k < 4) → Cx.ops < 1000000 →
      ∃ Cy : CD, (eraC Cx k).1 = Cy ∧ COk Cy ∧ Cy.off = false ∧ Cy.g = C.g ∧ Cy.pl = Cx.pl ∧ QT Cy m ∧ Cy.ops = Cx.ops + 1 ∧ (∃ e, blkC Cy k = { blankB C.g with er := e }) ∧ ∀ j : Int, j.toNat ≠ k.toNat → blkC Cy j = blkC Cx j := fun h1 h2 h3 h4 h5 h6 => by
    rename_i Cx k m
    obtain ⟨x1, x2, x3⟩ := era_q (k := k) (by rw [h3]; omega) h2 h4
    have s := era_same Cx k
    have z := era_zero h1 (n := k) (by rw [h3]; omega) x1
    rw [h3] at z
    exact ⟨_, rfl, (eraC_ok h1 k h6).1, x2, s.g.trans h3, s.pl, h4.next s.pl x3, x3, ⟨_, z⟩, s.oth⟩
  obtain ⟨C3, f1, f2, f3, f4, f5, f6, f7, f8, f9⟩ := hx (k := 1) (m := 2) c1 w3 g2 q2 (by omega) (by omega)
  obtain ⟨C4, g1, g2', g3, g4, g5, g6, g7, g8, g9⟩ := hx (k := 2) (m := 1) f2 f3 f4 f6 (by omega) (by omega)
  obtain ⟨C5, h1, h2, h3, h4, h5, h6, h7, h8, h9⟩ := hx (k := 3) (m := 0) g2' g3 g4 g6 (by omega) (by omega)
  refine ⟨C5, ?_, h2, h3, h4, h5.trans (g5.trans (f5.trans p2)), by omega, ?_, fun k k1 k4 => ?_⟩
  · unfold coK
    rw [if_neg (show ¬ C.off = true by rw [hoff]; simp), if_pos hr]
    show cmK (pagesL C.g rec gen) gen 4 ⟨C, -1, ge, F4, F4, F4⟩ = _
    unfold cmK
    have ek : ((-1 : Int) + 1 + (3 - ((3 : Nat) : Int))) % 4 = 0 := by decide
    dsimp only
    rw [ek, t1, if_neg (show ¬ ((0 : Int) = -1 ∨ KB.b ⟨C, -1, ge, F4, F4, F4⟩ 0 = true) from fun h => h.elim (fun h => by omega) fun h => by cases h), if_pos rfl]
    show otK 4 ⟨C2, 0, gen, F4, F4, F4⟩ = _
    unfold otK
    rw [if_pos (show skK ⟨C2, 0, gen, F4, F4, F4⟩ (3 - ((3 : Nat) : Int)) from .inl (show (3 : Int) - ((3 : Nat) : Int) = 0 from rfl))]
    unfold otK
    have dx : ∀ {Cx : CD} {k : Int} {m : Nat} {cl : List Bool}, Cx.off = false → Cx.g = C.g → QT Cx (m + 1) → (1 ≤ k ∧ k < 4) → dsK ⟨Cx, 0, gen, cl, F4, F4⟩ k = (⟨(eraC Cx k).1, 0, gen, cl.set k.toNat true, F4, F4.set k.toNat false⟩, 0) := fun y1 y2 y3 y4 => ds_q (g := C.g) (by dsimp only; rw [y2]; omega) y1 y3
    rw [show (3 : Int) - ((2 : Nat) : Int) = 1 from rfl, dx w3 g2 q2 (by omega), f1, if_neg (show ¬ skK ⟨C2, 0, gen, F4, F4, F4⟩ 1 from by simp [skK, KB.c, KB.b, KB.l]), if_neg (fun h => absurd (show (0 : Int) = 4 from h) (by decide))]
    show otK 2 ⟨C3, 0, gen, [false, true, false, false], F4, F4⟩ = _
    unfold otK
    rw [show (3 : Int) - ((1 : Nat) : Int) = 2 from rfl, dx f3 f4 f6 (by omega), g1, if_neg (show ¬ skK ⟨C3, 0, gen, [false, true, false, false], F4, F4⟩ 2 from by simp [skK, KB.c, KB.b, KB.l]), if_neg (fun h => absurd (show (0 : Int) = 4 from h) (by decide))]
    show otK 1 ⟨C4, 0, gen, [false, true, true, false], F4, F4⟩ = _
    unfold otK
    rw [show (3 : Int) - ((0 : Nat) : Int) = 3 from rfl, dx g3 g4 g6 (by omega), h1, if_neg (show ¬ skK ⟨C4, 0, gen, [false, true, true, false], F4, F4⟩ 3 from by simp [skK, KB.c, KB.b, KB.l]), if_neg (fun h => absurd (show (0 : Int) = 4 from h) (by decide))]
    rfl
  · rw [h9 0 (by decide), g9 0 (by decide), f9 0 (by decide)]
    exact w5
  · rcases (show k = 1 ∨ k = 2 ∨ k = 3 from by omega) with rfl | rfl | rfl
    · rw [h9 1 (by decide), g9 1 (by decide)]; exact f8
    · rw [h9 2 (by decide)]; exact g8
    · exact h8
theorem cur_first {C : CD} {rec : List Int} {gen : Int} (hC : COk C) (hr : rec.length = 624) (hgen : 0 ≤ gen ∧ gen < 18446744073709551616) (h0 : (blkC C 0).pg.take (nCh C.g).toNat = mkdL C.g rec gen) (h : ∀ k : Int, 1 ≤ k → k < 4 → ∃ e, blkC C k = { blankB C.g with er := e }) : curK C = (0, gen, rec) := by
  have hR := hC.g
  have hb := hC.num.1
  have hnp : nCh C.g ≤ C.g.p := by unfold Right at hR; exact hR.2.1
  have hno : ∀ k : Nat, 1 ≤ k → k < 4 → ¬ holds C.g ((bksK C 4).getD k []) := fun k h1 h2 => by
    rw [bks_get _ h2]
    obtain ⟨e, he⟩ := h (k : Int) (by omega) (by omega)
    exact blank_none hC (by omega) (by rw [he]; rfl)
  have hy : holdS C.g ((bksK C 4).getD 0 []) = (gen, rec, true) := by
    rw [bks_get _ (by omega)]
    have : ((0 : Nat) : Int) = 0 := rfl
    rw [this, bpK_eq hC (by omega) (by omega), h0]
    exact mkd_holds hR hr hgen
  unfold curK
  rw [cur_no (hno 3 (by omega) (by omega)), cur_no (hno 2 (by omega) (by omega)), cur_no (hno 1 (by omega) (by omega)), show curTo C.g (bksK C 4) 1 = _ from curTo_yes (g := C.g) (bs := bksK C 4) (i := 0) ⟨by rw [hy], .inl (show (-1 : Int) < 0 by decide)⟩, hy]
  rfl
end Go.Proofs.YtlpeoaphdmfjdaaGreat.Vc
/-! The plans of functions as plain statements, printed by wip/tools/vcgen.py; the kernel holds each to the code. -/
namespace Go.Proofs.YtlpeoaphdmfjdaaGreat.Vc
open Go Go.Eng
def law20_light.A : Ann := .no
def law20_light.P (p0_0 p0_1 p0_2 p0_3 p0_4 p0_5 : Int) (a0_6 : Option Addr) (n0_6 c0_6 : Nat) (a0_7 : Option Addr) (n0_7 c0_7 : Nat) (w : World) (K : Bool × Unit → World → Prop) : Prop :=
  NewV #[.int .i64 p0_0, .int .i64 p0_1, .int .i64 p0_2, .int .i64 p0_3, .int .i64 p0_4, .int .i64 p0_5, .slice a0_6 n0_6 c0_6, .slice a0_7 n0_7 c0_7] 68 w fun b1 w2 =>
  LoadA w2 ⟨b1, 0, none⟩ [.int .i64, .int .i64, .int .i64, .int .i64, .int .i64, .int .i64] fun (x3 : Int × Int × Int × Int × Int × Int × Unit) =>
  CallV Tryz.prog 30 #[.agg #[.int .i64 x3.1, .int .i64 x3.2.1, .int .i64 x3.2.2.1, .int .i64 x3.2.2.2.1, .int .i64 x3.2.2.2.2.1, .int .i64 x3.2.2.2.2.2.1]] w2 [.one .bool] fun (r4 : Bool × Unit) w5 =>
  cond r4.1
  (LoadS w5 ⟨b1, 6, none⟩ .sl fun (x6 : SlV) =>
  CallV Tryz.prog 31 #[.slice x6.a x6.n x6.c] w5 [.one .bool] fun (r7 : Bool × Unit) w8 =>
  cond r7.1
  (LoadS w8 ⟨b1, 0, none⟩ (.int .i64) fun (x9 : Int) =>
  cond (decide (x9 ≤ 12))
  (LoadS w8 ⟨b1, 1, none⟩ (.int .i64) fun (x10 : Int) =>
  cond (decide (x10 ≤ 20))
  (LoadS w8 ⟨b1, 2, none⟩ (.int .i64) fun (x11 : Int) =>
  cond (decide (x11 ≤ 128))
  (LoadS w8 ⟨b1, 7, none⟩ .sl fun (x12 : SlV) =>
  K (decide (((x12.n : Nat) : Int) ≤ 8), ()) w8)
  (K (false, ()) w8))
  (K (false, ()) w8))
  (K (false, ()) w8))
  (K (false, ()) w8))
  (K (false, ()) w5)
theorem law20_light.vc (p0_0 p0_1 p0_2 p0_3 p0_4 p0_5 : Int) (a0_6 : Option Addr) (n0_6 c0_6 : Nat) (a0_7 : Option Addr) (n0_7 c0_7 : Nat) (w : World) (K : Bool × Unit → World → Prop) (h : law20_light.P p0_0 p0_1 p0_2 p0_3 p0_4 p0_5 a0_6 n0_6 c0_6 a0_7 n0_7 c0_7 w K) : CallV Tryz.prog 17 #[.agg #[.int .i64 p0_0, .int .i64 p0_1, .int .i64 p0_2, .int .i64 p0_3, .int .i64 p0_4, .int .i64 p0_5, .slice a0_6 n0_6 c0_6, .slice a0_7 n0_7 c0_7]] w [.one .bool] K := by
  refine vcFun.of (A := law20_light.A) (wr := false) okf_ok follows h Tryz.func17 ?_
  kernel_rfl
def law20_record.A : Ann := .two .no (.two .no (.two (.two .no (.one (.loop [3, 4, 6, 7, 8, 9, 10, 11, 12, 13, 14, 15, 16, 17] [(3, .one .sl), (4, .one (.int .i64))] .no))) .no))
def law20_record.P (p0 : Int) (w : World) (K : SlV × Unit → World → Prop) : Prop :=
  NewV #[] 5 w fun b1 w2 =>
  LoopV [.one .sl, .one (.int .i64)] ((⟨(some ⟨b1, 0, none⟩), 0, 0⟩ : SlV), (0 : Int), ()) w2 fun (z3 : SlV × Int × Unit) w4 (K5 : SlV × Int × Unit → World → Prop) =>
  cond (decide (z3.2.1 < 624))
  (NewV #[.int .u8 (Go.bits .xor .u8 (IntKind.u8.wrap ((IntKind.u8.wrap z3.2.1) * 7)) p0)] 5 w4 fun b6 w7 =>
  AppS w7 (some ⟨b6, 0, none⟩) 1 1 fun ns12 =>
  AppV w7 5 1 1 z3.1.a z3.1.n z3.1.c ns12 1 fun a8 n9 c10 w11 =>
  Rng .i64 (z3.2.1 + 1) ∧
  K5 ((⟨a8, n9, c10⟩ : SlV), z3.2.1 + 1, ()) w11)
  (K (z3.1, ()) w4)
theorem law20_record.vc (p0 : Int) (w : World) (K : SlV × Unit → World → Prop) (h : law20_record.P p0 w K) : CallV Tryz.prog 27 #[.int .u8 p0] w [.one .sl] K := by
  refine vcFun.of (A := law20_record.A) (wr := false) okf_ok follows h Tryz.func27 ?_
  kernel_rfl
def law20_awake.A : Ann := .no
def law20_awake.P  (w : World) (K : Bool × Unit → World → Prop) : Prop :=
  CallV Tryz.prog 19 #[.agg #[.int .i64 7, .int .i64 10, .int .i64 64, .int .i64 0, .int .i64 1, .int .i64 1], .slice none 0 0] w [.one .ptr, .one (.int .i64)] fun (r1 : (Option Addr) × Int × Unit) w2 =>
  CallV Tryz.prog 20 #[.pointer r1.1] w2 [.one .ptr, .one .sl, .one (.int .i64)] fun (r3 : (Option Addr) × SlV × Int × Unit) w4 =>
  CallV Tryz.prog 27 #[.int .u8 1] w4 [.one .sl] fun (r5 : SlV × Unit) w6 =>
  CallV Tryz.prog 28 #[.pointer r3.1, .slice r5.1.a r5.1.n r5.1.c, .int .u64 4] w6 [.one (.int .i64)] fun (r7 : Int × Unit) w8 =>
  CallV Tryz.prog 20 #[.pointer r1.1] w8 [.one .ptr, .one .sl, .one (.int .i64)] fun (r9 : (Option Addr) × SlV × Int × Unit) w10 =>
  cond (r3.2.2.1 == 10)
  (cond (r7.1 == 0)
  (CallV Tryz.prog 53 #[.pointer r3.1] w10 [.one (.int .i64)] fun (r11 : Int × Unit) w12 =>
  cond (r11.1 == 0)
  (CallV Tryz.prog 54 #[.pointer r3.1] w12 [.one (.int .u64)] fun (r13 : Int × Unit) w14 =>
  cond (r13.1 == 4)
  (cond (r9.2.2.1 == 0)
  (CallV Tryz.prog 27 #[.int .u8 1] w14 [.one .sl] fun (r15 : SlV × Unit) w16 =>
  CallV Tryz.prog 25 #[.slice r9.2.1.a r9.2.1.n r9.2.1.c, .slice r15.1.a r15.1.n r15.1.c] w16 [.one .bool] fun (r17 : Bool × Unit) w18 =>
  K (r17.1, ()) w18)
  (K (false, ()) w14))
  (K (false, ()) w14))
  (K (false, ()) w12))
  (K (false, ()) w10))
  (K (false, ()) w10)
theorem law20_awake.vc  (w : World) (K : Bool × Unit → World → Prop) (h : law20_awake.P  w K) : CallV Tryz.prog 18 #[] w [.one .bool] K := by
  refine vcFun.of (A := law20_awake.A) (wr := false) okf_ok follows h Tryz.func18 ?_
  kernel_rfl
def law20_same.A : Ann := .two .no (.two .no (.two (.two .no (.one (.loop [4, 5, 6, 7, 8, 9, 10, 11, 12, 13, 14, 15, 16, 17, 18, 19, 20, 21, 22, 23, 24, 25] [(5, .one .bool), (6, .one (.int .i64))] (.two .no (.two (.one (.two .no (.two (.draw (.take 0 (.take 1 (.take 3 (.take 4 (.take 5 (.take 6 (.eff 2 (.take 7 (.done)))))))))) .no))) .no))))) (.two (.draw (.take 0 (.take 2 (.take 3 (.eff 1 (.take 4 (.take 5 (.take 6 (.take 7 (.take 8 (.take 9 (.take 10 (.take 12 (.take 13 (.eff 11 (.take 14 (.take 15 (.take 16 (.take 17 (.take 18 (.take 20 (.eff 19 (.take 21 (.take 22 (.take 23 (.take 24 (.eff 25 (.take 26 (.take 27 (.take 28 (.take 29 (.eff 30 (.take 31 (.take 32 (.take 33 (.done)))))))))))))))))))))))))))))))))))) .no)))
def law20_same.P (p0 : Addr) (p1_0 p1_1 p1_2 p1_3 p1_4 p1_5 : Int) (a1_6 : Option Addr) (n1_6 c1_6 : Nat) (a1_7 : Option Addr) (n1_7 c1_7 : Nat) (p1_8 : Bool) (p1_9 p1_10 p1_11 : Int) (p1_12 p1_13 p1_14 p1_15 p1_16 p1_17 p1_18 p1_19 p1_20 p1_21 p1_22 p1_23 : Bool) (w : World) (K : Bool × Unit → World → Prop) : Prop :=
  NewV #[.int .i64 p1_0, .int .i64 p1_1, .int .i64 p1_2, .int .i64 p1_3, .int .i64 p1_4, .int .i64 p1_5, .slice a1_6 n1_6 c1_6, .slice a1_7 n1_7 c1_7, .bool p1_8, .int .i64 p1_9, .int .i64 p1_10, .int .u64 p1_11, .bool p1_12, .bool p1_13, .bool p1_14, .bool p1_15, .bool p1_16, .bool p1_17, .bool p1_18, .bool p1_19, .bool p1_20, .bool p1_21, .bool p1_22, .bool p1_23] 77 w fun b1 w2 =>
  LoopV [.one .bool, .one (.int .i64)] (false, (0 : Int), ()) w2 fun (z3 : Bool × Int × Unit) w4 (K5 : Bool × Int × Unit → World → Prop) =>
  cond (decide (z3.2.1 < 4))
  (cond z3.1
  (DrawV fun D6 =>
  (0 ≤ z3.2.1 ∧ z3.2.1 < (4 : Int)) ∧
  (D6 ((⟨b1, 16, none⟩ : Addr).add (z3.2.1.toNat * 1)).block ∧ LoadS w4.drew ((⟨b1, 16, none⟩ : Addr).add (z3.2.1.toNat * 1)) .bool fun (x7 : Bool) =>
  CallV Tryz.prog 66 #[.pointer (some p0), .int .i64 z3.2.1] w4.drew [.one .bool] fun (r8 : Bool × Unit) w9 =>
  KeepOn D6 w4.drew w9 ∧
  cond (!(r8.1 == x7))
  (K (false, ()) w9)
  (Rng .i64 (z3.2.1 + 1) ∧
  K5 (true, z3.2.1 + 1, ()) w9)))
  ((0 ≤ z3.2.1 ∧ z3.2.1 < (4 : Int)) ∧
  LoadS w4 ((⟨b1, 20, none⟩ : Addr).add (z3.2.1.toNat * 1)) .bool fun (x10 : Bool) =>
  DrawV fun D11 =>
  (0 ≤ z3.2.1 ∧ z3.2.1 < (4 : Int)) ∧
  (D11 ((⟨b1, 16, none⟩ : Addr).add (z3.2.1.toNat * 1)).block ∧ LoadS w4.drew ((⟨b1, 16, none⟩ : Addr).add (z3.2.1.toNat * 1)) .bool fun (x12 : Bool) =>
  CallV Tryz.prog 66 #[.pointer (some p0), .int .i64 z3.2.1] w4.drew [.one .bool] fun (r13 : Bool × Unit) w14 =>
  KeepOn D11 w4.drew w14 ∧
  cond (!(r13.1 == x12))
  (K (false, ()) w14)
  (Rng .i64 (z3.2.1 + 1) ∧
  K5 (x10, z3.2.1 + 1, ()) w14))))
  (DrawV fun D15 =>
  (D15 b1 ∧ LoadS w4.drew ⟨b1, 10, none⟩ (.int .i64) fun (x16 : Int) =>
  CallV Tryz.prog 53 #[.pointer (some p0)] w4.drew [.one (.int .i64)] fun (r17 : Int × Unit) w18 =>
  KeepOn D15 w4.drew w18 ∧
  cond (r17.1 == x16)
  ((D15 b1 ∧ LoadS w4.drew ⟨b1, 10, none⟩ (.int .i64) fun (x19 : Int) =>
  cond (decide (x19 < 0))
  (CallV Tryz.prog 67 #[.pointer (some p0)] w18 [.one .bool] fun (r20 : Bool × Unit) w21 =>
  KeepOn D15 w4.drew w21 ∧
  cond (r20.1 == z3.1)
  (CallV Tryz.prog 66 #[.pointer (some p0), .int .i64 (-1)] w21 [.one .bool] fun (r22 : Bool × Unit) w23 =>
  KeepOn D15 w4.drew w23 ∧
  cond (!r22.1)
  (CallV Tryz.prog 66 #[.pointer (some p0), .int .i64 4] w23 [.one .bool] fun (r24 : Bool × Unit) w25 =>
  KeepOn D15 w4.drew w25 ∧
  K (!r24.1, ()) w25)
  (K (false, ()) w23))
  (K (false, ()) w21))
  ((D15 b1 ∧ LoadS w4.drew ⟨b1, 11, none⟩ (.int .u64) fun (x26 : Int) =>
  CallV Tryz.prog 54 #[.pointer (some p0)] w18 [.one (.int .u64)] fun (r27 : Int × Unit) w28 =>
  KeepOn D15 w4.drew w28 ∧
  cond (r27.1 == x26)
  (CallV Tryz.prog 67 #[.pointer (some p0)] w28 [.one .bool] fun (r29 : Bool × Unit) w30 =>
  KeepOn D15 w4.drew w30 ∧
  cond (r29.1 == z3.1)
  (CallV Tryz.prog 66 #[.pointer (some p0), .int .i64 (-1)] w30 [.one .bool] fun (r31 : Bool × Unit) w32 =>
  KeepOn D15 w4.drew w32 ∧
  cond (!r31.1)
  (CallV Tryz.prog 66 #[.pointer (some p0), .int .i64 4] w32 [.one .bool] fun (r33 : Bool × Unit) w34 =>
  KeepOn D15 w4.drew w34 ∧
  K (!r33.1, ()) w34)
  (K (false, ()) w32))
  (K (false, ()) w30))
  (K (false, ()) w28)))))
  (K (false, ()) w18)))
theorem law20_same.vc (p0 : Addr) (p1_0 p1_1 p1_2 p1_3 p1_4 p1_5 : Int) (a1_6 : Option Addr) (n1_6 c1_6 : Nat) (a1_7 : Option Addr) (n1_7 c1_7 : Nat) (p1_8 : Bool) (p1_9 p1_10 p1_11 : Int) (p1_12 p1_13 p1_14 p1_15 p1_16 p1_17 p1_18 p1_19 p1_20 p1_21 p1_22 p1_23 : Bool) (w : World) (K : Bool × Unit → World → Prop) (h : law20_same.P p0 p1_0 p1_1 p1_2 p1_3 p1_4 p1_5 a1_6 n1_6 c1_6 a1_7 n1_7 c1_7 p1_8 p1_9 p1_10 p1_11 p1_12 p1_13 p1_14 p1_15 p1_16 p1_17 p1_18 p1_19 p1_20 p1_21 p1_22 p1_23 w K) : CallV Tryz.prog 23 #[.pointer (some p0), .agg #[.int .i64 p1_0, .int .i64 p1_1, .int .i64 p1_2, .int .i64 p1_3, .int .i64 p1_4, .int .i64 p1_5, .slice a1_6 n1_6 c1_6, .slice a1_7 n1_7 c1_7, .bool p1_8, .int .i64 p1_9, .int .i64 p1_10, .int .u64 p1_11, .bool p1_12, .bool p1_13, .bool p1_14, .bool p1_15, .bool p1_16, .bool p1_17, .bool p1_18, .bool p1_19, .bool p1_20, .bool p1_21, .bool p1_22, .bool p1_23]] w [.one .bool] K := by
  refine vcFun.of (A := law20_same.A) (wr := false) okf_ok follows h Tryz.func23 ?_
  kernel_rfl
end Go.Proofs.YtlpeoaphdmfjdaaGreat.Vc
/-! What the laws of layer 24 share: a step keeps a pool right; does the program answer at all? -/
namespace Go.Proofs.YtlpeoaphdmfjdaaGreat.Vc
open Go Go.Eng Go.RowKit
abbrev fA24 : SlP TF.T := ⟨none, 0, 0, []⟩
theorem LF_nil {w : World} : LF.rd w All fA24 := ⟨rfl, Nat.le_refl _, Nat.zero_le _, .inl ⟨rfl, rfl⟩, fun y hy => (List.not_mem_nil hy).elim⟩
end Go.Proofs.YtlpeoaphdmfjdaaGreat.Vc
/-! The contracts of keybox (layer 20): does a block leak; what the laws share. -/
namespace Go.Proofs.YtlpeoaphdmfjdaaGreat.Vc
open Go Go.Eng Go.RowKit
theorem eqB4 (a b c d : Bool) {K : Bool → Prop} (hk : K (!(a || b || c || d))) : AggEq Tryz.prog 75 #[.bool a, .bool b, .bool c, .bool d] #[.bool false, .bool false, .bool false, .bool false] K := by
  revert hk
  cases a <;> cases b <;> cases c <;> cases d <;> intro hk <;> exact ⟨_, fun w => by kernel_rfl, by kernel_rfl, hk⟩
theorem len4 {l : List Bool} (h : l.length = 4) : ∃ a b c d, l = [a, b, c, d] := by
  match l, h with
  | [a, b, c, d], _ => exact ⟨a, b, c, d, rfl⟩
def lksK (B : KB) : Bool := B.l 0 || B.l 1 || B.l 2 || B.l 3
section
variable {E : Nat → Prop} {w0 w : World} {Rs : List Asr} {kb p : Nat} {g : Geo} {B : KB} {C : CD} {k : Int}
theorem Leaks20_c (hc : B.cl.length = 4) (hb : B.bd.length = 4) (hl : B.lk.length = 4) (S : Sep E w0 w (boxK kb p g B :: Rs)) : CallV Tryz.prog 67 #[.pointer (some ⟨kb, 0, none⟩)] w [.one .bool] fun r w' => r.1 = lksK B ∧ w' = w := by
  apply keybox_Box_Leaks.vc
  unfold keybox_Box_Leaks.P
  obtain ⟨C, cu, ge, cl, bd, lk⟩ := B
  dsimp only at hc hb hl
  obtain ⟨c0, c1, c2, c3, rfl⟩ := len4 hc
  obtain ⟨b0, b1, b2, b3, rfl⟩ := len4 hb
  obtain ⟨l0, l1, l2, l3, rfl⟩ := len4 hl
  refine S.lb0 (o := 17) (l := [.bool, .bool, .bool, .bool]) (x := (l0, l1, l2, l3, ())) rfl (eqB4 _ _ _ _ ⟨?_, rfl⟩)
  dsimp only
  rw [Bool.not_not]
  rfl
end
def rec20 (n : Nat) (sd : Int) : List Int := (List.range n).map fun (i : Nat) => Go.bits .xor .u8 (IntKind.u8.wrap (IntKind.u8.wrap (i : Int) * 7)) sd
theorem rec20_len (n : Nat) (sd : Int) : (rec20 n sd).length = n := by simp [rec20]
theorem rec20_byt (n : Nat) (sd : Int) : Byt (rec20 n sd) := fun v hv => by
  obtain ⟨i, -, rfl⟩ := List.mem_map.1 hv
  exact bits8_byt _ _ _
theorem record20_c {w : World} {sd : Int} : CallV Tryz.prog 27 #[.int .u8 sd] w [.one .sl] fun r w' => Res w w' r.1 (rec20 624 sd) := by
  apply law20_record.vc
  unfold law20_record.P
  generalize hX : rec20 624 sd = X
  generalize hN : (624 : Int) = N
  have S := Sep.start NoB w
  refine S.newB fun b1 w1 S f1 _ => ?_
  have S := S.asOwn (sz := 1) (n := 0) rfl (by omega) oneAll.nil
  refine Loop1 (fun (v : SlV × Int × Unit) w' => ∃ i : Nat, v.2.1 = (i : Int) ∧ (i : Int) ≤ N ∧ v.1.n = i ∧ Sep NoB w w' [OwnA 5 1 v.1.a v.1.n v.1.c ((rec20 i sd).map (Value.int .u8))]) (fun (v : SlV × Int × Unit) _ => (N - v.2.1).toNat) ⟨0, rfl, by omega, rfl, S⟩ ?_
  rintro ⟨⟨a, m, c⟩, (v : Int), ⟨⟩⟩ w4 ⟨i, hv, hi, hm, S⟩
  dsimp only at hv hm S ⊢
  subst hv
  subst hm
  refine cond_d (fun hlt => ?_) (fun hge => ?_)
  · refine S.newB fun b6 w5 S f5 _ => ?_
    refine AppS.of (news := [.int .u8 (Go.bits .xor .u8 (IntKind.u8.wrap (IntKind.u8.wrap (m : Int) * 7)) sd)]) rfl (.inr ⟨_, rfl, S.cells 0 rfl⟩) ?_
    refine S.ap1 rfl (fun u hu => by rw [List.mem_singleton.1 hu]; rfl) (by omega) (by omega) fun a' c' w6 S f6 => ⟨Rng.i64 (by omega) (by omega), ⟨m + 1, by push_cast; rfl, by omega, rfl, ?_⟩, by omega⟩
    have e : (rec20 (m + 1) sd).map (Value.int .u8) = (rec20 m sd).map (Value.int .u8) ++ [.int .u8 (Go.bits .xor .u8 (IntKind.u8.wrap (IntKind.u8.wrap (m : Int) * 7)) sd)] := by
      unfold rec20
      rw [List.range_succ, List.map_append, List.map_append]
      rfl
    rw [e]
    exact S.sel [1] rfl
  · have : m = 624 := by omega
    subst this
    rw [hX] at S
    exact S.out
abbrev g20 : Geo := ⟨7, 10, 64, 0, 1, 1⟩
abbrev C20 : CD := newC g20 []
theorem C20_ok : COk C20 := newC_ok (by decide) (by decide) (fun f hf => (List.not_mem_nil hf).elim)
theorem C20_q (m : Nat) : QT C20 m := fun o _ => rfl
theorem new20_c {w : World} : CallV Tryz.prog 19 #[g20.val, .slice none 0 0] w [.one .ptr, .one (.int .i64)] fun r w' => ∃ p, r.1 = some (⟨p, 0, none⟩ : Addr) ∧ Sep NoB w w' [chipE p C20] := by
  have hFR : FRight (fds fA24) := ⟨fun f hf => (List.not_mem_nil hf).elim, by decide⟩
  refine (New13_c (g := g20) (x := fA24) (G := All) LF_nil (fun f hf => (List.not_mem_nil hf).elim)).mono ?_
  rintro ⟨_, (e : Int), ⟨⟩⟩ w2 ⟨x2, -, hg⟩
  obtain ⟨-, p, y, hp, hyF, S⟩ := hg ⟨by decide, hFR⟩
  exact ⟨p, hp, chipE_in (C := C20) (Rs := []) hyF (by rw [List.append_nil]; exact S)⟩
theorem rdL1 {E : Nat → Prop} {w0 w : World} {Rs : List Asr} (S : Sep E w0 w Rs) (i : Nat) {x : SlP Int} (hi : Rs[i]? = some (RdL [x])) : Ints w .u8 x.a x.n x.c x.l := by
  obtain ⟨G, hG, -⟩ := S.get hi
  exact Ty.ints (hG x (List.mem_singleton.2 rfl))
theorem awake20_c {w : World} : CallV Tryz.prog 18 #[] w [.one .bool] fun r w' => r.1 = true ∧ Ext w w' := by
  apply law20_awake.vc
  unfold law20_awake.P
  have h4 : (0 : Int) ≤ 4 ∧ (4 : Int) < 18446744073709551616 := by omega
  refine new20_c.mono ?_
  rintro ⟨_, (e : Int), ⟨⟩⟩ w1 ⟨p, hp, S⟩
  dsimp only at hp
  subst hp
  refine (Open20_c C20_ok S).mono ?_
  rintro ⟨_, ⟨xa, xn, xc⟩, (e3 : Int), ⟨⟩⟩ w2 ⟨-, hgood⟩
  obtain ⟨h3, kb, hkb, S⟩ := hgood rfl
  dsimp only at h3 hkb S
  subst hkb
  rw [cur_new C20_ok] at h3
  have h3 : e3 = 10 := h3
  subst h3
  rw [opKB_new C20_ok] at S
  refine record20_c.mono ?_
  rintro ⟨⟨ra, rn, rc⟩, ⟨⟩⟩ w3 R
  dsimp only at R ⊢
  have hrl := rec20_len 624 1
  have hrb := rec20_byt 624 1
  obtain ⟨rr, hrr⟩ : ∃ rr, rr = rec20 624 1 := ⟨_, rfl⟩
  rw [← hrr] at R hrl hrb
  have S := S.stepE R.ext
  obtain ⟨C', c1, c2, c3, c4, c5, c6, c7, c8⟩ := first_q (ge := 0) (gen := 4) C20_ok rfl (C20_q _) hrl hrb h4 (by decide)
  have hKI : KI g20 ⟨C20, -1, 0, F4, F4, F4⟩ := ⟨C20_ok, rfl, ⟨by decide, by decide⟩, rfl, rfl, rfl⟩
  refine (Commit20_c hKI R.ints hrb h4 (by decide) S).mono ?_
  rintro ⟨(e4 : Int), ⟨⟩⟩ w4 ⟨h4', S⟩
  dsimp only at h4'
  rw [c1] at h4' S
  have h4' : e4 = 0 := h4'
  subst h4'
  refine (Open20_c c2 S.up1).mono ?_
  rintro ⟨_, ⟨ya, yn, yc⟩, (e5 : Int), ⟨⟩⟩ w5 ⟨-, hgood⟩
  obtain ⟨h5, kb2, hkb, S⟩ := hgood c3
  rw [c4] at S
  rw [← c4] at c7 c8
  have hcf := cur_first c2 hrl h4 c7 c8
  rw [hcf] at h5 S
  have h5 : e5 = 0 := h5
  subst h5
  refine cond_t rfl (cond_t rfl ?_)
  refine (Current20_c (S.fro [3] rfl)).mono ?_
  rintro ⟨(r : Int), ⟨⟩⟩ w6 ⟨h6, rfl⟩
  have h6 : r = 0 := h6
  subst h6
  refine cond_t rfl ?_
  refine (Gen20_c (S.fro [3] rfl)).mono ?_
  rintro ⟨(r : Int), ⟨⟩⟩ w6 ⟨h6, rfl⟩
  have h6 : r = 4 := h6
  subst h6
  refine cond_t rfl (cond_t rfl ?_)
  refine record20_c.mono ?_
  rintro ⟨⟨sa, sn, sc⟩, ⟨⟩⟩ w7 R2
  dsimp only at R2 ⊢
  rw [← hrr] at R2
  have i1 := (rdL1 S 2 rfl).ext R2.ext
  refine (SameBytes_c i1 R2.ints).mono ?_
  rintro ⟨(r : Bool), ⟨⟩⟩ w8 ⟨h8, x8⟩
  dsimp only at h8 ⊢
  exact ⟨by rw [h8]; exact decide_eq_true rfl, (S.stepE R2.ext).ext.trans x8⟩
end Go.Proofs.YtlpeoaphdmfjdaaGreat.Vc
/-! The contracts of layer 20 (keybox): is a block gone; may a case be played. -/
namespace Go.Proofs.YtlpeoaphdmfjdaaGreat.Vc
open Go Go.Eng Go.RowKit
def Li20 (g : Geo) (f : SlP TF.T) (n : Nat) : Prop := Right g ∧ FRight (fds f) ∧ g.b ≤ 12 ∧ g.p ≤ 20 ∧ g.s ≤ 128 ∧ (n : Int) ≤ 8
theorem light20_c {w : World} {g : Geo} {f : SlP TF.T} {s : SlV} (hf : LF.rd w All f) : CallV Tryz.prog 17 #[.agg (casV24 g f s).toArray] w [.one .bool] fun r w' => (r.1 = true ↔ Li20 g f s.n) ∧ Ext w w' := by
  apply law20_light.vc
  unfold law20_light.P
  have S := Sep.start NoB w
  refine S.newB fun b1 w1 S f1 _ => S.lb0 (o := 0) rfl ?_
  have no : ∀ {w' : World}, ¬ Li20 g f s.n → Ext w w' → ((false = true ↔ Li20 g f s.n) ∧ Ext w w') := fun h e => ⟨Iff.intro (fun x => by cases x) (fun x => absurd x h), e⟩
  refine (Right_c (g := g)).mono ?_
  rintro ⟨(r : Bool), ⟨⟩⟩ w4 ⟨h4, x4⟩
  dsimp only at h4 ⊢
  subst h4
  have S := S.stepE x4
  by_cases h1 : Right g
  case neg => exact cond_f (decide_eq_false h1) (no (fun h => h1 h.1) S.ext)
  refine cond_t (decide_eq_true h1) (S.ld0 (j := 6) rfl rfl ?_)
  refine (rRight12_c (Ty.rd_ext S.ext _ hf)).mono ?_
  rintro ⟨(r : Bool), ⟨⟩⟩ w5 ⟨h5, rfl⟩
  dsimp only at h5 ⊢
  subst h5
  by_cases h2 : FRight (fds f)
  case neg => exact cond_f (decide_eq_false h2) (no (fun h => h2 h.2.1) S.ext)
  refine cond_t (decide_eq_true h2) (S.ld0 (j := 0) rfl rfl (cond_d (fun h3 => ?_) fun h3 => no (fun h => h3 h.2.2.1) S.ext))
  refine S.ld0 (j := 1) rfl rfl (cond_d (fun h4 => ?_) fun h4 => no (fun h => h4 h.2.2.2.1) S.ext)
  refine S.ld0 (j := 2) rfl rfl (cond_d (fun h5 => ?_) fun h5 => no (fun h => h5 h.2.2.2.2.1) S.ext)
  refine S.ld0 (j := 7) rfl rfl ⟨?_, S.ext⟩
  exact Iff.intro (fun h => ⟨h1, h2, h3, h4, h5, of_decide_eq_true h⟩) (fun h => decide_eq_true h.2.2.2.2.2)
theorem Li20.new {g : Geo} {f : SlP TF.T} {w : World} (hR : Right g) (hFR : FRight (fds f)) (h : g.b ≤ 12 ∧ g.p ≤ 20 ∧ g.s ≤ 128) (hf : LF.rd w All f) : COk (newC g (fds f)) :=
  newC_ok hR ⟨by omega, h.2.1, h.2.2⟩ fun F hF => ⟨fds_byt hf F hF, hFR.fit F hF⟩
end Go.Proofs.YtlpeoaphdmfjdaaGreat.Vc
/-! The contracts of layer 20 (keybox), the document's: Open; is a key store the document's? -/
namespace Go.Proofs.YtlpeoaphdmfjdaaGreat.Vc
open Go Go.Eng Go.RowKit
theorem take_getD {ps : List (List Int)} {n i : Nat} (h : i < n) : (ps.take n).getD i [] = ps.getD i [] := by
  rw [List.getD_eq_getElem?_getD, List.getElem?_take_of_lt h, ← List.getD_eq_getElem?_getD]
theorem holdS_take {g : Geo} (h : Right g) {ps : List (List Int)} (hl : (nCh g).toNat ≤ ps.length) : holdS g (ps.take (nCh g).toNat) = holdS g ps := by
  have hn := (nCh_bd h).1
  have g0 : gen0 g (ps.take (nCh g).toNat) = gen0 g ps := by unfold gen0; rw [take_getD (by omega)]
  have hk : ∀ i : Nat, i < (nCh g).toNat → (pageOk g (ps.take (nCh g).toNat) i ↔ pageOk g ps i) := fun i hi => by unfold pageOk; rw [take_getD hi, g0]
  have hr : recOf g (ps.take (nCh g).toNat) = recOf g ps := by
    unfold recOf
    rw [List.map_congr_left (fun i hi => by rw [take_getD (List.mem_range.1 hi)])]
  by_cases hh : holds g ps
  · have h2 : holds g (ps.take (nCh g).toNat) := ⟨hh.1, by rw [List.length_take]; omega, fun i hi => (hk i hi).2 (hh.2.2 i hi)⟩
    rw [holdS_yes hh, holdS_yes h2, g0, hr]
  · have h2 : ¬ holds g (ps.take (nCh g).toNat) := fun h2 => hh ⟨h2.1, hl, fun i hi => (hk i hi).1 (h2.2.2 i hi)⟩
    rw [holdS_no hh, holdS_no h2]
theorem curTo_congr {g : Geo} {bs cs : List (List (List Int))} : ∀ {n : Nat}, (∀ i, i < n → holdS g (bs.getD i []) = holdS g (cs.getD i [])) → curTo g bs n = curTo g cs n
  | 0, _ => rfl
  | n + 1, h => by
    unfold curTo
    rw [h n (by omega), curTo_congr (n := n) fun i hi => h i (by omega)]
theorem own_rd2K {E : Nat → Prop} {w0 w : World} {Rs : List Asr} {e : TypeId} {a : Option Addr} {n c : Nat} {L : List (SlP (SlP Int))} (S : Sep E w0 w Rs) (i : Nat) (hi : Rs[i]? = some (OwnA e 1 a n c (L.map slV2))) (h : ∀ y ∈ L, TBB.rd w All y) : TBBB.rd w All ⟨a, n, c, L⟩ := by
  have ho := S.own i hi
  have hm := maxLen_eq
  refine ⟨by have := ho.len; simpa using this, ho.cap, by have := ho.lim; show n ≤ maxLen; omega, .of ?_, h⟩
  rw [show (L.flatMap TBB.vs) = L.map slV2 from by
    clear h ho S hi
    induction L with
    | nil => rfl
    | cons x L ih => rw [List.flatMap_cons, ih]; rfl]
  exact ho.rd
section
variable {F : Nat → Prop} {w : World} {g : Geo} {Q : SlP TBd.T} {f : SlP TF.T} {B : KB} {C : CD} {k : Int}
theorem rOpen20_c (hdb : Q.l.map bdOf = C.bs) (hC : COk C) (S : Sep F w w [kQ Q]) :
    CallV Tryz.prog 21 #[chVal Q f C] w [.agg SH24, .one .sl] fun r w' => r.1 = kT Q f (opKB C) ∧ Sep F w w' [kQ Q, RdL [⟨r.2.1.a, r.2.1.n, r.2.1.c, (curK C).2.2⟩]] := by
  apply ref20_Open.vc
  unfold ref20_Open.P
  obtain ⟨⟨n1, n2⟩, ⟨n3, n4⟩, ⟨n5, n6⟩, n7, n8⟩ := hC.num
  have hR := hC.g
  have hnp : nCh C.g ≤ C.g.p := by unfold Right at hR; exact hR.2.1
  have hrdQ : ∀ {w' : World} {Rs : List Asr} (S : Sep F w w' Rs) (i : Nat), Rs[i]? = some (kQ Q) → (Ty.sl TBd).rd w' All Q := fun S i hi => by
    obtain ⟨G, hG, -⟩ := S.get hi
    exact (Ty.sl TBd).rd_mono (fun _ _ _ => trivial) hG
  have hQn : (Q.n : Int) = C.g.b := by
    have h1 := (hrdQ S 0 rfl).1
    have h2 := congrArg List.length hdb
    rw [List.length_map, hC.bl] at h2
    omega
  refine S.newB fun b1 w1 S f1 _ => S.newB fun b3 w2 S f2 _ => S.newB fun b5 w3 S f3 _ => ?_
  have S := S.asOwn (sz := 1) (n := 0) rfl (by omega) oneAll.nil
  refine Loop1 (fun (v : SlV × Int × Unit) w' => ∃ (i : Nat) (Y : List (SlP (SlP Int))), v.2.1 = (i : Int) ∧ i ≤ 4 ∧ v.1.n = i ∧ Y.length = i ∧ (∀ (j : Nat) (z : TBd.T), Q.l[j]? = some z → j < i → Y[j]? = some z.1) ∧ Sep F w w' [OwnA 127 1 v.1.a v.1.n v.1.c (Y.map slV2), BoxA b3 tB zK, BoxA b1 tC (chV Q f C), kQ Q])
    (fun (v : SlV × Int × Unit) _ => (4 - v.2.1).toNat) ⟨0, [], rfl, by omega, rfl, rfl, fun j z _ h => absurd h (Nat.not_lt_zero _), S⟩ ?_
  clear S
  rintro ⟨⟨ya, yn, yc⟩, (v : Int), ⟨⟩⟩ w4 ⟨i, Y, hv, hi, hyn, hYl, hY, S⟩
  dsimp only at hv hyn S ⊢
  subst hv
  subst hyn
  refine cond_d (fun hlt => ?_) (fun hge => ?_)
  · obtain ⟨q, z, hq, hz, hc, hr, -, -⟩ := Ty.nth (e := TBd) (hrdQ S 3 rfl) (i := (yn : Int)) (by omega) (by omega) (by decide)
    rw [Int.toNat_natCast] at hz
    have hc : CellsAt w4 (q.add ((yn : Int).toNat * 5)) (bdV z) := hc
    refine S.ld2 (j := 6) rfl rfl ⟨⟨by omega, by dsimp only; omega⟩, q, hq, ldp0 hc (h := .sl) (x := ⟨z.1.a, z.1.n, z.1.c⟩) rfl ?_⟩
    refine S.newB fun b6 w5 S f5 _ => ?_
    refine AppS.of (news := [slV2 z.1]) rfl (.inr ⟨_, rfl, S.cells 0 rfl⟩) ?_
    refine S.ap1 (by rfl) (fun u hu => by rw [List.mem_singleton.1 hu]; rfl) (by omega) (by omega) fun a7 c7 w7 S f7 => ?_
    refine ⟨Rng.i64 (by omega) (by omega), ⟨yn + 1, Y ++ [z.1], by push_cast; rfl, by omega, rfl, by rw [List.length_append, hYl]; rfl, fun j u hu hj => ?_, ?_⟩, by omega⟩
    · by_cases hjy : j < yn
      · rw [List.getElem?_append_left (by omega)]
        exact hY j u hu hjy
      · have : j = yn := by omega
        subst this
        rw [hz] at hu
        rw [List.getElem?_append_right (by omega), hYl, Nat.sub_self]
        cases hu
        rfl
    · rw [List.map_append]
      exact S.tail
  have : yn = 4 := by omega
  subst this
  have hQ4 := hrdQ S 3 rfl
  have hel : ∀ j : Nat, j < 4 → ∃ z : TBd.T, Q.l[j]? = some z ∧ Y[j]? = some z.1 ∧ bdOf z = blkC C (j : Int) ∧ TBB.rd w4 All z.1 := fun j hj => by
    have hjl : j < Q.l.length := by have := hQ4.1; omega
    obtain ⟨z, hz⟩ : ∃ z : TBd.T, Q.l[j]? = some z := ⟨_, List.getElem?_eq_getElem hjl⟩
    refine ⟨z, hz, hY j z hz hj, ?_, (hQ4.2.2.2.2 z (List.mem_of_getElem? hz)).1⟩
    show _ = C.bs.getD (j : Int).toNat default
    rw [Int.toNat_natCast, getD_some (x := bdOf z)]
    rw [← hdb, List.getElem?_map, hz]; rfl
  have hx : TBBB.rd w4 All ⟨ya, 4, yc, Y⟩ := own_rd2K S 0 rfl fun y hy => by
    obtain ⟨j, hj⟩ := List.getElem?_of_mem hy
    have hj4 : j < 4 := by have := (List.getElem?_eq_some_iff.1 hj).1; omega
    obtain ⟨z, -, h2, -, h4⟩ := hel j hj4
    rw [h2] at hj
    cases hj
    exact h4
  have hbk : ∀ j : Nat, j < 4 → holdS C.g ((Y.map pgs).getD j []) = holdS C.g ((bksK C 4).getD j []) := fun j hj => by
    obtain ⟨z, -, h2, h3, -⟩ := hel j hj
    have hin : 0 ≤ (j : Int) ∧ (j : Int) < C.g.b := by omega
    rw [bks_get _ hj, bpK_eq hC hin (by omega), getD_map2 h2, holdS_take hR (by rw [(hC.blk hin).2.pl]; omega), ← h3]
    rfl
  have ek : curTo C.g (Y.map pgs) (Y.map pgs).length = curK C := by
    rw [List.length_map, hYl]
    exact curTo_congr hbk
  refine S.lb2 (o := 0) rfl ?_
  refine (rCurrent_c (g := C.g) (x := ⟨ya, 4, yc, Y⟩) hx (by show 4 ≤ 1000; omega) hR).mono ?_
  rintro ⟨(at_ : Int), ⟨(gen : Int), ⟨ra, rn, rc⟩, (ok : Bool), ⟨⟩⟩, ⟨⟩⟩ w5 ⟨h5, h6, T⟩
  dsimp only at h5 h6 T ⊢
  rw [ek] at h5 h6 T
  subst h5 h6
  have S := S.frame0 T
  dsimp only [List.cons_append, List.nil_append] at S
  refine S.newB fun b23 w6 S f6 _ => S.st0 (by rfl) fun w7 S f7 => ?_
  have hne1 : b23 ≠ b3 := S.ne 0 3 (by omega) rfl rfl
  have hne2 : b3 ≠ b1 := S.ne 3 4 (by omega) rfl rfl
  refine S.regX (fun i => i = b3) fun D hD hkeep S T => ?_
  have d1 : D b1 := hD _ (S.lt 4 rfl) fun e => hne2 e.symm
  have d2 : D b23 := hD _ (S.lt 0 rfl) hne1
  refine ⟨d1, S.la4 rfl ⟨d2, S.ld0 (j := 0) rfl rfl ⟨d2, S.ld0 (j := 1) rfl rfl (S.st3 (by rfl) fun w8 S f8 => ⟨hkeep _ f8, S.la3 rfl ⟨rfl, ?_⟩⟩)⟩⟩⟩
  exact S.sel [5, 1] rfl
end
section
variable {E : Nat → Prop} {w0 w : World} {Rs : List Asr} {kb p : Nat} {g : Geo} {B : KB} {Q : SlP TBd.T} {f : SlP TF.T}
theorem same20_c (h : KI g B) (S0 : Sep E w0 w (boxK kb p g B :: Rs)) :
    CallV Tryz.prog 23 #[.pointer (some ⟨kb, 0, none⟩), kVal Q f B] w [.one .bool] fun r w' => r.1 = true ∧ Ext w w' := by
  apply law20_same.vc
  unfold law20_same.P
  have S := Sep.start NoB w
  refine S.newB fun b1 w1 S f1 _ => ?_
  have S : Sep NoB w w1 [BoxA b1 tB (kV Q f B)] := S
  have hc := h.cl
  have hb := h.bd
  have hl := h.lk
  refine Loop1 (fun (v : Bool × Int × Unit) w' => ∃ i : Nat, v.2.1 = (i : Int) ∧ i ≤ 4 ∧ (v.1 = true ↔ ∃ j : Nat, j < i ∧ B.l (j : Int) = true) ∧ Sep NoB w w' [BoxA b1 tB (kV Q f B)]) (fun (v : Bool × Int × Unit) _ => (4 - v.2.1).toNat) ⟨0, rfl, by omega, ⟨fun h => (Bool.noConfusion h), fun ⟨j, hj, _⟩ => absurd hj (Nat.not_lt_zero _)⟩, S⟩ ?_
  clear S
  rintro ⟨(lk : Bool), (v : Int), ⟨⟩⟩ w2 ⟨i, hv, hi, hlk, S⟩
  dsimp only at hv hlk ⊢
  subst hv
  have sm : ∀ {x y : Bool}, x = B.b (i : Int) → y = B.b (i : Int) → (!(x == y)) = false := by
    intro x y h1 h2
    rw [h1, h2]
    simp
  refine cond_d (fun hlt => ?_) (fun hge => ?_)
  · have hi4 : 0 ≤ (i : Int) ∧ (i : Int) < 4 := ⟨by omega, hlt⟩
    have hdec : (decide (0 ≤ (i : Int) ∧ (i : Int) < 4) && B.b (i : Int)) = B.b (i : Int) := by rw [decide_eq_true hi4]; rfl
    refine cond_of (fun hk => ?_) (fun hk => ?_)
    · refine S.reg fun D hD hkeep S T => ⟨hi4, by rw [add_block]; exact hD _ S.bl0, kr_gb S hc hb hl hi4 ?_⟩
      refine (Bad20_c hc hb (S0.stepE S.ext)).mono ?_
      rintro ⟨(r : Bool), ⟨⟩⟩ w3 ⟨h3, rfl⟩
      dsimp only at h3
      refine ⟨hkeep _ (Fr.refl _ _), cond_f (sm (h3.trans hdec) rfl) ⟨Rng.i64 (by omega) (by omega), ⟨i + 1, by push_cast; rfl, by omega, ⟨fun _ => ?_, fun _ => rfl⟩, S⟩, by omega⟩⟩
      obtain ⟨j, hj, hjl⟩ := hlk.1 hk
      exact ⟨j, by omega, hjl⟩
    · refine ⟨hi4, kr_gl S hc hb hl hi4 ?_⟩
      refine S.reg fun D hD hkeep S T => ⟨hi4, by rw [add_block]; exact hD _ S.bl0, kr_gb S hc hb hl hi4 ?_⟩
      refine (Bad20_c hc hb (S0.stepE S.ext)).mono ?_
      rintro ⟨(r : Bool), ⟨⟩⟩ w3 ⟨h3, rfl⟩
      dsimp only at h3
      refine ⟨hkeep _ (Fr.refl _ _), cond_f (sm (h3.trans hdec) rfl) ⟨Rng.i64 (by omega) (by omega), ⟨i + 1, by push_cast; rfl, by omega, ⟨fun hh => ⟨i, by omega, hh⟩, fun ⟨j, hj, hjl⟩ => ?_⟩, S⟩, by omega⟩⟩
      by_cases hji : j = i
      · rw [hji] at hjl; exact hjl
      · have := hlk.2 ⟨j, by omega, hjl⟩
        rw [hk] at this
        cases this
  have : i = 4 := by omega
  subst this
  have hlks : lksK B = lk := by
    have h1 : lksK B = true ↔ lk = true := by
      rw [hlk]
      unfold lksK
      simp only [Bool.or_eq_true]
      constructor
      · rintro (((h | h) | h) | h)
        · exact ⟨0, by omega, h⟩
        · exact ⟨1, by omega, h⟩
        · exact ⟨2, by omega, h⟩
        · exact ⟨3, by omega, h⟩
      · rintro ⟨j, hj, h⟩
        rcases (show j = 0 ∨ j = 1 ∨ j = 2 ∨ j = 3 from by omega) with rfl | rfl | rfl | rfl
        · exact .inl (.inl (.inl h))
        · exact .inl (.inl (.inr h))
        · exact .inl (.inr h)
        · exact .inr h
    exact Bool.eq_iff_iff.2 h1
  refine S.reg fun D hD hkeep S T => ⟨hD _ S.bl0, S.ld0 (j := 10) rfl rfl ?_⟩
  have d1 := hD _ S.bl0
  have S1 := S0.stepE S.ext
  refine (Current20_c S1).mono ?_
  rintro ⟨(r : Int), ⟨⟩⟩ w3 ⟨h3, rfl⟩
  dsimp only at h3 ⊢
  subst h3
  have k0 := hkeep _ (Fr.refl _ _)
  have rest : ∀ {K : Bool × Unit → World → Prop}, K (true, ()) w2.drew → CallV Tryz.prog 67 #[.pointer (some ⟨kb, 0, none⟩)] w2.drew [.one .bool] fun (r20 : Bool × Unit) w21 =>
      KeepOn D w2.drew w21 ∧ cond (r20.1 == lk) (CallV Tryz.prog 66 #[.pointer (some ⟨kb, 0, none⟩), .int .i64 (-1)] w21 [.one .bool] fun (r22 : Bool × Unit) w23 =>
        KeepOn D w2.drew w23 ∧ cond (!r22.1) (CallV Tryz.prog 66 #[.pointer (some ⟨kb, 0, none⟩), .int .i64 4] w23 [.one .bool] fun (r24 : Bool × Unit) w25 =>
          KeepOn D w2.drew w25 ∧ K (!r24.1, ()) w25) (K (false, ()) w23)) (K (false, ()) w21) := fun {K} hK => by
    refine (Leaks20_c hc hb hl S1).mono ?_
    rintro ⟨(r : Bool), ⟨⟩⟩ w4 ⟨h4, rfl⟩
    dsimp only at h4 ⊢
    subst h4
    refine ⟨k0, cond_t (by rw [hlks]; exact beq_self_eq_true _) ?_⟩
    refine (Bad20_c (k := -1) hc hb S1).mono ?_
    rintro ⟨(r : Bool), ⟨⟩⟩ w4 ⟨h4, rfl⟩
    have h4 : r = false := by have h4 : r = (decide (0 ≤ (-1 : Int) ∧ (-1 : Int) < 4) && B.b (-1)) := h4; rw [h4]; rfl
    subst h4
    refine ⟨k0, cond_t rfl ?_⟩
    refine (Bad20_c (k := 4) hc hb S1).mono ?_
    rintro ⟨(r : Bool), ⟨⟩⟩ w4 ⟨h4, rfl⟩
    have h4 : r = false := by have h4 : r = (decide (0 ≤ (4 : Int) ∧ (4 : Int) < 4) && B.b 4) := h4; rw [h4]; rfl
    subst h4
    exact ⟨k0, hK⟩
  refine ⟨k0, cond_t (beq_self_eq_true _) ⟨d1, S.ld0 (j := 10) rfl rfl (cond_d (fun _ => rest (K := fun r w' => r.1 = true ∧ Ext w w') ⟨rfl, S.ext⟩) (fun _ => ⟨d1, S.ld0 (j := 11) rfl rfl ?_⟩))⟩⟩
  refine (Gen20_c S1).mono ?_
  rintro ⟨(r : Int), ⟨⟩⟩ w4 ⟨h4, rfl⟩
  dsimp only at h4 ⊢
  subst h4
  exact ⟨k0, cond_t (beq_self_eq_true _) (rest (K := fun r w' => r.1 = true ∧ Ext w w') ⟨rfl, S.ext⟩)⟩
end
end Go.Proofs.YtlpeoaphdmfjdaaGreat.Vc
/-! The plans of functions as plain statements, printed by wip/tools/vcgen.py; the kernel holds each to the code. -/
namespace Go.Proofs.YtlpeoaphdmfjdaaGreat.Vc
open Go Go.Eng
def law20_KeyboxRuns.A : Ann := .two .no (.two .no (.two .no (.two .no (.two .no (.two .no (.two (.two .no (.one (.loop [2, 5, 6, 7, 10, 11, 12, 13, 14, 15, 16, 17, 18, 19, 63, 64, 65, 66, 67, 68, 69, 70, 71, 72, 73, 74, 75, 76, 77, 78, 79, 80, 81, 82, 83, 84, 85, 86, 87, 88, 89, 90, 91, 92, 93, 94, 95, 96, 97, 98, 99, 100, 101, 102, 103, 104, 105, 106, 107, 108, 109, 110, 111, 112, 113, 114, 115, 116, 117, 118, 119, 120, 121, 122, 123, 124, 125, 126, 127, 128, 129, 130, 131, 132, 133, 134, 135, 136, 137, 138, 139, 140, 141, 142, 143, 144, 145, 146, 147, 148, 149, 150, 151, 152, 153] [(5, .one .ptr), (10, .one (.int .i64))] (.two .no (.two (.one (.two .no (.two .no (.join [18, 19, 124, 125, 126, 127, 128, 129, 130, 131, 132, 133] [(18, .one .ptr), (19, .one (.int .i64))] (.draw (.take 0 (.take 1 (.take 2 (.take 4 (.take 5 (.both 3 (.both 6 (.take 7 (.take 8 (.take 9 (.eff 10 (.eff 11 (.take 12 (.done))))))) 10 (.eff 6 (.take 7 (.take 8 (.take 9 (.eff 11 (.take 12 (.done)))))))) 10 (.eff 3 (.eff 6 (.take 7 (.take 8 (.take 9 (.eff 11 (.take 12 (.done))))))))))))))) (.two .no (.two (.draw (.take 0 (.take 1 (.take 2 (.take 4 (.take 5 (.take 7 (.eff 3 (.eff 6 (.take 8 (.take 9 (.take 10 (.take 11 (.take 12 (.take 13 (.take 14 (.eff 15 (.take 16 (.take 17 (.take 18 (.done))))))))))))))))))))) .no)))))) .no))))) (.two (.draw (.take 0 (.take 2 (.take 3 (.eff 1 (.eff 4 (.eff 5 (.take 6 (.eff 7 (.take 8 (.take 9 (.done)))))))))))) .no)))))))
def law20_KeyboxRuns.P (p0_0 p0_1 p0_2 p0_3 p0_4 p0_5 : Int) (a0_6 : Option Addr) (n0_6 c0_6 : Nat) (a0_7 : Option Addr) (n0_7 c0_7 : Nat) (w : World) (K : Bool × Unit → World → Prop) : Prop :=
  NewV #[.int .i64 p0_0, .int .i64 p0_1, .int .i64 p0_2, .int .i64 p0_3, .int .i64 p0_4, .int .i64 p0_5, .slice a0_6 n0_6 c0_6, .slice a0_7 n0_7 c0_7] 68 w fun b1 w2 =>
  LoadA w2 ⟨b1, 0, none⟩ [.int .i64, .int .i64, .int .i64, .int .i64, .int .i64, .int .i64, .sl, .sl] fun (x3 : Int × Int × Int × Int × Int × Int × SlV × SlV × Unit) =>
  CallV Tryz.prog 17 #[.agg #[.int .i64 x3.1, .int .i64 x3.2.1, .int .i64 x3.2.2.1, .int .i64 x3.2.2.2.1, .int .i64 x3.2.2.2.2.1, .int .i64 x3.2.2.2.2.2.1, .slice x3.2.2.2.2.2.2.1.a x3.2.2.2.2.2.2.1.n x3.2.2.2.2.2.2.1.c, .slice x3.2.2.2.2.2.2.2.1.a x3.2.2.2.2.2.2.2.1.n x3.2.2.2.2.2.2.2.1.c]] w2 [.one .bool] fun (r4 : Bool × Unit) w5 =>
  cond (!r4.1)
  (CallV Tryz.prog 18 #[] w5 [.one .bool] fun (r6 : Bool × Unit) w7 =>
  K (r6.1, ()) w7)
  (LoadA w5 ⟨b1, 0, none⟩ [.int .i64, .int .i64, .int .i64, .int .i64, .int .i64, .int .i64] fun (x8 : Int × Int × Int × Int × Int × Int × Unit) =>
  LoadS w5 ⟨b1, 6, none⟩ .sl fun (x9 : SlV) =>
  CallV Tryz.prog 19 #[.agg #[.int .i64 x8.1, .int .i64 x8.2.1, .int .i64 x8.2.2.1, .int .i64 x8.2.2.2.1, .int .i64 x8.2.2.2.2.1, .int .i64 x8.2.2.2.2.2.1], .slice x9.a x9.n x9.c] w5 [.one .ptr, .one (.int .i64)] fun (r10 : (Option Addr) × Int × Unit) w11 =>
  CallV Tryz.prog 20 #[.pointer r10.1] w11 [.one .ptr, .one .sl, .one (.int .i64)] fun (r12 : (Option Addr) × SlV × Int × Unit) w13 =>
  LoadA w13 ⟨b1, 0, none⟩ [.int .i64, .int .i64, .int .i64, .int .i64, .int .i64, .int .i64] fun (x14 : Int × Int × Int × Int × Int × Int × Unit) =>
  LoadS w13 ⟨b1, 6, none⟩ .sl fun (x15 : SlV) =>
  CallV Tryz.prog 22 #[.agg #[.int .i64 x14.1, .int .i64 x14.2.1, .int .i64 x14.2.2.1, .int .i64 x14.2.2.2.1, .int .i64 x14.2.2.2.2.1, .int .i64 x14.2.2.2.2.2.1], .slice x15.a x15.n x15.c] w13 [.agg [.int .i64, .int .i64, .int .i64, .int .i64, .int .i64, .int .i64, .sl, .sl, .bool, .int .i64]] fun (r16 : (Int × Int × Int × Int × Int × Int × SlV × SlV × Bool × Int × Unit) × Unit) w17 =>
  CallV Tryz.prog 21 #[.agg #[.int .i64 r16.1.1, .int .i64 r16.1.2.1, .int .i64 r16.1.2.2.1, .int .i64 r16.1.2.2.2.1, .int .i64 r16.1.2.2.2.2.1, .int .i64 r16.1.2.2.2.2.2.1, .slice r16.1.2.2.2.2.2.2.1.a r16.1.2.2.2.2.2.2.1.n r16.1.2.2.2.2.2.2.1.c, .slice r16.1.2.2.2.2.2.2.2.1.a r16.1.2.2.2.2.2.2.2.1.n r16.1.2.2.2.2.2.2.2.1.c, .bool r16.1.2.2.2.2.2.2.2.2.1, .int .i64 r16.1.2.2.2.2.2.2.2.2.2.1]] w17 [.agg [.int .i64, .int .i64, .int .i64, .int .i64, .int .i64, .int .i64, .sl, .sl, .bool, .int .i64, .int .i64, .int .u64, .bool, .bool, .bool, .bool, .bool, .bool, .bool, .bool, .bool, .bool, .bool, .bool], .one .sl] fun (r18 : (Int × Int × Int × Int × Int × Int × SlV × SlV × Bool × Int × Int × Int × Bool × Bool × Bool × Bool × Bool × Bool × Bool × Bool × Bool × Bool × Bool × Bool × Unit) × SlV × Unit) w19 =>
  NewV #[.int .i64 0, .int .i64 0, .int .i64 0, .int .i64 0, .int .i64 0, .int .i64 0, .slice none 0 0, .slice none 0 0, .bool false, .int .i64 0, .int .i64 0, .int .u64 0, .bool false, .bool false, .bool false, .bool false, .bool false, .bool false, .bool false, .bool false, .bool false, .bool false, .bool false, .bool false] 77 w19 fun b20 w21 =>
  StoreV w21 ⟨b20, 0, none⟩ [.int .i64 r18.1.1, .int .i64 r18.1.2.1, .int .i64 r18.1.2.2.1, .int .i64 r18.1.2.2.2.1, .int .i64 r18.1.2.2.2.2.1, .int .i64 r18.1.2.2.2.2.2.1, .slice r18.1.2.2.2.2.2.2.1.a r18.1.2.2.2.2.2.2.1.n r18.1.2.2.2.2.2.2.1.c, .slice r18.1.2.2.2.2.2.2.2.1.a r18.1.2.2.2.2.2.2.2.1.n r18.1.2.2.2.2.2.2.2.1.c, .bool r18.1.2.2.2.2.2.2.2.2.1, .int .i64 r18.1.2.2.2.2.2.2.2.2.2.1, .int .i64 r18.1.2.2.2.2.2.2.2.2.2.2.1, .int .u64 r18.1.2.2.2.2.2.2.2.2.2.2.2.1, .bool r18.1.2.2.2.2.2.2.2.2.2.2.2.2.1, .bool r18.1.2.2.2.2.2.2.2.2.2.2.2.2.2.1, .bool r18.1.2.2.2.2.2.2.2.2.2.2.2.2.2.2.1, .bool r18.1.2.2.2.2.2.2.2.2.2.2.2.2.2.2.2.1, .bool r18.1.2.2.2.2.2.2.2.2.2.2.2.2.2.2.2.2.1, .bool r18.1.2.2.2.2.2.2.2.2.2.2.2.2.2.2.2.2.2.1, .bool r18.1.2.2.2.2.2.2.2.2.2.2.2.2.2.2.2.2.2.2.1, .bool r18.1.2.2.2.2.2.2.2.2.2.2.2.2.2.2.2.2.2.2.2.1, .bool r18.1.2.2.2.2.2.2.2.2.2.2.2.2.2.2.2.2.2.2.2.2.1, .bool r18.1.2.2.2.2.2.2.2.2.2.2.2.2.2.2.2.2.2.2.2.2.2.1, .bool r18.1.2.2.2.2.2.2.2.2.2.2.2.2.2.2.2.2.2.2.2.2.2.2.1, .bool r18.1.2.2.2.2.2.2.2.2.2.2.2.2.2.2.2.2.2.2.2.2.2.2.2.1] fun w22 =>
  cond (r12.2.2.1 != 10)
  (K (false, ()) w22)
  (Rng .i64 (((r12.2.1.n : Nat) : Int) + ((r18.2.1.n : Nat) : Int)) ∧
  cond ((((r12.2.1.n : Nat) : Int) + ((r18.2.1.n : Nat) : Int)) != 0)
  (K (false, ()) w22)
  (LoadA w22 ⟨b20, 0, none⟩ [.int .i64, .int .i64, .int .i64, .int .i64, .int .i64, .int .i64, .sl, .sl, .bool, .int .i64, .int .i64, .int .u64, .bool, .bool, .bool, .bool, .bool, .bool, .bool, .bool, .bool, .bool, .bool, .bool] fun (x23 : Int × Int × Int × Int × Int × Int × SlV × SlV × Bool × Int × Int × Int × Bool × Bool × Bool × Bool × Bool × Bool × Bool × Bool × Bool × Bool × Bool × Bool × Unit) =>
  CallV Tryz.prog 23 #[.pointer r12.1, .agg #[.int .i64 x23.1, .int .i64 x23.2.1, .int .i64 x23.2.2.1, .int .i64 x23.2.2.2.1, .int .i64 x23.2.2.2.2.1, .int .i64 x23.2.2.2.2.2.1, .slice x23.2.2.2.2.2.2.1.a x23.2.2.2.2.2.2.1.n x23.2.2.2.2.2.2.1.c, .slice x23.2.2.2.2.2.2.2.1.a x23.2.2.2.2.2.2.2.1.n x23.2.2.2.2.2.2.2.1.c, .bool x23.2.2.2.2.2.2.2.2.1, .int .i64 x23.2.2.2.2.2.2.2.2.2.1, .int .i64 x23.2.2.2.2.2.2.2.2.2.2.1, .int .u64 x23.2.2.2.2.2.2.2.2.2.2.2.1, .bool x23.2.2.2.2.2.2.2.2.2.2.2.2.1, .bool x23.2.2.2.2.2.2.2.2.2.2.2.2.2.1, .bool x23.2.2.2.2.2.2.2.2.2.2.2.2.2.2.1, .bool x23.2.2.2.2.2.2.2.2.2.2.2.2.2.2.2.1, .bool x23.2.2.2.2.2.2.2.2.2.2.2.2.2.2.2.2.1, .bool x23.2.2.2.2.2.2.2.2.2.2.2.2.2.2.2.2.2.1, .bool x23.2.2.2.2.2.2.2.2.2.2.2.2.2.2.2.2.2.2.1, .bool x23.2.2.2.2.2.2.2.2.2.2.2.2.2.2.2.2.2.2.2.1, .bool x23.2.2.2.2.2.2.2.2.2.2.2.2.2.2.2.2.2.2.2.2.1, .bool x23.2.2.2.2.2.2.2.2.2.2.2.2.2.2.2.2.2.2.2.2.2.1, .bool x23.2.2.2.2.2.2.2.2.2.2.2.2.2.2.2.2.2.2.2.2.2.2.1, .bool x23.2.2.2.2.2.2.2.2.2.2.2.2.2.2.2.2.2.2.2.2.2.2.2.1]] w22 [.one .bool] fun (r24 : Bool × Unit) w25 =>
  cond (!r24.1)
  (K (false, ()) w25)
  (LoopV [.one .ptr, .one (.int .i64)] (r12.1, (0 : Int), ()) w25 fun (z26 : (Option Addr) × Int × Unit) w27 (K28 : (Option Addr) × Int × Unit → World → Prop) =>
  LoadS w27 ⟨b1, 7, none⟩ .sl fun (x29 : SlV) =>
  cond (decide (z26.2.1 < ((x29.n : Nat) : Int)))
  (LoadS w27 ⟨b1, 7, none⟩ .sl fun (x30 : SlV) =>
  (0 ≤ z26.2.1 ∧ z26.2.1 < ((x30.n : Nat) : Int)) ∧ ∃ q31 : Addr, x30.a = some q31 ∧
  LoadA w27 (q31.add (z26.2.1.toNat * 3)) [.int .u8, .int .u64, .bool] fun (x32 : Int × Int × Bool × Unit) =>
  NewV #[.int .u8 0, .int .u64 0, .bool false] 83 w27 fun b33 w34 =>
  StoreV w34 ⟨b33, 0, none⟩ [.int .u8 x32.1, .int .u64 x32.2.1, .bool x32.2.2.1] fun w35 =>
  LoadS w35 ⟨b33, 2, none⟩ .bool fun (x36 : Bool) =>
  cond x36
  (CallV Tryz.prog 24 #[.pointer r10.1, .bool false] w35 [] fun (r37 : Unit) w38 =>
  CallV Tryz.prog 20 #[.pointer r10.1] w38 [.one .ptr, .one .sl, .one (.int .i64)] fun (r39 : (Option Addr) × SlV × Int × Unit) w40 =>
  CallV Tryz.prog 24 #[.pointer r10.1, .bool true] w40 [] fun (r41 : Unit) w42 =>
  StoreV w42 ⟨b20, 8, none⟩ [.bool false] fun w43 =>
  LoadA w43 ⟨b20, 0, none⟩ [.int .i64, .int .i64, .int .i64, .int .i64, .int .i64, .int .i64, .sl, .sl, .bool, .int .i64] fun (x44 : Int × Int × Int × Int × Int × Int × SlV × SlV × Bool × Int × Unit) =>
  CallV Tryz.prog 21 #[.agg #[.int .i64 x44.1, .int .i64 x44.2.1, .int .i64 x44.2.2.1, .int .i64 x44.2.2.2.1, .int .i64 x44.2.2.2.2.1, .int .i64 x44.2.2.2.2.2.1, .slice x44.2.2.2.2.2.2.1.a x44.2.2.2.2.2.2.1.n x44.2.2.2.2.2.2.1.c, .slice x44.2.2.2.2.2.2.2.1.a x44.2.2.2.2.2.2.2.1.n x44.2.2.2.2.2.2.2.1.c, .bool x44.2.2.2.2.2.2.2.2.1, .int .i64 x44.2.2.2.2.2.2.2.2.2.1]] w43 [.agg [.int .i64, .int .i64, .int .i64, .int .i64, .int .i64, .int .i64, .sl, .sl, .bool, .int .i64, .int .i64, .int .u64, .bool, .bool, .bool, .bool, .bool, .bool, .bool, .bool, .bool, .bool, .bool, .bool], .one .sl] fun (r45 : (Int × Int × Int × Int × Int × Int × SlV × SlV × Bool × Int × Int × Int × Bool × Bool × Bool × Bool × Bool × Bool × Bool × Bool × Bool × Bool × Bool × Bool × Unit) × SlV × Unit) w46 =>
  NewV #[.int .i64 0, .int .i64 0, .int .i64 0, .int .i64 0, .int .i64 0, .int .i64 0, .slice none 0 0, .slice none 0 0, .bool false, .int .i64 0, .int .i64 0, .int .u64 0, .bool false, .bool false, .bool false, .bool false, .bool false, .bool false, .bool false, .bool false, .bool false, .bool false, .bool false, .bool false] 77 w46 fun b47 w48 =>
  StoreV w48 ⟨b47, 0, none⟩ [.int .i64 r45.1.1, .int .i64 r45.1.2.1, .int .i64 r45.1.2.2.1, .int .i64 r45.1.2.2.2.1, .int .i64 r45.1.2.2.2.2.1, .int .i64 r45.1.2.2.2.2.2.1, .slice r45.1.2.2.2.2.2.2.1.a r45.1.2.2.2.2.2.2.1.n r45.1.2.2.2.2.2.2.1.c, .slice r45.1.2.2.2.2.2.2.2.1.a r45.1.2.2.2.2.2.2.2.1.n r45.1.2.2.2.2.2.2.2.1.c, .bool r45.1.2.2.2.2.2.2.2.2.1, .int .i64 r45.1.2.2.2.2.2.2.2.2.2.1, .int .i64 r45.1.2.2.2.2.2.2.2.2.2.2.1, .int .u64 r45.1.2.2.2.2.2.2.2.2.2.2.2.1, .bool r45.1.2.2.2.2.2.2.2.2.2.2.2.2.1, .bool r45.1.2.2.2.2.2.2.2.2.2.2.2.2.2.1, .bool r45.1.2.2.2.2.2.2.2.2.2.2.2.2.2.2.1, .bool r45.1.2.2.2.2.2.2.2.2.2.2.2.2.2.2.2.1, .bool r45.1.2.2.2.2.2.2.2.2.2.2.2.2.2.2.2.2.1, .bool r45.1.2.2.2.2.2.2.2.2.2.2.2.2.2.2.2.2.2.1, .bool r45.1.2.2.2.2.2.2.2.2.2.2.2.2.2.2.2.2.2.2.1, .bool r45.1.2.2.2.2.2.2.2.2.2.2.2.2.2.2.2.2.2.2.2.1, .bool r45.1.2.2.2.2.2.2.2.2.2.2.2.2.2.2.2.2.2.2.2.2.1, .bool r45.1.2.2.2.2.2.2.2.2.2.2.2.2.2.2.2.2.2.2.2.2.2.1, .bool r45.1.2.2.2.2.2.2.2.2.2.2.2.2.2.2.2.2.2.2.2.2.2.2.1, .bool r45.1.2.2.2.2.2.2.2.2.2.2.2.2.2.2.2.2.2.2.2.2.2.2.2.1] fun w49 =>
  LoadA w49 ⟨b47, 0, none⟩ [.int .i64, .int .i64, .int .i64, .int .i64, .int .i64, .int .i64, .sl, .sl, .bool, .int .i64, .int .i64, .int .u64, .bool, .bool, .bool, .bool, .bool, .bool, .bool, .bool, .bool, .bool, .bool, .bool] fun (x50 : Int × Int × Int × Int × Int × Int × SlV × SlV × Bool × Int × Int × Int × Bool × Bool × Bool × Bool × Bool × Bool × Bool × Bool × Bool × Bool × Bool × Bool × Unit) =>
  StoreV w49 ⟨b20, 0, none⟩ [.int .i64 x50.1, .int .i64 x50.2.1, .int .i64 x50.2.2.1, .int .i64 x50.2.2.2.1, .int .i64 x50.2.2.2.2.1, .int .i64 x50.2.2.2.2.2.1, .slice x50.2.2.2.2.2.2.1.a x50.2.2.2.2.2.2.1.n x50.2.2.2.2.2.2.1.c, .slice x50.2.2.2.2.2.2.2.1.a x50.2.2.2.2.2.2.2.1.n x50.2.2.2.2.2.2.2.1.c, .bool x50.2.2.2.2.2.2.2.2.1, .int .i64 x50.2.2.2.2.2.2.2.2.2.1, .int .i64 x50.2.2.2.2.2.2.2.2.2.2.1, .int .u64 x50.2.2.2.2.2.2.2.2.2.2.2.1, .bool x50.2.2.2.2.2.2.2.2.2.2.2.2.1, .bool x50.2.2.2.2.2.2.2.2.2.2.2.2.2.1, .bool x50.2.2.2.2.2.2.2.2.2.2.2.2.2.2.1, .bool x50.2.2.2.2.2.2.2.2.2.2.2.2.2.2.2.1, .bool x50.2.2.2.2.2.2.2.2.2.2.2.2.2.2.2.2.1, .bool x50.2.2.2.2.2.2.2.2.2.2.2.2.2.2.2.2.2.1, .bool x50.2.2.2.2.2.2.2.2.2.2.2.2.2.2.2.2.2.2.1, .bool x50.2.2.2.2.2.2.2.2.2.2.2.2.2.2.2.2.2.2.2.1, .bool x50.2.2.2.2.2.2.2.2.2.2.2.2.2.2.2.2.2.2.2.2.1, .bool x50.2.2.2.2.2.2.2.2.2.2.2.2.2.2.2.2.2.2.2.2.2.1, .bool x50.2.2.2.2.2.2.2.2.2.2.2.2.2.2.2.2.2.2.2.2.2.2.1, .bool x50.2.2.2.2.2.2.2.2.2.2.2.2.2.2.2.2.2.2.2.2.2.2.2.1] fun w51 =>
  CallV Tryz.prog 20 #[.pointer r10.1] w51 [.one .ptr, .one .sl, .one (.int .i64)] fun (r52 : (Option Addr) × SlV × Int × Unit) w53 =>
  LoadS w53 ⟨b47, 10, none⟩ (.int .i64) fun (x54 : Int) =>
  cond (decide (x54 < 0))
  (cond (r39.2.2.1 != 4)
  (K (false, ()) w53)
  (cond (r52.2.2.1 != 10)
  (K (false, ()) w53)
  (CallV Tryz.prog 25 #[.slice r52.2.1.a r52.2.1.n r52.2.1.c, .slice r45.2.1.a r45.2.1.n r45.2.1.c] w53 [.one .bool] fun (r55 : Bool × Unit) w56 =>
  cond (!r55.1)
  (K (false, ()) w56)
  (LoadA w56 ⟨b20, 0, none⟩ [.int .i64, .int .i64, .int .i64, .int .i64, .int .i64, .int .i64, .sl, .sl, .bool, .int .i64, .int .i64, .int .u64, .bool, .bool, .bool, .bool, .bool, .bool, .bool, .bool, .bool, .bool, .bool, .bool] fun (x57 : Int × Int × Int × Int × Int × Int × SlV × SlV × Bool × Int × Int × Int × Bool × Bool × Bool × Bool × Bool × Bool × Bool × Bool × Bool × Bool × Bool × Bool × Unit) =>
  CallV Tryz.prog 23 #[.pointer r52.1, .agg #[.int .i64 x57.1, .int .i64 x57.2.1, .int .i64 x57.2.2.1, .int .i64 x57.2.2.2.1, .int .i64 x57.2.2.2.2.1, .int .i64 x57.2.2.2.2.2.1, .slice x57.2.2.2.2.2.2.1.a x57.2.2.2.2.2.2.1.n x57.2.2.2.2.2.2.1.c, .slice x57.2.2.2.2.2.2.2.1.a x57.2.2.2.2.2.2.2.1.n x57.2.2.2.2.2.2.2.1.c, .bool x57.2.2.2.2.2.2.2.2.1, .int .i64 x57.2.2.2.2.2.2.2.2.2.1, .int .i64 x57.2.2.2.2.2.2.2.2.2.2.1, .int .u64 x57.2.2.2.2.2.2.2.2.2.2.2.1, .bool x57.2.2.2.2.2.2.2.2.2.2.2.2.1, .bool x57.2.2.2.2.2.2.2.2.2.2.2.2.2.1, .bool x57.2.2.2.2.2.2.2.2.2.2.2.2.2.2.1, .bool x57.2.2.2.2.2.2.2.2.2.2.2.2.2.2.2.1, .bool x57.2.2.2.2.2.2.2.2.2.2.2.2.2.2.2.2.1, .bool x57.2.2.2.2.2.2.2.2.2.2.2.2.2.2.2.2.2.1, .bool x57.2.2.2.2.2.2.2.2.2.2.2.2.2.2.2.2.2.2.1, .bool x57.2.2.2.2.2.2.2.2.2.2.2.2.2.2.2.2.2.2.2.1, .bool x57.2.2.2.2.2.2.2.2.2.2.2.2.2.2.2.2.2.2.2.2.1, .bool x57.2.2.2.2.2.2.2.2.2.2.2.2.2.2.2.2.2.2.2.2.2.1, .bool x57.2.2.2.2.2.2.2.2.2.2.2.2.2.2.2.2.2.2.2.2.2.2.1, .bool x57.2.2.2.2.2.2.2.2.2.2.2.2.2.2.2.2.2.2.2.2.2.2.2.1]] w56 [.one .bool] fun (r58 : Bool × Unit) w59 =>
  cond (!r58.1)
  (K (false, ()) w59)
  (Rng .i64 (z26.2.1 + 1) ∧
  K28 (r52.1, z26.2.1 + 1, ()) w59)))))
  (cond (r39.2.2.1 != 4)
  (K (false, ()) w53)
  (cond (r52.2.2.1 != 0)
  (K (false, ()) w53)
  (CallV Tryz.prog 25 #[.slice r52.2.1.a r52.2.1.n r52.2.1.c, .slice r45.2.1.a r45.2.1.n r45.2.1.c] w53 [.one .bool] fun (r60 : Bool × Unit) w61 =>
  cond (!r60.1)
  (K (false, ()) w61)
  (LoadA w61 ⟨b20, 0, none⟩ [.int .i64, .int .i64, .int .i64, .int .i64, .int .i64, .int .i64, .sl, .sl, .bool, .int .i64, .int .i64, .int .u64, .bool, .bool, .bool, .bool, .bool, .bool, .bool, .bool, .bool, .bool, .bool, .bool] fun (x62 : Int × Int × Int × Int × Int × Int × SlV × SlV × Bool × Int × Int × Int × Bool × Bool × Bool × Bool × Bool × Bool × Bool × Bool × Bool × Bool × Bool × Bool × Unit) =>
  CallV Tryz.prog 23 #[.pointer r52.1, .agg #[.int .i64 x62.1, .int .i64 x62.2.1, .int .i64 x62.2.2.1, .int .i64 x62.2.2.2.1, .int .i64 x62.2.2.2.2.1, .int .i64 x62.2.2.2.2.2.1, .slice x62.2.2.2.2.2.2.1.a x62.2.2.2.2.2.2.1.n x62.2.2.2.2.2.2.1.c, .slice x62.2.2.2.2.2.2.2.1.a x62.2.2.2.2.2.2.2.1.n x62.2.2.2.2.2.2.2.1.c, .bool x62.2.2.2.2.2.2.2.2.1, .int .i64 x62.2.2.2.2.2.2.2.2.2.1, .int .i64 x62.2.2.2.2.2.2.2.2.2.2.1, .int .u64 x62.2.2.2.2.2.2.2.2.2.2.2.1, .bool x62.2.2.2.2.2.2.2.2.2.2.2.2.1, .bool x62.2.2.2.2.2.2.2.2.2.2.2.2.2.1, .bool x62.2.2.2.2.2.2.2.2.2.2.2.2.2.2.1, .bool x62.2.2.2.2.2.2.2.2.2.2.2.2.2.2.2.1, .bool x62.2.2.2.2.2.2.2.2.2.2.2.2.2.2.2.2.1, .bool x62.2.2.2.2.2.2.2.2.2.2.2.2.2.2.2.2.2.1, .bool x62.2.2.2.2.2.2.2.2.2.2.2.2.2.2.2.2.2.2.1, .bool x62.2.2.2.2.2.2.2.2.2.2.2.2.2.2.2.2.2.2.2.1, .bool x62.2.2.2.2.2.2.2.2.2.2.2.2.2.2.2.2.2.2.2.2.1, .bool x62.2.2.2.2.2.2.2.2.2.2.2.2.2.2.2.2.2.2.2.2.2.1, .bool x62.2.2.2.2.2.2.2.2.2.2.2.2.2.2.2.2.2.2.2.2.2.2.1, .bool x62.2.2.2.2.2.2.2.2.2.2.2.2.2.2.2.2.2.2.2.2.2.2.2.1]] w61 [.one .bool] fun (r63 : Bool × Unit) w64 =>
  cond (!r63.1)
  (K (false, ()) w64)
  (Rng .i64 (z26.2.1 + 1) ∧
  K28 (r52.1, z26.2.1 + 1, ()) w64))))))
  (JoinV [.one .ptr, .one (.int .i64)] (fun (v66 : (Option Addr) × Int × Unit) w67 =>
  PtrK v66.1 fun q68 =>
  LoadA w67 q68 [.int .i64, .int .i64, .int .i64, .int .i64, .int .i64, .int .i64, .sl, .sl, .bool, .int .i64, .int .i64, .int .u64, .bool, .bool, .bool, .bool, .bool, .bool, .bool, .bool, .bool, .bool, .bool, .bool] fun (x69 : Int × Int × Int × Int × Int × Int × SlV × SlV × Bool × Int × Int × Int × Bool × Bool × Bool × Bool × Bool × Bool × Bool × Bool × Bool × Bool × Bool × Bool × Unit) =>
  StoreV w67 ⟨b20, 0, none⟩ [.int .i64 x69.1, .int .i64 x69.2.1, .int .i64 x69.2.2.1, .int .i64 x69.2.2.2.1, .int .i64 x69.2.2.2.2.1, .int .i64 x69.2.2.2.2.2.1, .slice x69.2.2.2.2.2.2.1.a x69.2.2.2.2.2.2.1.n x69.2.2.2.2.2.2.1.c, .slice x69.2.2.2.2.2.2.2.1.a x69.2.2.2.2.2.2.2.1.n x69.2.2.2.2.2.2.2.1.c, .bool x69.2.2.2.2.2.2.2.2.1, .int .i64 x69.2.2.2.2.2.2.2.2.2.1, .int .i64 x69.2.2.2.2.2.2.2.2.2.2.1, .int .u64 x69.2.2.2.2.2.2.2.2.2.2.2.1, .bool x69.2.2.2.2.2.2.2.2.2.2.2.2.1, .bool x69.2.2.2.2.2.2.2.2.2.2.2.2.2.1, .bool x69.2.2.2.2.2.2.2.2.2.2.2.2.2.2.1, .bool x69.2.2.2.2.2.2.2.2.2.2.2.2.2.2.2.1, .bool x69.2.2.2.2.2.2.2.2.2.2.2.2.2.2.2.2.1, .bool x69.2.2.2.2.2.2.2.2.2.2.2.2.2.2.2.2.2.1, .bool x69.2.2.2.2.2.2.2.2.2.2.2.2.2.2.2.2.2.2.1, .bool x69.2.2.2.2.2.2.2.2.2.2.2.2.2.2.2.2.2.2.2.1, .bool x69.2.2.2.2.2.2.2.2.2.2.2.2.2.2.2.2.2.2.2.2.1, .bool x69.2.2.2.2.2.2.2.2.2.2.2.2.2.2.2.2.2.2.2.2.2.1, .bool x69.2.2.2.2.2.2.2.2.2.2.2.2.2.2.2.2.2.2.2.2.2.2.1, .bool x69.2.2.2.2.2.2.2.2.2.2.2.2.2.2.2.2.2.2.2.2.2.2.2.1] fun w70 =>
  DrawV fun D71 =>
  (D71 b33 ∧ LoadS w70.drew ⟨b33, 0, none⟩ (.int .u8) fun (x72 : Int) =>
  (D71 b33 ∧ LoadS w70.drew ⟨b33, 1, none⟩ (.int .u64) fun (x73 : Int) =>
  CallV Tryz.prog 27 #[.int .u8 x72] w70.drew [.one .sl] fun (r74 : SlV × Unit) w75 =>
  KeepOn D71 w70.drew w75 ∧
  CallV Tryz.prog 28 #[.pointer z26.1, .slice r74.1.a r74.1.n r74.1.c, .int .u64 x73] w75 [.one (.int .i64)] fun (r76 : Int × Unit) w77 =>
  KeepOn D71 w70.drew w77 ∧
  cond (r76.1 != v66.2.1)
  (K (false, ()) w77)
  (cond (v66.2.1 != 4)
  ((D71 b20 ∧ LoadA w70.drew ⟨b20, 0, none⟩ [.int .i64, .int .i64, .int .i64, .int .i64, .int .i64, .int .i64, .sl, .sl, .bool, .int .i64, .int .i64, .int .u64, .bool, .bool, .bool, .bool, .bool, .bool, .bool, .bool, .bool, .bool, .bool, .bool] fun (x78 : Int × Int × Int × Int × Int × Int × SlV × SlV × Bool × Int × Int × Int × Bool × Bool × Bool × Bool × Bool × Bool × Bool × Bool × Bool × Bool × Bool × Bool × Unit) =>
  CallV Tryz.prog 23 #[.pointer z26.1, .agg #[.int .i64 x78.1, .int .i64 x78.2.1, .int .i64 x78.2.2.1, .int .i64 x78.2.2.2.1, .int .i64 x78.2.2.2.2.1, .int .i64 x78.2.2.2.2.2.1, .slice x78.2.2.2.2.2.2.1.a x78.2.2.2.2.2.2.1.n x78.2.2.2.2.2.2.1.c, .slice x78.2.2.2.2.2.2.2.1.a x78.2.2.2.2.2.2.2.1.n x78.2.2.2.2.2.2.2.1.c, .bool x78.2.2.2.2.2.2.2.2.1, .int .i64 x78.2.2.2.2.2.2.2.2.2.1, .int .i64 x78.2.2.2.2.2.2.2.2.2.2.1, .int .u64 x78.2.2.2.2.2.2.2.2.2.2.2.1, .bool x78.2.2.2.2.2.2.2.2.2.2.2.2.1, .bool x78.2.2.2.2.2.2.2.2.2.2.2.2.2.1, .bool x78.2.2.2.2.2.2.2.2.2.2.2.2.2.2.1, .bool x78.2.2.2.2.2.2.2.2.2.2.2.2.2.2.2.1, .bool x78.2.2.2.2.2.2.2.2.2.2.2.2.2.2.2.2.1, .bool x78.2.2.2.2.2.2.2.2.2.2.2.2.2.2.2.2.2.1, .bool x78.2.2.2.2.2.2.2.2.2.2.2.2.2.2.2.2.2.2.1, .bool x78.2.2.2.2.2.2.2.2.2.2.2.2.2.2.2.2.2.2.2.1, .bool x78.2.2.2.2.2.2.2.2.2.2.2.2.2.2.2.2.2.2.2.2.1, .bool x78.2.2.2.2.2.2.2.2.2.2.2.2.2.2.2.2.2.2.2.2.2.1, .bool x78.2.2.2.2.2.2.2.2.2.2.2.2.2.2.2.2.2.2.2.2.2.2.1, .bool x78.2.2.2.2.2.2.2.2.2.2.2.2.2.2.2.2.2.2.2.2.2.2.2.1]] w77 [.one .bool] fun (r79 : Bool × Unit) w80 =>
  KeepOn D71 w70.drew w80 ∧
  cond (!r79.1)
  (K (false, ()) w80)
  (Rng .i64 (z26.2.1 + 1) ∧
  K28 (z26.1, z26.2.1 + 1, ()) w80)))
  (Rng .i64 (z26.2.1 + 1) ∧
  K28 (z26.1, z26.2.1 + 1, ()) w77))))) fun (J65 : (Option Addr) × Int × Unit → World → Prop) =>
  DrawV fun D81 =>
  (D81 b20 ∧ LoadA w35.drew ⟨b20, 0, none⟩ [.int .i64, .int .i64, .int .i64, .int .i64, .int .i64, .int .i64, .sl, .sl, .bool, .int .i64, .int .i64, .int .u64, .bool, .bool, .bool, .bool, .bool, .bool, .bool, .bool, .bool, .bool, .bool, .bool] fun (x82 : Int × Int × Int × Int × Int × Int × SlV × SlV × Bool × Int × Int × Int × Bool × Bool × Bool × Bool × Bool × Bool × Bool × Bool × Bool × Bool × Bool × Bool × Unit) =>
  (D81 b33 ∧ LoadS w35.drew ⟨b33, 0, none⟩ (.int .u8) fun (x83 : Int) =>
  (D81 b33 ∧ LoadS w35.drew ⟨b33, 1, none⟩ (.int .u64) fun (x84 : Int) =>
  ((CallV Tryz.prog 27 #[.int .u8 x83] w35.drew [.one .sl] fun (r85 : SlV × Unit) w86 =>
  KeepOn D81 w35.drew w86 ∧
  ((CallV Tryz.prog 26 #[.agg #[.int .i64 x82.1, .int .i64 x82.2.1, .int .i64 x82.2.2.1, .int .i64 x82.2.2.2.1, .int .i64 x82.2.2.2.2.1, .int .i64 x82.2.2.2.2.2.1, .slice x82.2.2.2.2.2.2.1.a x82.2.2.2.2.2.2.1.n x82.2.2.2.2.2.2.1.c, .slice x82.2.2.2.2.2.2.2.1.a x82.2.2.2.2.2.2.2.1.n x82.2.2.2.2.2.2.2.1.c, .bool x82.2.2.2.2.2.2.2.2.1, .int .i64 x82.2.2.2.2.2.2.2.2.2.1, .int .i64 x82.2.2.2.2.2.2.2.2.2.2.1, .int .u64 x82.2.2.2.2.2.2.2.2.2.2.2.1, .bool x82.2.2.2.2.2.2.2.2.2.2.2.2.1, .bool x82.2.2.2.2.2.2.2.2.2.2.2.2.2.1, .bool x82.2.2.2.2.2.2.2.2.2.2.2.2.2.2.1, .bool x82.2.2.2.2.2.2.2.2.2.2.2.2.2.2.2.1, .bool x82.2.2.2.2.2.2.2.2.2.2.2.2.2.2.2.2.1, .bool x82.2.2.2.2.2.2.2.2.2.2.2.2.2.2.2.2.2.1, .bool x82.2.2.2.2.2.2.2.2.2.2.2.2.2.2.2.2.2.2.1, .bool x82.2.2.2.2.2.2.2.2.2.2.2.2.2.2.2.2.2.2.2.1, .bool x82.2.2.2.2.2.2.2.2.2.2.2.2.2.2.2.2.2.2.2.2.1, .bool x82.2.2.2.2.2.2.2.2.2.2.2.2.2.2.2.2.2.2.2.2.2.1, .bool x82.2.2.2.2.2.2.2.2.2.2.2.2.2.2.2.2.2.2.2.2.2.2.1, .bool x82.2.2.2.2.2.2.2.2.2.2.2.2.2.2.2.2.2.2.2.2.2.2.2.1], .slice r85.1.a r85.1.n r85.1.c, .int .u64 x84] w86 [.agg [.int .i64, .int .i64, .int .i64, .int .i64, .int .i64, .int .i64, .sl, .sl, .bool, .int .i64, .int .i64, .int .u64, .bool, .bool, .bool, .bool, .bool, .bool, .bool, .bool, .bool, .bool, .bool, .bool], .one (.int .i64)] fun (r87 : (Int × Int × Int × Int × Int × Int × SlV × SlV × Bool × Int × Int × Int × Bool × Bool × Bool × Bool × Bool × Bool × Bool × Bool × Bool × Bool × Bool × Bool × Unit) × Int × Unit) w88 =>
  KeepOn D81 w35.drew w88 ∧
  NewV #[.int .i64 0, .int .i64 0, .int .i64 0, .int .i64 0, .int .i64 0, .int .i64 0, .slice none 0 0, .slice none 0 0, .bool false, .int .i64 0, .int .i64 0, .int .u64 0, .bool false, .bool false, .bool false, .bool false, .bool false, .bool false, .bool false, .bool false, .bool false, .bool false, .bool false, .bool false] 77 w88 fun b89 w90 =>
  KeepOn D81 w35.drew w90 ∧
  StoreV w90 ⟨b89, 0, none⟩ [.int .i64 r87.1.1, .int .i64 r87.1.2.1, .int .i64 r87.1.2.2.1, .int .i64 r87.1.2.2.2.1, .int .i64 r87.1.2.2.2.2.1, .int .i64 r87.1.2.2.2.2.2.1, .slice r87.1.2.2.2.2.2.2.1.a r87.1.2.2.2.2.2.2.1.n r87.1.2.2.2.2.2.2.1.c, .slice r87.1.2.2.2.2.2.2.2.1.a r87.1.2.2.2.2.2.2.2.1.n r87.1.2.2.2.2.2.2.2.1.c, .bool r87.1.2.2.2.2.2.2.2.2.1, .int .i64 r87.1.2.2.2.2.2.2.2.2.2.1, .int .i64 r87.1.2.2.2.2.2.2.2.2.2.2.1, .int .u64 r87.1.2.2.2.2.2.2.2.2.2.2.2.1, .bool r87.1.2.2.2.2.2.2.2.2.2.2.2.2.1, .bool r87.1.2.2.2.2.2.2.2.2.2.2.2.2.2.1, .bool r87.1.2.2.2.2.2.2.2.2.2.2.2.2.2.2.1, .bool r87.1.2.2.2.2.2.2.2.2.2.2.2.2.2.2.2.1, .bool r87.1.2.2.2.2.2.2.2.2.2.2.2.2.2.2.2.2.1, .bool r87.1.2.2.2.2.2.2.2.2.2.2.2.2.2.2.2.2.2.1, .bool r87.1.2.2.2.2.2.2.2.2.2.2.2.2.2.2.2.2.2.2.1, .bool r87.1.2.2.2.2.2.2.2.2.2.2.2.2.2.2.2.2.2.2.2.1, .bool r87.1.2.2.2.2.2.2.2.2.2.2.2.2.2.2.2.2.2.2.2.2.1, .bool r87.1.2.2.2.2.2.2.2.2.2.2.2.2.2.2.2.2.2.2.2.2.2.1, .bool r87.1.2.2.2.2.2.2.2.2.2.2.2.2.2.2.2.2.2.2.2.2.2.2.1, .bool r87.1.2.2.2.2.2.2.2.2.2.2.2.2.2.2.2.2.2.2.2.2.2.2.2.1] fun w91 =>
  KeepOn D81 w35.drew w91 ∧
  J65 ((some ⟨b89, 0, none⟩), r87.2.1, ()) w91) ∧
  (NewV #[.int .i64 0, .int .i64 0, .int .i64 0, .int .i64 0, .int .i64 0, .int .i64 0, .slice none 0 0, .slice none 0 0, .bool false, .int .i64 0, .int .i64 0, .int .u64 0, .bool false, .bool false, .bool false, .bool false, .bool false, .bool false, .bool false, .bool false, .bool false, .bool false, .bool false, .bool false] 77 w86 fun b92 w93 =>
  KeepOn D81 w35.drew w93 ∧
  CallV Tryz.prog 26 #[.agg #[.int .i64 x82.1, .int .i64 x82.2.1, .int .i64 x82.2.2.1, .int .i64 x82.2.2.2.1, .int .i64 x82.2.2.2.2.1, .int .i64 x82.2.2.2.2.2.1, .slice x82.2.2.2.2.2.2.1.a x82.2.2.2.2.2.2.1.n x82.2.2.2.2.2.2.1.c, .slice x82.2.2.2.2.2.2.2.1.a x82.2.2.2.2.2.2.2.1.n x82.2.2.2.2.2.2.2.1.c, .bool x82.2.2.2.2.2.2.2.2.1, .int .i64 x82.2.2.2.2.2.2.2.2.2.1, .int .i64 x82.2.2.2.2.2.2.2.2.2.2.1, .int .u64 x82.2.2.2.2.2.2.2.2.2.2.2.1, .bool x82.2.2.2.2.2.2.2.2.2.2.2.2.1, .bool x82.2.2.2.2.2.2.2.2.2.2.2.2.2.1, .bool x82.2.2.2.2.2.2.2.2.2.2.2.2.2.2.1, .bool x82.2.2.2.2.2.2.2.2.2.2.2.2.2.2.2.1, .bool x82.2.2.2.2.2.2.2.2.2.2.2.2.2.2.2.2.1, .bool x82.2.2.2.2.2.2.2.2.2.2.2.2.2.2.2.2.2.1, .bool x82.2.2.2.2.2.2.2.2.2.2.2.2.2.2.2.2.2.2.1, .bool x82.2.2.2.2.2.2.2.2.2.2.2.2.2.2.2.2.2.2.2.1, .bool x82.2.2.2.2.2.2.2.2.2.2.2.2.2.2.2.2.2.2.2.2.1, .bool x82.2.2.2.2.2.2.2.2.2.2.2.2.2.2.2.2.2.2.2.2.2.1, .bool x82.2.2.2.2.2.2.2.2.2.2.2.2.2.2.2.2.2.2.2.2.2.2.1, .bool x82.2.2.2.2.2.2.2.2.2.2.2.2.2.2.2.2.2.2.2.2.2.2.2.1], .slice r85.1.a r85.1.n r85.1.c, .int .u64 x84] w93 [.agg [.int .i64, .int .i64, .int .i64, .int .i64, .int .i64, .int .i64, .sl, .sl, .bool, .int .i64, .int .i64, .int .u64, .bool, .bool, .bool, .bool, .bool, .bool, .bool, .bool, .bool, .bool, .bool, .bool], .one (.int .i64)] fun (r94 : (Int × Int × Int × Int × Int × Int × SlV × SlV × Bool × Int × Int × Int × Bool × Bool × Bool × Bool × Bool × Bool × Bool × Bool × Bool × Bool × Bool × Bool × Unit) × Int × Unit) w95 =>
  KeepOn D81 w35.drew w95 ∧
  StoreV w95 ⟨b92, 0, none⟩ [.int .i64 r94.1.1, .int .i64 r94.1.2.1, .int .i64 r94.1.2.2.1, .int .i64 r94.1.2.2.2.1, .int .i64 r94.1.2.2.2.2.1, .int .i64 r94.1.2.2.2.2.2.1, .slice r94.1.2.2.2.2.2.2.1.a r94.1.2.2.2.2.2.2.1.n r94.1.2.2.2.2.2.2.1.c, .slice r94.1.2.2.2.2.2.2.2.1.a r94.1.2.2.2.2.2.2.2.1.n r94.1.2.2.2.2.2.2.2.1.c, .bool r94.1.2.2.2.2.2.2.2.2.1, .int .i64 r94.1.2.2.2.2.2.2.2.2.2.1, .int .i64 r94.1.2.2.2.2.2.2.2.2.2.2.1, .int .u64 r94.1.2.2.2.2.2.2.2.2.2.2.2.1, .bool r94.1.2.2.2.2.2.2.2.2.2.2.2.2.1, .bool r94.1.2.2.2.2.2.2.2.2.2.2.2.2.2.1, .bool r94.1.2.2.2.2.2.2.2.2.2.2.2.2.2.2.1, .bool r94.1.2.2.2.2.2.2.2.2.2.2.2.2.2.2.2.1, .bool r94.1.2.2.2.2.2.2.2.2.2.2.2.2.2.2.2.2.1, .bool r94.1.2.2.2.2.2.2.2.2.2.2.2.2.2.2.2.2.2.1, .bool r94.1.2.2.2.2.2.2.2.2.2.2.2.2.2.2.2.2.2.2.1, .bool r94.1.2.2.2.2.2.2.2.2.2.2.2.2.2.2.2.2.2.2.2.1, .bool r94.1.2.2.2.2.2.2.2.2.2.2.2.2.2.2.2.2.2.2.2.2.1, .bool r94.1.2.2.2.2.2.2.2.2.2.2.2.2.2.2.2.2.2.2.2.2.2.1, .bool r94.1.2.2.2.2.2.2.2.2.2.2.2.2.2.2.2.2.2.2.2.2.2.2.1, .bool r94.1.2.2.2.2.2.2.2.2.2.2.2.2.2.2.2.2.2.2.2.2.2.2.2.1] fun w96 =>
  KeepOn D81 w35.drew w96 ∧
  J65 ((some ⟨b92, 0, none⟩), r94.2.1, ()) w96))) ∧
  (NewV #[.int .i64 0, .int .i64 0, .int .i64 0, .int .i64 0, .int .i64 0, .int .i64 0, .slice none 0 0, .slice none 0 0, .bool false, .int .i64 0, .int .i64 0, .int .u64 0, .bool false, .bool false, .bool false, .bool false, .bool false, .bool false, .bool false, .bool false, .bool false, .bool false, .bool false, .bool false] 77 w35.drew fun b97 w98 =>
  KeepOn D81 w35.drew w98 ∧
  CallV Tryz.prog 27 #[.int .u8 x83] w98 [.one .sl] fun (r99 : SlV × Unit) w100 =>
  KeepOn D81 w35.drew w100 ∧
  CallV Tryz.prog 26 #[.agg #[.int .i64 x82.1, .int .i64 x82.2.1, .int .i64 x82.2.2.1, .int .i64 x82.2.2.2.1, .int .i64 x82.2.2.2.2.1, .int .i64 x82.2.2.2.2.2.1, .slice x82.2.2.2.2.2.2.1.a x82.2.2.2.2.2.2.1.n x82.2.2.2.2.2.2.1.c, .slice x82.2.2.2.2.2.2.2.1.a x82.2.2.2.2.2.2.2.1.n x82.2.2.2.2.2.2.2.1.c, .bool x82.2.2.2.2.2.2.2.2.1, .int .i64 x82.2.2.2.2.2.2.2.2.2.1, .int .i64 x82.2.2.2.2.2.2.2.2.2.2.1, .int .u64 x82.2.2.2.2.2.2.2.2.2.2.2.1, .bool x82.2.2.2.2.2.2.2.2.2.2.2.2.1, .bool x82.2.2.2.2.2.2.2.2.2.2.2.2.2.1, .bool x82.2.2.2.2.2.2.2.2.2.2.2.2.2.2.1, .bool x82.2.2.2.2.2.2.2.2.2.2.2.2.2.2.2.1, .bool x82.2.2.2.2.2.2.2.2.2.2.2.2.2.2.2.2.1, .bool x82.2.2.2.2.2.2.2.2.2.2.2.2.2.2.2.2.2.1, .bool x82.2.2.2.2.2.2.2.2.2.2.2.2.2.2.2.2.2.2.1, .bool x82.2.2.2.2.2.2.2.2.2.2.2.2.2.2.2.2.2.2.2.1, .bool x82.2.2.2.2.2.2.2.2.2.2.2.2.2.2.2.2.2.2.2.2.1, .bool x82.2.2.2.2.2.2.2.2.2.2.2.2.2.2.2.2.2.2.2.2.2.1, .bool x82.2.2.2.2.2.2.2.2.2.2.2.2.2.2.2.2.2.2.2.2.2.2.1, .bool x82.2.2.2.2.2.2.2.2.2.2.2.2.2.2.2.2.2.2.2.2.2.2.2.1], .slice r99.1.a r99.1.n r99.1.c, .int .u64 x84] w100 [.agg [.int .i64, .int .i64, .int .i64, .int .i64, .int .i64, .int .i64, .sl, .sl, .bool, .int .i64, .int .i64, .int .u64, .bool, .bool, .bool, .bool, .bool, .bool, .bool, .bool, .bool, .bool, .bool, .bool], .one (.int .i64)] fun (r101 : (Int × Int × Int × Int × Int × Int × SlV × SlV × Bool × Int × Int × Int × Bool × Bool × Bool × Bool × Bool × Bool × Bool × Bool × Bool × Bool × Bool × Bool × Unit) × Int × Unit) w102 =>
  KeepOn D81 w35.drew w102 ∧
  StoreV w102 ⟨b97, 0, none⟩ [.int .i64 r101.1.1, .int .i64 r101.1.2.1, .int .i64 r101.1.2.2.1, .int .i64 r101.1.2.2.2.1, .int .i64 r101.1.2.2.2.2.1, .int .i64 r101.1.2.2.2.2.2.1, .slice r101.1.2.2.2.2.2.2.1.a r101.1.2.2.2.2.2.2.1.n r101.1.2.2.2.2.2.2.1.c, .slice r101.1.2.2.2.2.2.2.2.1.a r101.1.2.2.2.2.2.2.2.1.n r101.1.2.2.2.2.2.2.2.1.c, .bool r101.1.2.2.2.2.2.2.2.2.1, .int .i64 r101.1.2.2.2.2.2.2.2.2.2.1, .int .i64 r101.1.2.2.2.2.2.2.2.2.2.2.1, .int .u64 r101.1.2.2.2.2.2.2.2.2.2.2.2.1, .bool r101.1.2.2.2.2.2.2.2.2.2.2.2.2.1, .bool r101.1.2.2.2.2.2.2.2.2.2.2.2.2.2.1, .bool r101.1.2.2.2.2.2.2.2.2.2.2.2.2.2.2.1, .bool r101.1.2.2.2.2.2.2.2.2.2.2.2.2.2.2.2.1, .bool r101.1.2.2.2.2.2.2.2.2.2.2.2.2.2.2.2.2.1, .bool r101.1.2.2.2.2.2.2.2.2.2.2.2.2.2.2.2.2.2.1, .bool r101.1.2.2.2.2.2.2.2.2.2.2.2.2.2.2.2.2.2.2.1, .bool r101.1.2.2.2.2.2.2.2.2.2.2.2.2.2.2.2.2.2.2.2.1, .bool r101.1.2.2.2.2.2.2.2.2.2.2.2.2.2.2.2.2.2.2.2.2.1, .bool r101.1.2.2.2.2.2.2.2.2.2.2.2.2.2.2.2.2.2.2.2.2.2.1, .bool r101.1.2.2.2.2.2.2.2.2.2.2.2.2.2.2.2.2.2.2.2.2.2.2.1, .bool r101.1.2.2.2.2.2.2.2.2.2.2.2.2.2.2.2.2.2.2.2.2.2.2.2.1] fun w103 =>
  KeepOn D81 w35.drew w103 ∧
  J65 ((some ⟨b97, 0, none⟩), r101.2.1, ()) w103)))))))
  (DrawV fun D104 =>
  (D104 b20 ∧ LoadA w27.drew ⟨b20, 0, none⟩ [.int .i64, .int .i64, .int .i64, .int .i64, .int .i64, .int .i64, .sl, .sl, .bool, .int .i64] fun (x105 : Int × Int × Int × Int × Int × Int × SlV × SlV × Bool × Int × Unit) =>
  CallV Tryz.prog 11 #[.pointer r10.1] w27.drew [.one .sl] fun (r106 : SlV × Unit) w107 =>
  KeepOn D104 w27.drew w107 ∧
  CallV Tryz.prog 29 #[.agg #[.int .i64 x105.1, .int .i64 x105.2.1, .int .i64 x105.2.2.1, .int .i64 x105.2.2.2.1, .int .i64 x105.2.2.2.2.1, .int .i64 x105.2.2.2.2.2.1, .slice x105.2.2.2.2.2.2.1.a x105.2.2.2.2.2.2.1.n x105.2.2.2.2.2.2.1.c, .slice x105.2.2.2.2.2.2.2.1.a x105.2.2.2.2.2.2.2.1.n x105.2.2.2.2.2.2.2.1.c, .bool x105.2.2.2.2.2.2.2.2.1, .int .i64 x105.2.2.2.2.2.2.2.2.2.1]] w107 [.one .sl] fun (r108 : SlV × Unit) w109 =>
  KeepOn D104 w27.drew w109 ∧
  CallV Tryz.prog 25 #[.slice r106.1.a r106.1.n r106.1.c, .slice r108.1.a r108.1.n r108.1.c] w109 [.one .bool] fun (r110 : Bool × Unit) w111 =>
  KeepOn D104 w27.drew w111 ∧
  cond r110.1
  (CallV Tryz.prog 18 #[] w111 [.one .bool] fun (r112 : Bool × Unit) w113 =>
  KeepOn D104 w27.drew w113 ∧
  K (r112.1, ()) w113)
  (K (false, ()) w111)))))))
theorem law20_KeyboxRuns.vc (p0_0 p0_1 p0_2 p0_3 p0_4 p0_5 : Int) (a0_6 : Option Addr) (n0_6 c0_6 : Nat) (a0_7 : Option Addr) (n0_7 c0_7 : Nat) (w : World) (K : Bool × Unit → World → Prop) (h : law20_KeyboxRuns.P p0_0 p0_1 p0_2 p0_3 p0_4 p0_5 a0_6 n0_6 c0_6 a0_7 n0_7 c0_7 w K) : CallV Tryz.prog 5 #[.agg #[.int .i64 p0_0, .int .i64 p0_1, .int .i64 p0_2, .int .i64 p0_3, .int .i64 p0_4, .int .i64 p0_5, .slice a0_6 n0_6 c0_6, .slice a0_7 n0_7 c0_7]] w [.one .bool] K := by
  refine vcFun.of (A := law20_KeyboxRuns.A) (wr := false) okf_ok follows h Tryz.func5 ?_
  kernel_rfl
end Go.Proofs.YtlpeoaphdmfjdaaGreat.Vc
/-! Layer 20 (keybox): KeyboxRuns. -/
namespace Go.Proofs.YtlpeoaphdmfjdaaGreat.Vc
open Go Go.Eng Go.RowKit
abbrev TSt20r : Ty := .cons (.int .u8) (.cons (.int .u64) (.cons .bool .nil))
abbrev LS20r : Ty := .sl TSt20r
abbrev csA (b1 : Nat) (g : Geo) (f : SlP TF.T) (s : SlP TSt20r.T) : Asr := BoxA b1 68 (casV24 g f ⟨s.a, s.n, s.c⟩)
theorem COk.offr {C : CD} (h : COk C) (b : Bool) : COk { C with off := b } := ⟨h.g, h.lg, h.bl, h.bo, h.pm, h.ops⟩
theorem ot_pl : ∀ (n : Nat) (B : KB), (otK n B).1.C.pl = B.C.pl
  | 0, B => rfl
  | n + 1, B => by
    unfold otK
    split
    · exact ot_pl n B
    split
    · exact ds_pl B _
    · exact (ot_pl n _).trans (ds_pl B _)
theorem ty_pl2 (B : KB) (k : Int) (l : List (List Int)) : (tyK B k l).1.C.pl = B.C.pl := by
  have t2 : ∀ B : KB, (ty2K B k l).1.C.pl = B.C.pl := fun B => by
    unfold ty2K
    split
    · exact (wrK_same B.C k l).pl
    · exact (ds_pl _ k).trans (wrK_same B.C k l).pl
  unfold tyK
  split
  · exact t2 B
  split
  · exact (t2 _).trans (ds_pl B k)
  · exact ds_pl B k
theorem cm_pl (l : List (List Int)) (gen : Int) : ∀ (n : Nat) (B : KB), (cmK l gen n B).1.C.pl = B.C.pl
  | 0, B => rfl
  | n + 1, B => by
    unfold cmK
    split
    · exact cm_pl l gen n B
    split
    · exact (ot_pl 4 _).trans (ty_pl2 B _ l)
    split
    · exact ty_pl2 B _ l
    · exact (cm_pl l gen n _).trans (ty_pl2 B _ l)
theorem co_pl (B : KB) (rec : List Int) (gen : Int) : (coK B rec gen).1.C.pl = B.C.pl := by
  unfold coK
  split
  · rfl
  split
  · exact cm_pl _ gen 4 B
  · rfl
theorem KeyboxRuns_law {w : World} {g : Geo} {f : SlP TF.T} {s : SlP TSt20r.T} (hf0 : LF.rd w All f) (hm : mFit (fds f)) (hs : LS20r.rd w All s) :
    CallV Tryz.prog 5 #[.agg (casV24 g f ⟨s.a, s.n, s.c⟩).toArray] w [.one .bool] fun r w' => r.1 = true ∧ Ext w w' := by
  apply law20_KeyboxRuns.vc
  unfold law20_KeyboxRuns.P
  have hf : LF.rd w (fun k => ¬ NoB k) f := LF.rd_mono (fun _ _ _ x => x) hf0
  have S := Sep.start NoB w
  refine S.newB fun b1 w1 S f1 _ => S.la0 rfl ?_
  refine (light20_c (g := g) (f := f) (s := ⟨s.a, s.n, s.c⟩) (LF_all hf S)).mono ?_
  rintro ⟨(r : Bool), ⟨⟩⟩ w4 ⟨h4, x4⟩
  dsimp only at h4 ⊢
  have S := S.stepE x4
  have fin : ∀ {w' : World}, Ext w w' → CallV Tryz.prog 18 #[] w' [.one .bool] fun r w2 => r.1 = true ∧ Ext w w2 := fun x => awake20_c.mono fun r w5 ⟨h5, x5⟩ => ⟨h5, x.trans x5⟩
  refine cond_of (fun hr => fin S.ext) (fun hr => ?_)
  obtain ⟨hR, hFR, g1, g2, g3, hsn⟩ := h4.1 (by cases r; cases hr; rfl)
  have hC0 : COk (newC g (fds f)) := Li20.new hR hFR ⟨g1, g2, g3⟩ hf0
  refine S.lb0 (o := 0) rfl (S.ld0 (j := 6) rfl rfl ?_)
  refine (New13_c (g := g) (x := f) (LF_all hf S) hm).mono ?_
  rintro ⟨pv, (e : Int), ⟨⟩⟩ w5 ⟨x5, -, hgood⟩
  obtain ⟨-, p, y, hp, hyF, S7⟩ := hgood ⟨hR, hFR⟩
  dsimp only at hp
  subst hp
  have S := chipE_in (C := newC g (fds f)) hyF (S.frame0 S7)
  clear S7
  refine (Open20_c hC0 S).mono ?_
  rintro ⟨_, ⟨xa, xn, xc⟩, (e3 : Int), ⟨⟩⟩ w6 ⟨-, hgood⟩
  obtain ⟨h3, kb, hkb, S⟩ := hgood rfl
  dsimp only at h3 hkb S ⊢
  subst hkb
  rw [cur_new hC0] at h3 S
  have h3 : e3 = 10 := h3
  subst h3
  have hxn : xn = 0 := by have := (rdL1 S 2 rfl).len; exact this.symm
  refine S.lb3 (o := 0) rfl (S.ld3 (j := 6) rfl rfl ?_)
  refine (rNew13_c (g := g) (f := f) hR (LF_all hf S)).mono ?_
  rintro ⟨_, ⟨⟩⟩ w7 ⟨Q, hQ, hRf, x7⟩
  dsimp only at hQ
  subst hQ
  have S := S.push (R := kQ Q) (F := fun k => w6.heap.size ≤ k ∧ k < w7.heap.size) (.of x7) ((Ty.sl TBd).rd_mono (fun k h1 h2 => ⟨h1, h2⟩) hRf.rb) fun k hk => hk
  have hdb : Q.l.map bdOf = (newC g (fds f)).bs := hRf.db
  clear hRf
  refine Sep.call [kQ Q] S (fun G SG => rOpen20_c (C := newC g (fds f)) (f := f) hdb hC0 SG) fun G fr r w8 hr => ?_
  obtain ⟨r1, ⟨ua, un, uc⟩, ⟨⟩⟩ := r
  obtain ⟨hr1, SG⟩ := hr
  dsimp only at hr1
  subst hr1
  have S := fr _ _ SG
  clear SG fr
  rw [cur_new hC0] at S
  have hun : un = 0 := by have := (rdL1 S 1 rfl).len; exact this.symm
  subst hxn hun
  have hK0 : KI g (opKB (newC g (fds f))) := opKB_KI hC0
  have hops0 : (opKB (newC g (fds f))).C.ops = 0 := rfl
  have hdf0 : fds f = (opKB (newC g (fds f))).C.pl := rfl
  have hdb0 : Q.l.map bdOf = (opKB (newC g (fds f))).C.bs := hdb
  dsimp only [List.cons_append, List.nil_append] at S
  have S : Sep NoB w w8 [kQ Q, boxK kb p g (opKB (newC g (fds f))), chipE p (opKB (newC g (fds f))).C, csA b1 g f s] := S.sel [0, 1, 1, 2] rfl
  generalize opKB (newC g (fds f)) = B0 at S hK0 hops0 hdf0 hdb0 ⊢
  refine S.newB fun b20 w9 S f9 _ => S.st0 (by rfl) fun w10 S f10 => ?_
  have S : Sep NoB w w10 [boxR b20 Q f B0, kQ Q, boxK kb p g B0, chipE p B0.C, csA b1 g f s] := S
  refine cond_f rfl ⟨Rng.i64 (by dsimp only; omega) (by dsimp only; omega), cond_f rfl (S.la0 rfl ?_)⟩
  refine (same20_c (Q := Q) (f := f) hK0 (S.fro [2] rfl)).mono ?_
  rintro ⟨(r : Bool), ⟨⟩⟩ w11 ⟨h11, x11⟩
  dsimp only at h11 ⊢
  subst h11
  have S := S.stepE x11
  refine cond_f rfl ?_
  refine Loop1 (fun (v : (Option Addr) × Int × Unit) w' => ∃ (i kb : Nat) (B : KB) (Q : SlP TBd.T), v.1 = some (⟨kb, 0, none⟩ : Addr) ∧ v.2.1 = (i : Int) ∧ i ≤ 8 ∧ KI g B ∧ B.C.ops ≤ 200 * i ∧ Q.l.map bdOf = B.C.bs ∧ fds f = B.C.pl ∧ Sep NoB w w' [boxR b20 Q f B, kQ Q, boxK kb p g B, chipE p B.C, csA b1 g f s])
    (fun (v : (Option Addr) × Int × Unit) _ => ((s.n : Int) - v.2.1).toNat) ⟨0, kb, B0, Q, rfl, rfl, by omega, hK0, by omega, hdb0, hdf0, S⟩ ?_
  clear S hK0 hops0 hdb0 hdf0 hdb hC0
  rintro ⟨_, (iv : Int), ⟨⟩⟩ w12 ⟨i, kb, B, Q, hkb, hi0, hi8, h, hops, hdb, hdf, S⟩
  dsimp only at hkb hi0 ⊢
  subst hkb
  subst hi0
  refine S.ld4 (j := 7) rfl rfl (cond_d (fun hlt => ?_) (fun hge => ?_))
  case refine_2 =>
    refine S.reg fun D hD hkeep Sd T => ⟨hD _ S.bl0, Sd.lb0 (o := 0) rfl ?_⟩
    refine (Image_e h.ok (Sd.fro [3] rfl)).mono ?_
    rintro ⟨⟨ia, iN, ic⟩, ⟨⟩⟩ w13 h13
    dsimp only at h13 ⊢
    have Sd := Sd.stepE h13.ext
    refine ⟨hkeep _ (.of h13.ext), ?_⟩
    obtain ⟨G, hG, -⟩ := Sd.get (i := 1) rfl
    refine (rImage_c (H := G) (C := B.C) ⟨hG, hdb, LF_all hf Sd, hdf⟩ h.ok).mono ?_
    rintro ⟨⟨ja, jN, jc⟩, ⟨⟩⟩ w14 h14
    dsimp only at h14 ⊢
    have x14 := h13.ext.trans h14.ext
    refine ⟨hkeep _ (.of x14), ?_⟩
    refine (SameBytes_c (h13.ints.ext h14.ext) h14.ints).mono ?_
    rintro ⟨(r : Bool), ⟨⟩⟩ w15 ⟨h15, x15⟩
    dsimp only at h15 ⊢
    have x15 := x14.trans x15
    refine ⟨hkeep _ (.of x15), cond_t (by rw [h15]; exact decide_eq_true rfl) ?_⟩
    refine awake20_c.mono ?_
    rintro ⟨(r : Bool), ⟨⟩⟩ w16 ⟨h16, x16⟩
    exact ⟨hkeep _ (.of (x15.trans x16)), h16, (Sep.ext S).trans ((Ext.drew w12).trans (x15.trans x16))⟩
  dsimp only at hlt
  obtain ⟨qa, z, hq, hz, hc, hr, -, -⟩ := Ty.nth hs (i := (i : Int)) (by omega) hlt (by decide)
  obtain ⟨sd, gen, on, ⟨⟩⟩ := z
  have hgen : 0 ≤ gen ∧ gen < 18446744073709551616 := rng_u64 hr.2.1
  refine S.ld4 (j := 7) rfl rfl ⟨⟨by omega, hlt⟩, qa, hq, (sd, gen, on, ()), S.ext.cells hc, ?_⟩
  refine S.newB fun b33 w13 S f13 _ => S.st0 (by rfl) fun w14 S f14 => S.ld0 (j := 2) rfl rfl ?_
  have nxt : ∀ {w' : World} {kb' : Nat} {B' : KB} {Q' : SlP TBd.T}, KI g B' → B'.C.ops ≤ 200 * (i + 1) → Q'.l.map bdOf = B'.C.bs → fds f = B'.C.pl → Sep NoB w w' [boxR b20 Q' f B', kQ Q', boxK kb' p g B', chipE p B'.C, csA b1 g f s] →
      Rng .i64 ((i : Int) + 1) ∧ (∃ (j kb : Nat) (B : KB) (Q : SlP TBd.T), some (⟨kb', 0, none⟩ : Addr) = some (⟨kb, 0, none⟩ : Addr) ∧ (i : Int) + 1 = (j : Int) ∧ j ≤ 8 ∧ KI g B ∧ B.C.ops ≤ 200 * j ∧ Q.l.map bdOf = B.C.bs ∧ fds f = B.C.pl ∧ Sep NoB w w' [boxR b20 Q f B, kQ Q, boxK kb p g B, chipE p B.C, csA b1 g f s]) ∧ ((s.n : Int) - ((i : Int) + 1)).toNat < ((s.n : Int) - (i : Int)).toNat :=
    fun a1 a2 a3 a4 S => ⟨Rng.i64 (by omega) (by omega), ⟨i + 1, _, _, _, rfl, by push_cast; rfl, by omega, a1, a2, a3, a4, S⟩, by omega⟩
  refine cond_of (fun hon => ?_) (fun hon => ?_)
  · -- the power, off and on
    clear hon
    refine (Power_e (on := false) (S.fro [4] rfl)).mono ?_
    rintro ⟨⟩ w15 S
    refine (Open20_c (h.ok.offr _) S).mono ?_
    rintro ⟨_, _, (e1 : Int), ⟨⟩⟩ w16 ⟨hdark, -⟩
    obtain ⟨-, -, he1, S⟩ := hdark rfl
    dsimp only at he1
    subst he1
    refine (Power_e (on := true) S).mono ?_
    rintro ⟨⟩ w17 S
    have S : Sep NoB w w17 [chipE p { B.C with off := false }, BoxA b33 83 [.int .u8 sd, .int .u64 gen, .bool on], boxR b20 Q f B, kQ Q, boxK kb p g B, csA b1 g f s] := S
    have S := S.fro [2, 2, 0, 1] rfl
    refine S.su0 (j := 8) rfl fun w18 S f18 => ?_
    have hCo := h.ok.offr false
    have hgo : ({ B.C with off := false } : CD).g = g := h.gg
    have hoo : ({ B.C with off := false } : CD).ops = B.C.ops := rfl
    have hof : ({ B.C with off := false } : CD).off = false := rfl
    have hdb2 : Q.l.map bdOf = ({ B.C with off := false } : CD).bs := hdb
    have hdf2 : fds f = ({ B.C with off := false } : CD).pl := hdf
    have S : Sep NoB w w18 [boxR b20 Q f { B with C := { B.C with off := false } }, kQ Q, chipE p { B.C with off := false }, boxK kb p g B, BoxA b33 83 [.int .u8 sd, .int .u64 gen, .bool on], csA b1 g f s] := S
    generalize ({ B.C with off := false } : CD) = C2 at S hCo hgo hoo hof hdb2 hdf2
    refine S.lb0 (o := 0) rfl ?_
    refine Sep.call [kQ Q] S.up1 (fun G SG => rOpen20_c (C := C2) (f := f) hdb2 hCo SG) fun G fr r w19 hr => ?_
    obtain ⟨r1, ⟨ua, un, uc⟩, ⟨⟩⟩ := r
    obtain ⟨hr1, SG⟩ := hr
    dsimp only at hr1
    subst hr1
    have S := fr _ _ SG
    clear SG fr
    dsimp only [List.cons_append, List.nil_append] at S
    refine S.newB fun b47 w20 S f20 _ => S.st0 (by rfl) fun w21 S f21 => S.la0 rfl (S.st3 (by rfl) fun w22 S f22 => ?_)
    refine (Open20_c hCo (S.fro [4] rfl)).mono ?_
    rintro ⟨_, ⟨va, vn, vc⟩, (e5 : Int), ⟨⟩⟩ w23 ⟨-, hgood⟩
    obtain ⟨h5, kb2, hkb, S⟩ := hgood hof
    dsimp only at h5 hkb S ⊢
    subst hkb
    rw [hgo] at S
    have hK := opKB_KI hCo
    rw [hgo] at hK
    have hcmp : CallV Tryz.prog 25 #[.slice va vn vc, .slice ua un uc] w23 [.one .bool] fun r w' => r.1 = true ∧ Ext w23 w' := by
      refine (SameBytes_c (rdL1 S 2 rfl) (rdL1 S 5 rfl)).mono ?_
      rintro ⟨(r : Bool), ⟨⟩⟩ w24 ⟨h24, x24⟩
      exact ⟨h24.trans (decide_eq_true rfl), x24⟩
    have S : Sep NoB w w23 [boxR b20 Q f (opKB C2), kQ Q, boxK kb2 p g (opKB C2), chipE p C2, csA b1 g f s, BoxA b47 tB (kV Q f (opKB C2))] := S.sel [6, 4, 0, 0, 5, 1] rfl
    have hxx : (opKB C2).cu = (curK C2).1 := rfl
    refine S.ld5 (j := 10) rfl rfl (cond_d (fun hneg => ?_) (fun hpos => ?_))
    · refine cond_f rfl (cond_f (by rw [h5, if_pos (by rw [← hxx]; exact hneg)]; rfl) (hcmp.mono ?_))
      rintro ⟨(r : Bool), ⟨⟩⟩ w24 ⟨h24, x24⟩
      dsimp only at h24 ⊢
      subst h24
      have S := S.stepE x24
      refine cond_f rfl (S.la0 rfl ?_)
      refine (same20_c (Q := Q) (f := f) hK (S.fro [2] rfl)).mono ?_
      rintro ⟨(r : Bool), ⟨⟩⟩ w25 ⟨h25, x25⟩
      dsimp only at h25 ⊢
      subst h25
      have S := S.stepE x25
      exact cond_f rfl (nxt hK (by show C2.ops ≤ _; omega) hdb2 hdf2 (S.sel [0, 0, 0, 0, 0] rfl))
    · refine cond_f rfl (cond_f (by rw [h5, if_neg (by rw [← hxx]; exact hpos)]; rfl) (hcmp.mono ?_))
      rintro ⟨(r : Bool), ⟨⟩⟩ w24 ⟨h24, x24⟩
      dsimp only at h24 ⊢
      subst h24
      have S := S.stepE x24
      refine cond_f rfl (S.la0 rfl ?_)
      refine (same20_c (Q := Q) (f := f) hK (S.fro [2] rfl)).mono ?_
      rintro ⟨(r : Bool), ⟨⟩⟩ w25 ⟨h25, x25⟩
      dsimp only at h25 ⊢
      subst h25
      have S := S.stepE x25
      exact cond_f rfl (nxt hK (by show C2.ops ≤ _; omega) hdb2 hdf2 (S.sel [0, 0, 0, 0, 0] rfl))
  -- a record
  have hrl := rec20_len 624 sd
  have hrb := rec20_byt 624 sd
  obtain ⟨rec, hrec⟩ : ∃ rec, rec = rec20 624 sd := ⟨_, rfl⟩
  rw [← hrec] at hrl hrb
  have hcall : ∀ {w' : World}, CallV Tryz.prog 27 #[.int .u8 sd] w' [.one .sl] fun r w2 => Res w' w2 r.1 rec := by
    intro w'
    rw [hrec]
    exact record20_c
  clear hrec
  obtain ⟨k1, k2, k3⟩ := h.co (rec := rec) (gen := gen) hrb hgen (by omega)
  have hpl := co_pl B rec gen
  have hN := (nCh_bd hR).1
  have hcom : ∀ {w' : World} {a : Option Addr} {n c : Nat} {G : Nat → Prop} {w2 : World}, Ints w' .u8 a n c rec → Sep G w2 w' [boxK kb p g B, chipE p B.C] → CallV Tryz.prog 28 #[.pointer (some ⟨kb, 0, none⟩), .slice a n c, .int .u64 gen] w' [.one (.int .i64)] fun r w3 => r.1 = (coK B rec gen).2 ∧ Sep G w2 w3 [boxK kb p g (coK B rec gen).1, chipE p (coK B rec gen).1.C] := fun hi T => Commit20_c h hi hrb hgen (by omega) T
  have hrco : ∀ {w' : World} {a : Option Addr} {n c : Nat} (F : Nat → Prop), LF.rd w' (fun k => ¬ F k) f → Sep F w' w' [kQ Q, RdL [⟨a, n, c, rec⟩]] → CallV Tryz.prog 26 #[kVal Q f B, .slice a n c, .int .u64 gen] w' [.agg SH24, .one (.int .i64)] fun r w3 => DsR F w' w3 f [RdL [⟨a, n, c, rec⟩]] (coK B rec gen) r := fun {w' a n c} F hf S => rCo20_c (x := ⟨a, n, c, rec⟩) hdb hdf h hrl hgen (by omega) hf S
  generalize coK B rec gen = Z at *
  obtain ⟨B2, e2⟩ := Z
  dsimp only at k1 k2 k3 hpl hcom
  refine ⟨fun (v : (Option Addr) × Int × Unit) w' => ∃ (b88 : Nat) (Q' : SlP TBd.T), v.1 = some (⟨b88, 0, none⟩ : Addr) ∧ v.2.1 = e2 ∧ Q'.l.map bdOf = B2.C.bs ∧ Sep NoB w w' [BoxA b88 tB (kV Q' f B2), boxR b20 Q f B, BoxA b33 83 [.int .u8 sd, .int .u64 gen, .bool on], kQ Q', boxK kb p g B, chipE p B.C, csA b1 g f s], ?_, ?_⟩
  case refine_1 =>
    rintro ⟨_, (e : Int), ⟨⟩⟩ w15 ⟨b88, Q', hv1, hv2, hdb2, S⟩
    dsimp only at hv1 hv2 ⊢
    subst hv1
    subst hv2
    refine PtrK.of rfl (S.la0 rfl (S.st1 (by rfl) fun w16 S f16 => ?_))
    have S : Sep NoB w w16 ([boxK kb p g B, chipE p B.C] ++ [boxR b20 Q' f B2, BoxA b33 83 [.int .u8 sd, .int .u64 gen, .bool on], kQ Q', csA b1 g f s, BoxA b88 tB (kV Q' f B2)]) := S.fro [4, 4, 1, 1, 1, 1] rfl
    refine Sep.regC [boxK kb p g B, chipE p B.C] S fun G D hG T S hDt hDo hkeep back => ?_
    refine ⟨hDt 1 _ _ _ rfl, S.ld3 (j := 0) rfl rfl ⟨hDt 1 _ _ _ rfl, S.ld3 (j := 1) rfl rfl ?_⟩⟩
    refine hcall.mono ?_
    rintro ⟨⟨ra, rn, rc⟩, ⟨⟩⟩ w17 R
    dsimp only at R ⊢
    have T := T.stepE R.ext
    refine ⟨hkeep _ T.fr, ?_⟩
    refine (hcom R.ints T).mono ?_
    rintro ⟨(e : Int), ⟨⟩⟩ w18 ⟨he, T⟩
    dsimp only at he ⊢
    subst he
    have S2 := back _ _ T
    dsimp only [List.cons_append, List.nil_append] at S2
    refine ⟨hkeep _ T.fr, cond_ne (fun hx => absurd rfl hx) fun _ => cond_ne (fun hne => ?_) (fun heq => ?_)⟩
    · refine ⟨hDt 0 _ _ _ rfl, S.la2 rfl ?_⟩
      refine (same20_c (Q := Q') (f := f) k1 S2).mono ?_
      rintro ⟨(r : Bool), ⟨⟩⟩ w19 ⟨h19, x19⟩
      dsimp only at h19 ⊢
      subst h19
      exact ⟨hkeep _ (T.stepE x19).fr, cond_f rfl (nxt k1 (by omega) hdb2 (hdf.trans hpl.symm) ((S2.stepE x19).sel [2, 3, 0, 0, 1] rfl))⟩
    · exact nxt k1 (by omega) hdb2 (hdf.trans hpl.symm) (S2.sel [2, 3, 0, 0, 1] rfl)
  have S : Sep NoB w w14 ([kQ Q] ++ [BoxA b33 83 [.int .u8 sd, .int .u64 gen, .bool on], boxR b20 Q f B, boxK kb p g B, chipE p B.C, csA b1 g f s]) := S.fro [2] rfl
  refine Sep.regC [kQ Q] S fun G D hG T S hDt hDo hkeep back => ?_
  have hfG : LF.rd w14.drew (fun k => ¬ G k) f := LF_outK hf S hG
  refine ⟨hDt 1 _ _ _ rfl, S.la2 rfl ⟨hDt 0 _ _ _ rfl, S.ld1 (j := 0) rfl rfl ⟨hDt 0 _ _ _ rfl, S.ld1 (j := 1) rfl rfl ?_⟩⟩⟩
  refine ⟨?_, ?_⟩
  · refine hcall.mono ?_
    rintro ⟨⟨ra, rn, rc⟩, ⟨⟩⟩ w15 R
    dsimp only at R ⊢
    have T := (res_rdL T R hrb).up1
    refine ⟨hkeep _ T.fr, ?_, ?_⟩
    · refine kCall (X := (B2, e2)) [RdL [⟨ra, rn, rc, rec⟩]] (Ts := []) T hfG hrco ?_
      intro Q2 w16 hdb2 T
      refine ⟨hkeep _ T.fr, T.newB fun b88 w17 T f17 _ => ⟨hkeep _ T.fr, T.st0 (by rfl) fun w18 T f18 => ⟨hkeep _ T.fr, b88, Q2, rfl, rfl, hdb2, ?_⟩⟩⟩
      exact (back _ _ T).sel [0, 3, 2, 0, 1, 1, 1] rfl
    · refine T.newB fun b88 w17 T f17 _ => ⟨hkeep _ T.fr, ?_⟩
      have T := T.fro [1, 1] rfl
      refine kCall (X := (B2, e2)) [RdL [⟨ra, rn, rc, rec⟩]] (Ts := [_]) T hfG hrco ?_
      intro Q2 w16 hdb2 T
      refine ⟨hkeep _ T.fr, T.st2 (by rfl) fun w18 T f18 => ⟨hkeep _ T.fr, b88, Q2, rfl, rfl, hdb2, ?_⟩⟩
      exact (back _ _ T).sel [2, 3, 2, 0, 1, 1, 1] rfl
  · refine T.newB fun b88 w15 T f15 _ => ⟨hkeep _ T.fr, ?_⟩
    refine hcall.mono ?_
    rintro ⟨⟨ra, rn, rc⟩, ⟨⟩⟩ w16 R
    dsimp only at R ⊢
    have T := (res_rdL T R hrb).fro [2, 0] rfl
    refine ⟨hkeep _ T.fr, ?_⟩
    refine kCall (X := (B2, e2)) [RdL [⟨ra, rn, rc, rec⟩]] (Ts := [_]) T hfG hrco ?_
    intro Q2 w17 hdb2 T
    refine ⟨hkeep _ T.fr, T.st2 (by rfl) fun w18 T f18 => ⟨hkeep _ T.fr, b88, Q2, rfl, rfl, hdb2, ?_⟩⟩
    exact (back _ _ T).sel [2, 3, 2, 0, 1, 1, 1] rfl
abbrev TCs20r : Ty := .cons TGeo (.cons LF (.cons LS20r .nil))
theorem big20r {w : World} {x : TCs20r.T} (g0 : TCs20r.ok w x) (b0 : TCs20r.big x) : mFit (fds x.2.1) := by
  obtain ⟨⟨b, p, s, sp, wr, ro, ⟨⟩⟩, f, l, ⟨⟩⟩ := x
  have hf := LF.rd_of g0.2.1
  intro F hF
  obtain ⟨y, hy, rfl⟩ := List.mem_map.1 hF
  rw [TF_dat]
  have h1 := (b0.2.1.2 y hy).2.2.1.1
  have h2 := (hf.2.2.2.2 y hy).2.2.1.1
  show y.2.2.1.l.length ≤ _
  omega
theorem KeyboxRuns_of {w : World} {x : TCs20r.T} (g0 : TCs20r.ok w x) (b0 : TCs20r.big x) :
    CallV Tryz.prog 5 #[.agg (TCs20r.vs x).toArray] w [.one .bool] fun r w' => r.1 = true ∧ Ext w w' := by
  have hm := big20r g0 b0
  obtain ⟨⟨b, p, s, sp, wr, ro, ⟨⟩⟩, f, l, ⟨⟩⟩ := x
  exact KeyboxRuns_law (g := ⟨b, p, s, sp, wr, ro⟩) (f := f) (s := l) (LF.rd_of g0.2.1) hm (LS20r.rd_of g0.2.2.1)
end Go.Proofs.YtlpeoaphdmfjdaaGreat.Vc
