/- The plan of a whole function's code, and that the machine follows it. -/
import Derived.Test.YtombjhkdakmhpaaEng5
import Derived.Deep.LoopGhost
namespace Go.Eng
open Go
set_option linter.unusedVariables false
set_option linter.unusedSimpArgs false

def isEff : Op → Bool
  | .alloc _ => true
  | .box _ _ => true
  | .buildSlice _ _ _ => true
  | .store _ _ _ => true
  | .makeSlice _ _ _ => true
  | .call ⟨.value _, _, _⟩ => true
  | .call ⟨.builtin .append, _, _⟩ => true
  | .call ⟨.builtin .copy, _, _⟩ => true
  | .call ⟨.builtin .clear, _, _⟩ => true
  | _ => false

def opK (P : Program) (ok : FuncId → Bool) (wr : Bool) (n : Nat) (o : Oper) (f : PF) (w : World) (K : PF → World → Prop) : Prop :=
  cond (isEff o.op) (eOp P ok o.op o.type f w fun v w' => setK n f o.dst v fun f' => K f' w') (rOp P wr o.op f Grd.no w fun v => setK n f o.dst v fun f' => K f' w)

abbrev OkCalls (P : Program) (ok : FuncId → Bool) : Prop := ∀ g, ok g = true → ∀ args w, (callFunc g args).run P w = .ok (.enter g args) w

theorem opK.sound {P : Program} {ok : FuncId → Bool} (hok : OkCalls P ok) {wr : Bool} {n : Nat} {o : Oper} {f : PF} {a : Act} (hf : Fits n f a) {w : World} {K : PF → World → Prop} {Q : Exit → Act → World → Prop} (h : opK P ok wr n o f w K) :
    o.wp P a w (fun a' w' => ∃ f' v, Fits n f' a' ∧ K f' w' ∧ a' = a.put o.dst v) Q := by
  unfold opK at h
  cases he : isEff o.op
  · rw [he] at h
    obtain ⟨v, hv, hr⟩ := rOp.sound hf h (S := fun w' => w' = w) ⟨w, rfl⟩ (fun w' e => by subst e; exact Grd.Ok.no _)
    obtain ⟨f', hf', hk⟩ := setK.out hf hv
    exact upon_ok (hr w rfl) ⟨f', v, hf', hk, rfl⟩
  · rw [he] at h
    simp only [cond_true] at h
    refine eOp.sound hok hf (V := fun v w' => setK n f o.dst v fun f' => K f' w') (fun v w' hv => ?_) h
    obtain ⟨f', hf', hk⟩ := setK.out hf hv
    exact ⟨f', v, hf', hk, rfl⟩

/-! ### Guards -/
theorem Fits.over {n : Nat} {f : PF} {a : Act} (h : Fits n f a) {t : Nat} {v : Value} (ht : a.tmps[t]? = some v) : Fits n (f.put t v) a := by
  refine ⟨h.size, h.defers, fun i u hu => ?_⟩
  unfold PF.put at hu
  cases hb : Nat.beq i t
  · rw [hb] at hu; exact h.get i u hu
  · rw [hb] at hu
    simp only [cond_true, Option.some.injEq] at hu
    rw [Nat.eq_of_beq_eq_true hb, ← hu]
    exact ht

def gK (ops : List Oper) (g : Option (Nat × Bool)) (f : PF) (K : Bool → PF → Prop) : Prop :=
  match g with
  | none => K true f
  | some (j, want) =>
    match (ops[j]?).bind (·.dst) with
    | none => K false f
    | some t =>
      match f t with
      | some (.bool b) => cond b (K want (f.put t (.bool true))) (K (!want) (f.put t (.bool false)))
      | some (.tuple _) => K false f
      | _ => False

theorem gK.sound {ops : Array Oper} {o : Oper} {n : Nat} {f : PF} {a : Act} (hf : Fits n f a) {K : Bool → PF → Prop} (h : gK ops.toList o.guard f K) :
    ∃ r f', Fits n f' a ∧ K r f' ∧ Region.wanted o (yielded ops a.tmps) = r := by
  unfold gK at h
  split at h
  · rename_i hg
    exact ⟨true, f, hf, h, by simp [Region.wanted, hg]⟩
  · rename_i j want hg
    have hy : yielded ops a.tmps j = match ((ops.toList[j]?).bind (·.dst)).bind (a.tmps[·]?) with | some (.bool b) => some b | _ => none := by
      unfold yielded; rw [← Array.getElem?_toList]; rfl
    split at h
    · rename_i hd
      refine ⟨false, f, hf, h, ?_⟩
      simp only [Region.wanted, hg, hy, hd, Option.bind_none]
      rfl
    · rename_i t hd
      split at h
      · rename_i b hb
        have ht := hf.get _ _ hb
        have hr : Region.wanted o (yielded ops a.tmps) = (some b == some want) := by
          simp only [Region.wanted, hg, hy, hd, Option.bind_some, ht]
        cases b
        · exact ⟨_, _, hf.over ht, h, by rw [hr]; cases want <;> rfl⟩
        · exact ⟨_, _, hf.over ht, h, by rw [hr]; cases want <;> rfl⟩
      · rename_i vs hb
        have ht := hf.get _ _ hb
        refine ⟨false, f, hf, h, ?_⟩
        simp only [Region.wanted, hg, hy, hd, Option.bind_some, ht]
        rfl
      · exact h.elim

/-! ### What is not written stays -/
def Same (ws : Nat → Bool) (a0 a : Act) : Prop := ∀ i, ws i = false → a.tmps[i]? = a0.tmps[i]?
theorem Same.refl (ws : Nat → Bool) (a : Act) : Same ws a a := fun _ _ => rfl
def dstIn (ws : Nat → Bool) (d : Option Nat) : Bool := match d with | some d => ws d | none => true
theorem Same.put {ws : Nat → Bool} {a0 a : Act} (h : Same ws a0 a) {d : Option Nat} (hd : dstIn ws d = true) (v : Value) : Same ws a0 (a.put d v) := by
  cases d with
  | none => exact h
  | some d =>
    intro i hi
    simp only [Act.put]
    rw [Array.getElem?_setIfInBounds, if_neg (fun e => by subst e; simp only [dstIn] at hd; rw [hd] at hi; cases hi)]
    exact h i hi

/-! ### Operations in the text's order -/
def vcOps (P : Program) (ok : FuncId → Bool) (wr : Bool) (n : Nat) (ops : List Oper) (K : PF → World → Prop) : List Oper → PF → World → Prop
  | [], f, w => K f w
  | o :: rest, f, w => gK ops o.guard f fun r f' =>
      cond r (opK P ok wr n o f' w fun f'' w' => vcOps P ok wr n ops K rest f'' w') (setK n f' o.dst undef fun f'' => vcOps P ok wr n ops K rest f'' w)

theorem vcOps.sound {P : Program} {ok : FuncId → Bool} (hok : OkCalls P ok) {wr : Bool} {n : Nat} {ops : Array Oper} {K : PF → World → Prop} {Q : Exit → Act → World → Prop} {ws : Nat → Bool} {a0 : Act}
    (hQ : ∀ f' a' w', Fits n f' a' → K f' w' → Same ws a0 a' → Q .normal a' w') :
    ∀ (l : List Oper), (l.all fun o => dstIn ws o.dst) = true → ∀ {f : PF} {a : Act} {w : World}, Fits n f a → Same ws a0 a → vcOps P ok wr n ops.toList K l f w → wpList P ops Q l a w
  | [], _, f, a, w, hf, hs, h => hQ _ _ _ hf h hs
  | o :: rest, hw, f, a, w, hf, hs, h => by
    simp only [List.all_cons, Bool.and_eq_true] at hw
    simp only [vcOps] at h
    obtain ⟨r, f1, hf1, h1, hr⟩ := gK.sound hf h
    unfold wpList
    rw [hr]
    cases r
    · simp only [cond_false, Bool.false_eq_true, if_false] at h1 ⊢
      obtain ⟨f2, hf2, h2⟩ := setK.out hf1 h1
      exact vcOps.sound hok hQ rest hw.2 hf2 (hs.put hw.1 _) h2
    · simp only [cond_true, if_true] at h1 ⊢
      refine .inl (Oper.wp_mono ?_ (opK.sound hok hf1 h1))
      rintro a' w' ⟨f2, v, hf2, h2, rfl⟩
      exact vcOps.sound hok hQ rest hw.2 hf2 (hs.put hw.1 _) h2

/-! ### Operations in an open order -/
def KeepOn (D : Nat → Prop) (w w' : World) : Prop := ∀ k, D k → w'.heap[k]? = w.heap[k]?

inductive Plan where
  | done
  | take (i : Nat) (p : Plan)
  | eff (i : Nat) (p : Plan)
  | base (p : Plan)
  | both (i : Nat) (p : Plan) (j : Nat) (q : Plan)
def Plan.size : Plan → Nat
  | .done => 0
  | .take _ p => p.size + 1
  | .eff _ p => p.size + 1
  | .base p => p.size
  | .both _ p _ q => max p.size q.size + 1

def vcPlan (P : Program) (ok : FuncId → Bool) (wr : Bool) (n : Nat) (ops : Array Oper) (K : PF → World → Prop) : Plan → (World → Prop) → World → (Nat → Prop) → Array Bool → PF → World → Prop
  | .done, _, _, _, l, f, w => cond (Region.ready .any ops l).isEmpty (K f w) False
  | .take i p, S, w0, D, l, f, w =>
    match ops.toList[i]? with
    | none => False
    | some o =>
      cond (Region.free .any ops l i && (Region.ready .any ops l).contains i)
        (gK ops.toList o.guard f fun r f' =>
          cond r (rOp P wr o.op f' (Grd.on D) w0 fun v => setK n f' o.dst v fun f'' => vcPlan P ok wr n ops K p S w0 D (l.setIfInBounds i true) f'' w)
            (setK n f' o.dst undef fun f'' => vcPlan P ok wr n ops K p S w0 D (l.setIfInBounds i true) f'' w)) False
  | .eff i p, S, w0, D, l, f, w =>
    match ops.toList[i]? with
    | none => False
    | some o =>
      cond (Region.ready .any ops l == [i])
        (gK ops.toList o.guard f fun r f' =>
          cond r (opK P ok wr n o f' w fun f'' w' => S w' ∧ vcPlan P ok wr n ops K p S w0 D (l.setIfInBounds i true) f'' w')
            (setK n f' o.dst undef fun f'' => vcPlan P ok wr n ops K p S w0 D (l.setIfInBounds i true) f'' w)) False
  | .both i p j q, S, w0, D, l, f, w =>
    match ops.toList[i]?, ops.toList[j]? with
    | some o, some o' =>
      cond (Region.ready .any ops l == [i, j])
        ((gK ops.toList o.guard f fun r f' =>
          cond r (opK P ok wr n o f' w fun f'' w' => S w' ∧ vcPlan P ok wr n ops K p S w0 D (l.setIfInBounds i true) f'' w')
            (setK n f' o.dst undef fun f'' => vcPlan P ok wr n ops K p S w0 D (l.setIfInBounds i true) f'' w)) ∧
        (gK ops.toList o'.guard f fun r f' =>
          cond r (opK P ok wr n o' f' w fun f'' w' => S w' ∧ vcPlan P ok wr n ops K q S w0 D (l.setIfInBounds j true) f'' w')
            (setK n f' o'.dst undef fun f'' => vcPlan P ok wr n ops K q S w0 D (l.setIfInBounds j true) f'' w))) False
    | _, _ => False
  | .base p, S, w0, D, l, f, w => ∃ D' : Nat → Prop, vcPlan P ok wr n ops K p (fun w' => S w' ∧ KeepOn D' w w') w D' l f w

theorem wpAnyH_mono {P : Program} {md : Region.Mode} {ops : Array Oper} {Q : Exit → Act → World → Prop} {S S' : World → Prop} (hS : ∀ w, S' w → S w) :
    ∀ (fuel : Nat) (l : Array Bool) (a : Act) (w : World), wpAnyH P md ops Q S' fuel l a w → wpAnyH P md ops Q S fuel l a w
  | 0, _, _, _, h => h
  | fuel + 1, l, a, w, h => ⟨h.1, fun i hi => wpOp_mono (fun a' w' h' => ⟨hS _ h'.1, wpAnyH_mono hS fuel _ _ _ h'.2⟩) (h.2 i hi)⟩

theorem vcPlan.sound {P : Program} {ok : FuncId → Bool} (hok : OkCalls P ok) {wr : Bool} {n : Nat} {ops : Array Oper} {K : PF → World → Prop} {Q : Exit → Act → World → Prop} {ws : Nat → Bool} {a0 : Act}
    (hQ : ∀ f' a' w', Fits n f' a' → K f' w' → Same ws a0 a' → Q .normal a' w') (hQp : ∀ c a w, ¬ Q (.panic c) a w) (hsel : Region.noSelect ops = true) (hw : (ops.toList.all fun o => dstIn ws o.dst) = true) :
    ∀ (p : Plan) (S : World → Prop) (w0 : World) (D : Nat → Prop) (fuel : Nat) (l : Array Bool) (f : PF) (a : Act) (w : World), p.size ≤ fuel → S w → (∀ w, S w → (Grd.on D).Ok w0 w) → Fits n f a → Same ws a0 a →
      vcPlan P ok wr n ops K p S w0 D l f w → wpAnyH P .any ops Q S fuel l a w := by
  have hdst : ∀ {i : Nat} {o : Oper}, ops.toList[i]? = some o → dstIn ws o.dst = true := fun ho => List.all_eq_true.1 hw _ (List.mem_of_getElem? ho)
  intro p
  induction p with
  | done =>
    intro S w0 D fuel l f a w _ hS hG hf hs h
    simp only [vcPlan] at h
    cases hr : (Region.ready .any ops l).isEmpty
    · rw [hr] at h; exact h.elim
    · rw [hr] at h
      exact wpAnyH_done (List.isEmpty_iff.1 hr) (hQ _ _ _ hf h hs) fuel
  | take i p ih =>
    intro S w0 D fuel l f a w hfu hS hG hf hs h
    simp only [vcPlan] at h
    split at h
    · exact h.elim
    · rename_i o ho
      have ho' : ops[i]? = some o := by simpa using ho
      cases hc : (Region.free .any ops l i && (Region.ready .any ops l).contains i)
      · rw [hc] at h; exact h.elim
      · rw [hc] at h
        simp only [Bool.and_eq_true, cond_true] at hc h
        obtain ⟨r, f1, hf1, h1, hr⟩ := gK.sound hf h
        cases fuel with
        | zero => simp [Plan.size] at hfu
        | succ fuel =>
          have hfu' : p.size ≤ fuel := by simp [Plan.size] at hfu; omega
          cases r
          · simp only [cond_false] at h1
            obtain ⟨f2, hf2, h2⟩ := setK.out hf1 h1
            exact wpAnyH_take ho' hsel hc.1 hc.2 (fun c a w h => absurd h (hQp c _ _)) (.inr ⟨hr, rfl⟩) hS (ih S w0 D fuel _ f2 _ w hfu' hS hG hf2 (hs.put (hdst ho) _) h2)
          · simp only [cond_true] at h1
            obtain ⟨v, hv, hrun⟩ := rOp.sound hf1 h1 ⟨w, hS⟩ hG
            obtain ⟨f2, hf2, h2⟩ := setK.out hf1 hv
            exact wpAnyH_take ho' hsel hc.1 hc.2 (fun c a w h => absurd h (hQp c _ _)) (.inl ⟨hr, hrun⟩) hS (ih S w0 D fuel _ f2 _ w hfu' hS hG hf2 (hs.put (hdst ho) _) h2)
  | eff i p ih =>
    intro S w0 D fuel l f a w hfu hS hG hf hs h
    simp only [vcPlan] at h
    split at h
    · exact h.elim
    · rename_i o ho
      have ho' : ops[i]? = some o := by simpa using ho
      cases hc : (Region.ready .any ops l == [i])
      · rw [hc] at h; exact h.elim
      · rw [hc] at h
        simp only [cond_true] at h
        have hc := eq_of_beq hc
        obtain ⟨r, f1, hf1, h1, hr⟩ := gK.sound hf h
        cases fuel with
        | zero => simp [Plan.size] at hfu
        | succ fuel =>
          have hfu' : p.size ≤ fuel := by simp [Plan.size] at hfu; omega
          refine wpAnyH_all hc (by simp) fun i' hi' => ?_
          have : i' = i := by simpa using hi'
          subst this
          unfold wpOp
          simp only [ho', hr]
          cases r
          · simp only [cond_false, Bool.false_eq_true, if_false] at h1 ⊢
            obtain ⟨f2, hf2, h2⟩ := setK.out hf1 h1
            exact ⟨hS, ih S w0 D fuel _ f2 _ w hfu' hS hG hf2 (hs.put (hdst ho) _) h2⟩
          · simp only [cond_true, if_true] at h1 ⊢
            refine .inl (Oper.wp_mono ?_ (opK.sound hok hf1 h1))
            rintro a' w' ⟨f2, v, hf2, ⟨hS', h2⟩, rfl⟩
            exact ⟨hS', ih S w0 D fuel _ f2 _ w' hfu' hS' hG hf2 (hs.put (hdst ho) _) h2⟩
  | both i p j q ih1 ih2 =>
    intro S w0 D fuel l f a w hfu hS hG hf hs h
    simp only [vcPlan] at h
    split at h
    · rename_i o o' ho hoj
      have ho' : ops[i]? = some o := by simpa using ho
      have hoj' : ops[j]? = some o' := by simpa using hoj
      cases hc : (Region.ready .any ops l == [i, j])
      · rw [hc] at h; exact h.elim
      · rw [hc] at h
        simp only [cond_true] at h
        have hc := eq_of_beq hc
        obtain ⟨ha, hb⟩ := h
        cases fuel with
        | zero => simp [Plan.size] at hfu
        | succ fuel =>
          have hfu1 : p.size ≤ fuel := by simp [Plan.size] at hfu; omega
          have hfu2 : q.size ≤ fuel := by simp [Plan.size] at hfu; omega
          refine wpAnyH_all hc (by simp) fun i' hi' => ?_
          rcases List.mem_cons.1 hi' with rfl | hi'
          · obtain ⟨r, f1, hf1, h1, hr⟩ := gK.sound hf ha
            unfold wpOp
            simp only [ho', hr]
            cases r
            · simp only [cond_false, Bool.false_eq_true, if_false] at h1 ⊢
              obtain ⟨f2, hf2, h2⟩ := setK.out hf1 h1
              exact ⟨hS, ih1 S w0 D fuel _ f2 _ w hfu1 hS hG hf2 (hs.put (hdst ho) _) h2⟩
            · simp only [cond_true, if_true] at h1 ⊢
              refine .inl (Oper.wp_mono ?_ (opK.sound hok hf1 h1))
              rintro a' w' ⟨f2, v, hf2, ⟨hS', h2⟩, rfl⟩
              exact ⟨hS', ih1 S w0 D fuel _ f2 _ w' hfu1 hS' hG hf2 (hs.put (hdst ho) _) h2⟩
          · have : i' = j := by simpa using hi'
            subst this
            obtain ⟨r, f1, hf1, h1, hr⟩ := gK.sound hf hb
            unfold wpOp
            simp only [hoj', hr]
            cases r
            · simp only [cond_false, Bool.false_eq_true, if_false] at h1 ⊢
              obtain ⟨f2, hf2, h2⟩ := setK.out hf1 h1
              exact ⟨hS, ih2 S w0 D fuel _ f2 _ w hfu2 hS hG hf2 (hs.put (hdst hoj) _) h2⟩
            · simp only [cond_true, if_true] at h1 ⊢
              refine .inl (Oper.wp_mono ?_ (opK.sound hok hf1 h1))
              rintro a' w' ⟨f2, v, hf2, ⟨hS', h2⟩, rfl⟩
              exact ⟨hS', ih2 S w0 D fuel _ f2 _ w' hfu2 hS' hG hf2 (hs.put (hdst hoj) _) h2⟩
    · exact h.elim
  | base p ih =>
    intro S w0 D fuel l f a w hfu hS hG hf hs h
    simp only [vcPlan] at h
    obtain ⟨D', h⟩ := h
    refine wpAnyH_mono (S' := fun w' => S w' ∧ KeepOn D' w w') (fun w h => h.1) _ _ _ _ ?_
    exact ih _ w D' fuel l f a w (by simpa [Plan.size] using hfu) ⟨hS, fun _ _ => rfl⟩ (fun w' h p X hp => ⟨hp.2, h.2 _ hp.1⟩) hf hs h

def DrawV (body : (Nat → Prop) → Prop) : Prop := ∃ D : Nat → Prop, body D

def vcDraw (P : Program) (ok : FuncId → Bool) (wr : Bool) (n : Nat) (ops : Array Oper) (p : Plan) (K : PF → World → Prop) (f : PF) (w : World) : Prop :=
  cond (Nat.ble p.size ops.toList.length && Region.noSelect ops)
    (DrawV fun D => vcPlan P ok wr n ops K p (KeepOn D w.drew) w.drew D (Array.replicate ops.size false) f w.drew) False

/-! ### Code -/
def readK : (ss : List (Nat × Sh)) → PF → (RT (ss.map Prod.snd) → Prop) → Prop
  | [], _, K => K ()
  | (d, h) :: t, f, K =>
    match f d with
    | some v => (match h.rd v with | some x => readK t f fun y => K (x, y) | none => False)
    | none => False
def putL : (ss : List (Nat × Sh)) → RT (ss.map Prod.snd) → PF → PF
  | [], _, f => f
  | (d, h) :: t, x, f => (putL t x.2 f).put d (h.v x.1)

theorem readK.out : ∀ {ss : List (Nat × Sh)} {f : PF} {K : RT (ss.map Prod.snd) → Prop}, readK ss f K →
    ∃ x, K x ∧ ∀ (n : Nat) (g : PF) (a : Act), Fits n f a → (Fits n g a) → Fits n (putL ss x g) a
  | [], f, K, h => ⟨(), h, fun _ _ _ _ hg => hg⟩
  | (d, hh) :: t, f, K, h => by
    simp only [readK] at h
    split at h
    · rename_i v hv
      split at h
      · rename_i x hx
        obtain ⟨y, hk, hp⟩ := readK.out h
        refine ⟨(x, y), hk, fun n g a hf hg => ?_⟩
        have := (hp n g a hf hg).over (t := d) (v := hh.v x) (by rw [hf.get _ _ hv, Sh.rd_v hx])
        exact this
      · exact h.elim
    · exact h.elim

def LoopV (ss : List Sh) (x0 : RT ss) (w0 : World) (body : RT ss → World → (RT ss → World → Prop) → Prop) : Prop :=
  ∃ (I : RT ss → World → Prop) (μ : RT ss → World → Nat), I x0 w0 ∧ ∀ x w, I x w → body x w fun x' w' => I x' w' ∧ μ x' w' < μ x w
def JoinV (ss : List Sh) (J : RT ss → World → Prop) (body : (RT ss → World → Prop) → Prop) : Prop :=
  ∃ I : RT ss → World → Prop, (∀ x w, I x w → J x w) ∧ body I

inductive Ann where
  | no
  | two (a b : Ann)
  | one (a : Ann)
  | loop (ws : List Nat) (ss : List (Nat × Sh)) (a : Ann)
  | join (ws : List Nat) (ss : List (Nat × Sh)) (a b : Ann)
  | draw (p : Plan)
def Ann.l : Ann → Ann
  | .two a _ => a
  | _ => .no
def Ann.r : Ann → Ann
  | .two _ b => b
  | _ => .no
def Ann.o : Ann → Ann
  | .one a => a
  | _ => .no

/-- All slots that code writes are among these. -/
def wrIn (ws : Nat → Bool) : Code → Bool
  | .region _ ops _ => ops.toList.all fun o => dstIn ws o.dst
  | .seq a b => wrIn ws a && wrIn ws b
  | .cond _ a b => wrIn ws a && wrIn ws b
  | .block _ a => wrIn ws a
  | .loop a => wrIn ws a
  | .rangeFunc _ _ _ _ => false
  | .scope a => wrIn ws a
  | _ => true

def thenQ (Q : Exit → PF → World → Prop) (K : PF → World → Prop) : Exit → PF → World → Prop
  | .normal, f, w => K f w
  | .exit i, f, w => Q (.exit i) f w
  | .ret, f, w => Q .ret f w
  | _, _, _ => False

def blockQ (id : Nat) (Q : Exit → PF → World → Prop) : Exit → PF → World → Prop
  | .normal, f, w => Q .normal f w
  | .exit i, f, w => cond (Nat.beq i id) (Q .normal f w) (Q (.exit i) f w)
  | .ret, f, w => Q .ret f w
  | _, _, _ => False

def vcF (P : Program) (ok : FuncId → Bool) (wr : Bool) (n : Nat) : Code → Ann → (Exit → PF → World → Prop) → PF → World → Prop
  | .skip, _, Q, f, w => Q .normal f w
  | .label _, _, Q, f, w => Q .normal f w
  | .ret, _, Q, f, w => Q .ret f w
  | .exit i, _, Q, f, w => Q (.exit i) f w
  | .region _ ops dr, A, Q, f, w =>
    match dr, A with
    | false, _ => vcOps P ok wr n ops.toList (Q .normal) ops.toList f w
    | true, .draw p => vcDraw P ok wr n ops p (Q .normal) f w
    | true, _ => False
  | .seq x y, A, Q, f, w =>
    match A with
    | .join ws ss a b =>
      cond (wrIn (fun i => ws.elem i) x)
        (JoinV (ss.map Prod.snd) (fun v w' => vcF P ok wr n y b Q (putL ss v (f.forget ws)) w') fun J => vcF P ok wr n x a (thenQ Q fun f' w' => readK ss f' fun v => J v w') f w) False
    | A => vcF P ok wr n x A.l (thenQ Q fun f' w' => vcF P ok wr n y A.r Q f' w') f w
  | .cond c x y, A, Q, f, w =>
    match ev f c with
    | some (.bool t) => cond t (vcF P ok wr n x A.l Q f w) (vcF P ok wr n y A.r Q f w)
    | _ => False
  | .block id c, A, Q, f, w => vcF P ok wr n c A.o (blockQ id Q) f w
  | .loop c, A, Q, f, w =>
    match A with
    | .loop ws ss a =>
      cond (wrIn (fun i => ws.elem i) c)
        (readK ss f fun x0 => LoopV (ss.map Prod.snd) x0 w fun x w' K => vcF P ok wr n c a (thenQ Q fun f' w'' => readK ss f' fun x' => K x' w'') (putL ss x (f.forget ws)) w') False
    | _ => False
  | _, _, _, _, _ => False

end Go.Eng
