/- The plan of code is followed by the machine; a function's contract out of its plan. -/
import Derived.Test.YtombjhkdakmhpaaEng6
namespace Go.Eng
open Go
set_option linter.unusedVariables false
set_option linter.unusedSimpArgs false

def good : Exit → Prop
  | .normal => True
  | .exit _ => True
  | .ret => True
  | _ => False

def Lift (n : Nat) (ws : Nat → Bool) (a0 : Act) (Q : Exit → PF → World → Prop) (e : Exit) (a : Act) (w : World) : Prop :=
  good e ∧ ∃ f, Fits n f a ∧ Q e f w ∧ Same ws a0 a

theorem dstIn_and {ws js : Nat → Bool} {d : Option Nat} (h1 : dstIn ws d = true) (h2 : dstIn js d = true) : dstIn (fun i => ws i && js i) d = true := by
  cases d with
  | none => rfl
  | some d => simp only [dstIn] at *; simp [h1, h2]

theorem wrIn_and {ws js : Nat → Bool} : ∀ (c : Code), wrIn ws c = true → wrIn js c = true → wrIn (fun i => ws i && js i) c = true := by
  intro c
  induction c with
  | region id ops dr =>
    intro h1 h2
    simp only [wrIn, List.all_eq_true] at *
    exact fun o ho => dstIn_and (h1 o ho) (h2 o ho)
  | seq x y ihx ihy =>
    intro h1 h2
    simp only [wrIn, Bool.and_eq_true] at *
    exact ⟨ihx h1.1 h2.1, ihy h1.2 h2.2⟩
  | cond c x y ihx ihy =>
    intro h1 h2
    simp only [wrIn, Bool.and_eq_true] at *
    exact ⟨ihx h1.1 h2.1, ihy h1.2 h2.2⟩
  | block id x ih => exact fun h1 h2 => ih h1 h2
  | loop x ih => exact fun h1 h2 => ih h1 h2
  | scope x ih => exact fun h1 h2 => ih h1 h2
  | rangeFunc _ _ _ _ _ _ => intro h1 h2; simp [wrIn] at h1
  | _ => intros; rfl

theorem Same.trans_and {ws js : Nat → Bool} {a0 a a' : Act} (h : Same ws a0 a) (h' : Same (fun i => ws i && js i) a a') : Same ws a0 a' := fun i hi => by
  rw [h' i (by simp [hi]), h i hi]

theorem Fits.stays {n : Nat} {f : PF} {js : List Nat} {ws : Nat → Bool} {a a' : Act} (h : Fits n (f.forget js) a) (hs : Same (fun i => ws i && js.elem i) a a') {g : PF} (hg : Fits n g a') : Fits n (f.forget js) a' := by
  refine ⟨hg.size, hg.defers, fun i v hv => ?_⟩
  have := h.get i v hv
  unfold PF.forget at hv
  cases hb : js.elem i
  · have h2 := hs i (by simp only [hb, Bool.and_false])
    rw [h2]; exact this
  · rw [hb] at hv; cases hv

theorem vcF.sound {P : Program} {ok : FuncId → Bool} (hok : OkCalls P ok) (hm : P.follows .mixedOrders = true) {wr : Bool} {n : Nat} : ∀ (c : Code) (A : Ann) (Q : Exit → PF → World → Prop) (ws : Nat → Bool) (a0 : Act),
    wrIn ws c = true → ∀ {f : PF} {a : Act} {w : World}, Fits n f a → Same ws a0 a → vcF P ok wr n c A Q f w → c.wp P (Lift n ws a0 Q) a w := by
  intro c
  induction c with
  | skip => intro A Q ws a0 _ f a w hf hs h; exact wp_skip ⟨trivial, f, hf, h, hs⟩
  | label l => intro A Q ws a0 _ f a w hf hs h; exact wp_label ⟨trivial, f, hf, h, hs⟩
  | ret => intro A Q ws a0 _ f a w hf hs h; exact wp_ret ⟨trivial, f, hf, h, hs⟩
  | exit i => intro A Q ws a0 _ f a w hf hs h; exact wp_exit ⟨trivial, f, hf, h, hs⟩
  | goto l => intro A Q ws a0 _ f a w hf hs h; exact h.elim
  | refuse y => intro A Q ws a0 _ f a w hf hs h; exact h.elim
  | scope x ih => intro A Q ws a0 _ f a w hf hs h; exact h.elim
  | rangeFunc _ _ _ _ _ _ => intro A Q ws a0 _ f a w hf hs h; exact h.elim
  | region id ops dr =>
    intro A Q ws a0 hw f a w hf hs h
    simp only [wrIn] at hw
    cases dr with
    | false =>
      have h : vcOps P ok wr n ops.toList (Q .normal) ops.toList f w := h
      exact wp_region_list (vcOps.sound hok (fun f' a' w' hf' hk hs' => ⟨trivial, f', hf', hk, hs'⟩) ops.toList hw hf hs h)
    | true =>
      cases A <;> first | exact h.elim | skip
      rename_i p
      have h : vcDraw P ok wr n ops p (Q .normal) f w := h
      unfold vcDraw at h
      cases hc : (Nat.ble p.size ops.toList.length && Region.noSelect ops)
      · rw [hc] at h; exact h.elim
      · rw [hc] at h
        simp only [Bool.and_eq_true, cond_true] at hc h
        obtain ⟨D, h⟩ := h
        refine wp_region_held (S := KeepOn D w.drew) hm ?_
        exact vcPlan.sound hok (Q := Lift n ws a0 Q) (fun f' a' w' hf' hk hs' => ⟨trivial, f', hf', hk, hs'⟩) (fun c a w h => h.1) hc.2 hw p _ w.drew D ops.size _ f a w.drew
          (by have := Nat.le_of_ble_eq_true hc.1; simpa using this) (fun _ _ => rfl) (fun w' h p X hp => ⟨hp.2, h _ hp.1⟩) hf hs h
  | seq x y ihx ihy =>
    intro A Q ws a0 hw f a w hf hs h
    simp only [wrIn, Bool.and_eq_true] at hw
    have plain : ∀ (A1 A2 : Ann), vcF P ok wr n x A1 (thenQ Q fun f' w' => vcF P ok wr n y A2 Q f' w') f w → (Code.seq x y).wp P (Lift n ws a0 Q) a w := by
      intro A1 A2 h
      refine wp_seq (wp_mono (ihx _ _ ws a0 hw.1 hf hs h) ?_)
      rintro e a' w' ⟨hg, f', hf', hq, hs'⟩
      cases e <;> first | exact ihy _ _ ws a0 hw.2 hf' hs' hq | exact ⟨trivial, f', hf', hq, hs'⟩ | exact hg.elim
    cases A with
    | join js ss A1 A2 =>
      have h : cond (wrIn (fun i => js.elem i) x) (JoinV (ss.map Prod.snd) (fun v w' => vcF P ok wr n y A2 Q (putL ss v (f.forget js)) w') fun J => vcF P ok wr n x A1 (thenQ Q fun f' w' => readK ss f' fun v => J v w') f w) False := h
      cases hj : wrIn (fun i => js.elem i) x
      · rw [hj] at h; exact h.elim
      · rw [hj] at h
        obtain ⟨I, hI, h⟩ := h
        refine wp_seq (wp_mono (ihx _ _ (fun i => ws i && js.elem i) a (wrIn_and x hw.1 hj) hf (Same.refl _ _) h) ?_)
        rintro e a' w' ⟨hg, f', hf', hq, hs'⟩
        cases e with
        | normal =>
          obtain ⟨v, hv, hp⟩ := readK.out hq
          exact ihy _ _ ws a0 hw.2 (hp n _ a' hf' ((hf.forget js).stays hs' hf')) (hs.trans_and hs') (hI _ _ hv)
        | exit i => exact ⟨trivial, f', hf', hq, hs.trans_and hs'⟩
        | ret => exact ⟨trivial, f', hf', hq, hs.trans_and hs'⟩
        | _ => exact hg.elim
    | _ => exact plain _ _ h
  | cond c x y ihx ihy =>
    intro A Q ws a0 hw f a w hf hs h
    simp only [wrIn, Bool.and_eq_true] at hw
    simp only [vcF] at h
    split at h
    · rename_i t ht
      refine wp_cond_split (hf.ev ht) (fun e => ?_) (fun e => ?_)
      · subst e; exact ihx _ _ ws a0 hw.1 hf hs h
      · subst e; exact ihy _ _ ws a0 hw.2 hf hs h
    · exact h.elim
  | block id x ih =>
    intro A Q ws a0 hw f a w hf hs h
    refine wp_block (wp_mono (ih _ _ ws a0 hw hf hs h) ?_)
    rintro e a' w' ⟨hg, f', hf', hq, hs'⟩
    cases e with
    | exit i =>
      show if i = id then _ else _
      have hq : cond (Nat.beq i id) (Q .normal f' w') (Q (.exit i) f' w') := hq
      by_cases e : i = id
      · rw [if_pos e]
        have : Nat.beq i id = true := by rw [e]; exact Nat.beq_refl id
        rw [this] at hq
        exact ⟨trivial, f', hf', hq, hs'⟩
      · rw [if_neg e]
        have : Nat.beq i id = false := by
          cases hb : Nat.beq i id
          · rfl
          · exact absurd (Nat.eq_of_beq_eq_true hb) e
        rw [this] at hq
        exact ⟨trivial, f', hf', hq, hs'⟩
    | normal => exact ⟨trivial, f', hf', hq, hs'⟩
    | ret => exact ⟨trivial, f', hf', hq, hs'⟩
    | _ => exact hg.elim
  | loop x ih =>
    intro A Q ws a0 hw f a w hf hs h
    cases A with
    | loop js ss A1 =>
      have h : cond (wrIn (fun i => js.elem i) x) (readK ss f fun x0 => LoopV (ss.map Prod.snd) x0 w fun x1 w' K => vcF P ok wr n x A1 (thenQ Q fun f' w'' => readK ss f' fun x' => K x' w'') (putL ss x1 (f.forget js)) w') False := h
      cases hj : wrIn (fun i => js.elem i) x
      · rw [hj] at h; exact h.elim
      · rw [hj] at h
        simp only [cond_true] at h
        obtain ⟨x0, ⟨I, μ, h0, hstep⟩, hp0⟩ := readK.out h
        refine wp_loop_ghost (fun k a' w' => ∃ x1, Fits n (putL ss x1 (f.forget js)) a' ∧ Fits n (f.forget js) a' ∧ I x1 w' ∧ μ x1 w' = k ∧ Same ws a0 a') (μ x0 w)
          ⟨x0, hp0 n _ a hf (hf.forget js), hf.forget js, h0, rfl, hs⟩ ?_
        rintro k a1 w1 ⟨x1, hf1, hff1, hI1, rfl, hs1⟩
        refine wp_mono (ih _ _ (fun i => ws i && js.elem i) a1 (wrIn_and x hw hj) hf1 (Same.refl _ _) (hstep x1 w1 hI1)) ?_
        rintro e a' w' ⟨hg, f', hf', hq, hs'⟩
        cases e with
        | normal =>
          obtain ⟨v, hv, hp⟩ := readK.out hq
          have hst := hff1.stays hs' hf'
          exact ⟨_, hv.2, v, hp n _ a' hf' hst, hst, hv.1, rfl, hs1.trans_and hs'⟩
        | exit i => exact ⟨trivial, f', hf', hq, hs1.trans_and hs'⟩
        | ret => exact ⟨trivial, f', hf', hq, hs1.trans_and hs'⟩
        | _ => exact hg.elim
    | _ => exact h.elim

/-! ### A function -/
def resK (P : Program) : List ResultVar → PF → World → (List Value → Prop) → Prop
  | [], _, _, K => K []
  | .tmp t :: rest, f, w, K => (match f t with | some v => resK P rest f w fun vs => K (v :: vs) | none => False)
  | .cell t ty :: rest, f, w, K => (match f t with | some (.pointer (some p)) => rLoad P ty Grd.no w p fun v => resK P rest f w fun vs => K (v :: vs) | _ => False)

def rdL : (l : List Sh) → List Value → Option (RT l)
  | [], [] => some ()
  | h :: t, v :: vs =>
    match h.rd v, rdL t vs with
    | some x, some y => some (x, y)
    | _, _ => none
  | _, _ => none

theorem rdL_v : ∀ {l : List Sh} {vs : List Value} {x : RT l}, rdL l vs = some x → vs = valsR l x
  | [], [], _, _ => rfl
  | [], _ :: _, _, e => by simp [rdL] at e
  | _ :: _, [], _, e => by simp [rdL] at e
  | h :: t, v :: vs, x, e => by
    simp only [rdL] at e
    cases h1 : h.rd v with
    | none => simp [h1] at e
    | some a =>
      cases h2 : rdL t vs with
      | none => simp [h1, h2] at e
      | some b =>
        simp only [h1, h2] at e
        cases e
        simp only [valsR]
        rw [← rdL_v h2, Sh.rd_v h1]

def resF (tmps : Array Value) (r : ResultVar) : Sem Value :=
  match r with
  | .tmp t => pure (tmps.getD t undef)
  | .cell q t => do loadVar t (← asAddr (tmps.getD q undef))

theorem results_eq (fn : Func) (tmps : Array Value) : results fn tmps = (do let vs ← fn.results.mapM (resF tmps); pure (if h : vs.size = 1 then vs[0] else .tuple vs)) := by
  unfold results
  congr 2

theorem resK.out {P : Program} {n : Nat} {f : PF} {a : Act} (hf : Fits n f a) {w : World} : ∀ {rs : List ResultVar} {K : List Value → Prop}, resK P rs f w K →
    ∃ vs, K vs ∧ (rs.mapM (resF a.tmps)).run P w = .ok vs w ∧ vs.length = rs.length
  | [], K, h => ⟨[], h, by simp [List.mapM_nil], rfl⟩
  | .tmp t :: rest, K, h => by
    simp only [resK] at h
    split at h
    · rename_i v hv
      obtain ⟨vs, hk, hr, hl⟩ := resK.out hf h
      have ht := hf.get _ _ hv
      have h1 : (resF a.tmps (.tmp t)).run P w = .ok v w := by simp [resF, ht]
      exact ⟨v :: vs, hk, by simp only [List.mapM_cons, Sem.run_bind, h1, Sem.run_pure, Result.andThen_ok, hr], by simp [hl]⟩
    · exact h.elim
  | .cell t ty :: rest, K, h => by
    simp only [resK] at h
    split at h
    · rename_i p hv
      obtain ⟨v, hv2, hrun⟩ := run_rLoad h (S := fun w' => w' = w) ⟨w, rfl⟩ (fun w' e => by subst e; exact Grd.Ok.no _)
      obtain ⟨vs, hk, hr, hl⟩ := resK.out hf hv2
      have ht := hf.get _ _ hv
      have h1 : (resF a.tmps (.cell t ty)).run P w = .ok v w := by simp [resF, ht, asAddr, hrun w rfl]
      exact ⟨v :: vs, hk, by simp only [List.mapM_cons, Sem.run_bind, h1, Sem.run_pure, Result.andThen_ok, hr], by simp [hl]⟩
    · exact h.elim

def retK (P : Program) (l : List Sh) (rs : List ResultVar) (K : RT l → World → Prop) : Exit → PF → World → Prop
  | .normal, f, w => resK P rs f w fun vs => (match rdL l vs with | some x => K x w | none => False)
  | .ret, f, w => resK P rs f w fun vs => (match rdL l vs with | some x => K x w | none => False)
  | _, _, _ => False

theorem retK.out {P : Program} {fn : Func} {l : List Sh} {K : RT l → World → Prop} {n : Nat} {ws : Nat → Bool} {a0 : Act} (hl : l.length = fn.results.size) {e : Exit} {a : Act} {w : World} (h : Lift n ws a0 (retK P l fn.results.toList K) e a w) :
    bodyPost P fn (fun e w' => ∃ x : RT l, e = .returned (packV l x) ∧ K x w') e a w := by
  obtain ⟨hg, f, hf, hq, _⟩ := h
  have main : resK P fn.results.toList f w (fun vs => (match rdL l vs with | some x => K x w | none => False)) →
      a.defers = [] ∧ ∃ v, (results fn a.tmps).run P w = .ok v w ∧ ∃ x : RT l, Ending.returned v = .returned (packV l x) ∧ K x w := by
    intro hq
    obtain ⟨vs, hk, hr, hlen⟩ := resK.out hf hq
    split at hk
    · rename_i x hx
      refine ⟨hf.defers, _, ?_, x, rfl, hk⟩
      have hvs := rdL_v hx
      rw [results_eq, Sem.run_bind, Array.mapM_eq_mapM_toList, Sem.run_map, hr]
      simp only [Result.andThen_ok, Sem.run_pure]
      congr 1
      cases l with
      | nil => subst hvs; rfl
      | cons h t =>
        cases t with
        | nil => subst hvs; rfl
        | cons h' t' => subst hvs; rfl
    · exact hk.elim
  cases e <;> first | exact hg.elim | exact main hq | exact hq.elim

theorem vc_calls {P : Program} {ok : FuncId → Bool} (hok : OkCalls P ok) (hm : P.follows .mixedOrders = true) {wr : Bool} {n : Nat} {g : FuncId} {fn : Func} {c : Code} {A : Ann} {args : Array Value} {w : World} {l : List Sh} {K : RT l → World → Prop}
    (hf : P.funcs[g]? = some fn) (hb : fn.body = some c) (hn : fn.ntmps = n) (hl : l.length = fn.results.size) (hw : wrIn (fun _ => true) c = true) (ha : args.size ≤ n)
    (h : vcF P ok wr n c A (retK P l fn.results.toList K) (PF.ofList 0 args.toList) w) : CallV P g args w l K := by
  refine calls_of_wp hf hb (wp_mono (vcF.sound hok hm c A _ (fun _ => true) _ hw ?_ (Same.refl _ _) h) fun e a w h => retK.out hl h)
  refine ⟨by simp [hn]; omega, rfl, ?_⟩
  have key : ∀ (l : List Value) (k i : Nat) (v : Value), (PF.ofList k l) i = some v → k ≤ i ∧ l[i - k]? = some v := by
    intro l
    induction l with
    | nil => intro k i v h; cases h
    | cons u l ih =>
      intro k i v h
      simp only [PF.ofList, PF.put] at h
      cases hb : Nat.beq i k
      · rw [hb] at h
        obtain ⟨h1, h2⟩ := ih (k + 1) i v h
        refine ⟨by omega, ?_⟩
        rw [show i - k = (i - (k + 1)) + 1 by omega, List.getElem?_cons_succ]
        exact h2
      · rw [hb] at h
        have e := Nat.eq_of_beq_eq_true hb
        subst e
        simp only [cond_true, Option.some.injEq] at h
        subst h
        simp
  intro i v hv
  obtain ⟨_, h2⟩ := key args.toList 0 i v hv
  simp only [Nat.sub_zero, Array.getElem?_toList] at h2
  rw [Array.getElem?_append, if_pos]
  · exact h2
  · exact (Array.getElem?_eq_some_iff.1 h2).1

/-- THE PLAN of a function. -/
def vcFun (P : Program) (ok : FuncId → Bool) (wr : Bool) (fn : Func) (A : Ann) (args : Array Value) (w : World) (l : List Sh) (K : RT l → World → Prop) : Prop :=
  match fn.body with
  | some c => cond (wrIn (fun _ => true) c && Nat.ble args.toList.length fn.ntmps && Nat.beq l.length fn.results.toList.length) (vcF P ok wr fn.ntmps c A (retK P l fn.results.toList K) (PF.ofList 0 args.toList) w) False
  | none => False

theorem vcFun.calls {P : Program} {ok : FuncId → Bool} (hok : OkCalls P ok) (hm : P.follows .mixedOrders = true) {wr : Bool} {g : FuncId} {fn : Func} {A : Ann} {args : Array Value} {w : World} {l : List Sh} {K : RT l → World → Prop}
    (hf : P.funcs[g]? = some fn) (h : vcFun P ok wr fn A args w l K) : CallV P g args w l K := by
  unfold vcFun at h
  split at h
  · rename_i c hb
    cases hc : (wrIn (fun _ => true) c && Nat.ble args.toList.length fn.ntmps && Nat.beq l.length fn.results.toList.length)
    · rw [hc] at h; exact h.elim
    · rw [hc] at h
      simp only [Bool.and_eq_true, cond_true] at hc h
      exact vc_calls hok hm hf hb rfl (by have := Nat.eq_of_beq_eq_true hc.2; simpa using this) hc.1.1 (by have := Nat.le_of_ble_eq_true hc.1.2; simpa using this) h
  · exact h.elim

theorem okc_nil {P : Program} : ∀ g ∈ ([] : List FuncId), ∀ args w, (callFunc g args).run P w = .ok (.enter g args) w := fun _ h => by cases h
theorem okc_cons {P : Program} {f : FuncId} {l : List FuncId} (hf : ∀ args w, (callFunc f args).run P w = .ok (.enter f args) w) (h : ∀ g ∈ l, ∀ args w, (callFunc g args).run P w = .ok (.enter g args) w) :
    ∀ g ∈ f :: l, ∀ args w, (callFunc g args).run P w = .ok (.enter g args) w := fun g hg => by
  rcases List.mem_cons.1 hg with rfl | hg
  · exact hf
  · exact h g hg
def okIn (l : List FuncId) (g : FuncId) : Bool := l.any fun x => Nat.beq x g
theorem okc {P : Program} {l : List FuncId} (h : ∀ g ∈ l, ∀ args w, (callFunc g args).run P w = .ok (.enter g args) w) : OkCalls P (okIn l) := fun g hg => by
  unfold okIn at hg
  obtain ⟨x, hx, hb⟩ := List.any_eq_true.1 hg
  have := Nat.eq_of_beq_eq_true hb
  subst this
  exact h x hx

end Go.Eng
