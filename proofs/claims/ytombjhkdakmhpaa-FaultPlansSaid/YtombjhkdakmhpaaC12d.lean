/- The contracts of layer 12 (fault): plans. -/
import Derived.Test.YtombjhkdakmhpaaC12a
import Derived.Test.YtombjhkdakmhpaaTy
namespace Go.Proofs.Ytombjhkdakmhpaa.Vc
open Go Go.Eng Go.RowKit
set_option linter.unusedVariables false
set_option linter.unusedSimpArgs false

/-- A fault, as it lies in memory; its data. -/
abbrev TF : Ty := .cons (.int .i64) (.cons .bool (.cons (.sl (.int .u8)) .nil))
abbrev LF : Ty := .sl TF
abbrev FD : Type := Int × Bool × List Int × Unit
def FRight (l : List FD) : Prop := (∀ f ∈ l, 0 ≤ f.1 ∧ f.2.2.1.length ≤ 64) ∧ l.length ≤ 64
instance (l : List FD) : Decidable (FRight l) := by unfold FRight; infer_instance
def atF (l : List FD) (n : Int) : Option FD := l.find? fun f => f.1 == n
def atI (l : List FD) (n : Int) : Option Nat := l.findIdx? fun f => f.1 == n
theorem TF_dat (f : TF.T) : TF.dat f = (f.1, f.2.1, f.2.2.1.l, ()) := by
  show (f.1, f.2.1, f.2.2.1.l.map _, ()) = _
  rw [show f.2.2.1.l.map (Ty.int .u8).dat = f.2.2.1.l from dat_ints f.2.2.1.l]
theorem ldF {w : World} {p : Addr} {f : TF.T} (hc : CellsAt w p (TF.vs f)) {K : Int × Bool × SlV × Unit → Prop} (hk : K (f.1, f.2.1, ⟨f.2.2.1.a, f.2.2.1.n, f.2.2.1.c⟩, ())) : LoadA w p [.int .i64, .bool, .sl] K :=
  ldaC (l := [.int .i64, .bool, .sl]) hc (f.1, f.2.1, ⟨f.2.2.1.a, f.2.2.1.n, f.2.2.1.c⟩, ()) rfl hk
theorem LF_nth {w : World} {G : Nat → Prop} {x : SlP TF.T} (h : LF.rd w G x) {i : Int} (h0 : 0 ≤ i) (h1 : i < (x.n : Int)) :
    ∃ q y, x.a = some q ∧ x.l[i.toNat]? = some y ∧ CellsAt w (q.add (i.toNat * 3)) (TF.vs y) ∧ TF.rd w G y ∧ G q.block ∧ q.block < w.heap.size := Ty.nth (e := TF) h h0 h1 (by decide)
theorem TF_len {w : World} {G : Nat → Prop} {y : TF.T} (h : TF.rd w G y) : y.2.2.1.l.length = y.2.2.1.n := h.2.2.1.1
def fds (x : SlP TF.T) : List FD := LF.dat x
theorem LF_len {w : World} {G : Nat → Prop} {x : SlP TF.T} (h : LF.rd w G x) : (fds x).length = x.n := by show (x.l.map TF.dat).length = _; rw [List.length_map]; exact h.1
theorem LF_lim {w : World} {G : Nat → Prop} {x : SlP TF.T} (h : LF.rd w G x) : x.n ≤ 9223372036854775807 := by have h1 := h.2.2.1; have h2 : maxLen = 9223372036854775807 := (by decide); omega
theorem LF_get {x : SlP TF.T} {i : Nat} {y : TF.T} (h : x.l[i]? = some y) : (fds x)[i]? = some (y.1, y.2.1, y.2.2.1.l, ()) := by rw [← TF_dat]; show (x.l.map TF.dat)[i]? = _; rw [List.getElem?_map, h]; rfl

theorem find_step {l : List FD} {n : Int} {i : Nat} (h : ∀ (j : Nat) (f : FD), j < i → l[j]? = some f → f.1 ≠ n) {f : FD} (hf : l[i]? = some f) (hn : f.1 = n) : atF l n = some f ∧ atI l n = some i := by
  induction i generalizing l with
  | zero =>
    cases l with
    | nil => simp at hf
    | cons x l => simp at hf; subst hf; subst hn; simp [atF, atI, List.findIdx?_cons]
  | succ i ih =>
    cases l with
    | nil => simp at hf
    | cons x l =>
      have h0 := h 0 x (by omega) rfl
      have hb : (x.1 == n) = false := by simpa using h0
      obtain ⟨h1, h2⟩ := ih (l := l) (fun j f hj hf => h (j + 1) f (by omega) (by simpa using hf)) (by simpa using hf)
      unfold atF atI at *
      simp only [List.find?_cons, List.findIdx?_cons, hb, h1, h2, Bool.false_eq_true, if_false, Option.map_some]
      exact ⟨trivial, trivial⟩
theorem find_none {l : List FD} {n : Int} (h : ∀ (j : Nat) (f : FD), l[j]? = some f → f.1 ≠ n) : atF l n = none ∧ atI l n = none := by
  have h1 : ∀ f ∈ l, ¬ (f.1 == n) = true := fun f hf => by
    obtain ⟨j, hj, rfl⟩ := List.mem_iff_getElem.1 hf
    simpa using h j _ (List.getElem?_eq_getElem hj)
  exact ⟨List.find?_eq_none.2 h1, List.findIdx?_eq_none_iff.2 fun f hf => by simpa using h1 f hf⟩
theorem FRight_iff {l : List FD} : FRight l ↔ (∀ (j : Nat) (f : FD), l[j]? = some f → 0 ≤ f.1 ∧ f.2.2.1.length ≤ 64) ∧ l.length ≤ 64 := by
  unfold FRight
  refine and_congr_left fun _ => ⟨fun h j f hf => h f (List.mem_of_getElem? hf), fun h f hf => ?_⟩
  obtain ⟨j, hj, rfl⟩ := List.mem_iff_getElem.1 hf
  exact h j _ (List.getElem?_eq_getElem hj)

abbrev zF : List Value := [.int .i64 0, .bool false, .slice none 0 0]
theorem newF {w : World} {K : Nat → World → Prop} (h : ∀ b w1, Ext w w1 → Box w1 w.heap.size b 45 zF → K b w1) : NewV #[.int .i64 0, .bool false, .slice none 0 0] 45 w K := newBox h

theorem FCheck_c {w : World} {G : Nat → Prop} {x : SlP TF.T} (hx : LF.rd w G x) : CallV Try.prog 30 #[.slice x.a x.n x.c] w [.one (.int .i64)] fun r w' => r.1 = (if FRight (fds x) then (0 : Int) else 2) ∧ Ext w w' := by
  refine fault_Check.vc _ _ _ _ _ ?_
  unfold fault_Check.P
  have hl := LF_len hx
  have no : ∀ {w' : World}, Ext w w' → ¬ FRight (fds x) → ((2 : Int) = (if FRight (fds x) then (0 : Int) else 2) ∧ Ext w w') := fun e h => ⟨by rw [if_neg h], e⟩
  refine cond_d (fun h => no (Ext.refl _) (fun hr => by have := hr.2; omega)) (fun h64 => ?_)
  refine Loop1 (fun (y : Int × Unit) w' => ∃ i : Nat, y.1 = (i : Int) ∧ i ≤ x.n ∧ (∀ (j : Nat) (f : FD), j < i → (fds x)[j]? = some f → 0 ≤ f.1 ∧ f.2.2.1.length ≤ 64) ∧ Ext w w') (fun (y : Int × Unit) _ => ((x.n : Int) - y.1).toNat) ⟨0, rfl, by omega, fun j f h => by omega, Ext.refl _⟩ ?_
  rintro ⟨(z : Int), ⟨⟩⟩ w2 ⟨i, hz, hi, hall, e2⟩
  dsimp only at hz ⊢
  subst hz
  refine cond_d (fun hlt => ?_) (fun hge => ?_)
  · obtain ⟨q, y, hq, hy, hc, hr, -⟩ := LF_nth (Ty.rd_ext e2 _ hx) (Int.natCast_nonneg i) hlt
    have hly := TF_len hr
    have hdy := LF_get hy
    rw [Int.toNat_natCast] at hdy
    refine ⟨⟨by omega, hlt⟩, q, hq, ldF hc ?_⟩
    refine newF fun b6 w7 e7 hb => ?_
    refine hb.store 0 (by simp) fun w8 hb8 bel8 _ _ => ?_
    have e8 : Ext w w8 := e2.trans (Below.trans e7 bel8)
    have bad : ¬ ((0 : Int) ≤ y.1 ∧ y.2.2.1.l.length ≤ 64) → ¬ FRight (fds x) := fun h hr => h ((FRight_iff.1 hr).1 _ _ hdy)
    refine hb8.ld (i := 0) (h := .int .i64) (x := y.1) rfl (cond_d (fun c => no e8 (bad (by omega))) (fun c1 => ?_))
    refine hb8.ld (i := 2) (h := .sl) (x := ⟨y.2.2.1.a, y.2.2.1.n, y.2.2.1.c⟩) rfl (cond_d (fun c => no e8 (bad (by dsimp only at c; omega))) (fun c2 => ?_))
    refine ⟨Rng.i64 (by omega) (by have hlim := LF_lim hx; omega), ⟨i + 1, by push_cast; rfl, by omega, fun j f hj hf => ?_, e8⟩, by omega⟩
    by_cases hji : j = i
    · subst hji
      rw [hdy] at hf
      have := Option.some.inj hf
      subst this
      dsimp only at c2 ⊢
      omega
    · exact hall j f (by omega) hf
  · have hR : FRight (fds x) := FRight_iff.2 ⟨fun j f hf => hall j f (by have := (List.getElem?_eq_some_iff.1 hf).1; omega) hf, by omega⟩
    exact ⟨by rw [if_pos hR], e2⟩

theorem rRight12_c {w : World} {G : Nat → Prop} {x : SlP TF.T} (hx : LF.rd w G x) : CallV Try.prog 31 #[.slice x.a x.n x.c] w [.one .bool] fun r w' => r.1 = decide (FRight (fds x)) ∧ w' = w := by
  refine ref12_Right.vc _ _ _ _ _ ?_
  unfold ref12_Right.P
  have hl := LF_len hx
  have no : ¬ FRight (fds x) → (false = decide (FRight (fds x)) ∧ w = w) := fun h => ⟨(decide_eq_false h).symm, rfl⟩
  refine Loop1 (fun (y : Int × Unit) w' => ∃ i : Nat, y.1 = (i : Int) ∧ i ≤ x.n ∧ (∀ (j : Nat) (f : FD), j < i → (fds x)[j]? = some f → 0 ≤ f.1 ∧ f.2.2.1.length ≤ 64) ∧ w' = w) (fun (y : Int × Unit) _ => ((x.n : Int) - y.1).toNat) ⟨0, rfl, by omega, fun j f h => by omega, rfl⟩ ?_
  rintro ⟨(z : Int), ⟨⟩⟩ w2 ⟨i, hz, hi, hall, rfl⟩
  dsimp only at hz ⊢
  subst hz
  refine cond_d (fun hlt => ?_) (fun hge => ?_)
  · obtain ⟨q, y, hq, hy, hc, hr, -⟩ := LF_nth hx (Int.natCast_nonneg i) hlt
    have hly := TF_len hr
    have hdy := LF_get hy
    rw [Int.toNat_natCast] at hdy
    have bad : ¬ ((0 : Int) ≤ y.1 ∧ y.2.2.1.l.length ≤ 64) → ¬ FRight (fds x) := fun h hr => h ((FRight_iff.1 hr).1 _ _ hdy)
    refine ⟨⟨by omega, hlt⟩, q, hq, ldp0 hc (h := .int .i64) (x := y.1) rfl (cond_d (fun c => no (bad (by omega))) (fun c1 => ?_))⟩
    refine ⟨⟨by omega, hlt⟩, q, hq, ldp hc 2 (h := .sl) (x := ⟨y.2.2.1.a, y.2.2.1.n, y.2.2.1.c⟩) rfl (cond_d (fun c => no (bad (by dsimp only at c; omega))) (fun c2 => ?_))⟩
    refine ⟨Rng.i64 (by omega) (by have hlim := LF_lim hx; omega), ⟨i + 1, by push_cast; rfl, by omega, fun j f hj hf => ?_, rfl⟩, by omega⟩
    by_cases hji : j = i
    · subst hji
      rw [hdy] at hf
      have := Option.some.inj hf
      subst this
      dsimp only at c2 ⊢
      omega
    · exact hall j f (by omega) hf
  · refine ⟨decide_eq_decide.2 ⟨fun h => FRight_iff.2 ⟨fun j f hf => hall j f (by have := (List.getElem?_eq_some_iff.1 hf).1; omega) hf, by omega⟩, fun h => ?_⟩, rfl⟩
    have := h.2
    omega

theorem rAt_c {w : World} {G : Nat → Prop} {x : SlP TF.T} {n : Int} (hx : LF.rd w G x) : CallV Try.prog 33 #[.slice x.a x.n x.c, .int .i64 n] w [.one (.int .i64)] fun r w' => r.1 = (match atI (fds x) n with | some i => (i : Int) | none => (-1 : Int)) ∧ w' = w := by
  refine ref12_At.vc _ _ _ _ _ _ ?_
  unfold ref12_At.P
  have hl := LF_len hx
  refine Loop1 (fun (y : Int × Unit) w' => ∃ i : Nat, y.1 = (i : Int) ∧ i ≤ x.n ∧ (∀ (j : Nat) (f : FD), j < i → (fds x)[j]? = some f → f.1 ≠ n) ∧ w' = w) (fun (y : Int × Unit) _ => ((x.n : Int) - y.1).toNat) ⟨0, rfl, by omega, fun j f h => by omega, rfl⟩ ?_
  rintro ⟨(z : Int), ⟨⟩⟩ w2 ⟨i, hz, hi, hall, rfl⟩
  dsimp only at hz ⊢
  subst hz
  refine cond_d (fun hlt => ?_) (fun hge => ?_)
  · obtain ⟨q, y, hq, hy, hc, hr, -⟩ := LF_nth hx (Int.natCast_nonneg i) hlt
    have hdy := LF_get hy
    rw [Int.toNat_natCast] at hdy
    refine ⟨⟨by omega, hlt⟩, q, hq, ldp0 hc (h := .int .i64) (x := y.1) rfl (cond_eq (fun c => ?_) (fun c1 => ?_))⟩
    · obtain ⟨_, h2⟩ := find_step hall hdy c
      rw [h2]
      exact ⟨rfl, rfl⟩
    · refine ⟨Rng.i64 (by omega) (by have hlim := LF_lim hx; omega), ⟨i + 1, by push_cast; rfl, by omega, fun j f hj hf => ?_, rfl⟩, by omega⟩
      by_cases hji : j = i
      · subst hji
        rw [hdy] at hf
        have := Option.some.inj hf
        subst this
        exact c1
      · exact hall j f (by omega) hf
  · obtain ⟨_, h2⟩ := find_none (l := fds x) (n := n) fun j f hf => hall j f (by have := (List.getElem?_eq_some_iff.1 hf).1; omega) hf
    rw [h2]
    exact ⟨rfl, rfl⟩

theorem appM {w : World} {a a2 : Option Addr} {n c m c2 : Nat} {xs ys : List Int} {B : Nat} {K : Option Addr → Nat → Nat → World → Prop} (ho : Own w B 5 1 a n c (xs.map (Value.int .u8))) (hy : Ints w .u8 a2 m c2 ys) (hB : B ≤ w.heap.size) (hn : n + m ≤ 140737488351232)
    (hk : ∀ a' c' w', Own w' B 5 1 a' (n + m) c' ((xs ++ ys).map (Value.int .u8)) → Below B w w' → Mov w a a' → But a w w' → K a' (n + m) c' w') :
    AppS w a2 m 1 fun ns => AppV w 5 1 1 a n c ns m K := by
  refine AppS.of (news := ys.map (Value.int .u8)) (by rw [List.length_map, hy.len]; omega) hy.rd ?_
  refine AppV.own ho hB (by rw [List.length_map, hy.len]; omega) (oneAll.ints _ _) (by omega) (by omega) fun a' c' w' h1 h2 h4 h3 => ?_
  refine hk a' c' w' ?_ h2 h3 h4
  rw [List.map_append]
  exact h1

/-- No mask is longer than an address space. -/
def mFit (l : List FD) : Prop := ∀ f ∈ l, f.2.2.1.length ≤ 140737488351232
theorem mFit.at {l : List FD} (h : mFit l) {i : Nat} {f : FD} (hf : l[i]? = some f) : f.2.2.1.length ≤ 140737488351232 := h _ (List.mem_of_getElem? hf)
theorem FRight.fit {l : List FD} (h : FRight l) : mFit l := fun f hf => by have := (h.1 f hf).2; omega

theorem At_c {w : World} {G : Nat → Prop} {x : SlP TF.T} {n : Int} (hx : LF.rd w G x) (hm : mFit (fds x)) : CallV Try.prog 32 #[.slice x.a x.n x.c, .int .i64 n] w [.agg [.int .i64, .bool, .sl], .one .bool] fun r w' =>
    Ext w w' ∧ match atF (fds x) n with
      | some f => r.2.1 = true ∧ r.1.1 = f.1 ∧ r.1.2.1 = f.2.1 ∧ Res w w' r.1.2.2.1 f.2.2.1
      | none => r.2.1 = false ∧ r.1 = ((0 : Int), false, (⟨none, 0, 0⟩ : SlV), ()) := by
  refine fault_At.vc _ _ _ _ _ _ ?_
  unfold fault_At.P
  have hl := LF_len hx
  refine newF fun b1 w1 e1 hb1 => ?_
  refine Loop1 (fun (y : Int × Unit) w' => ∃ i : Nat, y.1 = (i : Int) ∧ i ≤ x.n ∧ (∀ (j : Nat) (f : FD), j < i → (fds x)[j]? = some f → f.1 ≠ n) ∧ Ext w1 w') (fun (y : Int × Unit) _ => ((x.n : Int) - y.1).toNat) ⟨0, rfl, by omega, fun j f h => by omega, Ext.refl _⟩ ?_
  rintro ⟨(z : Int), ⟨⟩⟩ w2 ⟨i, hz, hi, hall, e2⟩
  dsimp only at hz ⊢
  subst hz
  refine cond_d (fun hlt => ?_) (fun hge => ?_)
  · obtain ⟨q, y, hq, hy, hc, hr, -⟩ := LF_nth (Ty.rd_ext (e1.trans e2) _ hx) (Int.natCast_nonneg i) hlt
    have hdy := LF_get hy
    rw [Int.toNat_natCast] at hdy
    refine ⟨⟨by omega, hlt⟩, q, hq, ldF hc ?_⟩
    refine newF fun b6 w7 e7 hb => ?_
    refine hb.store 0 (by simp) fun w8 hb8 bel8 _ _ => ?_
    have x8 : Ext w2 w8 := Below.trans e7 bel8
    have e8 : Ext w1 w8 := e2.trans x8
    refine hb8.ld (i := 0) (h := .int .i64) (x := y.1) rfl (cond_eq (fun c => ?_) (fun c1 => ?_))
    · obtain ⟨h1, -⟩ := find_step hall hdy c
      have hmy := hm.at hdy
      have hly := TF_len hr
      dsimp only at hmy
      refine newU fun b9 w9 e9 o9 => ?_
      refine (hb8.ext e9).ld (i := 2) (h := .sl) (x := ⟨y.2.2.1.a, y.2.2.1.n, y.2.2.1.c⟩) rfl ?_
      dsimp only
      refine appM (xs := []) o9 (Ty.ints (Ty.rd_ext (x8.trans e9) _ hr.2.2.1)) e9.size (by omega) fun a' c' w10 o10 b10 m10 _ => ?_
      have x10 : Ext w8 w10 := Below.trans e9 b10
      have hb10 := hb8.ext x10
      have hlt8 : b6 < w8.heap.size := hb8.lt
      have hne : ∀ p, a' = some p → p.block ≠ b6 := by
        intro p hp
        rcases o10.at_ with ⟨h1, _⟩ | ⟨b, cs, h1, h2, _⟩
        · rw [h1] at hp; cases hp
        · rw [h1] at hp; cases hp; show b ≠ b6; omega
      refine hb10.store 2 (by simp) fun w11 hb11 bel11 but11 _ => ?_
      have o11 := o10.other (w' := w11) (fun p hp => but11 _ (hne p hp))
      refine ldF (f := (y.1, y.2.1, ⟨a', 0 + y.2.2.1.n, c', y.2.2.1.l⟩, ())) hb11.cells ?_
      have X11 : Ext w1 w11 := Below.trans (Ext.trans e8 x10) (Below.mono bel11 e2.size)
      have hb1' := hb1.ext X11
      have hlt1 : b1 < w1.heap.size := hb1.lt
      refine hb1'.store 0 (by simp) fun w12 hb12 bel12 but12 _ => ?_
      refine ldF (f := (y.1, y.2.1, ⟨a', 0 + y.2.2.1.n, c', y.2.2.1.l⟩, ())) hb12.cells ?_
      have o12 := o11.other (w' := w12) (fun p hp => but12 _ (by
        rcases o10.at_ with ⟨h1, _⟩ | ⟨b, cs, h1, h2, _⟩
        · rw [h1] at hp; cases hp
        · rw [h1] at hp; cases hp; show b ≠ b1
          have := e8.size
          omega))
      have E12 : Ext w w12 := Below.trans (e1.trans X11) bel12
      rw [h1]
      exact ⟨E12, rfl, rfl, rfl, ⟨E12, o12.mono (Nat.le_trans e1.size e8.size)⟩⟩
    · refine ⟨Rng.i64 (by omega) (by have hlim := LF_lim hx; omega), ⟨i + 1, by push_cast; rfl, by omega, fun j f hj hf => ?_, e8⟩, by omega⟩
      by_cases hji : j = i
      · subst hji
        rw [hdy] at hf
        have := Option.some.inj hf
        subst this
        exact c1
      · exact hall j f (by omega) hf
  · obtain ⟨h1, _⟩ := find_none (l := fds x) (n := n) fun j f hf => hall j f (by have := (List.getElem?_eq_some_iff.1 hf).1; omega) hf
    have hb2 := hb1.ext e2
    refine hb2.store 0 (by simp) fun w3 hb3 bel3 _ _ => ?_
    refine ldF (f := ((0 : Int), false, ⟨none, 0, 0, []⟩, ())) hb3.cells ?_
    rw [h1]
    exact ⟨Below.trans (e1.trans e2) bel3, rfl, rfl⟩

end Go.Proofs.Ytombjhkdakmhpaa.Vc
