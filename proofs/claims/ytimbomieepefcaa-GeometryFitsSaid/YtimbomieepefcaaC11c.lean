/- The contracts of layer 11 (geometry): do namespaces fit, and how much room is left. -/
import Derived.Test.YtimbomieepefcaaC11b
namespace Go.Proofs.Ytimbomieepefcaa.Vc
open Go Go.Eng Go.RowKit
set_option linter.unusedVariables false
set_option linter.unusedSimpArgs false

def szOk (l : List Int) : Prop := ∀ x ∈ l, 1 ≤ x ∧ x ≤ 65535
instance (l : List Int) : Decidable (szOk l) := by unfold szOk; infer_instance
def qs (g : Geo) : List Int → Int
  | [] => 0
  | x :: l => quo g x + qs g l
theorem qs_append (g : Geo) (l m : List Int) : qs g (l ++ m) = qs g l + qs g m := by
  induction l with
  | nil => simp [qs]
  | cons x l ih => simp only [List.cons_append, qs, ih]; omega
theorem qs_nonneg {g : Geo} (hr : Right g) {l : List Int} (h : szOk l) : 0 ≤ qs g l := by
  induction l with
  | nil => exact Int.le_refl _
  | cons x l ih =>
    have := quo_bd hr (h x (List.mem_cons_self ..))
    have := ih (fun y hy => h y (List.mem_cons_of_mem _ hy))
    unfold qs; omega
theorem szOk_append {l m : List Int} : szOk (l ++ m) ↔ szOk l ∧ szOk m := by
  unfold szOk
  simp only [List.mem_append]
  exact ⟨fun h => ⟨fun x hx => h x (.inl hx), fun x hx => h x (.inr hx)⟩, fun ⟨h, h'⟩ x hx => hx.elim (h x) (h' x)⟩
theorem szOk_one {x : Int} : szOk [x] ↔ 1 ≤ x ∧ x ≤ 65535 := by unfold szOk; simp
theorem qs_one (g : Geo) (x : Int) : qs g [x] = quo g x := by simp [qs]
theorem qs_take {g : Geo} (hr : Right g) {l : List Int} (h : szOk l) (i : Nat) : qs g (l.take i) ≤ qs g l := by
  have e := qs_append g (l.take i) (l.drop i)
  rw [List.take_append_drop] at e
  have := qs_nonneg hr (l := l.drop i) (fun x hx => h x (List.mem_of_mem_drop hx))
  omega
def fitE (g : Geo) (l : List Int) : Int := if Right g then (if szOk l then (if l.length ≤ 4 ∧ g.sp + qs g l ≤ g.b - 4 then 0 else 14) else 13) else 2
theorem fitE_zero {g : Geo} {l : List Int} : fitE g l = 0 ↔ Right g ∧ szOk l ∧ l.length ≤ 4 ∧ g.sp + qs g l ≤ g.b - 4 := by
  unfold fitE
  split
  · split
    · split
      · simp [*]
      · simp [*]
    · simp [*]
  · simp [*]
theorem take_snoc {l : List Int} {i : Nat} (h : i < l.length) : l.take (i + 1) = l.take i ++ [l.getD i 0] := by
  rw [List.take_succ_eq_append_getElem h, getD_get h]

theorem rFit_c {w : World} {g : Geo} {a : Option Addr} {n c : Nat} {l : List Int} (hr : Right g) (hl : Ints w .i64 a n c l) :
    CallV Try.prog 47 #[g.val, .slice a n c] w [.one (.int .i64)] fun r w' => r.1 = fitE g l ∧ Ext w w' := by
  refine ref11_Fit.vc _ _ _ _ _ _ _ _ _ _ _ ?_
  unfold ref11_Fit.P
  have hr' := hr
  unfold Right Kept at hr'
  have ln := hl.len
  have lim := hl.lim
  refine newG fun b1 w1 e1 hb => ?_
  refine hb.ld (i := 3) (h := .int .i64) (x := g.sp) rfl ?_
  refine Loop1 (fun (y : Int × Int × Unit) w' => ∃ i : Nat, y.2.1 = (i : Int) ∧ i ≤ n ∧ szOk (l.take i) ∧ (y.1 ≤ 64 → y.1 = g.sp + qs g (l.take i)) ∧ (64 < y.1 → 64 < g.sp + qs g (l.take i)) ∧ 0 ≤ y.1 ∧ y.1 ≤ 65601 ∧ Ext w1 w')
    (fun (y : Int × Int × Unit) _ => ((n : Int) - y.2.1).toNat) ⟨0, rfl, by omega, fun x hx => by simp at hx, fun _ => by simp [qs], fun h => by dsimp only at h; omega, by dsimp only; omega, by dsimp only; omega, Ext.refl _⟩ ?_
  rintro ⟨(s : Int), (y : Int), ⟨⟩⟩ w2 ⟨i, hy, hi, hok, hs1, hs2, hs0, hsb, e2⟩
  dsimp only at hy hs1 hs2 hs0 hsb ⊢
  subst hy
  refine cond_d (fun hlt => ?_) (fun hge => ?_)
  · refine (hl.ext (e1.trans e2)).idx (by omega) hlt ?_
    rw [Int.toNat_natCast]
    have hmem : l.getD i 0 ∈ l := by rw [getD_get (by omega)]; exact List.getElem_mem _
    have ht := take_snoc (l := l) (i := i) (by omega)
    have hq := qs_append g (l.take i) [l.getD i 0]
    rw [qs_one] at hq
    refine in11_c.mono ?_
    rintro ⟨(r3 : Bool), ⟨⟩⟩ w3 ⟨h3, rfl⟩
    dsimp only at h3 ⊢
    subst h3
    by_cases hin : 1 ≤ l.getD i 0 ∧ l.getD i 0 ≤ 65535
    · refine cond_f (by rw [decide_eq_true hin]; rfl) ?_
      have hqb := quo_bd hr hin
      have hok' : szOk (l.take (i + 1)) := by rw [ht]; exact szOk_append.2 ⟨hok, szOk_one.2 hin⟩
      refine cond_d (fun h64 => ?_) (fun h64 => ?_)
      · refine DrawV.old w3 fun D hD hkeep => ?_
        have hb3 := hb.ext e2
        have hD1 := hD _ hb3.lt
        refine ⟨hD1, ldG (hb3.ext (Ext.drew w3)) ?_⟩
        refine (hl.ext (e1.trans e2)).idxD (Ext.drew w3) (by omega) hlt hD ?_
        rw [Int.toNat_natCast]
        refine (rQuota_c (g := g) (by omega) hin).mono ?_
        rintro ⟨(r4 : Int), ⟨⟩⟩ w4 ⟨h4, e4⟩
        dsimp only at h4 ⊢
        have h4' : r4 = quo g (l.getD i 0) := h4
        have E4 := (Ext.drew w3).trans e4
        have := hs1 h64
        refine ⟨hkeep _ E4, Rng.i64 (by omega) (by omega), Rng.i64 (by omega) (by omega), ⟨i + 1, by push_cast; rfl, by omega, hok', fun h => ?_, fun h => ?_, by omega, by omega, e2.trans E4⟩, by omega⟩
        · show s + r4 = _
          rw [ht, hq]; omega
        · have h' : 64 < s + r4 := h
          rw [ht, hq]; omega
      · have := hs2 (by omega)
        refine ⟨Rng.i64 (by omega) (by omega), ⟨i + 1, by push_cast; rfl, by omega, hok', fun h => absurd h h64, fun h => ?_, hs0, hsb, e2⟩, by omega⟩
        rw [ht, hq]; omega
    · refine cond_t (by rw [decide_eq_false hin]; rfl) ⟨?_, e1.trans e2⟩
      show (13 : Int) = _
      unfold fitE
      rw [if_pos hr, if_neg (fun h => hin (h _ hmem))]
  · have : i = n := by omega
    subst this
    rw [List.take_of_length_le (by omega)] at hok hs1 hs2
    have e14 : ¬ (l.length ≤ 4 ∧ g.sp + qs g l ≤ g.b - 4) → ((14 : Int) = fitE g l ∧ Ext w w2) := fun h => ⟨by unfold fitE; rw [if_pos hr, if_pos hok, if_neg h], e1.trans e2⟩
    refine cond_d (fun h4 => e14 (by omega)) (fun h4 => ?_)
    refine (hb.ext e2).ld (i := 0) (h := .int .i64) (x := g.b) rfl ⟨Rng.i64 (by omega) (by omega), ?_⟩
    refine cond_d (fun h5 => e14 (fun h => ?_)) (fun h5 => ⟨?_, e1.trans e2⟩)
    · by_cases h64 : s ≤ 64
      · have := hs1 h64; omega
      · have := hs2 (by omega); omega
    · have := hs1 (by omega)
      show (0 : Int) = _
      exact (fitE_zero.2 ⟨hr, hok, by omega, by omega⟩).symm

theorem Fit_c {w : World} {g : Geo} {a : Option Addr} {n c : Nat} {l : List Int} (hl : Ints w .i64 a n c l) :
    CallV Try.prog 45 #[g.val, .slice a n c] w [.one (.int .i64)] fun r w' => r.1 = fitE g l ∧ Ext w w' := by
  refine geometry_Fit.vc _ _ _ _ _ _ _ _ _ _ _ ?_
  unfold geometry_Fit.P
  have ln := hl.len
  have lim := hl.lim
  refine newG fun b1 w0 e0 hb0 => ?_
  refine ldG hb0 ?_
  refine (Check_c (g := g)).mono ?_
  rintro ⟨(r1 : Int), ⟨⟩⟩ w1 ⟨h1, e1⟩
  dsimp only at h1 ⊢
  subst h1
  have F1 := e0.trans e1
  have hb := hb0.ext e1
  by_cases hr : ¬ Right g
  · refine cond_t (by unfold chkE; rw [if_neg hr]; rfl) ⟨?_, F1⟩
    show chkE g = fitE g l
    unfold chkE fitE
    rw [if_neg hr, if_neg hr]
  have hr := Decidable.not_not.1 hr
  refine cond_f (by unfold chkE; rw [if_pos hr]; rfl) ?_
  have hr' := hr
  unfold Right Kept at hr'
  refine hb.ld (i := 3) (h := .int .i64) (x := g.sp) rfl ?_
  refine Loop1 (fun (y : Int × Int × Unit) w' => ∃ i : Nat, y.2.1 = (i : Int) ∧ i ≤ n ∧ szOk (l.take i) ∧ y.1 = min (g.sp + qs g (l.take i)) 65 ∧ Ext w1 w')
    (fun (y : Int × Int × Unit) _ => ((n : Int) - y.2.1).toNat) ⟨0, rfl, by omega, fun x hx => by simp at hx, by show g.sp = min (g.sp + 0) 65; omega, Ext.refl _⟩ ?_
  rintro ⟨(s : Int), (y : Int), ⟨⟩⟩ w2 ⟨i, hy, hi, hok, hs, e2⟩
  dsimp only at hy hs ⊢
  subst hy
  refine cond_d (fun hlt => ?_) (fun hge => ?_)
  · refine (hl.ext (F1.trans e2)).idx (by omega) hlt ?_
    rw [Int.toNat_natCast]
    have hmem : l.getD i 0 ∈ l := by rw [getD_get (by omega)]; exact List.getElem_mem _
    have ht := take_snoc (l := l) (i := i) (by omega)
    have hq := qs_append g (l.take i) [l.getD i 0]
    rw [qs_one] at hq
    have hq0 := qs_nonneg hr hok
    refine ldG (hb.ext e2) ?_
    refine (Quota_c (g := g)).mono ?_
    rintro ⟨(r3 : Int), (r4 : Int), ⟨⟩⟩ w3 ⟨h3, h4, e3⟩
    dsimp only at h3 h4 ⊢
    by_cases hin : 1 ≤ l.getD i 0 ∧ l.getD i 0 ≤ 65535
    · have hz : quoE g (l.getD i 0) = 0 := by unfold quoE; rw [if_pos hr, if_pos hin]
      rw [if_pos hz] at h3
      rw [hz] at h4
      have h3' : r3 = quo g (l.getD i 0) := h3
      have hqb := quo_bd hr hin
      have hok' : szOk (l.take (i + 1)) := by rw [ht]; exact szOk_append.2 ⟨hok, szOk_one.2 hin⟩
      refine cond_f (by rw [h4]; rfl) ⟨Rng.i64 (by omega) (by omega), ?_⟩
      unfold NameI
      intro z hz
      refine ⟨Rng.i64 (by omega) (by omega), ⟨i + 1, by push_cast; rfl, by omega, hok', ?_, e2.trans e3⟩, by omega⟩
      show z = _
      rw [ht, hq]; omega
    · have hz : quoE g (l.getD i 0) = 13 := by unfold quoE; rw [if_pos hr, if_neg hin]
      rw [hz] at h4
      refine cond_t (by rw [h4]; rfl) ⟨?_, F1.trans (e2.trans e3)⟩
      show r4 = _
      rw [h4]
      unfold fitE
      rw [if_pos hr, if_neg (fun h => hin (h _ hmem))]
  · have : i = n := by omega
    subst this
    rw [List.take_of_length_le (by omega)] at hok hs
    have e14 : ¬ (l.length ≤ 4 ∧ g.sp + qs g l ≤ g.b - 4) → ((14 : Int) = fitE g l ∧ Ext w w2) := fun h => ⟨by unfold fitE; rw [if_pos hr, if_pos hok, if_neg h], F1.trans e2⟩
    refine cond_d (fun h4 => e14 (by omega)) (fun h4 => ?_)
    refine (hb.ext e2).ld (i := 0) (h := .int .i64) (x := g.b) rfl ⟨Rng.i64 (by omega) (by omega), ?_⟩
    refine cond_d (fun h5 => e14 (fun h => by omega)) (fun h5 => ⟨?_, F1.trans e2⟩)
    show (0 : Int) = _
    exact (fitE_zero.2 ⟨hr, hok, by omega, by omega⟩).symm

def roomE (g : Geo) (l : List Int) : Int := if fitE g l = 0 ∧ l.length < 4 then min (max 0 ((g.b - 4 - g.sp - 2 - qs g l) * (g.p - 1))) 65535 else 0
theorem Room_c {w : World} {g : Geo} {a : Option Addr} {n c : Nat} {l : List Int} (hl : Ints w .i64 a n c l) :
    CallV Try.prog 46 #[g.val, .slice a n c] w [.one (.int .i64)] fun r w' => r.1 = roomE g l ∧ Ext w w' := by
  refine geometry_Room.vc _ _ _ _ _ _ _ _ _ _ _ ?_
  unfold geometry_Room.P
  have ln := hl.len
  have lim := hl.lim
  refine newG fun b1 w0 e0 hb0 => ?_
  refine ldG hb0 ?_
  refine (Fit_c (g := g) (hl.ext e0)).mono ?_
  rintro ⟨(r1 : Int), ⟨⟩⟩ w1 ⟨h1, e1⟩
  dsimp only at h1 ⊢
  subst h1
  have F1 := e0.trans e1
  have hb := hb0.ext e1
  have no : ¬ (fitE g l = 0 ∧ l.length < 4) → ((0 : Int) = roomE g l ∧ Ext w w1) := fun h => ⟨by unfold roomE; rw [if_neg h], F1⟩
  refine cond_ne (fun h => no (fun hh => h hh.1)) (fun hz' => cond_d (fun h => no (fun hh => by omega)) (fun h4 => ?_))
  obtain ⟨hr, hok, hlen, htot⟩ := fitE_zero.1 hz'
  have hr' := hr
  unfold Right Kept at hr'
  refine hb.ld (i := 0) (h := .int .i64) (x := g.b) rfl ⟨Rng.i64 (by omega) (by omega), ?_⟩
  refine hb.ld (i := 3) (h := .int .i64) (x := g.sp) rfl ⟨Rng.i64 (by omega) (by omega), Rng.i64 (by omega) (by omega), ?_⟩
  refine Loop1 (fun (y : Int × Int × Unit) w' => ∃ i : Nat, y.2.1 = (i : Int) ∧ i ≤ n ∧ y.1 = g.b - 4 - g.sp - 2 - qs g (l.take i) ∧ Ext w1 w')
    (fun (y : Int × Int × Unit) _ => ((n : Int) - y.2.1).toNat) ⟨0, rfl, by omega, by show _ = _ - (0 : Int); omega, Ext.refl _⟩ ?_
  rintro ⟨(s : Int), (y : Int), ⟨⟩⟩ w2 ⟨i, hy, hi, hs, e2⟩
  dsimp only at hy hs ⊢
  subst hy
  have ht0 := qs_take hr hok i
  have hq0 := qs_nonneg hr (l := l.take i) (fun x hx => hok x (List.mem_of_mem_take hx))
  refine cond_d (fun hlt => ?_) (fun hge => ?_)
  · refine (hl.ext (F1.trans e2)).idx (by omega) hlt ?_
    rw [Int.toNat_natCast]
    have hmem : l.getD i 0 ∈ l := by rw [getD_get (by omega)]; exact List.getElem_mem _
    have ht := take_snoc (l := l) (i := i) (by omega)
    have hq := qs_append g (l.take i) [l.getD i 0]
    rw [qs_one] at hq
    have hin := hok _ hmem
    have hqb := quo_bd hr hin
    refine ldG (hb.ext e2) ?_
    refine (Quota_c (g := g)).mono ?_
    rintro ⟨(r3 : Int), (r4 : Int), ⟨⟩⟩ w3 ⟨h3, h4', e3⟩
    dsimp only at h3 h4' ⊢
    have hz : quoE g (l.getD i 0) = 0 := by unfold quoE; rw [if_pos hr, if_pos hin]
    rw [if_pos hz] at h3
    have h3' : r3 = quo g (l.getD i 0) := h3
    refine ⟨Rng.i64 (by omega) (by omega), Rng.i64 (by omega) (by omega), ⟨i + 1, by push_cast; rfl, by omega, ?_, e2.trans e3⟩, by omega⟩
    show s - r3 = _
    rw [ht, hq]; omega
  · have : i = n := by omega
    subst this
    rw [List.take_of_length_le (by omega)] at hs hq0
    refine (hb.ext e2).ld (i := 1) (h := .int .i64) (x := g.p) rfl ⟨Rng.i64 (by omega) (by omega), ?_⟩
    have hm : -62 ≤ s * (g.p - 1) ∧ s * (g.p - 1) ≤ 64 * 31 := by
      by_cases h0 : 0 ≤ s
      · have := mul_bd h0 (show s ≤ 64 by omega) (show (0 : Int) ≤ g.p - 1 by omega) (show g.p - 1 ≤ 31 by omega)
        omega
      · have := mul_bd (show (0 : Int) ≤ -s by omega) (show -s ≤ 2 by omega) (show (0 : Int) ≤ g.p - 1 by omega) (show g.p - 1 ≤ 31 by omega)
        rw [Int.neg_mul] at this
        omega
    refine ⟨Rng.i64 (by omega) (by omega), ?_⟩
    unfold NameI
    intro z hz z2 hz2
    refine ⟨?_, F1.trans e2⟩
    show z2 = _
    unfold roomE
    rw [if_pos ⟨hz', by omega⟩, ← hs, hz2, hz]

end Go.Proofs.Ytimbomieepefcaa.Vc
