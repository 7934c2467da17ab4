/- The contracts of layer 1 (octet): numbers out of bytes, both ways round. -/
import Derived.Test.YtombjhkdakmhpaaC01b
namespace Go.Proofs.Ytombjhkdakmhpaa.Vc
open Go Go.Eng Go.RowKit
set_option linter.unusedVariables false
set_option linter.unusedSimpArgs false

theorem rLittle_c {w : World} {n k : Int} (h0 : 0 ≤ n) (h1 : n < 18446744073709551616) : CallV Try.prog 55 #[.int .u64 n, .int .i64 k] w [.one .sl] fun r w' => Res w w' r.1 (leL n (cl8 k)) := by
  refine ref01_Little.vc _ _ _ _ ?_
  unfold ref01_Little.P
  rintro b w1 rfl rfl
  have hnew := Own.new (w := w) (B := w.heap.size) (e := 5) (sz := 1) (n := 0) (c := 0) (cs := []) (Nat.le_refl _) rfl (Nat.le_refl _) (by omega) oneAll.nil
  have hc8 : (cl8 k : Int) = max 0 (min 8 k) := by unfold cl8; omega
  refine Loop1 (fun (y : Int × SlV × Int × Unit) w' => ∃ i : Nat, y.2.2.1 = i ∧ i ≤ cl8 k ∧ y.1 = n / 256 ^ i ∧ y.2.1.n = i ∧ Ext w w' ∧ Own w' w.heap.size 5 1 y.2.1.a y.2.1.n y.2.1.c ((leL n i).map (Value.int .u8)))
    (fun (y : Int × SlV × Int × Unit) _ => ((8 : Int) - y.2.2.1).toNat) ⟨0, rfl, by omega, by simp, rfl, Ext.alloc _ _, hnew⟩ ?_
  rintro ⟨(m : Int), (s : SlV), (y : Int), ⟨⟩⟩ w' ⟨i, hy, hi, hm, hn, he, ho⟩
  dsimp only at hy hm hn ho ⊢
  subst hy
  have fin : ¬ ((i : Int) < k ∧ (i : Int) < 8) → Res w w' s (leL n (cl8 k)) := by
    intro h
    have : cl8 k = i := by omega
    rw [this]
    exact ⟨he, ho⟩
  refine cond_d (fun hlt => ?_) (fun hge => fin (fun h => hge h.1))
  refine cond_d (fun hlt2 => ?_) (fun hge => fin (fun h => hge h.2))
  have hm0 : 0 ≤ m := by rw [hm]; exact Int.ediv_nonneg h0 (Int.le_of_lt (Int.pow_pos (by omega)))
  have hm1 : m < 18446744073709551616 := by
    rw [hm]
    exact Int.lt_of_le_of_lt (Int.ediv_le_self _ h0) h1
  refine ⟨by omega, ?_⟩
  rintro b2 w2 hb2 hw2
  refine app1 ho he.size (by omega) hb2 hw2 fun a' c' w3 ho3 hb3 => ?_
  have hd : Int.tdiv m 256 = n / 256 ^ (i + 1) := by rw [hm]; exact div_step n h0 i
  have hd2 : Int.tdiv m 256 = m / 256 := Int.tdiv_eq_ediv_of_nonneg hm0
  refine ⟨by omega, Rng.u64 (by omega) (by omega), Rng.i64 (by omega) (by omega), ⟨i + 1, by push_cast; rfl, by omega, hd, by show s.n + 1 = i + 1; omega, Below.trans he hb3, ?_⟩, by omega⟩
  rw [leL_succ, ← hm]
  rw [u8_wrap, Int.tmod_eq_emod_of_nonneg hm0] at ho3
  simpa using ho3

theorem take_rev (xs : List Int) {i : Nat} (h : i < xs.length) : xs.reverse.take (xs.length - 1 - i + 1) = xs.reverse.take (xs.length - 1 - i) ++ [xs.getD i 0] := by
  rw [List.take_succ_eq_append_getElem (by simp; omega), List.getElem_reverse, getD_get h]
  congr 3
  omega

theorem Back_c {w : World} {a : Option Addr} {n c : Nat} {xs : List Int} (hx : Ints w .u8 a n c xs) (hn : n ≤ 70000) :
    CallV Try.prog 54 #[.slice a n c] w [.one .sl] fun r w' => Res w w' r.1 xs.reverse := by
  refine ref01_Back.vc _ _ _ _ _ ?_
  unfold ref01_Back.P
  rintro b w1 rfl rfl
  have hl := hx.len
  refine ⟨Rng.i64 (by omega) (by omega), ?_⟩
  have hnew := Own.new (w := w) (B := w.heap.size) (e := 5) (sz := 1) (n := 0) (c := 0) (cs := []) (Nat.le_refl _) rfl (Nat.le_refl _) (by omega) oneAll.nil
  refine Loop1 (fun (y : SlV × Int × Unit) w' => ∃ j : Nat, y.2.1 = (n : Int) - 1 - j ∧ j ≤ n ∧ y.1.n = j ∧ Ext w w' ∧ Own w' w.heap.size 5 1 y.1.a y.1.n y.1.c ((xs.reverse.take j).map (Value.int .u8)))
    (fun (y : SlV × Int × Unit) _ => (y.2.1 + 1).toNat) ⟨0, (by simp; rfl), by omega, rfl, Ext.alloc _ _, hnew⟩ ?_
  rintro ⟨(s : SlV), (y : Int), ⟨⟩⟩ w' ⟨j, hy, hj, hsn, he, ho⟩
  dsimp only at hy hsn ho ⊢
  refine cond_d (fun hlt => ?_) (fun hge => ?_)
  · refine (hx.ext he).idx (by omega) (by omega) ?_
    rintro b2 w2 hb2 hw2
    refine app1 ho he.size (by omega) hb2 hw2 fun a' c' w3 ho3 hb3 => ?_
    refine ⟨Rng.i64 (by omega) (by omega), ⟨j + 1, by push_cast; omega, by omega, by show s.n + 1 = j + 1; omega, Below.trans he hb3, ?_⟩, by omega⟩
    have := take_rev xs (i := y.toNat) (by omega)
    rw [show xs.length - 1 - y.toNat = j by omega] at this
    rw [this]
    exact ho3
  · have : j = n := by omega
    subst this
    refine ⟨he, ?_⟩
    rw [List.take_of_length_le (by simp; omega)] at ho
    exact ho

theorem rBig_c {w : World} {n k : Int} (h0 : 0 ≤ n) (h1 : n < 18446744073709551616) : CallV Try.prog 43 #[.int .u64 n, .int .i64 k] w [.one .sl] fun r w' => Res w w' r.1 (leL n (cl8 k)).reverse := by
  refine ref01_Big.vc _ _ _ _ ?_
  unfold ref01_Big.P
  refine (rLittle_c h0 h1).mono ?_
  rintro ⟨(s : SlV), ⟨⟩⟩ w1 hr
  have hlen := hr.ints.len
  rw [leL_length] at hlen
  have hc8 : cl8 k ≤ 8 := by unfold cl8; omega
  refine (Back_c hr.ints (by dsimp only at *; omega)).mono ?_
  rintro ⟨(s2 : SlV), ⟨⟩⟩ w2 hr2
  exact hr2.after hr.ext

theorem leN_take {xs : List Int} {i : Nat} (h : i < xs.length) : leN (xs.take (i + 1)) = leN (xs.take i) + 256 ^ i * xs.getD i 0 := by
  rw [List.take_succ_eq_append_getElem h, leN_append, List.length_take, Nat.min_eq_left (by omega), getD_get h]
  simp [leN]
theorem leN_drop {xs : List Int} {i : Nat} (h : i < xs.length) : leN (xs.drop i) = xs.getD i 0 + 256 * leN (xs.drop (i + 1)) := by
  rw [List.drop_eq_getElem_cons h, getD_get h]
  rfl

theorem pow256 {i : Nat} (h : i ≤ 7) : (256 : Int) ^ i ≤ 72057594037927936 := by
  have := pow_mono h
  have e : (256 : Int) ^ 7 = 72057594037927936 := by decide
  omega

theorem rNumLittle_c {w : World} {a : Option Addr} {n c : Nat} {xs : List Int} (hx : Ints w .u8 a n c xs) (hb : Byt xs) :
    CallV Try.prog 57 #[.slice a n c] w [.one (.int .u64)] fun r w' => r.1 = numL xs ∧ w' = w := by
  refine ref01_NumLittle.vc _ _ _ _ _ ?_
  unfold ref01_NumLittle.P
  have hl := hx.len
  have hli := hx.lim
  refine ⟨Rng.i64 (by omega) (by omega), ?_⟩
  intro z1 hz1
  refine Loop1 (fun (y : Int × Int × Unit) w' => -1 ≤ y.2.1 ∧ y.2.1 ≤ z1 ∧ y.1 = leN ((xs.take 8).drop (y.2.1 + 1).toNat) ∧ w' = w) (fun (y : Int × Int × Unit) _ => (y.2.1 + 1).toNat)
    ⟨by dsimp only; omega, Int.le_refl _, by dsimp only; rw [List.drop_of_length_le (by simp; omega)]; rfl, rfl⟩ ?_
  rintro ⟨(m : Int), (y : Int), ⟨⟩⟩ w' ⟨h0, h1, hm, rfl⟩
  dsimp only at h0 h1 hm ⊢
  refine cond_d (fun hge => ?_) (fun hlt => ?_)
  · refine hx.idx (by omega) (by omega) ?_
    have hlt8 : y.toNat < (xs.take 8).length := by simp; omega
    have hd := leN_drop hlt8
    rw [show (y + 1).toNat = y.toNat + 1 by omega] at hm
    rw [← hm] at hd
    have hbd := leN_bd ((hb.take 8).drop (y.toNat + 1))
    rw [← hm] at hbd
    have hpw := pow256 (i := ((xs.take 8).drop (y.toNat + 1)).length) (by simp; omega)
    have hg : (xs.take 8).getD y.toNat 0 = xs.getD y.toNat 0 := by
      rw [getD_get hlt8, getD_get (by simp at hlt8; omega), List.getElem_take]
    have hbx := hb.getD y.toNat
    refine ⟨Rng.i64 (by omega) (by omega), ⟨by omega, by omega, ?_, rfl⟩, by omega⟩
    rw [u64_id (z := m * 256) (by omega) (by omega), u64_id (z := xs.getD y.toNat 0) (by omega) (by omega), u64_id (by omega) (by omega)]
    rw [show (y - 1 + 1).toNat = y.toNat by omega, hd, hg]
    omega
  · refine ⟨?_, rfl⟩
    show m = numL xs
    rw [hm, show (y + 1).toNat = 0 by omega]
    rfl

theorem rNum_c {w : World} {a : Option Addr} {n c : Nat} {xs : List Int} (hx : Ints w .u8 a n c xs) (hb : Byt xs) (hn : n ≤ 70000) :
    CallV Try.prog 52 #[.slice a n c] w [.one (.int .u64)] fun r w' => r.1 = numB xs ∧ Ext w w' := by
  refine ref01_Num.vc _ _ _ _ _ ?_
  unfold ref01_Num.P
  refine (Back_c hx hn).mono ?_
  rintro ⟨(s : SlV), ⟨⟩⟩ w1 hr
  refine (rNumLittle_c hr.ints hb.reverse).mono ?_
  rintro ⟨(v : Int), ⟨⟩⟩ w2 ⟨h1, rfl⟩
  exact ⟨h1, hr.ext⟩

/-- The last eight, the greatest first: round by round. -/
theorem numB_eq (xs : List Int) : numB xs = leN (xs.drop (xs.length - 8)).reverse := by
  unfold numB
  congr 1
  rw [List.take_reverse]

theorem Num_c {w : World} {a : Option Addr} {n c : Nat} {xs : List Int} (hx : Ints w .u8 a n c xs) (hb : Byt xs) :
    CallV Try.prog 49 #[.slice a n c] w [.one (.int .u64)] fun r w' => r.1 = numB xs ∧ w' = w := by
  refine octet_Num.vc _ _ _ _ _ ?_
  unfold octet_Num.P
  have hl := hx.len
  have hli := hx.lim
  have hcap := hx.cap
  refine ⟨Rng.i64 (by omega) (by omega), ?_⟩
  intro z1 hz1
  refine ⟨by omega, ?_⟩
  intro a2 ha2
  have hz : z1.toNat = n - 8 := by omega
  have hs := hx.sub (l := z1.toNat) (hh := n) (m := c) (by omega) (Nat.le_refl _) hcap ha2
  rw [hz] at hs ⊢
  have hys : (xs.drop (n - 8)).take (n - (n - 8)) = xs.drop (n - 8) := List.take_of_length_le (by simp; omega)
  rw [hys] at hs
  have hby := hb.drop (n - 8)
  have hly := hs.len
  rw [numB_eq, hl]
  generalize xs.drop (n - 8) = ys at hs hby hly ⊢
  refine Loop1 (fun (y : Int × Int × Unit) w' => 0 ≤ y.2.1 ∧ y.2.1 ≤ (n - (n - 8) : Nat) ∧ y.1 = leN (ys.take y.2.1.toNat).reverse ∧ w' = w) (fun (y : Int × Int × Unit) _ => (8 - y.2.1).toNat)
    ⟨Int.le_refl _, by dsimp only; omega, rfl, rfl⟩ ?_
  rintro ⟨(m : Int), (y : Int), ⟨⟩⟩ w' ⟨h0, h1, hm, rfl⟩
  dsimp only at h0 h1 hm ⊢
  refine cond_d (fun hlt => ?_) (fun hge => ?_)
  · refine hs.idx h0 hlt ?_
    have hlt8 : y.toNat < ys.length := by omega
    have hbd := leN_bd (hby.take y.toNat).reverse
    rw [← hm] at hbd
    have hpw := pow256 (i := (ys.take y.toNat).reverse.length) (by simp; omega)
    have hbx := hby.getD y.toNat
    refine ⟨by omega, Rng.i64 (by omega) (by omega), ⟨by omega, by omega, ?_, rfl⟩, by omega⟩
    rw [byte_or (by omega) (by omega) hbx.1 hbx.2, show (y + 1).toNat = y.toNat + 1 by omega, List.take_succ_eq_append_getElem hlt8, List.reverse_append]
    simp only [List.reverse_cons, List.reverse_nil, List.nil_append, List.singleton_append, leN]
    rw [← hm, getD_get hlt8]
    omega
  · refine ⟨?_, rfl⟩
    show m = _
    rw [hm, List.take_of_length_le (by omega)]

end Go.Proofs.Ytombjhkdakmhpaa.Vc
