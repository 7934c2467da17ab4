/- The contracts of layer 1 (octet): byte by byte. -/
import Derived.Test.YtombjhkdakmhpaaC01c
namespace Go.Proofs.Ytombjhkdakmhpaa.Vc
open Go Go.Eng Go.RowKit
set_option linter.unusedVariables false
set_option linter.unusedSimpArgs false

/-- The round of a loop that fills a new slice of bytes from the front. -/
theorem fill_round {w0 w : World} {k i : Nat} {S : List Int} {a : Option Addr} {B : Nat} (hS : S.length = k) (hi : i < k) {x : Int} (hx : x = S[i]'(by omega)) {K : World → Prop}
    (ho : Own w B 5 1 a k k ((S.map (Value.int .u8)).take i ++ List.replicate (k - i) (.int .u8 0)))
    (hk : ∀ w', Own w' B 5 1 a k k ((S.map (Value.int .u8)).take (i + 1) ++ List.replicate (k - (i + 1)) (.int .u8 0)) → Below B w w' → K w') :
    (0 ≤ (i : Int) ∧ (i : Int) < (k : Int)) ∧ ∃ q, a = some q ∧ StoreV w (q.add ((i : Int).toNat * 1)) [.int .u8 x] K := by
  refine ho.store (by omega) (by omega) rfl fun w2 ho2 hb2 _ hs2 => hk w2 ?_ hb2
  have hset := set_step (S.map (Value.int .u8)) (.int .u8 0) (by simpa using hS) hi
  rw [Int.toNat_natCast] at ho2
  rw [← hset, map_get, ← hx]
  exact ho2

theorem rXor_c {w : World} {a b : Option Addr} {n c m d : Nat} {xs ys : List Int} (hx : Ints w .u8 a n c xs) (hy : Ints w .u8 b m d ys) (hnm : n ≤ m) (hn : n ≤ 70000) :
    CallV Try.prog 58 #[.slice a n c, .slice b m d] w [.one .sl] fun r w' => Res w w' r.1 (xorL xs ys) := by
  refine ref01_Xor.vc _ _ _ _ _ _ _ _ ?_
  unfold ref01_Xor.P
  have l1 := hx.len
  have l2 := hy.len
  rintro b1 w1 rfl rfl
  have hS : (xorL xs ys).length = n := by rw [xorL_length]; exact l1
  have hnew := Own.new (w := w) (B := w.heap.size) (e := 5) (sz := 1) (n := 0) (c := 0) (cs := []) (Nat.le_refl _) rfl (Nat.le_refl _) (by omega) oneAll.nil
  refine Loop1 (fun (y : SlV × Int × Unit) w' => ∃ i : Nat, y.2.1 = i ∧ i ≤ n ∧ y.1.n = i ∧ Ext w w' ∧ Own w' w.heap.size 5 1 y.1.a y.1.n y.1.c (((xorL xs ys).take i).map (Value.int .u8)))
    (fun (y : SlV × Int × Unit) _ => ((n : Int) - y.2.1).toNat) ⟨0, rfl, by omega, rfl, Ext.alloc _ _, hnew⟩ ?_
  rintro ⟨(s : SlV), (y : Int), ⟨⟩⟩ w' ⟨i, hy', hi, hsn, he, ho⟩
  dsimp only at hy' hsn ho ⊢
  subst hy'
  refine cond_d (fun hlt => ?_) (fun hge => ?_)
  · refine DrawV.base w.heap.size w' fun D hD hkeep => ?_
    have he' := he.trans (Ext.drew w')
    refine hx.idxD he' (by omega) hlt hD ?_
    refine hy.idxD he' (by omega) (by omega) hD ?_
    rintro b2 w2 hb2 hw2
    refine ⟨hkeep _ (by subst hw2; exact (Below.drew (Below.refl _ w')).alloc (by exact he.size) _), ?_⟩
    refine app1 (ho.ext (Ext.drew w')) (by exact he.size) (by omega) hb2 hw2 fun a' c' w3 ho3 hb3 => ?_
    refine ⟨hkeep _ ((Below.drew (Below.refl _ w')).trans hb3), Rng.i64 (by omega) (by omega), ⟨i + 1, by push_cast; rfl, by omega, by show s.n + 1 = i + 1; omega, Below.trans he' hb3, ?_⟩, by omega⟩
    rw [xorL_take_succ _ _ _ (by omega)]
    exact ho3
  · have : i = n := by omega
    subst this
    refine ⟨he, ?_⟩
    rw [List.take_of_length_le (by omega)] at ho
    exact ho

theorem Invert_c {w : World} {a : Option Addr} {n c : Nat} {xs : List Int} (hx : Ints w .u8 a n c xs) (hn : n ≤ 70000) :
    CallV Try.prog 48 #[.slice a n c] w [.one .sl] fun r w' => Res w w' r.1 (invL xs) := by
  refine octet_Invert.vc _ _ _ _ _ ?_
  unfold octet_Invert.P
  have l1 := hx.len
  refine ⟨by omega, ?_⟩
  rintro b1 w1 rfl rfl
  rw [Int.toNat_natCast]
  have hS : (invL xs).length = n := by simpa [invL] using l1
  have hnew := Own.zeros (w := w) (B := w.heap.size) (e := 5) (n := n) (c := n) (z := .int .u8 0) (Nat.le_refl _) (Nat.le_refl _) (by omega) rfl
  refine Loop1 (fun (y : Int × Unit) w' => ∃ i : Nat, y.1 = i ∧ i ≤ n ∧ Ext w w' ∧ Own w' w.heap.size 5 1 (some ⟨w.heap.size, 0, none⟩) n n (((invL xs).map (Value.int .u8)).take i ++ List.replicate (n - i) (.int .u8 0)))
    (fun (y : Int × Unit) _ => ((n : Int) - y.1).toNat) ⟨0, rfl, by omega, Ext.alloc _ _, by simpa using hnew⟩ ?_
  rintro ⟨(y : Int), ⟨⟩⟩ w' ⟨i, hy', hi, he, ho⟩
  dsimp only at hy' ⊢
  subst hy'
  refine cond_d (fun hlt => ?_) (fun hge => ?_)
  · refine (hx.ext he).idx (by omega) hlt ?_
    refine fill_round (w0 := w) (S := invL xs) hS (by omega) (by rw [Int.toNat_natCast, getD_get (by omega)]; simp [invL, xor8]) ho fun w2 ho2 hb2 => ?_
    exact ⟨Rng.i64 (by omega) (by omega), ⟨i + 1, by push_cast; rfl, by omega, Below.trans he hb2, ho2⟩, by omega⟩
  · have : i = n := by omega
    subst this
    refine ⟨he, ?_⟩
    rw [Nat.sub_self, List.replicate_zero, List.append_nil, List.take_of_length_le (by simp; omega)] at ho
    exact ho

theorem rInvert_c {w : World} {a : Option Addr} {n c : Nat} {xs : List Int} (hx : Ints w .u8 a n c xs) (hn : n ≤ 65536) :
    CallV Try.prog 53 #[.slice a n c] w [.one .sl] fun r w' => Res w w' r.1 (invL xs) := by
  refine ref01_Invert.vc _ _ _ _ _ ?_
  unfold ref01_Invert.P
  refine rFill_c.mono ?_
  rintro ⟨(s : SlV), ⟨⟩⟩ w1 hr
  have hk : (max 0 (min 65536 (n : Int))).toNat = n := by omega
  rw [hk] at hr
  have hl := hr.ints.len
  simp only [List.length_replicate] at hl
  refine (rXor_c (hx.ext hr.ext) hr.ints (Nat.le_of_eq hl) (by omega)).mono ?_
  rintro ⟨(s2 : SlV), ⟨⟩⟩ w2 hr2
  have := hr2.after hr.ext
  rw [invL_xor xs n hx.len.symm] at this
  exact this

theorem Same_c {w : World} {a b : Option Addr} {n c m d : Nat} {xs ys : List Int} (hx : Ints w .u8 a n c xs) (hy : Ints w .u8 b m d ys) (bx : Byt xs) (by' : Byt ys) :
    CallV Try.prog 50 #[.slice a n c, .slice b m d] w [.one .bool] fun r w' => r.1 = decide (xs = ys) ∧ Ext w w' := by
  refine octet_Same.vc _ _ _ _ _ _ _ _ ?_
  unfold octet_Same.P
  have l1 := hx.len
  have l2 := hy.len
  have hli := hx.lim
  refine cond_ne (fun hne => ?_) (fun heq => ?_)
  · refine ⟨?_, Ext.refl w⟩
    show false = decide (xs = ys)
    symm
    rw [decide_eq_false_iff_not]
    rintro rfl
    omega
  · refine Loop1 (fun (x : Int × Int × Unit) w' => 0 ≤ x.2.1 ∧ x.2.1 ≤ n ∧ (0 ≤ x.1 ∧ x.1 < 256) ∧ (x.1 = 0 ↔ ∀ j : Nat, j < x.2.1.toNat → xs.getD j 0 = ys.getD j 0) ∧ Ext w w') (fun (x : Int × Int × Unit) _ => ((n : Int) - x.2.1).toNat)
      ⟨Int.le_refl _, by dsimp only; omega, by dsimp only; omega, ⟨fun _ j hj => by dsimp only at hj; omega, fun _ => rfl⟩, Ext.refl w⟩ ?_
    rintro ⟨(u : Int), (i : Int), ⟨⟩⟩ w' ⟨h0, h1, hu, hj, he⟩
    dsimp only at h0 h1 hj hu ⊢
    refine cond_d (fun hlt => ?_) (fun hge => ?_)
    · refine DrawV.any fun D hD => ?_
      have he' := he.trans (Ext.drew w')
      refine hx.idxD he' h0 hlt (fun b _ => hD b) ?_
      refine hy.idxD he' h0 (by omega) (fun b _ => hD b) ?_
      refine ⟨Rng.i64 (by omega) (by omega), ⟨by omega, by omega, bits8_byt _ _ _, ?_, he'⟩, by omega⟩
      have hb := bits8_byt .xor (xs.getD i.toNat 0) (ys.getD i.toNat 0)
      have hz := xor8_zero (bx.getD i.toNat) (by'.getD i.toNat)
      unfold xor8 at hz
      show Go.bits .or .u8 u _ = 0 ↔ _
      rw [or8_zero hu hb, hz, hj]
      constructor
      · rintro ⟨h3, h4⟩ j hj'
        by_cases hji : j = i.toNat
        · rw [hji]; exact h4
        · exact h3 j (by omega)
      · intro h3
        exact ⟨fun j hj' => h3 j (by omega), h3 i.toNat (by omega)⟩
    · refine ⟨?_, he⟩
      show (u == 0) = decide (xs = ys)
      have : (u = 0) ↔ xs = ys := by
        rw [hj]
        constructor
        · intro h
          apply List.ext_getElem (by omega)
          intro j h1 h2
          have := h j (by omega)
          rwa [getD_get h1, getD_get h2] at this
        · rintro rfl j _; rfl
      by_cases hxy : xs = ys
      · simp [hxy, this.2 hxy]
      · have : u ≠ 0 := fun h => hxy (this.1 h)
        simp [hxy, this]

end Go.Proofs.Ytombjhkdakmhpaa.Vc
