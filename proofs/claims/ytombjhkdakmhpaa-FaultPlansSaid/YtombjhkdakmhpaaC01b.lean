/- The contracts of layer 1 (octet), numbers and fills. -/
import Derived.Test.YtombjhkdakmhpaaC01a
import Derived.Test.YtombjhkdakmhpaaPl01
namespace Go.Proofs.Ytombjhkdakmhpaa.Vc
open Go Go.Eng Go.RowKit
set_option linter.unusedVariables false
set_option linter.unusedSimpArgs false

/-- A slice of bytes in new memory. -/
structure Res (w w' : World) (s : SlV) (xs : List Int) : Prop where
  ext : Ext w w'
  own : Own w' w.heap.size 5 1 s.a s.n s.c (xs.map (Value.int .u8))
theorem Res.ints {w w' : World} {s : SlV} {xs : List Int} (h : Res w w' s xs) : Ints w' .u8 s.a s.n s.c xs := h.own.ints
theorem Res.after {w w' w2 : World} {s : SlV} {xs : List Int} (h : Res w w' s xs) (e : Ext w2 w) : Res w2 w' s xs := ⟨e.trans h.ext, h.own.mono e.size⟩

theorem map_get {k : IntKind} {xs : List Int} {i : Nat} (h : i < (xs.map (Value.int k)).length) : (xs.map (Value.int k))[i] = .int k (xs[i]'(by simpa using h)) := by simp

/-- A loop that fills a new slice from the front. -/
theorem Fill_c {w : World} {x n : Int} : CallV Try.prog 51 #[.int .u8 x, .int .i64 n] w [.one .sl] fun r w' => Res w w' r.1 (List.replicate (max 0 (min 65536 n)).toNat x) := by
  refine octet_Fill.vc _ _ _ _ ?_
  unfold octet_Fill.P
  intro z1 hz1 z2 hz2
  refine ⟨by omega, ?_⟩
  rintro b w1 rfl rfl
  have hk : z2 = ((max 0 (min 65536 n)).toNat : Int) := by omega
  have hk2 : (max 0 (min 65536 n)).toNat ≤ 65536 := by omega
  generalize (max 0 (min 65536 n)).toNat = k at hk hk2 ⊢
  subst hk
  clear hz1 hz2
  rw [Int.toNat_natCast]
  have hS : ((List.replicate k x).map (Value.int .u8)).length = k := by simp
  have hnew := Own.zeros (w := w) (B := w.heap.size) (e := 5) (n := k) (c := k) (z := .int .u8 0) (Nat.le_refl _) (Nat.le_refl _) (by omega) rfl
  have hx0 := Ext.alloc w (.cells (List.replicate k [Value.int .u8 0]).flatten.toArray 5)
  refine Loop1 (fun (y : Int × Unit) w' => ∃ i : Nat, y.1 = i ∧ i ≤ k ∧ Ext w w' ∧ Own w' w.heap.size 5 1 (some ⟨w.heap.size, 0, none⟩) k k (((List.replicate k x).map (Value.int .u8)).take i ++ List.replicate (k - i) (.int .u8 0)))
    (fun (y : Int × Unit) _ => ((k : Int) - y.1).toNat) ⟨0, rfl, by omega, hx0, by simpa using hnew⟩ ?_
  rintro ⟨(y : Int), ⟨⟩⟩ w' ⟨i, hy, hi, he, ho⟩
  dsimp only at hy ⊢
  subst hy
  refine cond_d (fun hlt => ?_) (fun hge => ?_)
  · refine ho.store (by omega) (by omega) rfl fun w2 ho2 hb2 _ hs2 => ?_
    refine ⟨Rng.i64 (by omega) (by omega), ⟨i + 1, by push_cast; rfl, by omega, ?_, ?_⟩, by omega⟩
    · exact Below.trans he hb2
    · have := set_step ((List.replicate k x).map (Value.int .u8)) (.int .u8 0) hS (show i < k by omega)
      rw [Int.toNat_natCast] at ho2
      rw [← this]
      simpa using ho2
  · have : i = k := by omega
    subst this
    refine ⟨he, ?_⟩
    have h2 : ((List.replicate i x).map (Value.int .u8)).take i ++ List.replicate (i - i) (Value.int .u8 0) = (List.replicate i x).map (Value.int .u8) := by
      rw [Nat.sub_self, List.replicate_zero, List.append_nil, List.take_of_length_le (by simp)]
    rw [h2] at ho
    exact ho

/-- One element more, of bytes. -/
theorem app1 {w : World} {a : Option Addr} {n c : Nat} {xs : List Int} {x : Int} {B b : Nat} {K : Option Addr → Nat → Nat → World → Prop} {w1 : World} (ho : Own w B 5 1 a n c (xs.map (Value.int .u8))) (hB : B ≤ w.heap.size) (hn : n ≤ 100000000)
    (hb : b = w.heap.size) (hw : w1 = w.alloc (.cells #[.int .u8 x] 5))
    (hk : ∀ a' c' w', Own w' B 5 1 a' (n + 1) c' ((xs ++ [x]).map (Value.int .u8)) → Below B w w' → K a' (n + 1) c' w') :
    AppS w1 (some ⟨b, 0, none⟩) 1 1 fun ns => AppV w1 5 1 1 a n c ns 1 K := by
  subst hb; subst hw
  have hx : Ext w (w.alloc (.cells #[.int .u8 x] 5)) := Ext.alloc _ _
  refine AppS.of (news := [.int .u8 x]) rfl (.inr ⟨_, rfl, CellsAt.new (cs := [.int .u8 x])⟩) ?_
  refine AppV.own (ho.ext hx) (Nat.le_trans hB hx.size) rfl (fun u hu => by rw [List.mem_singleton.1 hu]; rfl) (by omega) (by omega) fun a' c' w' h1 h2 _ _ => ?_
  refine hk a' c' w' ?_ ((Below.mono hx hB).trans h2)
  rw [List.map_append]
  exact h1

theorem rFill_c {w : World} {x n : Int} : CallV Try.prog 29 #[.int .u8 x, .int .i64 n] w [.one .sl] fun r w' => Res w w' r.1 (List.replicate (max 0 (min 65536 n)).toNat x) := by
  refine ref01_Fill.vc _ _ _ _ ?_
  unfold ref01_Fill.P
  generalize hL : (65536 : Int) = L
  rintro b w1 rfl rfl
  have hnew := Own.new (w := w) (B := w.heap.size) (e := 5) (sz := 1) (n := 0) (c := 0) (cs := []) (Nat.le_refl _) rfl (Nat.le_refl _) (by omega) oneAll.nil
  refine Loop1 (fun (y : SlV × Int × Unit) w' => ∃ i : Nat, y.2.1 = i ∧ (i : Int) ≤ max 0 (min L n) ∧ y.1.n = i ∧ Ext w w' ∧ Own w' w.heap.size 5 1 y.1.a y.1.n y.1.c ((List.replicate i x).map (Value.int .u8)))
    (fun (y : SlV × Int × Unit) _ => (L - y.2.1).toNat) ⟨0, rfl, by omega, rfl, Ext.alloc _ _, hnew⟩ ?_
  rintro ⟨(s : SlV), (y : Int), ⟨⟩⟩ w' ⟨i, hy, hi, hn, he, ho⟩
  dsimp only at hy hn ho ⊢
  subst hy
  have fin : ¬ ((i : Int) < n ∧ (i : Int) < L) → Res w w' s (List.replicate (max 0 (min L n)).toNat x) := by
    intro h
    have : (max 0 (min L n)).toNat = i := by omega
    rw [this]
    exact ⟨he, ho⟩
  refine cond_d (fun hlt => ?_) (fun hge => fin (fun h => hge h.1))
  refine cond_d (fun hlt2 => ?_) (fun hge => fin (fun h => hge h.2))
  rintro b2 w2 hb2 hw2
  refine app1 ho he.size (by omega) hb2 hw2 fun a' c' w3 ho3 hb3 => ?_
  refine ⟨Rng.i64 (by omega) (by omega), ⟨i + 1, by push_cast; rfl, by omega, by show s.n + 1 = i + 1; omega, ?_, ?_⟩, by omega⟩
  · exact Below.trans he hb3
  · rw [← List.replicate_succ'] at ho3
    exact ho3

theorem Big_c {w : World} {n k : Int} (h0 : 0 ≤ n) : CallV Try.prog 42 #[.int .u64 n, .int .i64 k] w [.one .sl] fun r w' => Res w w' r.1 (leL n (cl8 k)).reverse := by
  refine octet_Big.vc _ _ _ _ ?_
  unfold octet_Big.P
  intro z1 hz1 z2 hz2
  refine ⟨by omega, ?_⟩
  rintro b w1 rfl rfl
  have hk : z2 = (cl8 k : Int) := by unfold cl8; omega
  have hk2 : cl8 k ≤ 8 := by unfold cl8; omega
  generalize cl8 k = m at hk hk2 ⊢
  subst hk
  clear hz1 hz2
  rw [Int.toNat_natCast]
  have hS : ((leL n m).reverse.map (Value.int .u8)).length = m := by simp [leL]
  have hnew := Own.zeros (w := w) (B := w.heap.size) (e := 5) (n := m) (c := m) (z := .int .u8 0) (Nat.le_refl _) (Nat.le_refl _) (by omega) rfl
  have hx0 := Ext.alloc w (.cells (List.replicate m [Value.int .u8 0]).flatten.toArray 5)
  refine Loop1 (fun (y : Int × Unit) w' => ∃ i : Nat, y.1 = i ∧ i ≤ m ∧ Ext w w' ∧ Own w' w.heap.size 5 1 (some ⟨w.heap.size, 0, none⟩) m m (List.replicate (m - i) (.int .u8 0) ++ ((leL n m).reverse.map (Value.int .u8)).drop (m - i)))
    (fun (y : Int × Unit) _ => ((m : Int) - y.1).toNat) ⟨0, rfl, by omega, hx0, by rw [Nat.sub_zero, List.drop_of_length_le (by omega), List.append_nil]; exact hnew⟩ ?_
  rintro ⟨(y : Int), ⟨⟩⟩ w' ⟨i, hy, hi, he, ho⟩
  dsimp only at hy ⊢
  subst hy
  refine cond_d (fun hlt => ?_) (fun hge => ?_)
  · refine ⟨Rng.i64 (by omega) (by omega), Rng.i64 (by omega) (by omega), Rng.i64 (by omega) (by omega), by omega, ?_⟩
    refine ho.store (by omega) (by omega) rfl fun w2 ho2 hb2 _ hs2 => ?_
    refine ⟨Rng.i64 (by omega) (by omega), ⟨i + 1, by push_cast; rfl, by omega, Below.trans he hb2, ?_⟩, by omega⟩
    have hset := set_back ((leL n m).reverse.map (Value.int .u8)) (.int .u8 0) hS (show i < m by omega)
    rw [show ((m : Int) - 1 - (i : Int)).toNat = m - 1 - i by omega] at ho2
    rw [← hset]
    have hv : IntKind.u8.wrap (Int.fdiv n (2 ^ (Nat.min (((8 : Int) * (i : Int))).toNat 64))) = (leL n m).reverse[m - 1 - i]'(by simp [leL_length]; omega) := by
      rw [List.getElem_reverse, leL_get, u8_wrap, fdiv_pos (by rw [pow8 i (by omega)]; exact Int.le_of_lt (Int.pow_pos (by omega))), pow8 i (by omega)]
      have : (leL n m).length - 1 - (m - 1 - i) = i := by rw [leL_length]; omega
      rw [this]
    rw [map_get, ← hv]
    exact ho2
  · have : i = m := by omega
    subst this
    refine ⟨he, ?_⟩
    rw [Nat.sub_self, List.replicate_zero, List.nil_append, List.drop_zero] at ho
    exact ho

end Go.Proofs.Ytombjhkdakmhpaa.Vc
