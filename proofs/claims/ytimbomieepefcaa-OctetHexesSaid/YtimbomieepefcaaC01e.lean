/- The contracts of layer 1 (octet): texts of digits, and whether the program answers. -/
import Derived.Test.YtimbomieepefcaaC01d
namespace Go.Proofs.Ytimbomieepefcaa.Vc
open Go Go.Eng Go.RowKit
set_option linter.unusedVariables false
set_option linter.unusedSimpArgs false

def digitsL : List Int := [48, 49, 50, 51, 52, 53, 54, 55, 56, 57, 97, 98, 99, 100, 101, 102]
def hexD (m : Int) : Int := digitsL.getD m.toNat 0
theorem hexD_byt (m : Int) : 0 ≤ hexD m ∧ hexD m < 256 := Byt.getD (by unfold Byt; decide) _
def strOf (ns : List Int) : ByteArray := ns.foldl (fun r m => r.push (UInt8.ofNat m.toNat)) ByteArray.empty
def hexL (xs : List Int) : List Int := xs.flatMap fun x => [hexD (x / 16), hexD (x % 16)]
theorem hexL_append (xs ys : List Int) : hexL (xs ++ ys) = hexL xs ++ hexL ys := by simp [hexL]
theorem strOf_snoc (ns : List Int) (m : Int) : strOf (ns ++ [m]) = (strOf ns).push (UInt8.ofNat m.toNat) := by simp [strOf]
theorem hexL_length (xs : List Int) : (hexL xs).length = 2 * xs.length := by
  induction xs with
  | nil => rfl
  | cons x xs ih => simp only [hexL, List.flatMap_cons, List.length_append, List.length_cons, List.length_nil] at *; omega

theorem and15 : ∀ x : Fin 256, Go.bits .and .u8 ((x.val : Nat) : Int) 15 = ((x.val : Nat) : Int) % 16 := by decide +kernel

theorem digit_c {w : World} {x : Int} (hx : 0 ≤ x ∧ x < 256) : CallV Try.prog 58 #[.int .u8 x] w [.one (.int .u8)] fun r w' => r.1 = hexD (x % 16) ∧ w' = w := by
  refine octet_digit.vc _ _ _ ?_
  unfold octet_digit.P
  obtain ⟨y, rfl⟩ := byte_nat hx
  rw [and15 y]
  have h0 : 0 ≤ (y.val : Int) % 16 := Int.emod_nonneg _ (by omega)
  have h1 : (y.val : Int) % 16 < 16 := Int.emod_lt_of_pos _ (by omega)
  refine ⟨⟨h0, h1⟩, hexD ((y.val : Int) % 16), ?_, rfl, rfl⟩
  have key : ∀ k : Fin 16, (digitsL.map (Value.int .u8))[k.val * 1]? = some (Value.int .u8 (hexD (k.val : Int))) := by
    intro k
    rw [Nat.mul_one, List.getElem?_map]
    unfold hexD
    rw [Int.toNat_natCast, getD_get (by exact k.isLt), List.getElem?_eq_getElem (by exact k.isLt)]
    rfl
  have := key ⟨((y.val : Int) % 16).toNat, by omega⟩
  rw [Int.toNat_of_nonneg h0] at this
  exact this

theorem app2 {w : World} {a : Option Addr} {n c : Nat} {xs : List Int} {x y : Int} {B b : Nat} {K : Option Addr → Nat → Nat → World → Prop} {w1 : World} (ho : Own w B 5 1 a n c (xs.map (Value.int .u8))) (hB : B ≤ w.heap.size) (hn : n ≤ 100000000)
    (hb : b = w.heap.size) (hw : w1 = w.alloc (.cells #[.int .u8 x, .int .u8 y] 5))
    (hk : ∀ a' c' w', Own w' B 5 1 a' (n + 2) c' ((xs ++ [x, y]).map (Value.int .u8)) → Below B w w' → K a' (n + 2) c' w') :
    AppS w1 (some ⟨b, 0, none⟩) 2 1 fun ns => AppV w1 5 1 1 a n c ns 2 K := by
  subst hb; subst hw
  have hx : Ext w (w.alloc (.cells #[.int .u8 x, .int .u8 y] 5)) := Ext.alloc _ _
  refine AppS.of (news := [x, y].map (Value.int .u8)) rfl (.inr ⟨_, rfl, CellsAt.new (cs := [.int .u8 x, .int .u8 y])⟩) ?_
  refine AppV.own (ho.ext hx) (Nat.le_trans hB hx.size) rfl (oneAll.ints _ _) (by omega) (by omega) fun a' c' w' h1 h2 _ _ => ?_
  refine hk a' c' w' ?_ ((Below.mono hx hB).trans h2)
  rw [List.map_append]
  exact h1

theorem Hex_c {w : World} {a : Option Addr} {n c : Nat} {xs : List Int} (hx : Ints w .u8 a n c xs) (bx : Byt xs) (hn : n ≤ 70000) :
    CallV Try.prog 36 #[.slice a n c] w [.one .str] fun r w' => r.1 = strOf (hexL xs) ∧ Ext w w' := by
  refine octet_Hex.vc _ _ _ _ _ ?_
  unfold octet_Hex.P
  have l1 := hx.len
  refine ⟨by omega, ?_⟩
  rintro b1 w1 rfl rfl
  rw [Int.toNat_natCast]
  have hnew := Own.zeros (w := w) (B := w.heap.size) (e := 5) (n := 0) (c := n) (z := .int .u8 0) (Nat.le_refl _) (Nat.zero_le _) (by omega) rfl
  refine Loop1 (fun (y : SlV × Int × Unit) w' => ∃ i : Nat, y.2.1 = i ∧ i ≤ n ∧ y.1.n = 2 * i ∧ Ext w w' ∧ Own w' w.heap.size 5 1 y.1.a y.1.n y.1.c ((hexL (xs.take i)).map (Value.int .u8)))
    (fun (y : SlV × Int × Unit) _ => ((n : Int) - y.2.1).toNat) ⟨0, rfl, by omega, rfl, Ext.alloc _ _, hnew⟩ ?_
  rintro ⟨(s : SlV), (y : Int), ⟨⟩⟩ w' ⟨i, hy', hi, hsn, he, ho⟩
  dsimp only at hy' hsn ho ⊢
  subst hy'
  refine cond_d (fun hlt => ?_) (fun hge => ?_)
  · refine (hx.ext he).idx (by omega) hlt ?_
    have hb := bx.getD i
    rw [Int.toNat_natCast]
    refine ⟨by omega, ?_⟩
    have hf : Int.fdiv (xs.getD i 0) 16 = xs.getD i 0 / 16 := fdiv_pos (by omega)
    refine (digit_c (by omega)).mono ?_
    rintro ⟨(r1 : Int), ⟨⟩⟩ w2 ⟨h1, rfl⟩
    refine (digit_c hb).mono ?_
    rintro ⟨(r2 : Int), ⟨⟩⟩ w3 ⟨h2, rfl⟩
    dsimp only at h1 h2 ⊢
    rintro b2 w4 hb2 hw4
    refine app2 ho he.size (by omega) hb2 hw4 fun a' c' w5 ho5 hb5 => ?_
    refine ⟨Rng.i64 (by omega) (by omega), ⟨i + 1, by push_cast; rfl, by omega, by show s.n + 2 = 2 * (i + 1); omega, Below.trans he hb5, ?_⟩, by omega⟩
    rw [List.take_succ_eq_append_getElem (by omega), hexL_append]
    rw [h1, h2, hf, show xs.getD i 0 / 16 % 16 = xs.getD i 0 / 16 by omega, getD_get (by omega)] at ho5
    exact ho5
  · have : i = n := by omega
    subst this
    rw [List.take_of_length_le (by omega)] at ho
    refine ⟨hexL xs, by rw [hexL_length]; omega, ?_, rfl, he⟩
    rcases ho.ints.rd with ⟨h1, h2⟩ | ⟨p, h1, h2⟩
    · refine .inl ⟨h1, ?_⟩
      have := ho.len
      rw [h2] at this
      simp at this
      exact this.symm ▸ rfl
    · exact .inr ⟨p, h1, h2⟩

theorem awake01_c {w : World} : CallV Try.prog 15 #[] w [.one .bool] fun r w' => r.1 = true ∧ Ext w w' := by
  refine law01_awake.vc _ _ ?_
  unfold law01_awake.P
  rintro b1 w1 rfl rfl
  have i1 : Ints (w.alloc (.cells #[.int .u8 26] 5)) .u8 (some ⟨w.heap.size, 0, none⟩) 1 1 [26] := ⟨rfl, Nat.le_refl _, by omega, .inr ⟨_, rfl, CellsAt.new (cs := [.int .u8 26])⟩⟩
  refine (Hex_c i1 (by unfold Byt; decide) (by omega)).mono ?_
  rintro ⟨(r1 : ByteArray), ⟨⟩⟩ w2 ⟨h1, e1⟩
  dsimp only at h1 ⊢
  subst h1
  refine cond_t (by decide +kernel) ?_
  rintro b2 w3 rfl rfl
  have i2 : Ints (w2.alloc (.cells #[.int .u8 1, .int .u8 2] 5)) .u8 (some ⟨w2.heap.size, 0, none⟩) 2 2 [1, 2] := ⟨rfl, Nat.le_refl _, by omega, .inr ⟨_, rfl, CellsAt.new (cs := [.int .u8 1, .int .u8 2])⟩⟩
  refine (Num_c i2 (by unfold Byt; decide)).mono ?_
  rintro ⟨(r2 : Int), ⟨⟩⟩ w4 ⟨h2, rfl⟩
  dsimp only at h2 ⊢
  subst h2
  refine ⟨?_, (Ext.alloc w _).trans (e1.trans (Ext.alloc w2 _))⟩
  show (numB [1, 2] == (258 : Int)) = true
  decide +kernel

end Go.Proofs.Ytimbomieepefcaa.Vc
