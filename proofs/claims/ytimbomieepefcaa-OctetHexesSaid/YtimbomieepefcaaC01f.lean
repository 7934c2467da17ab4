/- The contracts of layer 1 (octet): texts as bytes, and the law OctetHexes. -/
import Derived.Test.YtimbomieepefcaaL01a
namespace Go.Proofs.Ytimbomieepefcaa.Vc
open Go Go.Eng Go.RowKit
set_option linter.unusedVariables false
set_option linter.unusedSimpArgs false

/-- A text's bytes as whole numbers. -/
def bl (s : ByteArray) : List Int := s.data.toList.map fun b => (b.toNat : Int)
theorem bl_length (s : ByteArray) : (bl s).length = s.size := by simp [bl]
theorem bl_byt (s : ByteArray) : Byt (bl s) := by
  intro x hx
  obtain ⟨b, _, rfl⟩ := List.mem_map.1 hx
  have := b.toNat_lt
  omega
theorem bl_get (s : ByteArray) {i : Nat} (h : i < s.size) : ∃ b : UInt8, s[i]? = some b ∧ (b.toNat : Int) = (bl s).getD i 0 := by
  refine ⟨s[i], by rw [getElem?_pos s i h], ?_⟩
  rw [getD_get (by rw [bl_length]; exact h)]
  simp only [bl, List.getElem_map, Array.getElem_toList]
  rfl
theorem bl_push (s : ByteArray) (b : UInt8) : bl (s.push b) = bl s ++ [(b.toNat : Int)] := by simp [bl, ByteArray.push]
theorem bl_strOf_aux {ns : List Int} (hb : Byt ns) : bl (strOf ns) = ns := by
  have key : ∀ (k : Nat) (ns : List Int), ns.length = k → Byt ns → bl (strOf ns) = ns := by
    intro k
    induction k with
    | zero => intro ns h _; have := List.length_eq_zero_iff.1 h; subst this; rfl
    | succ k ih =>
      intro ns h hb
      have hne : ns ≠ [] := fun e => by rw [e] at h; simp at h
      have e := List.dropLast_concat_getLast hne
      have hbl : Byt ns.dropLast := fun x hx => hb x (List.dropLast_subset _ hx)
      have hlast := hb _ (List.getLast_mem hne)
      rw [← e, strOf_snoc, bl_push, ih _ (by simp [h]) hbl]
      congr 2
      have : (UInt8.ofNat (ns.getLast hne).toNat).toNat = (ns.getLast hne).toNat := by rw [UInt8.toNat_ofNat_of_lt' (by show _ < 256; omega)]
      rw [this]; omega
  exact key _ ns rfl hb
theorem strOf_size (ns : List Int) (hb : Byt ns) : (strOf ns).size = ns.length := by rw [← bl_length, bl_strOf_aux hb]

theorem hexL_byt (xs : List Int) : Byt (hexL xs) := by
  intro y hy
  obtain ⟨x, _, hx⟩ := List.mem_flatMap.1 hy
  simp only [List.mem_cons, List.not_mem_nil, or_false] at hx
  rcases hx with rfl | rfl <;> exact hexD_byt _

theorem ext1 : ∀ q : Fin 16, ((⟨#[48, 49, 50, 51, 52, 53, 54, 55, 56, 57, 97, 98, 99, 100, 101, 102]⟩ : ByteArray).extract q.val (q.val + 1)) = ⟨#[UInt8.ofNat (hexD (q.val : Int)).toNat]⟩ := by decide +kernel
theorem push1 (s : ByteArray) (b : UInt8) : s ++ (⟨#[b]⟩ : ByteArray) = s.push b := by
  apply ByteArray.ext
  simp [ByteArray.data_append, ByteArray.push]

/-- One digit behind a text. -/
theorem ext_at {q : Int} (h0 : 0 ≤ q) (h1 : q < 16) : ((⟨#[48, 49, 50, 51, 52, 53, 54, 55, 56, 57, 97, 98, 99, 100, 101, 102]⟩ : ByteArray).extract q.toNat (q + 1).toNat) = ⟨#[UInt8.ofNat (hexD q).toNat]⟩ := by
  have := ext1 ⟨q.toNat, by omega⟩
  rw [show ((q.toNat : Nat) : Int) = q by omega] at this
  rw [show (q + 1).toNat = q.toNat + 1 by omega]
  exact this
theorem push_size (s : ByteArray) (b : UInt8) : (s.push b).size = s.size + 1 := by
  show (s.data.push b).size = _
  rw [Array.size_push]
  rfl
theorem rng8 {z : Int} (h0 : 0 ≤ z) (h1 : z ≤ 255) : Rng .u8 z :=
  ⟨by simpa [IntKind.min, IntKind.signed, IntKind.bits] using h0, by simpa [IntKind.max, IntKind.signed, IntKind.bits] using h1⟩

theorem rHex_c {w : World} {a : Option Addr} {n c : Nat} {xs : List Int} (hx : Ints w .u8 a n c xs) (bx : Byt xs) (hn : n ≤ 70000) :
    CallV Try.prog 37 #[.slice a n c] w [.one .str] fun r w' => r.1 = strOf (hexL xs) ∧ Ext w w' := by
  refine ref01_Hex.vc _ _ _ _ _ ?_
  unfold ref01_Hex.P
  have l1 := hx.len
  refine Loop1 (fun (y : ByteArray × Int × Unit) w' => ∃ i : Nat, y.2.1 = i ∧ i ≤ n ∧ Ext w w' ∧ y.1 = strOf (hexL (xs.take i)))
    (fun (y : ByteArray × Int × Unit) _ => ((n : Int) - y.2.1).toNat) ⟨0, rfl, by omega, Ext.refl _, rfl⟩ ?_
  rintro ⟨(s : ByteArray), (y : Int), ⟨⟩⟩ w' ⟨i, hy', hi, he, hs⟩
  dsimp only at hy' hs ⊢
  subst hy'
  refine cond_d (fun hlt => ?_) (fun hge => ?_)
  · refine DrawV.any fun D hD => ?_
    have he' := he.trans (Ext.drew w')
    have hb := bx.getD i
    have hss : s.size = 2 * i := by rw [hs, strOf_size _ (hexL_byt _), hexL_length, List.length_take, l1, Nat.min_eq_left hi]
    have hd : Int.tdiv (xs.getD i 0) 16 = xs.getD i 0 / 16 := Int.tdiv_eq_ediv_of_nonneg hb.1
    have hm : Int.tmod (xs.getD i 0) 16 = xs.getD i 0 % 16 := Int.tmod_eq_emod_of_nonneg hb.1
    have e1 := Int.toNat_natCast i
    refine hx.idxD he' (by omega) hlt (fun b _ => hD b) ?_
    rw [e1, hd]
    generalize hX : xs.getD i 0 = X at *
    refine ⟨by omega, rng8 (by omega) (by omega), ?_⟩
    refine hx.idxD he' (by omega) hlt (fun b _ => hD b) ?_
    rw [e1, hX, hd]
    have hw1 : IntKind.u8.wrap (X / 16 + 1) = X / 16 + 1 := by rw [u8_wrap]; omega
    have hw2 : IntKind.u8.wrap (X % 16 + 1) = X % 16 + 1 := by rw [u8_wrap]; omega
    rw [hw1, ext_at (by omega) (by omega), push1]
    refine ⟨by omega, rng8 (by omega) (by omega), ⟨by omega, by omega, by
      show X / 16 + 1 ≤ ((16 : Nat) : Int)
      omega⟩, by
      show ((s.size + 1 : Nat) : Int) ≤ _
      omega, ?_⟩
    refine hx.idxD he' (by omega) hlt (fun b _ => hD b) ?_
    rw [e1, hX, hm]
    refine ⟨by omega, ?_⟩
    refine hx.idxD he' (by omega) hlt (fun b _ => hD b) ?_
    rw [e1, hX, hm, hw2, ext_at (by omega) (by omega), push1]
    refine ⟨by omega, ⟨by omega, by omega, by
      show X % 16 + 1 ≤ ((16 : Nat) : Int)
      omega⟩, by
      show (((s.push _).size + 1 : Nat) : Int) ≤ _
      rw [push_size]; omega, Rng.i64 (by omega) (by omega), ⟨i + 1, by push_cast; rfl, by omega, he', ?_⟩, by omega⟩
    rw [List.take_succ_eq_append_getElem (by omega), hexL_append, hs]
    rw [← getD_get (by omega : i < xs.length), hX]
    show _ = strOf (hexL (xs.take i) ++ [hexD (X / 16), hexD (X % 16)])
    rw [show hexL (xs.take i) ++ [hexD (X / 16), hexD (X % 16)] = (hexL (xs.take i) ++ [hexD (X / 16)]) ++ [hexD (X % 16)] by simp, strOf_snoc, strOf_snoc]
  · have : i = n := by omega
    subst this
    rw [List.take_of_length_le (by omega)] at hs
    exact ⟨hs, he⟩

/-! ### Values of digits -/
def valD (c : Int) : Int := if 48 ≤ c ∧ c ≤ 57 then c - 48 else if 97 ≤ c ∧ c ≤ 102 then c - 87 else 16
def good (l : List Int) : Prop := ∀ c ∈ l, valD c < 16
instance (l : List Int) : Decidable (good l) := by unfold good; infer_instance
def unh : List Int → List Int
  | a :: b :: t => (16 * valD a + valD b) :: unh t
  | _ => []
theorem unh_snoc (a b : Int) : ∀ (k : Nat) (l : List Int), l.length = 2 * k → unh (l ++ [a, b]) = unh l ++ [16 * valD a + valD b]
  | 0, l, h => by have := List.length_eq_zero_iff.1 (by omega : l.length = 0); subst this; rfl
  | k + 1, [], h => by simp at h
  | k + 1, [x], h => by simp at h; omega
  | k + 1, x :: y :: t, h => by
    have := unh_snoc a b k t (by simp at h; omega)
    simp [unh, this]
theorem valD_bd {c : Int} : 0 ≤ valD c ∧ valD c ≤ 16 := by unfold valD; split <;> (try split) <;> omega
theorem valD_hexD : ∀ q : Fin 16, valD (hexD (q.val : Int)) = (q.val : Int) := by decide +kernel
theorem valD_hex {q : Int} (h0 : 0 ≤ q) (h1 : q < 16) : valD (hexD q) = q := by
  have := valD_hexD ⟨q.toNat, by omega⟩
  rw [show ((q.toNat : Nat) : Int) = q by omega] at this
  exact this
theorem good_hexL {xs : List Int} (hb : Byt xs) : good (hexL xs) := by
  intro c hc
  obtain ⟨x, hx, hc⟩ := List.mem_flatMap.1 hc
  have := hb x hx
  simp only [List.mem_cons, List.not_mem_nil, or_false] at hc
  rcases hc with rfl | rfl
  · rw [valD_hex (by omega) (by omega)]; omega
  · rw [valD_hex (by omega) (by omega)]; omega
theorem unh_hexL : ∀ {xs : List Int}, Byt xs → unh (hexL xs) = xs
  | [], _ => rfl
  | x :: xs, hb => by
    have h1 := hb x (List.mem_cons_self ..)
    have ih := unh_hexL (fun y hy => hb y (List.mem_cons_of_mem _ hy) : Byt xs)
    show (16 * valD (hexD (x / 16)) + valD (hexD (x % 16))) :: unh (hexL xs) = _
    rw [ih, valD_hex (by omega) (by omega), valD_hex (by omega) (by omega)]
    congr 1
    omega
theorem unh_length : ∀ (k : Nat) (l : List Int), l.length = 2 * k → (unh l).length = k
  | 0, l, h => by have := List.length_eq_zero_iff.1 (by omega : l.length = 0); subst this; rfl
  | k + 1, [], h => by simp at h
  | k + 1, [x], h => by simp at h; omega
  | k + 1, x :: y :: t, h => by
    have := unh_length k t (by simp at h; omega)
    simp [unh, this]
theorem take2 {l : List Int} {j : Nat} (h : j + 2 ≤ l.length) : l.take (j + 2) = l.take j ++ [l.getD j 0, l.getD (j + 1) 0] := by
  rw [show j + 2 = (j + 1) + 1 from rfl, List.take_succ_eq_append_getElem (by omega), List.take_succ_eq_append_getElem (by omega), getD_get (by omega), getD_get (by omega), List.append_assoc]
  rfl

theorem value_c {w : World} {x : Int} (hx : 0 ≤ x ∧ x < 256) : CallV Try.prog 59 #[.int .u8 x] w [.one (.int .u8)] fun r w' => r.1 = valD x ∧ w' = w := by
  refine octet_value.vc _ _ _ ?_
  have hk : ∀ z : Int, z = valD x → ((z, ()) : Int × Unit).1 = valD x ∧ w = w := fun z h => ⟨h, rfl⟩
  unfold octet_value.P
  rw [u8_wrap, u8_wrap, u8_wrap]
  have A : ∀ z : Int, 48 ≤ x → x ≤ 57 → z = (x - 48) % 256 → z = valD x := fun z _ _ h => by unfold valD; split <;> (try split) <;> omega
  have B : ∀ z : Int, 97 ≤ x → x ≤ 102 → z = ((x - 97) % 256 + 10) % 256 → z = valD x := fun z _ _ h => by unfold valD; split <;> (try split) <;> omega
  have C : (x < 48 ∨ 57 < x) → (x < 97 ∨ 102 < x) → 16 = valD x := fun _ _ => by unfold valD; split <;> (try split) <;> omega
  refine cond_d (fun h1 => cond_d (fun h2 => hk _ (A _ (by omega) (by omega) rfl)) (fun h2 => cond_d (fun h3 => cond_d (fun h4 => hk _ (B _ (by omega) (by omega) rfl)) (fun h4 => hk _ (C (by omega) (by omega)))) (fun h3 => hk _ (C (by omega) (by omega)))))
    (fun h1 => cond_d (fun h3 => cond_d (fun h4 => hk _ (B _ (by omega) (by omega) rfl)) (fun h4 => hk _ (C (by omega) (by omega)))) (fun h3 => hk _ (C (by omega) (by omega))))

theorem or8_hex : ∀ a b : Fin 16, Go.bits .or .u8 (IntKind.u8.wrap ((a.val : Int) * 16)) (b.val : Int) = 16 * (a.val : Int) + (b.val : Int) := by decide +kernel
theorem or8_at {a b : Int} (h0 : 0 ≤ a) (h1 : a < 16) (h2 : 0 ≤ b) (h3 : b < 16) : Go.bits .or .u8 (IntKind.u8.wrap (a * 16)) b = 16 * a + b := by
  have := or8_hex ⟨a.toNat, by omega⟩ ⟨b.toNat, by omega⟩
  rw [show ((a.toNat : Nat) : Int) = a by omega, show ((b.toNat : Nat) : Int) = b by omega] at this
  exact this

theorem Unhex_c {w : World} {s : ByteArray} (hn : s.size ≤ 100000000) :
    CallV Try.prog 38 #[.string s] w [.one .sl, .one (.int .i64)] fun r w' => Ext w w' ∧
      (s.size % 2 = 0 ∧ good (bl s) → Res w w' r.1 (unh (bl s)) ∧ r.2.1 = (0 : Int)) ∧ (¬ (s.size % 2 = 0 ∧ good (bl s)) → r.1 = (⟨none, 0, 0⟩ : SlV) ∧ r.2.1 = (1 : Int)) := by
  refine octet_Unhex.vc _ _ _ ?_
  unfold octet_Unhex.P
  have hm : Int.tmod ((s.size : Nat) : Int) 2 = ((s.size % 2 : Nat) : Int) := by rw [Int.tmod_eq_emod_of_nonneg (by omega)]; omega
  have hd : Int.tdiv ((s.size : Nat) : Int) 2 = ((s.size / 2 : Nat) : Int) := by rw [Int.tdiv_eq_ediv_of_nonneg (by omega)]; omega
  rw [hm, hd]
  refine ⟨by omega, cond_ne (fun h => ?_) (fun h => ?_)⟩
  · exact ⟨Ext.refl _, fun h' => absurd h'.1 (by omega), fun _ => ⟨rfl, rfl⟩⟩
  have hev : s.size % 2 = 0 := by omega
  refine ⟨by omega, Rng.i64 (by omega) (by omega), ⟨by omega, by omega, by omega, by omega⟩, ?_⟩
  rintro b1 w1 rfl rfl
  rw [Int.toNat_natCast]
  have hnew := Own.zeros (w := w) (B := w.heap.size) (e := 5) (n := 0) (c := s.size / 2) (z := .int .u8 0) (Nat.le_refl _) (Nat.zero_le _) (by omega) rfl
  have hbl := bl_length s
  refine Loop1 (fun (y : SlV × Int × Unit) w' => ∃ i : Nat, y.2.1 = ((2 * i : Nat) : Int) ∧ 2 * i ≤ s.size ∧ y.1.n = i ∧ Ext w w' ∧ good ((bl s).take (2 * i)) ∧ Own w' w.heap.size 5 1 y.1.a y.1.n y.1.c ((unh ((bl s).take (2 * i))).map (Value.int .u8)))
    (fun (y : SlV × Int × Unit) _ => ((s.size : Int) - y.2.1).toNat) ⟨0, rfl, by omega, rfl, Ext.alloc _ _, fun c hc => by simp at hc, hnew⟩ ?_
  rintro ⟨(v : SlV), (y : Int), ⟨⟩⟩ w' ⟨i, hy', hi, hsn, he, hg, ho⟩
  dsimp only at hy' hsn ho ⊢
  subst hy'
  refine cond_d (fun hlt => ?_) (fun hge => ?_)
  · refine DrawV.base w.heap.size w' fun D hD hkeep => ?_
    obtain ⟨c1, hc1, hv1⟩ := bl_get s (i := 2 * i) (by omega)
    obtain ⟨c2, hc2, hv2⟩ := bl_get s (i := 2 * i + 1) (by omega)
    have he' := he.trans (Ext.drew w')
    have ho' := ho.ext (Ext.drew w')
    refine ⟨⟨by omega, hlt⟩, c1, by rw [Int.toNat_natCast]; exact hc1, Rng.i64 (by omega) (by omega), ⟨by omega, by omega⟩, c2, by rw [show (((2 * i : Nat) : Int) + 1).toNat = 2 * i + 1 by omega]; exact hc2, ?_⟩
    have b1 := (bl_byt s).getD (2 * i)
    have b2 := (bl_byt s).getD (2 * i + 1)
    rw [hv1, hv2]
    have m1 : (bl s).getD (2 * i) 0 ∈ bl s := by rw [getD_get (by omega)]; exact List.getElem_mem _
    have m2 : (bl s).getD (2 * i + 1) 0 ∈ bl s := by rw [getD_get (by omega)]; exact List.getElem_mem _
    have t2 := take2 (l := bl s) (j := 2 * i) (by omega)
    generalize (bl s).getD (2 * i) 0 = C1 at *
    generalize (bl s).getD (2 * i + 1) 0 = C2 at *
    refine (value_c b1).mono ?_
    rintro ⟨(r1 : Int), ⟨⟩⟩ w2 ⟨h1, rfl⟩
    refine ⟨hkeep _ (Below.drew (Below.refl _ _)), ?_⟩
    refine (value_c b2).mono ?_
    rintro ⟨(r2 : Int), ⟨⟩⟩ w3 ⟨h2, rfl⟩
    refine ⟨hkeep _ (Below.drew (Below.refl _ _)), ?_⟩
    dsimp only at h1 h2 ⊢
    subst h1; subst h2
    refine cond_d (fun hb => ?_) (fun hb1 => ?_)
    · exact ⟨he', fun h' => absurd (h'.2 _ m1) (by omega), fun _ => ⟨rfl, rfl⟩⟩
    refine cond_d (fun hb => ?_) (fun hb2 => ?_)
    · exact ⟨he', fun h' => absurd (h'.2 _ m2) (by omega), fun _ => ⟨rfl, rfl⟩⟩
    have v1 := valD_bd (c := C1)
    have v2 := valD_bd (c := C2)
    refine ⟨by omega, ?_⟩
    rintro b4 w4 hb4 hw4
    rw [or8_at (by omega) (by omega) (by omega) (by omega)] at hw4
    refine app1 ho' he'.size (by omega) hb4 hw4 fun a' c' w5 ho5 hb5 => ?_
    refine ⟨Rng.i64 (by omega) (by omega), ⟨i + 1, by push_cast; omega, by omega, by show v.n + 1 = i + 1; omega, Below.trans he' hb5, ?_, ?_⟩, by omega⟩
    · rw [show 2 * (i + 1) = 2 * i + 2 by omega, t2]
      intro c hc
      rcases List.mem_append.1 hc with h | h
      · exact hg c h
      · simp only [List.mem_cons, List.not_mem_nil, or_false] at h
        rcases h with rfl | rfl <;> omega
    · rw [show 2 * (i + 1) = 2 * i + 2 by omega, t2, unh_snoc _ _ i _ (by simp; omega)]
      exact ho5
  · have e2 : 2 * i = s.size := by omega
    rw [List.take_of_length_le (by omega)] at ho hg
    exact ⟨he, fun _ => ⟨⟨he, ho⟩, rfl⟩, fun h => absurd ⟨hev, hg⟩ h⟩

end Go.Proofs.Ytimbomieepefcaa.Vc
