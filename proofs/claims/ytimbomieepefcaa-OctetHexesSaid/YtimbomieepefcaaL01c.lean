/- The law OctetHexes of layer 1: each call gives true, and what it read stays. -/
import Derived.Test.YtimbomieepefcaaC01f
namespace Go.Proofs.Ytimbomieepefcaa.Vc
open Go Go.Eng Go.RowKit
set_option linter.unusedVariables false
set_option linter.unusedSimpArgs false

theorem dig_val : ∀ k : Fin 16, ∀ c : Fin 256, (digitsL.getD k.val 0 = (c.val : Int)) ↔ valD (c.val : Int) = (k.val : Int) := by decide +kernel
theorem dig_get : ∀ k : Fin 16, ∃ b : UInt8, (⟨#[48, 49, 50, 51, 52, 53, 54, 55, 56, 57, 97, 98, 99, 100, 101, 102]⟩ : ByteArray)[k.val]? = some b ∧ (b.toNat : Int) = digitsL.getD k.val 0 := by
  intro k
  have h := bl_get (⟨#[48, 49, 50, 51, 52, 53, 54, 55, 56, 57, 97, 98, 99, 100, 101, 102]⟩ : ByteArray) (i := k.val) (by exact k.isLt)
  exact h

theorem rUnhex_c {w : World} {s : ByteArray} (hn : s.size ≤ 100000000) :
    CallV Try.prog 39 #[.string s] w [.one .sl, .one .bool] fun r w' => Ext w w' ∧
      (s.size % 2 = 0 ∧ good (bl s) → Res w w' r.1 (unh (bl s)) ∧ r.2.1 = true) ∧ (¬ (s.size % 2 = 0 ∧ good (bl s)) → r.2.1 = false) := by
  refine ref01_Unhex.vc _ _ _ ?_
  unfold ref01_Unhex.P
  rintro b1 w1 rfl rfl
  have hnew := Own.zeros (w := w) (B := w.heap.size) (e := 5) (n := 0) (c := 0) (z := .int .u8 0) (Nat.le_refl _) (Nat.zero_le _) (by omega) rfl
  have hbl := bl_length s
  refine Loop1 (fun (y : SlV × Int × Int × Unit) w' => ∃ i : Nat, y.2.2.1 = (i : Int) ∧ i ≤ s.size ∧ y.1.n = i / 2 ∧ (i % 2 = 1 → y.2.1 = valD ((bl s).getD (i - 1) 0)) ∧ Ext w w' ∧ good ((bl s).take i) ∧ Own w' w.heap.size 5 1 y.1.a y.1.n y.1.c ((unh ((bl s).take (2 * (i / 2)))).map (Value.int .u8)))
    (fun (y : SlV × Int × Int × Unit) _ => ((s.size : Int) - y.2.2.1).toNat) ⟨0, rfl, by omega, rfl, fun h => absurd h (by omega), Ext.alloc _ _, fun c hc => by simp at hc, hnew⟩ ?_
  rintro ⟨(v : SlV), (hf : Int), (y : Int), ⟨⟩⟩ w' ⟨i, hy', hi, hsn, hhf, he, hg, ho⟩
  dsimp only at hy' hsn hhf ho ⊢
  subst hy'
  refine cond_d (fun hlt => ?_) (fun hge => ?_)
  · obtain ⟨c1, hc1, hv1⟩ := bl_get s (i := i) (by omega)
    have b1 := (bl_byt s).getD i
    have m1 : (bl s).getD i 0 ∈ bl s := by rw [getD_get (by omega)]; exact List.getElem_mem _
    have t1 : (bl s).take (i + 1) = (bl s).take i ++ [(bl s).getD i 0] := by rw [List.take_succ_eq_append_getElem (by omega), getD_get (by omega)]
    have t2 : i % 2 = 1 → (bl s).take (2 * ((i + 1) / 2)) = (bl s).take (2 * (i / 2)) ++ [(bl s).getD (i - 1) 0, (bl s).getD i 0] := fun ho => by
      have := take2 (l := bl s) (j := 2 * (i / 2)) (by omega)
      rw [show 2 * ((i + 1) / 2) = 2 * (i / 2) + 2 by omega, this, show 2 * (i / 2) + 1 = i by omega, show 2 * (i / 2) = i - 1 by omega]
    generalize hC : (bl s).getD i 0 = C at *
    have vb := valD_bd (c := C)
    obtain ⟨cf, hcf⟩ := byte_nat b1
    refine Loop1 (fun (y : Int × Int × Unit) w2 => ∃ k : Nat, y.2.1 = (k : Int) ∧ k ≤ 16 ∧ y.1 = (if valD C < (k : Int) then valD C else -1) ∧ Ext w' w2) (fun (y : Int × Int × Unit) _ => ((16 : Int) - y.2.1).toNat)
      ⟨0, rfl, by omega, by show ((-1 : Int)) = _; rw [if_neg (by omega)], Ext.refl _⟩ ?_
    rintro ⟨(at' : Int), (y : Int), ⟨⟩⟩ w2 ⟨k, hk', hk, hat, e2⟩
    dsimp only at hk' hat ⊢
    subst hk'
    refine cond_d (fun hlt2 => ?_) (fun hge2 => ?_)
    · refine DrawV.any fun D hD => ?_
      have e2' := e2.trans (Ext.drew w2)
      obtain ⟨d, hd1, hd2⟩ := dig_get ⟨k, by omega⟩
      have hv := dig_val ⟨k, by omega⟩ cf
      rw [← hcf] at hv
      dsimp only at hd1 hd2 hv
      refine ⟨⟨by omega, by
        show (k : Int) < ((16 : Nat) : Int)
        omega⟩, d, by rw [Int.toNat_natCast]; exact hd1, ⟨by omega, hlt⟩, c1, by rw [Int.toNat_natCast]; exact hc1, ?_⟩
      rw [hd2, hv1]
      refine cond_eq (fun heq => ?_) (fun hne => ?_)
      · have := hv.1 heq
        exact ⟨Rng.i64 (by omega) (by omega), ⟨k + 1, by push_cast; rfl, by omega, by show (k : Int) = _; rw [if_pos (by omega)]; omega, e2'⟩, by omega⟩
      · have : ¬ valD C = (k : Int) := fun h => hne (hv.2 h)
        refine ⟨Rng.i64 (by omega) (by omega), ⟨k + 1, by push_cast; rfl, by omega, ?_, e2'⟩, by omega⟩
        show at' = _
        rw [hat]
        by_cases hh : valD C < (k : Int)
        · rw [if_pos hh, if_pos (by omega)]
        · rw [if_neg hh, if_neg (by omega)]
    · have hk16 : k = 16 := by omega
      subst hk16
      have E2 := he.trans e2
      refine cond_d (fun hneg => ?_) (fun hpos => ?_)
      · refine ⟨E2, fun h' => absurd (h'.2 _ m1) (fun hh => ?_), fun _ => rfl⟩
        rw [if_pos (by omega)] at hat
        omega
      have hlt3 : valD C < 16 := by
        apply Decidable.byContradiction
        intro hh
        rw [if_neg (by omega)] at hat
        omega
      rw [if_pos (by omega)] at hat
      subst hat
      have hmod : Int.tmod (i : Int) 2 = ((i % 2 : Nat) : Int) := by rw [Int.tmod_eq_emod_of_nonneg (by omega)]; omega
      have hg' : good ((bl s).take (i + 1)) := by
        rw [t1]
        intro c hc
        rcases List.mem_append.1 hc with h | h
        · exact hg c h
        · rw [List.mem_singleton.1 h]; exact hlt3
      refine ⟨by omega, ?_⟩
      rw [hmod]
      refine cond_eq (fun hodd => ?_) (fun hevn => ?_)
      · have hodd' : i % 2 = 1 := by omega
        have hf' := hhf hodd'
        have hp : valD ((bl s).getD (i - 1) 0) < 16 := hg _ (by
          rw [getD_get (by omega)]
          have : (bl s)[i - 1] = ((bl s).take i)[i - 1]'(by simp; omega) := by simp
          rw [this]; exact List.getElem_mem _)
        have hp0 := valD_bd (c := (bl s).getD (i - 1) 0)
        rw [← hf'] at hp hp0
        refine ⟨Rng.i64 (by omega) (by omega), Rng.i64 (by omega) (by omega), ?_⟩
        rintro b4 w4 hb4 hw4
        have hwr : IntKind.u8.wrap (hf * 16 + valD C) = 16 * hf + valD C := by rw [u8_wrap]; omega
        rw [hwr] at hw4
        refine app1 (ho.ext e2) E2.size (by omega) hb4 hw4 fun a' c' w5 ho5 hb5 => ?_
        refine ⟨Rng.i64 (by omega) (by omega), ⟨i + 1, by push_cast; rfl, by omega, by show v.n + 1 = _; omega, fun h => absurd h (by omega), Below.trans E2 hb5, hg', ?_⟩, by omega⟩
        rw [t2 hodd', unh_snoc _ _ (i / 2) _ (by simp; omega), ← hf']
        exact ho5
      · refine ⟨Rng.i64 (by omega) (by omega), ⟨i + 1, by push_cast; rfl, by omega, by show v.n = _; omega, fun h => by show valD C = _; rw [show i + 1 - 1 = i by omega, hC], E2, hg', ?_⟩, by omega⟩
        rw [show (i + 1) / 2 = i / 2 by omega]
        exact ho.ext e2
  · have e2 : i = s.size := by omega
    subst e2
    rw [List.take_of_length_le (by omega)] at hg
    have hmod : Int.tmod (s.size : Int) 2 = ((s.size % 2 : Nat) : Int) := by rw [Int.tmod_eq_emod_of_nonneg (by omega)]; omega
    refine ⟨by omega, ?_⟩
    rw [hmod]
    refine ⟨he, fun h => ⟨⟨he, ?_⟩, ?_⟩, fun h => ?_⟩
    · rw [show 2 * (s.size / 2) = s.size by omega, List.take_of_length_le (by omega)] at ho
      exact ho
    · show (((s.size % 2 : Nat) : Int) == 0) = true
      rw [h.1]; rfl
    · show (((s.size % 2 : Nat) : Int) == 0) = false
      have : s.size % 2 ≠ 0 := fun hh => h ⟨hh, hg⟩
      rw [show s.size % 2 = 1 by omega]; rfl

theorem OctetHexes_of {w : World} {a : Option Addr} {n c b : Nat} {xs : List Int} {s : ByteArray} (g0 : SlI w .u8 a n c xs b) (g1 : s.size ≤ 140737488351232) :
    CallV Try.prog 8 #[.slice a n c, .string s] w [.one .bool] fun r w' => r.1 = true ∧ Ext w w' := by
  have hx := g0.ints
  have bx : Byt xs := g0.byt
  have lx := hx.len
  refine law01_OctetHexes.vc _ _ _ _ _ _ ?_
  unfold law01_OctetHexes.P
  refine cond_d (fun _ => ?_) (fun hn => ?_)
  · refine awake01_c.mono ?_
    rintro ⟨(r : Bool), ⟨⟩⟩ w4 ⟨h4, e4⟩
    exact ⟨h4, e4⟩
  refine cond_d (fun _ => ?_) (fun hm => ?_)
  · refine awake01_c.mono ?_
    rintro ⟨(r : Bool), ⟨⟩⟩ w4 ⟨h4, e4⟩
    exact ⟨h4, e4⟩
  refine (Hex_c hx bx (by omega)).mono ?_
  rintro ⟨(r1 : ByteArray), ⟨⟩⟩ w1 ⟨h1, e1⟩
  refine (rHex_c (hx.ext e1) bx (by omega)).mono ?_
  rintro ⟨(r2 : ByteArray), ⟨⟩⟩ w2 ⟨h2, e2⟩
  dsimp only at h1 h2 ⊢
  refine cond_f (by rw [h1, h2]; simp) ?_
  have E2 := e1.trans e2
  refine (Hex_c (hx.ext E2) bx (by omega)).mono ?_
  rintro ⟨(r3 : ByteArray), ⟨⟩⟩ w3 ⟨h3, e3⟩
  dsimp only at h3 ⊢
  subst h3
  have E3 := E2.trans e3
  have hsz : (strOf (hexL xs)).size = 2 * n := by rw [strOf_size _ (hexL_byt _), hexL_length, lx]
  refine (Unhex_c (by omega)).mono ?_
  rintro ⟨(s4 : SlV), (e4 : Int), ⟨⟩⟩ w4 ⟨f4, h4, -⟩
  dsimp only at h4 ⊢
  obtain ⟨k4, k4'⟩ := h4 ⟨by omega, by rw [bl_strOf_aux (hexL_byt _)]; exact good_hexL bx⟩
  rw [bl_strOf_aux (hexL_byt _), unh_hexL bx] at k4
  refine (Unhex_c (by omega)).mono ?_
  rintro ⟨(s5 : SlV), (e5 : Int), ⟨⟩⟩ w5 ⟨f5, h5, h5'⟩
  dsimp only at h5 h5' ⊢
  refine (rUnhex_c (by omega)).mono ?_
  rintro ⟨(s6 : SlV), (o6 : Bool), ⟨⟩⟩ w6 ⟨f6, h6, h6'⟩
  dsimp only at h6 h6' ⊢
  have E6 := E3.trans (f4.trans (f5.trans f6))
  by_cases hg : s.size % 2 = 0 ∧ good (bl s)
  · obtain ⟨k5, k5'⟩ := h5 hg
    obtain ⟨k6, k6'⟩ := h6 hg
    refine cond_f (by rw [k6']; rfl) (cond_t (by rw [k5']; rfl) ?_)
    refine (SameBytes_c (k5.ints.ext f6) k6.ints).mono ?_
    rintro ⟨(r7 : Bool), ⟨⟩⟩ w7 ⟨h7, e7⟩
    dsimp only at h7 ⊢
    refine cond_t (by rw [h7]; simp) (cond_t (by rw [k4']; rfl) ?_)
    refine (SameBytes_c (k4.ints.ext (f5.trans (f6.trans e7))) (hx.ext (E6.trans e7))).mono ?_
    rintro ⟨(r8 : Bool), ⟨⟩⟩ w8 ⟨h8, e8⟩
    dsimp only at h8 ⊢
    refine cond_t (by rw [h8]; simp) ?_
    refine awake01_c.mono ?_
    rintro ⟨(r : Bool), ⟨⟩⟩ w9 ⟨h9, e9⟩
    exact ⟨h9, E6.trans (e7.trans (e8.trans e9))⟩
  · obtain ⟨k5, k5'⟩ := h5' hg
    have k6 := h6' hg
    refine cond_t (by rw [k6]; rfl) (cond_t (by rw [k5']; rfl) (cond_t (by rw [k5]; rfl) (cond_t (by rw [k4']; rfl) ?_)))
    refine (SameBytes_c (k4.ints.ext (f5.trans f6)) (hx.ext E6)).mono ?_
    rintro ⟨(r8 : Bool), ⟨⟩⟩ w8 ⟨h8, e8⟩
    dsimp only at h8 ⊢
    refine cond_t (by rw [h8]; simp) ?_
    refine awake01_c.mono ?_
    rintro ⟨(r : Bool), ⟨⟩⟩ w9 ⟨h9, e9⟩
    exact ⟨h9, E6.trans (e8.trans e9)⟩

end Go.Proofs.Ytimbomieepefcaa.Vc
