/- The contract of head.Read. -/
import Derived.Test.YtombjhkdakmhpaaC14c
namespace Go.Proofs.Ytombjhkdakmhpaa.Vc
open Go Go.Eng Go.RowKit
set_option linter.unusedVariables false
set_option linter.unusedSimpArgs false

theorem sub_part {w : World} {a : Option Addr} {n c : Nat} {xs : List Int} (h : Ints w .u8 a n c xs) {i j m : Nat} (h1 : i ≤ j) (h2 : j ≤ n) (h3 : j ≤ m) {a' : Option Addr} (ha : a' = if m = i then a else a.map (·.add (i * 1))) : Ints w .u8 a' (j - i) (m - i) (part xs i j) := h.sub h1 h2 h3 ha
theorem part_part {xs : List Int} {i j k : Nat} (h : j ≤ k) : part (part xs 0 k) i j = part xs i j := by
  unfold part
  rw [List.drop_zero, Nat.sub_zero, List.drop_take, List.take_take, Nat.min_eq_left (by omega)]

theorem Read_c {w : World} {a0 : Option Addr} {n0 c0 : Nat} {xs : List Int} (hx : Ints w .u8 a0 n0 c0 xs) (bx : Byt xs) :
    CallV Try.prog 35 #[.slice a0 n0 c0] w [.agg [.int .i64, .int .i64, .int .i64, .int .u32, .int .u64, .int .u64], .one .sl, .one (.int .i64)] fun r w' => RPost w xs r w' := by
  refine head_Read.vc _ _ _ _ _ ?_
  unfold head_Read.P
  have lx := hx.len
  have hcap := hx.cap
  refine newH (h := zeroH) fun b1 w2 e2 hb1 => ?_
  refine cond_ne (fun hne => ?_) (fun heq => ?_)
  · refine hb1.store 0 (by simp) fun w3 hb3 bel3 _ _ => ?_
    refine ldH (h := zeroH) hb3 ?_
    exact ⟨Below.trans e2 bel3, fun _ => ⟨rfl, rfl, rfl⟩, fun h => absurd (by omega) hne, fun h => absurd (by omega) hne⟩
  have h88 : n0 = 88 := by omega
  subst h88
  refine DrawV.old w2 fun D5 hD5 hkeep5 => ?_
  have x5 := e2.trans (Ext.drew w2)
  refine ⟨by omega, ?_⟩
  intro a6 ha6
  refine ⟨by omega, ?_⟩
  intro a7 ha7
  have h6 := sub_part hx (i := 0) (j := 24) (m := c0) (by omega) (by omega) (by omega) ha6
  have h7 := sub_part hx (i := 48) (j := 80) (m := c0) (by omega) (by omega) (by omega) ha7
  refine DrawV.old w2.drew fun D hD hkeep => ?_
  have x8 := x5.trans (Ext.drew w2.drew)
  have b0 := bx.getD 0
  have b1' := bx.getD 1
  have b2 := bx.getD 2
  have g : ∀ k, k < 24 → (part xs 0 24).getD k 0 = xs.getD k 0 := fun k hk => by
    unfold part
    rw [List.drop_zero, List.getD_eq_getElem?_getD, List.getElem?_take, if_pos (by omega), ← List.getD_eq_getElem?_getD]
  refine (h6.ext x5).idxD (Ext.drew w2.drew) (i := 0) (by omega) (by omega) hD ?_
  refine (h6.ext x5).idxD (Ext.drew w2.drew) (i := 1) (by omega) (by omega) hD ?_
  refine (h6.ext x5).idxD (Ext.drew w2.drew) (i := 2) (by omega) (by omega) hD ?_
  rw [show (0 : Int).toNat = 0 from rfl, show (1 : Int).toNat = 1 from rfl, show (2 : Int).toNat = 2 from rfl, g 0 (by omega), g 1 (by omega), g 2 (by omega)]
  rw [i64_id (by omega : -9223372036854775808 ≤ xs.getD 0 0) (by omega), i64_id (by omega : -9223372036854775808 ≤ xs.getD 1 0) (by omega), i64_id (by omega : -9223372036854775808 ≤ xs.getD 2 0) (by omega)]
  refine ⟨by omega, ?_⟩
  intro a15 ha15
  refine ⟨by omega, ?_⟩
  intro a16 ha16
  refine ⟨by omega, ?_⟩
  intro a17 ha17
  have h15 := sub_part h6 (i := 4) (j := 8) (m := c0 - 0) (by omega) (by omega) (by omega) ha15
  have h16 := sub_part h6 (i := 8) (j := 16) (m := c0 - 0) (by omega) (by omega) (by omega) ha16
  have h17 := sub_part h6 (i := 16) (j := 24) (m := c0 - 0) (by omega) (by omega) (by omega) ha17
  rw [part_part (by omega)] at h15 h16 h17
  generalize hW : w2.drew.drew = W at *
  have keepW : ∀ {w' : World}, Ext W w' → KeepOn D W w' := fun e => by
    have := hkeep _ ((Ext.drew w2.drew).trans (by rw [hW]; exact e))
    exact this
  have nbl := numB_bd (part_byt bx 4 8) (part_length (by omega) (by omega)) (by omega)
  have hu : IntKind.u32.wrap (numB (part xs 4 8)) = numB (part xs 4 8) := by rw [u32_wrap]; exact Int.emod_eq_of_lt nbl.1 (by have := nbl.2; simpa using this)
  have hb1W := hb1.ext ((Ext.drew w2).trans (by rw [← hW]; exact Ext.drew w2.drew) : Ext w2 W)
  have done : ∀ {w25 : World} {b24 : Nat}, Ext W w25 → Box w25 W.heap.size b24 25 zeroH.vs → StoreV w25 ⟨b24, 0, none⟩ (hdOf xs).vs fun w26 => KeepOn D W w26 ∧ head_Read.T c0 a0 a6 w26 b1 (RPost w xs) b24 a7 := fun {w25 b24} e25 hb24 => by
    refine hb24.store 0 (by simp) fun w26 hb26 bel26 _ _ => ?_
    have X26 : Ext W w26 := Below.trans e25 bel26
    refine ⟨keepW X26, ?_⟩
    refine readTail (c6 := 0) (x8.trans X26) (hb1W.ext X26) ⟨Nat.le_trans x8.size hb26.base, hb26.heap⟩ (fun h => ?_) hx bx h6 h7
    have := hb1W.lt
    have := hb24.base
    omega
  have N15 : ∀ {w' : World}, Ext W w' → CallV Try.prog 49 #[.slice a15 (8 - 4) (c0 - 0 - 4)] w' [.one (.int .u64)] fun r w2 => r.1 = numB (part xs 4 8) ∧ w2 = w' := fun e => Num_c (h15.ext (x8.trans e)) (part_byt bx 4 8)
  have N16 : ∀ {w' : World}, Ext W w' → CallV Try.prog 49 #[.slice a16 (16 - 8) (c0 - 0 - 8)] w' [.one (.int .u64)] fun r w2 => r.1 = numB (part xs 8 16) ∧ w2 = w' := fun e => Num_c (h16.ext (x8.trans e)) (part_byt bx 8 16)
  have N17 : ∀ {w' : World}, Ext W w' → CallV Try.prog 49 #[.slice a17 (24 - 16) (c0 - 0 - 16)] w' [.one (.int .u64)] fun r w2 => r.1 = numB (part xs 16 24) ∧ w2 = w' := fun e => Num_c (h17.ext (x8.trans e)) (part_byt bx 16 24)
  have kW := keepW (Ext.refl W)
  refine ⟨?_, ?_⟩
  · refine (N15 (Ext.refl _)).mono ?_
    rintro ⟨(r1 : Int), ⟨⟩⟩ w' ⟨q1, rfl⟩
    dsimp only at q1 ⊢
    subst q1
    rw [hu]
    refine ⟨kW, ?_, ?_⟩
    · refine (N16 (Ext.refl _)).mono ?_
      rintro ⟨(r2 : Int), ⟨⟩⟩ w' ⟨q2, rfl⟩
      dsimp only at q2 ⊢
      subst q2
      refine ⟨kW, ?_, ?_⟩
      · refine (N17 (Ext.refl _)).mono ?_
        rintro ⟨(r3 : Int), ⟨⟩⟩ w' ⟨q3, rfl⟩
        dsimp only at q3 ⊢
        subst q3
        exact ⟨kW, newH (h := zeroH) fun b24 w25 e25 hb24 => ⟨keepW e25, done e25 hb24⟩⟩
      · refine newH (h := zeroH) fun b24 w25 e25 hb24 => ⟨keepW e25, ?_⟩
        refine (N17 e25).mono ?_
        rintro ⟨(r3 : Int), ⟨⟩⟩ w' ⟨q3, rfl⟩
        dsimp only at q3 ⊢
        subst q3
        exact ⟨keepW e25, done e25 hb24⟩
    · refine newH (h := zeroH) fun b24 w25 e25 hb24 => ⟨keepW e25, ?_⟩
      refine (N16 e25).mono ?_
      rintro ⟨(r2 : Int), ⟨⟩⟩ w' ⟨q2, rfl⟩
      dsimp only at q2 ⊢
      subst q2
      refine ⟨keepW e25, ?_⟩
      refine (N17 e25).mono ?_
      rintro ⟨(r3 : Int), ⟨⟩⟩ w' ⟨q3, rfl⟩
      dsimp only at q3 ⊢
      subst q3
      exact ⟨keepW e25, done e25 hb24⟩
  · refine newH (h := zeroH) fun b24 w25 e25 hb24 => ⟨keepW e25, ?_⟩
    refine (N15 e25).mono ?_
    rintro ⟨(r1 : Int), ⟨⟩⟩ w' ⟨q1, rfl⟩
    dsimp only at q1 ⊢
    subst q1
    rw [hu]
    refine ⟨keepW e25, ?_⟩
    refine (N16 e25).mono ?_
    rintro ⟨(r2 : Int), ⟨⟩⟩ w' ⟨q2, rfl⟩
    dsimp only at q2 ⊢
    subst q2
    refine ⟨keepW e25, ?_⟩
    refine (N17 e25).mono ?_
    rintro ⟨(r3 : Int), ⟨⟩⟩ w' ⟨q3, rfl⟩
    dsimp only at q3 ⊢
    subst q3
    exact ⟨keepW e25, done e25 hb24⟩

end Go.Proofs.Ytombjhkdakmhpaa.Vc
