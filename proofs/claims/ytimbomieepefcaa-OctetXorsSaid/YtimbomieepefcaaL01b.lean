/- The law OctetXors of layer 1: each call gives true, and what it read stays. -/
import Derived.Test.YtimbomieepefcaaL01a
namespace Go.Proofs.Ytimbomieepefcaa.Vc
open Go Go.Eng Go.RowKit
set_option linter.unusedVariables false
set_option linter.unusedSimpArgs false

theorem OctetXors_of {w : World} {a a2 : Option Addr} {n c b m c2 b2 : Nat} {xs ys : List Int} (g0 : SlI w .u8 a n c xs b) (g1 : SlI w .u8 a2 m c2 ys b2) :
    CallV Try.prog 9 #[.slice a n c, .slice a2 m c2] w [.one .bool] fun r w' => r.1 = true ∧ Ext w w' := by
  have hx := g0.ints
  have hy := g1.ints
  have bx : Byt xs := g0.byt
  have by' : Byt ys := g1.byt
  have lx := hx.len
  have ly := hy.len
  have cx := hx.cap
  refine law01_OctetXors.vc _ _ _ _ _ _ _ _ ?_
  unfold law01_OctetXors.P
  refine cond_d (fun _ => ?_) (fun hn => ?_)
  · refine awake01_c.mono ?_
    rintro ⟨(r : Bool), ⟨⟩⟩ w4 ⟨h4, e4⟩
    exact ⟨h4, e4⟩
  refine cond_d (fun _ => ?_) (fun hm => ?_)
  · refine awake01_c.mono ?_
    rintro ⟨(r : Bool), ⟨⟩⟩ w4 ⟨h4, e4⟩
    exact ⟨h4, e4⟩
  have hx1 : CallV Try.prog 40 #[.slice a n c, .slice a2 m c2] w [.one .sl, .one (.int .i64)] fun r w' => Ext w w' ∧
      ((n = m → Res w w' r.1 (xorL xs ys) ∧ r.2.1 = (0 : Int)) ∧ (n ≠ m → r.1 = (⟨none, 0, 0⟩ : SlV) ∧ r.2.1 = (2 : Int))) := by
    by_cases e : n = m
    · subst e
      refine (Xor_c hx hy (by omega)).mono ?_
      rintro r w' ⟨h1, h2⟩
      exact ⟨h1.ext, fun _ => ⟨h1, h2⟩, fun h => absurd rfl h⟩
    · refine (Xor_ne e).mono ?_
      rintro r w' ⟨h1, h2, rfl⟩
      exact ⟨Ext.refl _, fun h => absurd h e, fun _ => ⟨h1, h2⟩⟩
  refine hx1.mono ?_
  rintro ⟨(s1 : SlV), (e1 : Int), ⟨⟩⟩ w1 ⟨E1, k1, k2⟩
  dsimp only at k1 k2 ⊢
  refine DrawV.old w1 fun D hD hkeep => ?_
  have E1' : Ext w w1.drew := E1.trans (Ext.drew w1)
  refine (Same_c (hx.ext E1') (hy.ext E1') bx by').mono ?_
  rintro ⟨(r2 : Bool), ⟨⟩⟩ w2 ⟨h2, e2⟩
  have E2 : Ext w1 w2 := (Ext.drew w1).trans e2
  dsimp only at h2 ⊢
  refine ⟨hkeep _ E2, ?_⟩
  have F2 := E1.trans E2
  refine (SameBytes_c (hx.ext F2) (hy.ext F2)).mono ?_
  rintro ⟨(r3 : Bool), ⟨⟩⟩ w3 ⟨h3, e3⟩
  have E3 := E2.trans e3
  dsimp only at h3 ⊢
  refine ⟨hkeep _ E3, ?_⟩
  refine cond_f (by rw [h2, h3]; simp) ?_
  have F3 := E1.trans E3
  refine (Same_c (hx.ext F3) (hx.ext F3) bx bx).mono ?_
  rintro ⟨(r4 : Bool), ⟨⟩⟩ w4 ⟨h4, e4⟩
  have E4 := E3.trans e4
  dsimp only at h4 ⊢
  refine ⟨hkeep _ E4, ?_⟩
  refine cond_f (by rw [h4]; simp) ?_
  have F4 := E1.trans E4
  unfold NameI
  intro z hz
  have hz' : z = ((min n 65536 : Nat) : Int) := by rw [hz]; generalize hL : (65536 : Int) = L; have : (65536 : Nat) = L.toNat := by rw [← hL]; rfl
                                                   rw [this]; omega
  clear hz
  generalize hM : min n 65536 = M at hz'
  have hMn : M ≤ n := by omega
  have hM6 : M ≤ 65536 := by omega
  subst hz'
  refine ⟨by omega, ?_⟩
  unfold SubK
  intro a' ha'
  have hsub := (hx.ext F4).sub (Nat.zero_le M) hMn (by omega) ha'
  rw [List.drop_zero] at hsub
  refine (Invert_c (hx.ext F4) (by omega)).mono ?_
  rintro ⟨(s5 : SlV), ⟨⟩⟩ w5 h5
  have E5 := E4.trans h5.ext
  dsimp only at h5 ⊢
  refine ⟨hkeep _ E5, ?_⟩
  rw [Int.toNat_natCast]
  refine (rInvert_c (hsub.ext h5.ext) (by omega)).mono ?_
  rintro ⟨(s6 : SlV), ⟨⟩⟩ w6 h6
  have E6 := E5.trans h6.ext
  dsimp only at h6 ⊢
  refine ⟨hkeep _ E6, ?_⟩
  refine (SameBytes_c (h5.ints.ext h6.ext) h6.ints).mono ?_
  rintro ⟨(r7 : Bool), ⟨⟩⟩ w7 ⟨h7, e7⟩
  have E7 := E6.trans e7
  have F7 := E1.trans E7
  dsimp only at h7 ⊢
  refine ⟨hkeep _ E7, ?_⟩
  have rest : cond (((n : Nat) : Int) != ((m : Nat) : Int))
      (cond (e1 == 2) (cond (((s1.n : Nat) : Int) == 0)
        (CallV Try.prog 15 #[] w7 [.one .bool] fun (r22 : Bool × Unit) w23 => r22.1 = true ∧ Ext w w23) (false = true ∧ Ext w w7)) (false = true ∧ Ext w w7))
      (CallV Try.prog 40 #[.slice s1.a s1.n s1.c, .slice a2 m c2] w7 [.one .sl, .one (.int .i64)] fun (r24 : SlV × Int × Unit) w25 =>
        cond (e1 == 0) (cond (r24.2.1 == 0)
          (CallV Try.prog 44 #[.slice a n c, .slice a2 m c2] w25 [.one .sl] fun (r26 : SlV × Unit) w27 =>
            CallV Try.prog 12 #[.slice s1.a s1.n s1.c, .slice r26.1.a r26.1.n r26.1.c] w27 [.one .bool] fun (r28 : Bool × Unit) w29 =>
            cond r28.1
              (CallV Try.prog 12 #[.slice r24.1.a r24.1.n r24.1.c, .slice a n c] w29 [.one .bool] fun (r30 : Bool × Unit) w31 =>
                cond r30.1 (CallV Try.prog 15 #[] w31 [.one .bool] fun (r32 : Bool × Unit) w33 => r32.1 = true ∧ Ext w w33) (false = true ∧ Ext w w31))
              (false = true ∧ Ext w w29)) (false = true ∧ Ext w w25)) (false = true ∧ Ext w w25)) := by
    refine cond_ne (fun hne => ?_) (fun heq => ?_)
    · obtain ⟨h8, h9⟩ := k2 (by omega)
      refine cond_t (by rw [h9]; rfl) (cond_t (by rw [h8]; rfl) ?_)
      refine awake01_c.mono ?_
      rintro ⟨(r : Bool), ⟨⟩⟩ w8 ⟨h8, e8⟩
      exact ⟨h8, F7.trans e8⟩
    · have e : n = m := by omega
      subst e
      obtain ⟨h8, h9⟩ := k1 rfl
      have i8 := h8.ints.ext E7
      have l8 := i8.len
      rw [xorL_length] at l8
      have e9 : s1.n = n := by omega
      rw [e9] at i8 ⊢
      refine (Xor_c i8 (hy.ext F7) (by omega)).mono ?_
      rintro ⟨(s10 : SlV), (e10 : Int), ⟨⟩⟩ w10 ⟨h10, h11⟩
      dsimp only at h10 h11 ⊢
      refine cond_t (by rw [h9]; rfl) (cond_t (by rw [h11]; rfl) ?_)
      have F10 := F7.trans h10.ext
      refine (rXor_c (hx.ext F10) (hy.ext F10) (Nat.le_refl _) (by omega)).mono ?_
      rintro ⟨(s12 : SlV), ⟨⟩⟩ w12 h12
      dsimp only at h12 ⊢
      refine (SameBytes_c (i8.ext (h10.ext.trans h12.ext)) h12.ints).mono ?_
      rintro ⟨(r13 : Bool), ⟨⟩⟩ w13 ⟨h13, e13⟩
      dsimp only at h13 ⊢
      refine cond_t (by rw [h13]; simp) ?_
      have F13 := F10.trans (h12.ext.trans e13)
      refine (SameBytes_c (h10.ints.ext (h12.ext.trans e13)) (hx.ext F13)).mono ?_
      rintro ⟨(r14 : Bool), ⟨⟩⟩ w14 ⟨h14, e14⟩
      dsimp only at h14 ⊢
      refine cond_t (by rw [h14, xorL_twice bx by' (by omega)]; simp) ?_
      refine awake01_c.mono ?_
      rintro ⟨(r : Bool), ⟨⟩⟩ w15 ⟨h15, e15⟩
      exact ⟨h15, F13.trans (e14.trans e15)⟩
  have inv : M = n → r7 = true := fun e => by
    rw [h7, e, Nat.sub_zero, List.take_of_length_le (by omega)]; simp
  refine cond_of (fun hr => ?_) (fun hr => rest)
  refine cond_d (fun hle => ?_) (fun _ => rest)
  rw [inv (by omega)] at hr
  cases hr

end Go.Proofs.Ytimbomieepefcaa.Vc
