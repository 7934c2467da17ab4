/- The laws OctetFills and OctetNumbers of layer 1: each call gives true, and what it read stays. -/
import Derived.Test.YtimbomieepefcaaC01e
import Derived.Test.YtimbomieepefcaaVL01
import Derived.Test.YtimbomieepefcaaOpen
namespace Go.Proofs.Ytimbomieepefcaa.Vc
open Go Go.Eng Go.RowKit
set_option linter.unusedVariables false
set_option linter.unusedSimpArgs false

theorem OctetFills_law {w : World} {x n : Int} : CallV Try.prog 3 #[.int .u8 x, .int .i64 n] w [.one .bool] fun r w' => r.1 = true ∧ Ext w w' := by
  refine law01_OctetFills.vc _ _ _ _ ?_
  unfold law01_OctetFills.P
  refine Fill_c.mono ?_
  rintro ⟨(s1 : SlV), ⟨⟩⟩ w1 h1
  refine rFill_c.mono ?_
  rintro ⟨(s2 : SlV), ⟨⟩⟩ w2 h2
  dsimp only at *
  refine (SameBytes_c (h1.ints.ext h2.ext) h2.ints).mono ?_
  rintro ⟨(r : Bool), ⟨⟩⟩ w3 ⟨h3, e3⟩
  dsimp only at *
  refine cond_t (by rw [h3]; simp) ?_
  refine awake01_c.mono ?_
  rintro ⟨(r : Bool), ⟨⟩⟩ w4 ⟨h4, e4⟩
  exact ⟨h4, h1.ext.trans (h2.ext.trans (e3.trans e4))⟩

theorem OctetNumbers_law {w : World} {x n : Int} {a : Option Addr} {m c : Nat} {xs : List Int} (h0 : 0 ≤ x) (h9 : x < 18446744073709551616) (hx : Ints w .u8 a m c xs) (bx : Byt xs) :
    CallV Try.prog 7 #[.int .u64 x, .int .i64 n, .slice a m c] w [.one .bool] fun r w' => r.1 = true ∧ Ext w w' := by
  refine law01_OctetNumbers.vc _ _ _ _ _ _ _ ?_
  unfold law01_OctetNumbers.P
  refine cond_d (fun _ => ?_) (fun hm => ?_)
  · refine awake01_c.mono ?_
    rintro ⟨(r : Bool), ⟨⟩⟩ w4 ⟨h4, e4⟩
    exact ⟨h4, e4⟩
  have hm' : m ≤ 70000 := by omega
  refine (Big_c h0).mono ?_
  rintro ⟨(s1 : SlV), ⟨⟩⟩ w1 h1
  refine (rBig_c h0 h9).mono ?_
  rintro ⟨(s2 : SlV), ⟨⟩⟩ w2 h2
  dsimp only at *
  refine (SameBytes_c (h1.ints.ext h2.ext) h2.ints).mono ?_
  rintro ⟨(r : Bool), ⟨⟩⟩ w3 ⟨h3, e3⟩
  dsimp only at *
  refine cond_f (by rw [h3]; simp) ?_
  refine (Little_c h0).mono ?_
  rintro ⟨(s4 : SlV), ⟨⟩⟩ w4 h4
  refine (rLittle_c h0 h9).mono ?_
  rintro ⟨(s5 : SlV), ⟨⟩⟩ w5 h5
  dsimp only at *
  refine (SameBytes_c (h4.ints.ext h5.ext) h5.ints).mono ?_
  rintro ⟨(r : Bool), ⟨⟩⟩ w6 ⟨h6, e6⟩
  dsimp only at *
  refine cond_f (by rw [h6]; simp) ?_
  have E6 : Ext w w6 := h1.ext.trans (h2.ext.trans (e3.trans (h4.ext.trans (h5.ext.trans e6))))
  refine (Num_c (hx.ext E6) bx).mono ?_
  rintro ⟨(r7 : Int), ⟨⟩⟩ w7 ⟨h7, rfl⟩
  refine (rNum_c (hx.ext E6) bx hm').mono ?_
  rintro ⟨(r8 : Int), ⟨⟩⟩ w8 ⟨h8, e8⟩
  dsimp only at *
  refine cond_t (by rw [h7, h8]; simp) ?_
  refine (NumLittle_c (hx.ext (E6.trans e8)) bx).mono ?_
  rintro ⟨(r9 : Int), ⟨⟩⟩ w9 ⟨h9', rfl⟩
  refine (rNumLittle_c (hx.ext (E6.trans e8)) bx).mono ?_
  rintro ⟨(r10 : Int), ⟨⟩⟩ w10 ⟨h10, rfl⟩
  dsimp only at *
  refine cond_t (by rw [h9', h10]; simp) ?_
  have c8 : cl8 8 = 8 := by decide
  have hv : leN (leL x 8) = x := by rw [leN_leL x h0]; exact Int.emod_eq_of_lt h0 h9
  refine (Big_c h0).mono ?_
  rintro ⟨(s11 : SlV), ⟨⟩⟩ w11 h11
  dsimp only at *
  rw [c8] at h11
  refine (Num_c h11.ints (leL_byt _ _).reverse).mono ?_
  rintro ⟨(r12 : Int), ⟨⟩⟩ w12 ⟨h12, rfl⟩
  dsimp only at *
  have v12 : r12 = x := by
    rw [h12]; unfold numB
    rw [List.reverse_reverse, List.take_of_length_le (by rw [leL_length]; omega), hv]
  refine cond_t (by rw [v12]; simp) ?_
  refine (Little_c h0).mono ?_
  rintro ⟨(s13 : SlV), ⟨⟩⟩ w13 h13
  dsimp only at *
  rw [c8] at h13
  refine (NumLittle_c h13.ints (leL_byt _ _)).mono ?_
  rintro ⟨(r14 : Int), ⟨⟩⟩ w14 ⟨h14, rfl⟩
  dsimp only at *
  have v14 : r14 = x := by
    rw [h14]; unfold numL
    rw [List.take_of_length_le (by rw [leL_length]; omega), hv]
  refine cond_t (by rw [v14]; simp) ?_
  refine awake01_c.mono ?_
  rintro ⟨(r : Bool), ⟨⟩⟩ w15 ⟨h15, e15⟩
  exact ⟨h15, E6.trans (e8.trans (h11.ext.trans (h13.ext.trans e15)))⟩

theorem OctetFills_of {w : World} {x n : Int} (g0 : Rng .u8 x) (g1 : Rng .i64 n) : CallV Try.prog 3 #[.int .u8 x, .int .i64 n] w [.one .bool] fun r w' => r.1 = true ∧ Ext w w' := OctetFills_law
theorem OctetNumbers_of {w : World} {x n : Int} {a : Option Addr} {m c b : Nat} {xs : List Int} (g0 : Rng .u64 x) (g1 : Rng .i64 n) (g2 : SlI w .u8 a m c xs b) :
    CallV Try.prog 7 #[.int .u64 x, .int .i64 n, .slice a m c] w [.one .bool] fun r w' => r.1 = true ∧ Ext w w' := OctetNumbers_law (rng_u64 g0).1 (rng_u64 g0).2 g2.ints g2.byt

end Go.Proofs.Ytimbomieepefcaa.Vc
