/- Heads are the same where all their numbers are. -/
import Derived.Test.YtombjhkdakmhpaaC14a
import Derived.Test.YtombjhkdakmhpaaChecked
import Derived.Tactics
import Derived.Tactics2
import Derived.Laws.Small
import Derived.Laws.StructEq
import Derived.Laws.Tables
import Derived.KernelRfl
namespace Go.Proofs.Ytombjhkdakmhpaa.Vc
open Go Go.Eng Go.RowKit
set_option linter.unusedVariables false
set_option linter.unusedSimpArgs false

set_option maxRecDepth 100000 in
theorem eqH (a1 a2 a3 a4 a5 a6 b1 b2 b3 b4 b5 b6 : Int) (w : World) : (Op.equalIn 10000 25 (.agg #[.int .i64 a1, .int .i64 a2, .int .i64 a3, .int .u32 a4, .int .u64 a5, .int .u64 a6]) (.agg #[.int .i64 b1, .int .i64 b2, .int .i64 b3, .int .u32 b4, .int .u64 b5, .int .u64 b6])).run Try.prog w =
    .ok (a1 == b1 && (a2 == b2 && (a3 == b3 && (a4 == b4 && (a5 == b5 && a6 == b6))))) w := by
  have u1 := Try.underlying3
  have u2 := Try.underlying22
  have u3 := Try.underlying23
  have v1 := Try.isAgg3
  have v2 := Try.isAgg22
  have v3 := Try.isAgg23
  have z1 := Try.sizeOf3
  have z2 := Try.sizeOf22
  have z3 := Try.sizeOf23
  have hS : Try.prog.underlying 25 = some (.struct (Try.prog.fieldsOf 25)) := by kernel_rfl
  rw [show (10000 : Nat) = 9999 + 1 from rfl, run_equalIn_agg w 9999 25 _ _ hS (by kernel_rfl)]
  simp only [Program.fieldsOf, Try.underlying25]
  go_simp
  repeat' split
  all_goals simp_all

open Classical in
theorem eqHd {g h : Hd} {K : Bool → Prop} (hk : K (decide (g = h))) : AggEq Try.prog 25 #[.int .i64 g.k, .int .i64 g.n, .int .i64 g.c, .int .u32 g.l, .int .u64 g.e, .int .u64 g.t] #[.int .i64 h.k, .int .i64 h.n, .int .i64 h.c, .int .u32 h.l, .int .u64 h.e, .int .u64 h.t] K := by
  refine ⟨_, fun w => eqH _ _ _ _ _ _ _ _ _ _ _ _ w, by kernel_rfl, ?_⟩
  have : (g.k == h.k && (g.n == h.n && (g.c == h.c && (g.l == h.l && (g.e == h.e && g.t == h.t))))) = decide (g = h) := by
    obtain ⟨a1, a2, a3, a4, a5, a6⟩ := g
    obtain ⟨b1, b2, b3, b4, b5, b6⟩ := h
    apply Bool.eq_iff_iff.2
    simp
  rw [this]
  exact hk

end Go.Proofs.Ytombjhkdakmhpaa.Vc
