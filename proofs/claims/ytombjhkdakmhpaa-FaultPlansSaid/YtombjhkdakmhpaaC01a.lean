/- The contracts of layer 1 (octet): reading functions. -/
import Derived.Test.YtombjhkdakmhpaaLib1
import Derived.Test.YtombjhkdakmhpaaV01
namespace Go.Proofs.Ytombjhkdakmhpaa.Vc
open Go Go.Eng Go.RowKit
set_option linter.unusedVariables false
set_option linter.unusedSimpArgs false

theorem SameBytes_c {w : World} {a b : Option Addr} {n c m d : Nat} {xs ys : List Int} (hx : Ints w .u8 a n c xs) (hy : Ints w .u8 b m d ys) :
    CallV Try.prog 17 #[.slice a n c, .slice b m d] w [.one .bool] fun r w' => r.1 = decide (xs = ys) ∧ Ext w w' := by
  refine ref01_SameBytes.vc _ _ _ _ _ _ _ _ ?_
  unfold ref01_SameBytes.P
  have l1 := hx.len
  have l2 := hy.len
  refine cond_ne (fun hne => ?_) (fun heq => ?_)
  · refine ⟨?_, Ext.refl w⟩
    show false = decide (xs = ys)
    symm
    rw [decide_eq_false_iff_not]
    rintro rfl
    omega
  · refine Loop1 (fun (x : Int × Unit) w' => 0 ≤ x.1 ∧ x.1 ≤ n ∧ (∀ j : Nat, j < x.1.toNat → xs.getD j 0 = ys.getD j 0) ∧ Ext w w') (fun (x : Int × Unit) _ => ((n : Int) - x.1).toNat) ⟨Int.le_refl _, by dsimp only; omega, fun j hj => by dsimp only at hj; omega, Ext.refl w⟩ ?_
    rintro ⟨(i : Int), ⟨⟩⟩ w' ⟨h0, h1, hj, he⟩
    dsimp only at h0 h1 hj ⊢
    have hli := hx.lim
    refine cond_d (fun hlt => ?_) (fun hge => ?_)
    · refine DrawV.any fun D hD => ?_
      have he' := he.trans (Ext.drew w')
      refine hx.idxD he' h0 hlt (fun b _ => hD b) ?_
      refine hy.idxD he' h0 (by omega) (fun b _ => hD b) ?_
      refine cond_ne (fun hne => ?_) (fun heq' => ?_)
      · refine ⟨?_, he'⟩
        show false = decide (xs = ys)
        symm
        rw [decide_eq_false_iff_not]
        rintro rfl
        exact hne rfl
      · refine ⟨Rng.i64 (by omega) (by omega), ⟨by omega, by omega, ?_, he'⟩, by omega⟩
        intro j hj'

        by_cases hji : j = i.toNat
        · rw [hji]; exact heq'
        · exact hj j (by omega)
    · refine ⟨?_, he⟩
      show true = decide (xs = ys)
      symm
      rw [decide_eq_true_eq]
      apply List.ext_getElem (by omega)
      intro j h1 h2
      have := hj j (by omega)
      simpa [List.getD_eq_getElem?_getD, h1, h2] using this

end Go.Proofs.Ytombjhkdakmhpaa.Vc
