/- The law HeadBits of layer 14: each call gives true, and what it read stays. -/
import Derived.Test.YtombjhkdakmhpaaPl14b
import Derived.Test.YtombjhkdakmhpaaVM14t
import Derived.Test.YtombjhkdakmhpaaC14e
namespace Go.Proofs.Ytombjhkdakmhpaa.Vc
open Go Go.Eng Go.RowKit
set_option linter.unusedVariables false
set_option linter.unusedSimpArgs false

theorem appM {w : World} {a a2 : Option Addr} {n c m c2 : Nat} {xs ys : List Int} {B : Nat} {K : Option Addr → Nat → Nat → World → Prop} (ho : Own w B 5 1 a n c (xs.map (Value.int .u8))) (hy : Ints w .u8 a2 m c2 ys) (hB : B ≤ w.heap.size) (hn : n + m ≤ 100000000)
    (hk : ∀ a' c' w', Own w' B 5 1 a' (n + m) c' ((xs ++ ys).map (Value.int .u8)) → Below B w w' → But a w w' → Mov w a a' → K a' (n + m) c' w') :
    AppS w a2 m 1 fun ns => AppV w 5 1 1 a n c ns m K := by
  refine AppS.of (news := ys.map (Value.int .u8)) (by rw [List.length_map, hy.len]; omega) hy.rd ?_
  refine AppV.own ho hB (by rw [List.length_map, hy.len]; omega) (oneAll.ints _ _) (by omega) (by omega) fun a' c' w' h1 h2 h3 h4 => ?_
  refine hk a' c' w' ?_ h2 h3 h4
  rw [List.map_append]
  exact h1
theorem Box.butA {w w' : World} {B b : Nat} {e : TypeId} {vs : List Value} {a : Option Addr} (h : Box w B b e vs) (x : But a w w') (hne : ∀ p, a = some p → b ≠ p.block) : Box w' B b e vs := ⟨h.base, by rw [x b h.lt hne]; exact h.heap⟩
theorem own_blk {w : World} {B : Nat} {e : TypeId} {sz : Nat} {a : Option Addr} {n c : Nat} {vs : List Value} (h : Own w B e sz a n c vs) {p : Addr} (hp : a = some p) : p.block < w.heap.size := by
  rcases h.at_ with ⟨h1, _⟩ | ⟨b, cs, h1, _, h3, _⟩
  · rw [h1] at hp; cases hp
  · rw [h1] at hp
    have := Option.some.inj hp
    subst this
    exact (Array.getElem?_eq_some_iff.1 h3).1

theorem bitsTail {w w24 : World} {r4 : SlV × Int × Unit} {r23 : SlV × Unit} {E X : List Int} (x24 : Ext w w24) (h4 : Ints w24 .u8 r4.1.a r4.1.n r4.1.c E) (lE : E.length = 88) (bE : Byt E)
    (h23 : Ints w24 .u8 r23.1.a r23.1.n r23.1.c X) (lX : X.length = 48) (bX : Byt X) (key : okR (X ++ E.drop 48) ↔ X = part E 0 48) : law14_HeadBits.T r4 w24 r23 (fun r w' => r.1 = true ∧ Ext w w') := by
  unfold law14_HeadBits.T
  have l4 := h4.len
  have c4 := h4.cap
  have l23 := h23.len
  refine DrawV.old w24 fun D hD hkeep => ?_
  refine ⟨by omega, ?_⟩
  intro a26 ha26
  generalize hW : w24.drew = W at *
  have xW : Ext w24 W := by rw [← hW]; exact Ext.drew w24
  have kp : ∀ {w' : World}, Ext W w' → KeepOn D W w' := fun e => hkeep _ (xW.trans e)
  have i26 := (h4.ext xW).sub (l := 48) (hh := r4.1.n) (m := r4.1.c) (by omega) (Nat.le_refl _) c4 ha26
  rw [List.take_of_length_le (by rw [List.length_drop]; omega)] at i26
  have i23 := h23.ext xW
  have bR : Byt (X ++ E.drop 48) := bX.append (bE.drop 48)
  have lR : (X ++ E.drop 48).length = 88 := by rw [List.length_append, List.length_drop]; omega
  have rd : ∀ {w' : World} {a' : Option Addr} {n' c' : Nat}, Ints w' .u8 a' n' c' (([] ++ X) ++ E.drop 48) → CallV Try.prog 35 #[.slice a' n' c'] w' [.agg [.int .i64, .int .i64, .int .i64, .int .u32, .int .u64, .int .u64], .one .sl, .one (.int .i64)] fun (r : (Int × Int × Int × Int × Int × Int × Unit) × SlV × Int × Unit) w2 => Ext w' w2 ∧ (r.2.2.1 == (0 : Int)) = decide (X = part E 0 48) := fun h => by
    rw [List.nil_append] at h
    refine (Read_c h bR).mono ?_
    rintro r w2 ⟨e, -, hB, hC⟩
    refine ⟨e, ?_⟩
    by_cases hok : okR (X ++ E.drop 48)
    · rw [(hB lR hok).2.2, decide_eq_true (key.1 hok)]; rfl
    · rw [(hC lR hok).2.2, decide_eq_false (fun h => hok (key.2 h))]; rfl
  have fin : ∀ {w' : World} {e0 : Int}, Ext W w' → (e0 == 0) = decide (X = part E 0 48) → (((0 : Int) ≤ (48 : Int) ∧ (48 : Int) ≤ ((r4.1.c : Nat) : Int)) ∧
      SubK r4.1.a 0 r4.1.c 1 fun a44 =>
      CallV Try.prog 17 #[.slice r23.1.a r23.1.n r23.1.c, .slice a44 (48 - 0) (r4.1.c - 0)] w' [.one .bool] fun (r45 : Bool × Unit) w46 =>
      cond ((e0 == 0) == r45.1) (CallV Try.prog 16 #[] w46 [.one .bool] fun (r47 : Bool × Unit) w48 => r47.1 = true ∧ Ext w w48) (false = true ∧ Ext w w46)) := fun {w' e0} e he => by
    refine ⟨by omega, ?_⟩
    intro a44 ha44
    have i44 := sub_part (h4.ext (xW.trans e)) (i := 0) (j := 48) (m := r4.1.c) (by omega) (by omega) (by omega) ha44
    refine (SameBytes_c (i23.ext e) i44).mono ?_
    rintro ⟨(r5 : Bool), ⟨⟩⟩ w5 ⟨h5, e5⟩
    dsimp only at h5 ⊢
    refine cond_t (by rw [he, h5]; simp) ?_
    exact awake14_c.mono fun r w6 ⟨h, e6⟩ => ⟨h, x24.trans (xW.trans (e.trans (e5.trans e6)))⟩
  have st : ∀ {w' : World} {b B : Nat} {vs news : List Value} {K : World → Prop}, Ext W w' → W.heap.size ≤ b → Box w' B b 25 vs → vs.length = 6 → news.length = 6 → (∀ w2, Ext W w2 → K w2) → StoreV w' ⟨b, 0, none⟩ news (fun w2 => KeepOn D W w2 ∧ K w2) := fun {w' b B vs news K} e hb hbx hv hn hk => by
    have hbx' : Box w' W.heap.size b 25 vs := ⟨hb, hbx.heap⟩
    refine hbx'.store 0 (by omega) fun w2 _ bel _ _ => ?_
    have := Below.trans e bel
    exact ⟨kp this, hk _ this⟩
  refine ⟨?_, ?_⟩
  · refine newU' fun b27 w1 e1 o1 => ⟨kp e1, ?_, ?_⟩
    · refine appM (xs := []) o1 (i23.ext e1) e1.size (by omega) fun a2 c2 w2 o2 b2 _ _ => ?_
      have e2 : Ext W w2 := Below.trans e1 b2
      refine ⟨kp e2, ?_, ?_⟩
      · refine appM o2 (i26.ext e2) e2.size (by omega) fun a3 c3 w3 o3 b3 _ _ => ?_
        have e3 : Ext W w3 := Below.trans e2 b3
        refine ⟨kp e3, ?_, ?_⟩
        · refine (rd o3.ints).mono ?_
          rintro ⟨(q4 : Int × Int × Int × Int × Int × Int × Unit), (s4 : SlV), (z4 : Int), ⟨⟩⟩ w4 ⟨x4, h4'⟩
          dsimp only at h4' ⊢
          have e4 := e3.trans x4
          refine ⟨kp e4, newH (h := zeroH) fun b5 w5 e5 hb5 => ⟨kp (e4.trans e5), ?_⟩⟩
          exact st (e4.trans e5) (Nat.le_trans e4.size hb5.base) hb5 rfl rfl fun w6 e6 => fin e6 h4'
        · refine newH (h := zeroH) fun b5 w5 e5 hb5 => ⟨kp (e3.trans e5), ?_⟩
          refine (rd (o3.ext e5).ints).mono ?_
          rintro ⟨(q4 : Int × Int × Int × Int × Int × Int × Unit), (s4 : SlV), (z4 : Int), ⟨⟩⟩ w4 ⟨x4, h4'⟩
          dsimp only at h4' ⊢
          have e4 := e3.trans (e5.trans x4)
          refine ⟨kp e4, ?_⟩
          exact st e4 (Nat.le_trans e3.size hb5.base) (hb5.ext x4) rfl rfl fun w6 e6 => fin e6 h4'
      · refine newH (h := zeroH) fun b5 w5 e5 hb5 => ⟨kp (e2.trans e5), ?_⟩
        refine appM (o2.ext e5) (i26.ext (e2.trans e5)) (e2.trans e5).size (by omega) fun a3 c3 w3 o3 b3 but3 _ => ?_
        have e3 : Ext W w3 := Below.trans (e2.trans e5) b3
        refine ⟨kp e3, ?_⟩
        have hb3 := hb5.butA but3 (fun p hp => by have := own_blk o2 hp; have := hb5.base; omega)
        refine (rd o3.ints).mono ?_
        rintro ⟨(q4 : Int × Int × Int × Int × Int × Int × Unit), (s4 : SlV), (z4 : Int), ⟨⟩⟩ w4 ⟨x4, h4'⟩
        dsimp only at h4' ⊢
        have e4 := e3.trans x4
        refine ⟨kp e4, ?_⟩
        exact st e4 (Nat.le_trans e2.size hb5.base) (hb3.ext x4) rfl rfl fun w6 e6 => fin e6 h4'
    · refine newH (h := zeroH) fun b5 w5 e5 hb5 => ⟨kp (e1.trans e5), ?_⟩
      refine appM (xs := []) (o1.ext e5) (i23.ext (e1.trans e5)) (e1.trans e5).size (by omega) fun a2 c2 w2 o2 b2 but2 mov2 => ?_
      have e2 : Ext W w2 := Below.trans (e1.trans e5) b2
      refine ⟨kp e2, ?_⟩
      have hb2 := hb5.butA but2 (fun p hp => by have := own_blk o1 hp; have := hb5.base; omega)
      have ne2 : ∀ p, a2 = some p → b5 ≠ p.block := fun p hp => by
        rcases mov2 with h | ⟨b, hb, h⟩
        · have := own_blk o1 (h.symm.trans hp); have := hb5.base; omega
        · rw [h] at hp
          have := Option.some.inj hp
          subst this
          have := hb5.lt
          show b5 ≠ b
          omega
      refine appM o2 (i26.ext e2) e2.size (by omega) fun a3 c3 w3 o3 b3 but3 _ => ?_
      have e3 : Ext W w3 := Below.trans e2 b3
      refine ⟨kp e3, ?_⟩
      have hb3 := hb2.butA but3 ne2
      refine (rd o3.ints).mono ?_
      rintro ⟨(q4 : Int × Int × Int × Int × Int × Int × Unit), (s4 : SlV), (z4 : Int), ⟨⟩⟩ w4 ⟨x4, h4'⟩
      dsimp only at h4' ⊢
      have e4 := e3.trans x4
      refine ⟨kp e4, ?_⟩
      exact st e4 (Nat.le_trans e1.size hb5.base) (hb3.ext x4) rfl rfl fun w6 e6 => fin e6 h4'
  · refine newH (h := zeroH) fun b5 w5 e5 hb5 => ⟨kp e5, ?_⟩
    refine newU' fun b27 w1 e1 o1 => ⟨kp (e5.trans e1), ?_⟩
    refine appM (xs := []) o1 (i23.ext (e5.trans e1)) e1.size (by omega) fun a2 c2 w2 o2 b2 _ _ => ?_
    have f2 : Ext w5 w2 := Below.trans e1 b2
    refine ⟨kp (e5.trans f2), ?_⟩
    refine appM o2 (i26.ext (e5.trans f2)) f2.size (by omega) fun a3 c3 w3 o3 b3 _ _ => ?_
    have f3 : Ext w5 w3 := Below.trans f2 b3
    refine ⟨kp (e5.trans f3), ?_⟩
    refine (rd o3.ints).mono ?_
    rintro ⟨(q4 : Int × Int × Int × Int × Int × Int × Unit), (s4 : SlV), (z4 : Int), ⟨⟩⟩ w4 ⟨x4, h4'⟩
    dsimp only at h4' ⊢
    have e4 := e5.trans (f3.trans x4)
    refine ⟨kp e4, ?_⟩
    exact st e4 hb5.base (hb5.ext (f3.trans x4)) rfl rfl fun w6 e6 => fin e6 h4'

end Go.Proofs.Ytombjhkdakmhpaa.Vc
