/- Texts in one: The steps of a plan on a memory of parts, by the part's place (printed by wip/tools/sepgen.py). Calls and single elements in the separate parts. Maps from places to numbers, as parts. The plans of functions as plain statements, printed by wip/tools/vcgen.py; the kernel holds each to the code. -/
import Derived.WideKeyRuns
import Derived.Test.YtiemdjnmghackaaZPagemapInsa

/-! The steps of a plan on a memory of parts, by the part's place (printed by wip/tools/sepgen.py). -/
namespace Go.Eng
open Go Go.RowKit
set_option linter.unusedVariables false
section
variable {E : Nat → Prop} {w0 w w' : World} {Rs : List Asr} {b : Nat} {e : TypeId} {vs : List Value}
theorem Sep.ldR {i : Nat} (S : Sep E w0 w Rs) (hi : Rs[i]? = some (BoxA b e vs)) {j : Nat} {h : SS} {v : Value} {x : h.T} (hv : vs[j]? = some v) (hr : h.rd v = some x) {K : h.T → Prop} (hk : K x) : LoadS w ⟨b, j, none⟩ h K :=
  S.ld i hi x (by rw [hv, SS.rd_v hr]) hk
theorem Sep.ldaR {i : Nat} (S : Sep E w0 w Rs) (hi : Rs[i]? = some (BoxA b e vs)) {l : List SS} {x : Tup l} (hr : tupR l vs = some x) {K : Tup l → Prop} (hk : K x) : LoadA w ⟨b, 0, none⟩ l K :=
  S.lda i hi x (tupR_v hr).symm hk
theorem Sep.ldaRN {i : Nat} (S : Sep E w0 w Rs) (hi : Rs[i]? = some (BoxA b e vs)) {o : Nat} {l : List SS} {x : Tup l} (hr : tupR l ((vs.drop o).take l.length) = some x) {K : Tup l → Prop} (hk : K x) : LoadA w ⟨b, o, none⟩ l K :=
  S.ldaN i hi o x (tupR_v hr).symm hk
theorem Sep.storeR {i : Nat} (S : Sep E w0 w Rs) (hi : Rs[i]? = some (BoxA b e vs)) {news : List Value} (hl : vs.length = news.length) {K : World → Prop}
    (hk : ∀ w', Sep E w0 w' (Rs.set i (BoxA b e news)) → Fr (fun k => k = b) w w' → K w') : StoreV w ⟨b, 0, none⟩ news K :=
  S.store i hi 0 (by omega) fun w' S' f => hk w' (by rw [show vs.take 0 ++ (news ++ vs.drop (0 + news.length)) = news by rw [List.take_zero, List.drop_eq_nil_of_le (by omega)]; simp] at S'; exact S') f
theorem Sep.storeR1 {i : Nat} (S : Sep E w0 w Rs) (hi : Rs[i]? = some (BoxA b e vs)) {j : Nat} {v : Value} (hl : j < vs.length) {K : World → Prop}
    (hk : ∀ w', Sep E w0 w' (Rs.set i (BoxA b e (vs.set j v))) → Fr (fun k => k = b) w w' → K w') : StoreV w ⟨b, j, none⟩ [v] K :=
  S.store i hi j (by simp; omega) fun w' S' f => hk w' (by
    rw [show vs.take j ++ ([v] ++ vs.drop (j + [v].length)) = vs.set j v by
      rw [List.set_eq_take_append_cons_drop, if_pos hl]; rfl] at S'
    exact S') f

theorem Sep.ld0 (S : Sep E w0 w (BoxA b e vs :: Rs)) {j : Nat} {h : SS} {v : Value} {x : h.T} (hv : vs[j]? = some v) (hr : h.rd v = some x) {K : h.T → Prop} (hk : K x) : LoadS w ⟨b, j, none⟩ h K := S.ldR (i := 0) rfl hv hr hk
theorem Sep.la0 (S : Sep E w0 w (BoxA b e vs :: Rs)) {l : List SS} {x : Tup l} (hr : tupR l vs = some x) {K : Tup l → Prop} (hk : K x) : LoadA w ⟨b, 0, none⟩ l K := S.ldaR (i := 0) rfl hr hk
theorem Sep.lb0 (S : Sep E w0 w (BoxA b e vs :: Rs)) {o : Nat} {l : List SS} {x : Tup l} (hr : tupR l ((vs.drop o).take l.length) = some x) {K : Tup l → Prop} (hk : K x) : LoadA w ⟨b, o, none⟩ l K := S.ldaRN (i := 0) rfl hr hk
theorem Sep.st0 (S : Sep E w0 w (BoxA b e vs :: Rs)) {news : List Value} (hl : vs.length = news.length) {K : World → Prop} (hk : ∀ w', Sep E w0 w' (BoxA b e news :: Rs) → Fr (fun k => k = b) w w' → K w') : StoreV w ⟨b, 0, none⟩ news K := S.storeR (i := 0) rfl hl hk
theorem Sep.su0 (S : Sep E w0 w (BoxA b e vs :: Rs)) {j : Nat} {v : Value} (hl : Nat.blt j vs.length = true) {K : World → Prop} (hk : ∀ w', Sep E w0 w' (BoxA b e (vs.set j v) :: Rs) → Fr (fun k => k = b) w w' → K w') : StoreV w ⟨b, j, none⟩ [v] K := S.storeR1 (i := 0) rfl (by simpa [Nat.blt_eq] using hl) hk
theorem Sep.bl0 (S : Sep E w0 w (BoxA b e vs :: Rs)) : b < w.heap.size := S.lt 0 rfl
theorem Sep.ap0 {sz by' : Nat} {a : Option Addr} {n c m : Nat} {news : List Value} (S : Sep E w0 w (OwnA e sz a n c vs :: Rs)) (hl : news.length = m * sz) (h1 : oneAll news) (hby : (2 * (n + m) + 256) * by' ≤ 281474976710656) (h63 : n + m ≤ 9223372036854775807) {K : Option Addr → Nat → Nat → World → Prop} (hk : ∀ a' c' w', Sep E w0 w' (OwnA e sz a' (n + m) c' (vs ++ news) :: Rs) → Fr (fun k => ∃ q : Addr, a = some q ∧ k = q.block) w w' → K a' (n + m) c' w') : AppV w e sz by' a n c news m K := S.app 0 rfl hl h1 hby h63 hk
theorem Sep.pu0 {a : Option Addr} {n c : Nat} (S : Sep E w0 w (OwnA e 1 a n c vs :: Rs)) {j : Int} (h0 : 0 ≤ j) (h1 : j < (n : Int)) {v : Value} (hv : v.oneCell' = true) {K : World → Prop} (hk : ∀ w', Sep E w0 w' (OwnA e 1 a n c (vs.set j.toNat v) :: Rs) → Fr (fun k => ∃ q : Addr, a = some q ∧ k = q.block) w w' → K w') : (0 ≤ j ∧ j < (n : Int)) ∧ ∃ q, a = some q ∧ StoreV w (q.add (j.toNat * 1)) [v] K := S.put 0 rfl h0 h1 hv hk
theorem Sep.in0 {a : Option Addr} {n c : Nat} {k : IntKind} {xs : List Int} (S : Sep E w0 w (OwnA e 1 a n c (xs.map (Value.int k)) :: Rs)) : Ints w k a n c xs := S.ints 0 rfl
theorem Sep.ab0 {a : Option Addr} {n c m : Nat} {xs ys : List Int} {a2 : Option Addr} {c2 : Nat} (S : Sep E w0 w (OwnA e 1 a n c (xs.map (Value.int .u8)) :: Rs)) (hy : Ints w .u8 a2 m c2 ys) (hn : n + m ≤ 140737488351232) {K : Option Addr → Nat → Nat → World → Prop} (hk : ∀ a' c' w', Sep E w0 w' (OwnA e 1 a' (n + m) c' ((xs ++ ys).map (Value.int .u8)) :: Rs) → Fr (fun k => ∃ q : Addr, a = some q ∧ k = q.block) w w' → K a' (n + m) c' w') : AppS w a2 m 1 fun ns => AppV w e 1 1 a n c ns m K :=
  AppS.of (news := ys.map (Value.int .u8)) (by rw [List.length_map, hy.len]; omega) hy.rd (S.ap0 (by rw [List.length_map, hy.len]; omega) (oneAll.ints _ _) (by omega) (by omega) fun a' c' w' S' f => hk a' c' w' (by rw [List.map_append]; exact S') f)
theorem Sep.ld1 {R0 : Asr} (S : Sep E w0 w (R0 :: BoxA b e vs :: Rs)) {j : Nat} {h : SS} {v : Value} {x : h.T} (hv : vs[j]? = some v) (hr : h.rd v = some x) {K : h.T → Prop} (hk : K x) : LoadS w ⟨b, j, none⟩ h K := S.ldR (i := 1) rfl hv hr hk
theorem Sep.la1 {R0 : Asr} (S : Sep E w0 w (R0 :: BoxA b e vs :: Rs)) {l : List SS} {x : Tup l} (hr : tupR l vs = some x) {K : Tup l → Prop} (hk : K x) : LoadA w ⟨b, 0, none⟩ l K := S.ldaR (i := 1) rfl hr hk
theorem Sep.lb1 {R0 : Asr} (S : Sep E w0 w (R0 :: BoxA b e vs :: Rs)) {o : Nat} {l : List SS} {x : Tup l} (hr : tupR l ((vs.drop o).take l.length) = some x) {K : Tup l → Prop} (hk : K x) : LoadA w ⟨b, o, none⟩ l K := S.ldaRN (i := 1) rfl hr hk
theorem Sep.st1 {R0 : Asr} (S : Sep E w0 w (R0 :: BoxA b e vs :: Rs)) {news : List Value} (hl : vs.length = news.length) {K : World → Prop} (hk : ∀ w', Sep E w0 w' (R0 :: BoxA b e news :: Rs) → Fr (fun k => k = b) w w' → K w') : StoreV w ⟨b, 0, none⟩ news K := S.storeR (i := 1) rfl hl hk
theorem Sep.su1 {R0 : Asr} (S : Sep E w0 w (R0 :: BoxA b e vs :: Rs)) {j : Nat} {v : Value} (hl : Nat.blt j vs.length = true) {K : World → Prop} (hk : ∀ w', Sep E w0 w' (R0 :: BoxA b e (vs.set j v) :: Rs) → Fr (fun k => k = b) w w' → K w') : StoreV w ⟨b, j, none⟩ [v] K := S.storeR1 (i := 1) rfl (by simpa [Nat.blt_eq] using hl) hk
theorem Sep.bl1 {R0 : Asr} (S : Sep E w0 w (R0 :: BoxA b e vs :: Rs)) : b < w.heap.size := S.lt 1 rfl
theorem Sep.ap1 {R0 : Asr} {sz by' : Nat} {a : Option Addr} {n c m : Nat} {news : List Value} (S : Sep E w0 w (R0 :: OwnA e sz a n c vs :: Rs)) (hl : news.length = m * sz) (h1 : oneAll news) (hby : (2 * (n + m) + 256) * by' ≤ 281474976710656) (h63 : n + m ≤ 9223372036854775807) {K : Option Addr → Nat → Nat → World → Prop} (hk : ∀ a' c' w', Sep E w0 w' (R0 :: OwnA e sz a' (n + m) c' (vs ++ news) :: Rs) → Fr (fun k => ∃ q : Addr, a = some q ∧ k = q.block) w w' → K a' (n + m) c' w') : AppV w e sz by' a n c news m K := S.app 1 rfl hl h1 hby h63 hk
theorem Sep.pu1 {R0 : Asr} {a : Option Addr} {n c : Nat} (S : Sep E w0 w (R0 :: OwnA e 1 a n c vs :: Rs)) {j : Int} (h0 : 0 ≤ j) (h1 : j < (n : Int)) {v : Value} (hv : v.oneCell' = true) {K : World → Prop} (hk : ∀ w', Sep E w0 w' (R0 :: OwnA e 1 a n c (vs.set j.toNat v) :: Rs) → Fr (fun k => ∃ q : Addr, a = some q ∧ k = q.block) w w' → K w') : (0 ≤ j ∧ j < (n : Int)) ∧ ∃ q, a = some q ∧ StoreV w (q.add (j.toNat * 1)) [v] K := S.put 1 rfl h0 h1 hv hk
theorem Sep.in1 {R0 : Asr} {a : Option Addr} {n c : Nat} {k : IntKind} {xs : List Int} (S : Sep E w0 w (R0 :: OwnA e 1 a n c (xs.map (Value.int k)) :: Rs)) : Ints w k a n c xs := S.ints 1 rfl
theorem Sep.ab1 {R0 : Asr} {a : Option Addr} {n c m : Nat} {xs ys : List Int} {a2 : Option Addr} {c2 : Nat} (S : Sep E w0 w (R0 :: OwnA e 1 a n c (xs.map (Value.int .u8)) :: Rs)) (hy : Ints w .u8 a2 m c2 ys) (hn : n + m ≤ 140737488351232) {K : Option Addr → Nat → Nat → World → Prop} (hk : ∀ a' c' w', Sep E w0 w' (R0 :: OwnA e 1 a' (n + m) c' ((xs ++ ys).map (Value.int .u8)) :: Rs) → Fr (fun k => ∃ q : Addr, a = some q ∧ k = q.block) w w' → K a' (n + m) c' w') : AppS w a2 m 1 fun ns => AppV w e 1 1 a n c ns m K :=
  AppS.of (news := ys.map (Value.int .u8)) (by rw [List.length_map, hy.len]; omega) hy.rd (S.ap1 (by rw [List.length_map, hy.len]; omega) (oneAll.ints _ _) (by omega) (by omega) fun a' c' w' S' f => hk a' c' w' (by rw [List.map_append]; exact S') f)
theorem Sep.ld2 {R0 R1 : Asr} (S : Sep E w0 w (R0 :: R1 :: BoxA b e vs :: Rs)) {j : Nat} {h : SS} {v : Value} {x : h.T} (hv : vs[j]? = some v) (hr : h.rd v = some x) {K : h.T → Prop} (hk : K x) : LoadS w ⟨b, j, none⟩ h K := S.ldR (i := 2) rfl hv hr hk
theorem Sep.la2 {R0 R1 : Asr} (S : Sep E w0 w (R0 :: R1 :: BoxA b e vs :: Rs)) {l : List SS} {x : Tup l} (hr : tupR l vs = some x) {K : Tup l → Prop} (hk : K x) : LoadA w ⟨b, 0, none⟩ l K := S.ldaR (i := 2) rfl hr hk
theorem Sep.lb2 {R0 R1 : Asr} (S : Sep E w0 w (R0 :: R1 :: BoxA b e vs :: Rs)) {o : Nat} {l : List SS} {x : Tup l} (hr : tupR l ((vs.drop o).take l.length) = some x) {K : Tup l → Prop} (hk : K x) : LoadA w ⟨b, o, none⟩ l K := S.ldaRN (i := 2) rfl hr hk
theorem Sep.st2 {R0 R1 : Asr} (S : Sep E w0 w (R0 :: R1 :: BoxA b e vs :: Rs)) {news : List Value} (hl : vs.length = news.length) {K : World → Prop} (hk : ∀ w', Sep E w0 w' (R0 :: R1 :: BoxA b e news :: Rs) → Fr (fun k => k = b) w w' → K w') : StoreV w ⟨b, 0, none⟩ news K := S.storeR (i := 2) rfl hl hk
theorem Sep.su2 {R0 R1 : Asr} (S : Sep E w0 w (R0 :: R1 :: BoxA b e vs :: Rs)) {j : Nat} {v : Value} (hl : Nat.blt j vs.length = true) {K : World → Prop} (hk : ∀ w', Sep E w0 w' (R0 :: R1 :: BoxA b e (vs.set j v) :: Rs) → Fr (fun k => k = b) w w' → K w') : StoreV w ⟨b, j, none⟩ [v] K := S.storeR1 (i := 2) rfl (by simpa [Nat.blt_eq] using hl) hk
theorem Sep.bl2 {R0 R1 : Asr} (S : Sep E w0 w (R0 :: R1 :: BoxA b e vs :: Rs)) : b < w.heap.size := S.lt 2 rfl
theorem Sep.ap2 {R0 R1 : Asr} {sz by' : Nat} {a : Option Addr} {n c m : Nat} {news : List Value} (S : Sep E w0 w (R0 :: R1 :: OwnA e sz a n c vs :: Rs)) (hl : news.length = m * sz) (h1 : oneAll news) (hby : (2 * (n + m) + 256) * by' ≤ 281474976710656) (h63 : n + m ≤ 9223372036854775807) {K : Option Addr → Nat → Nat → World → Prop} (hk : ∀ a' c' w', Sep E w0 w' (R0 :: R1 :: OwnA e sz a' (n + m) c' (vs ++ news) :: Rs) → Fr (fun k => ∃ q : Addr, a = some q ∧ k = q.block) w w' → K a' (n + m) c' w') : AppV w e sz by' a n c news m K := S.app 2 rfl hl h1 hby h63 hk
theorem Sep.pu2 {R0 R1 : Asr} {a : Option Addr} {n c : Nat} (S : Sep E w0 w (R0 :: R1 :: OwnA e 1 a n c vs :: Rs)) {j : Int} (h0 : 0 ≤ j) (h1 : j < (n : Int)) {v : Value} (hv : v.oneCell' = true) {K : World → Prop} (hk : ∀ w', Sep E w0 w' (R0 :: R1 :: OwnA e 1 a n c (vs.set j.toNat v) :: Rs) → Fr (fun k => ∃ q : Addr, a = some q ∧ k = q.block) w w' → K w') : (0 ≤ j ∧ j < (n : Int)) ∧ ∃ q, a = some q ∧ StoreV w (q.add (j.toNat * 1)) [v] K := S.put 2 rfl h0 h1 hv hk
theorem Sep.in2 {R0 R1 : Asr} {a : Option Addr} {n c : Nat} {k : IntKind} {xs : List Int} (S : Sep E w0 w (R0 :: R1 :: OwnA e 1 a n c (xs.map (Value.int k)) :: Rs)) : Ints w k a n c xs := S.ints 2 rfl
theorem Sep.ab2 {R0 R1 : Asr} {a : Option Addr} {n c m : Nat} {xs ys : List Int} {a2 : Option Addr} {c2 : Nat} (S : Sep E w0 w (R0 :: R1 :: OwnA e 1 a n c (xs.map (Value.int .u8)) :: Rs)) (hy : Ints w .u8 a2 m c2 ys) (hn : n + m ≤ 140737488351232) {K : Option Addr → Nat → Nat → World → Prop} (hk : ∀ a' c' w', Sep E w0 w' (R0 :: R1 :: OwnA e 1 a' (n + m) c' ((xs ++ ys).map (Value.int .u8)) :: Rs) → Fr (fun k => ∃ q : Addr, a = some q ∧ k = q.block) w w' → K a' (n + m) c' w') : AppS w a2 m 1 fun ns => AppV w e 1 1 a n c ns m K :=
  AppS.of (news := ys.map (Value.int .u8)) (by rw [List.length_map, hy.len]; omega) hy.rd (S.ap2 (by rw [List.length_map, hy.len]; omega) (oneAll.ints _ _) (by omega) (by omega) fun a' c' w' S' f => hk a' c' w' (by rw [List.map_append]; exact S') f)
theorem Sep.ld3 {R0 R1 R2 : Asr} (S : Sep E w0 w (R0 :: R1 :: R2 :: BoxA b e vs :: Rs)) {j : Nat} {h : SS} {v : Value} {x : h.T} (hv : vs[j]? = some v) (hr : h.rd v = some x) {K : h.T → Prop} (hk : K x) : LoadS w ⟨b, j, none⟩ h K := S.ldR (i := 3) rfl hv hr hk
theorem Sep.la3 {R0 R1 R2 : Asr} (S : Sep E w0 w (R0 :: R1 :: R2 :: BoxA b e vs :: Rs)) {l : List SS} {x : Tup l} (hr : tupR l vs = some x) {K : Tup l → Prop} (hk : K x) : LoadA w ⟨b, 0, none⟩ l K := S.ldaR (i := 3) rfl hr hk
theorem Sep.lb3 {R0 R1 R2 : Asr} (S : Sep E w0 w (R0 :: R1 :: R2 :: BoxA b e vs :: Rs)) {o : Nat} {l : List SS} {x : Tup l} (hr : tupR l ((vs.drop o).take l.length) = some x) {K : Tup l → Prop} (hk : K x) : LoadA w ⟨b, o, none⟩ l K := S.ldaRN (i := 3) rfl hr hk
theorem Sep.st3 {R0 R1 R2 : Asr} (S : Sep E w0 w (R0 :: R1 :: R2 :: BoxA b e vs :: Rs)) {news : List Value} (hl : vs.length = news.length) {K : World → Prop} (hk : ∀ w', Sep E w0 w' (R0 :: R1 :: R2 :: BoxA b e news :: Rs) → Fr (fun k => k = b) w w' → K w') : StoreV w ⟨b, 0, none⟩ news K := S.storeR (i := 3) rfl hl hk
theorem Sep.su3 {R0 R1 R2 : Asr} (S : Sep E w0 w (R0 :: R1 :: R2 :: BoxA b e vs :: Rs)) {j : Nat} {v : Value} (hl : Nat.blt j vs.length = true) {K : World → Prop} (hk : ∀ w', Sep E w0 w' (R0 :: R1 :: R2 :: BoxA b e (vs.set j v) :: Rs) → Fr (fun k => k = b) w w' → K w') : StoreV w ⟨b, j, none⟩ [v] K := S.storeR1 (i := 3) rfl (by simpa [Nat.blt_eq] using hl) hk
theorem Sep.bl3 {R0 R1 R2 : Asr} (S : Sep E w0 w (R0 :: R1 :: R2 :: BoxA b e vs :: Rs)) : b < w.heap.size := S.lt 3 rfl
theorem Sep.ap3 {R0 R1 R2 : Asr} {sz by' : Nat} {a : Option Addr} {n c m : Nat} {news : List Value} (S : Sep E w0 w (R0 :: R1 :: R2 :: OwnA e sz a n c vs :: Rs)) (hl : news.length = m * sz) (h1 : oneAll news) (hby : (2 * (n + m) + 256) * by' ≤ 281474976710656) (h63 : n + m ≤ 9223372036854775807) {K : Option Addr → Nat → Nat → World → Prop} (hk : ∀ a' c' w', Sep E w0 w' (R0 :: R1 :: R2 :: OwnA e sz a' (n + m) c' (vs ++ news) :: Rs) → Fr (fun k => ∃ q : Addr, a = some q ∧ k = q.block) w w' → K a' (n + m) c' w') : AppV w e sz by' a n c news m K := S.app 3 rfl hl h1 hby h63 hk
theorem Sep.pu3 {R0 R1 R2 : Asr} {a : Option Addr} {n c : Nat} (S : Sep E w0 w (R0 :: R1 :: R2 :: OwnA e 1 a n c vs :: Rs)) {j : Int} (h0 : 0 ≤ j) (h1 : j < (n : Int)) {v : Value} (hv : v.oneCell' = true) {K : World → Prop} (hk : ∀ w', Sep E w0 w' (R0 :: R1 :: R2 :: OwnA e 1 a n c (vs.set j.toNat v) :: Rs) → Fr (fun k => ∃ q : Addr, a = some q ∧ k = q.block) w w' → K w') : (0 ≤ j ∧ j < (n : Int)) ∧ ∃ q, a = some q ∧ StoreV w (q.add (j.toNat * 1)) [v] K := S.put 3 rfl h0 h1 hv hk
theorem Sep.in3 {R0 R1 R2 : Asr} {a : Option Addr} {n c : Nat} {k : IntKind} {xs : List Int} (S : Sep E w0 w (R0 :: R1 :: R2 :: OwnA e 1 a n c (xs.map (Value.int k)) :: Rs)) : Ints w k a n c xs := S.ints 3 rfl
theorem Sep.ab3 {R0 R1 R2 : Asr} {a : Option Addr} {n c m : Nat} {xs ys : List Int} {a2 : Option Addr} {c2 : Nat} (S : Sep E w0 w (R0 :: R1 :: R2 :: OwnA e 1 a n c (xs.map (Value.int .u8)) :: Rs)) (hy : Ints w .u8 a2 m c2 ys) (hn : n + m ≤ 140737488351232) {K : Option Addr → Nat → Nat → World → Prop} (hk : ∀ a' c' w', Sep E w0 w' (R0 :: R1 :: R2 :: OwnA e 1 a' (n + m) c' ((xs ++ ys).map (Value.int .u8)) :: Rs) → Fr (fun k => ∃ q : Addr, a = some q ∧ k = q.block) w w' → K a' (n + m) c' w') : AppS w a2 m 1 fun ns => AppV w e 1 1 a n c ns m K :=
  AppS.of (news := ys.map (Value.int .u8)) (by rw [List.length_map, hy.len]; omega) hy.rd (S.ap3 (by rw [List.length_map, hy.len]; omega) (oneAll.ints _ _) (by omega) (by omega) fun a' c' w' S' f => hk a' c' w' (by rw [List.map_append]; exact S') f)
theorem Sep.ld4 {R0 R1 R2 R3 : Asr} (S : Sep E w0 w (R0 :: R1 :: R2 :: R3 :: BoxA b e vs :: Rs)) {j : Nat} {h : SS} {v : Value} {x : h.T} (hv : vs[j]? = some v) (hr : h.rd v = some x) {K : h.T → Prop} (hk : K x) : LoadS w ⟨b, j, none⟩ h K := S.ldR (i := 4) rfl hv hr hk
theorem Sep.la4 {R0 R1 R2 R3 : Asr} (S : Sep E w0 w (R0 :: R1 :: R2 :: R3 :: BoxA b e vs :: Rs)) {l : List SS} {x : Tup l} (hr : tupR l vs = some x) {K : Tup l → Prop} (hk : K x) : LoadA w ⟨b, 0, none⟩ l K := S.ldaR (i := 4) rfl hr hk
theorem Sep.lb4 {R0 R1 R2 R3 : Asr} (S : Sep E w0 w (R0 :: R1 :: R2 :: R3 :: BoxA b e vs :: Rs)) {o : Nat} {l : List SS} {x : Tup l} (hr : tupR l ((vs.drop o).take l.length) = some x) {K : Tup l → Prop} (hk : K x) : LoadA w ⟨b, o, none⟩ l K := S.ldaRN (i := 4) rfl hr hk
theorem Sep.st4 {R0 R1 R2 R3 : Asr} (S : Sep E w0 w (R0 :: R1 :: R2 :: R3 :: BoxA b e vs :: Rs)) {news : List Value} (hl : vs.length = news.length) {K : World → Prop} (hk : ∀ w', Sep E w0 w' (R0 :: R1 :: R2 :: R3 :: BoxA b e news :: Rs) → Fr (fun k => k = b) w w' → K w') : StoreV w ⟨b, 0, none⟩ news K := S.storeR (i := 4) rfl hl hk
theorem Sep.su4 {R0 R1 R2 R3 : Asr} (S : Sep E w0 w (R0 :: R1 :: R2 :: R3 :: BoxA b e vs :: Rs)) {j : Nat} {v : Value} (hl : Nat.blt j vs.length = true) {K : World → Prop} (hk : ∀ w', Sep E w0 w' (R0 :: R1 :: R2 :: R3 :: BoxA b e (vs.set j v) :: Rs) → Fr (fun k => k = b) w w' → K w') : StoreV w ⟨b, j, none⟩ [v] K := S.storeR1 (i := 4) rfl (by simpa [Nat.blt_eq] using hl) hk
theorem Sep.bl4 {R0 R1 R2 R3 : Asr} (S : Sep E w0 w (R0 :: R1 :: R2 :: R3 :: BoxA b e vs :: Rs)) : b < w.heap.size := S.lt 4 rfl
theorem Sep.ap4 {R0 R1 R2 R3 : Asr} {sz by' : Nat} {a : Option Addr} {n c m : Nat} {news : List Value} (S : Sep E w0 w (R0 :: R1 :: R2 :: R3 :: OwnA e sz a n c vs :: Rs)) (hl : news.length = m * sz) (h1 : oneAll news) (hby : (2 * (n + m) + 256) * by' ≤ 281474976710656) (h63 : n + m ≤ 9223372036854775807) {K : Option Addr → Nat → Nat → World → Prop} (hk : ∀ a' c' w', Sep E w0 w' (R0 :: R1 :: R2 :: R3 :: OwnA e sz a' (n + m) c' (vs ++ news) :: Rs) → Fr (fun k => ∃ q : Addr, a = some q ∧ k = q.block) w w' → K a' (n + m) c' w') : AppV w e sz by' a n c news m K := S.app 4 rfl hl h1 hby h63 hk
theorem Sep.pu4 {R0 R1 R2 R3 : Asr} {a : Option Addr} {n c : Nat} (S : Sep E w0 w (R0 :: R1 :: R2 :: R3 :: OwnA e 1 a n c vs :: Rs)) {j : Int} (h0 : 0 ≤ j) (h1 : j < (n : Int)) {v : Value} (hv : v.oneCell' = true) {K : World → Prop} (hk : ∀ w', Sep E w0 w' (R0 :: R1 :: R2 :: R3 :: OwnA e 1 a n c (vs.set j.toNat v) :: Rs) → Fr (fun k => ∃ q : Addr, a = some q ∧ k = q.block) w w' → K w') : (0 ≤ j ∧ j < (n : Int)) ∧ ∃ q, a = some q ∧ StoreV w (q.add (j.toNat * 1)) [v] K := S.put 4 rfl h0 h1 hv hk
theorem Sep.in4 {R0 R1 R2 R3 : Asr} {a : Option Addr} {n c : Nat} {k : IntKind} {xs : List Int} (S : Sep E w0 w (R0 :: R1 :: R2 :: R3 :: OwnA e 1 a n c (xs.map (Value.int k)) :: Rs)) : Ints w k a n c xs := S.ints 4 rfl
theorem Sep.ab4 {R0 R1 R2 R3 : Asr} {a : Option Addr} {n c m : Nat} {xs ys : List Int} {a2 : Option Addr} {c2 : Nat} (S : Sep E w0 w (R0 :: R1 :: R2 :: R3 :: OwnA e 1 a n c (xs.map (Value.int .u8)) :: Rs)) (hy : Ints w .u8 a2 m c2 ys) (hn : n + m ≤ 140737488351232) {K : Option Addr → Nat → Nat → World → Prop} (hk : ∀ a' c' w', Sep E w0 w' (R0 :: R1 :: R2 :: R3 :: OwnA e 1 a' (n + m) c' ((xs ++ ys).map (Value.int .u8)) :: Rs) → Fr (fun k => ∃ q : Addr, a = some q ∧ k = q.block) w w' → K a' (n + m) c' w') : AppS w a2 m 1 fun ns => AppV w e 1 1 a n c ns m K :=
  AppS.of (news := ys.map (Value.int .u8)) (by rw [List.length_map, hy.len]; omega) hy.rd (S.ap4 (by rw [List.length_map, hy.len]; omega) (oneAll.ints _ _) (by omega) (by omega) fun a' c' w' S' f => hk a' c' w' (by rw [List.map_append]; exact S') f)
theorem Sep.ld5 {R0 R1 R2 R3 R4 : Asr} (S : Sep E w0 w (R0 :: R1 :: R2 :: R3 :: R4 :: BoxA b e vs :: Rs)) {j : Nat} {h : SS} {v : Value} {x : h.T} (hv : vs[j]? = some v) (hr : h.rd v = some x) {K : h.T → Prop} (hk : K x) : LoadS w ⟨b, j, none⟩ h K := S.ldR (i := 5) rfl hv hr hk
theorem Sep.la5 {R0 R1 R2 R3 R4 : Asr} (S : Sep E w0 w (R0 :: R1 :: R2 :: R3 :: R4 :: BoxA b e vs :: Rs)) {l : List SS} {x : Tup l} (hr : tupR l vs = some x) {K : Tup l → Prop} (hk : K x) : LoadA w ⟨b, 0, none⟩ l K := S.ldaR (i := 5) rfl hr hk
theorem Sep.lb5 {R0 R1 R2 R3 R4 : Asr} (S : Sep E w0 w (R0 :: R1 :: R2 :: R3 :: R4 :: BoxA b e vs :: Rs)) {o : Nat} {l : List SS} {x : Tup l} (hr : tupR l ((vs.drop o).take l.length) = some x) {K : Tup l → Prop} (hk : K x) : LoadA w ⟨b, o, none⟩ l K := S.ldaRN (i := 5) rfl hr hk
theorem Sep.st5 {R0 R1 R2 R3 R4 : Asr} (S : Sep E w0 w (R0 :: R1 :: R2 :: R3 :: R4 :: BoxA b e vs :: Rs)) {news : List Value} (hl : vs.length = news.length) {K : World → Prop} (hk : ∀ w', Sep E w0 w' (R0 :: R1 :: R2 :: R3 :: R4 :: BoxA b e news :: Rs) → Fr (fun k => k = b) w w' → K w') : StoreV w ⟨b, 0, none⟩ news K := S.storeR (i := 5) rfl hl hk
theorem Sep.su5 {R0 R1 R2 R3 R4 : Asr} (S : Sep E w0 w (R0 :: R1 :: R2 :: R3 :: R4 :: BoxA b e vs :: Rs)) {j : Nat} {v : Value} (hl : Nat.blt j vs.length = true) {K : World → Prop} (hk : ∀ w', Sep E w0 w' (R0 :: R1 :: R2 :: R3 :: R4 :: BoxA b e (vs.set j v) :: Rs) → Fr (fun k => k = b) w w' → K w') : StoreV w ⟨b, j, none⟩ [v] K := S.storeR1 (i := 5) rfl (by simpa [Nat.blt_eq] using hl) hk
theorem Sep.bl5 {R0 R1 R2 R3 R4 : Asr} (S : Sep E w0 w (R0 :: R1 :: R2 :: R3 :: R4 :: BoxA b e vs :: Rs)) : b < w.heap.size := S.lt 5 rfl
theorem Sep.ap5 {R0 R1 R2 R3 R4 : Asr} {sz by' : Nat} {a : Option Addr} {n c m : Nat} {news : List Value} (S : Sep E w0 w (R0 :: R1 :: R2 :: R3 :: R4 :: OwnA e sz a n c vs :: Rs)) (hl : news.length = m * sz) (h1 : oneAll news) (hby : (2 * (n + m) + 256) * by' ≤ 281474976710656) (h63 : n + m ≤ 9223372036854775807) {K : Option Addr → Nat → Nat → World → Prop} (hk : ∀ a' c' w', Sep E w0 w' (R0 :: R1 :: R2 :: R3 :: R4 :: OwnA e sz a' (n + m) c' (vs ++ news) :: Rs) → Fr (fun k => ∃ q : Addr, a = some q ∧ k = q.block) w w' → K a' (n + m) c' w') : AppV w e sz by' a n c news m K := S.app 5 rfl hl h1 hby h63 hk
theorem Sep.pu5 {R0 R1 R2 R3 R4 : Asr} {a : Option Addr} {n c : Nat} (S : Sep E w0 w (R0 :: R1 :: R2 :: R3 :: R4 :: OwnA e 1 a n c vs :: Rs)) {j : Int} (h0 : 0 ≤ j) (h1 : j < (n : Int)) {v : Value} (hv : v.oneCell' = true) {K : World → Prop} (hk : ∀ w', Sep E w0 w' (R0 :: R1 :: R2 :: R3 :: R4 :: OwnA e 1 a n c (vs.set j.toNat v) :: Rs) → Fr (fun k => ∃ q : Addr, a = some q ∧ k = q.block) w w' → K w') : (0 ≤ j ∧ j < (n : Int)) ∧ ∃ q, a = some q ∧ StoreV w (q.add (j.toNat * 1)) [v] K := S.put 5 rfl h0 h1 hv hk
theorem Sep.in5 {R0 R1 R2 R3 R4 : Asr} {a : Option Addr} {n c : Nat} {k : IntKind} {xs : List Int} (S : Sep E w0 w (R0 :: R1 :: R2 :: R3 :: R4 :: OwnA e 1 a n c (xs.map (Value.int k)) :: Rs)) : Ints w k a n c xs := S.ints 5 rfl
theorem Sep.ab5 {R0 R1 R2 R3 R4 : Asr} {a : Option Addr} {n c m : Nat} {xs ys : List Int} {a2 : Option Addr} {c2 : Nat} (S : Sep E w0 w (R0 :: R1 :: R2 :: R3 :: R4 :: OwnA e 1 a n c (xs.map (Value.int .u8)) :: Rs)) (hy : Ints w .u8 a2 m c2 ys) (hn : n + m ≤ 140737488351232) {K : Option Addr → Nat → Nat → World → Prop} (hk : ∀ a' c' w', Sep E w0 w' (R0 :: R1 :: R2 :: R3 :: R4 :: OwnA e 1 a' (n + m) c' ((xs ++ ys).map (Value.int .u8)) :: Rs) → Fr (fun k => ∃ q : Addr, a = some q ∧ k = q.block) w w' → K a' (n + m) c' w') : AppS w a2 m 1 fun ns => AppV w e 1 1 a n c ns m K :=
  AppS.of (news := ys.map (Value.int .u8)) (by rw [List.length_map, hy.len]; omega) hy.rd (S.ap5 (by rw [List.length_map, hy.len]; omega) (oneAll.ints _ _) (by omega) (by omega) fun a' c' w' S' f => hk a' c' w' (by rw [List.map_append]; exact S') f)
theorem Sep.ld6 {R0 R1 R2 R3 R4 R5 : Asr} (S : Sep E w0 w (R0 :: R1 :: R2 :: R3 :: R4 :: R5 :: BoxA b e vs :: Rs)) {j : Nat} {h : SS} {v : Value} {x : h.T} (hv : vs[j]? = some v) (hr : h.rd v = some x) {K : h.T → Prop} (hk : K x) : LoadS w ⟨b, j, none⟩ h K := S.ldR (i := 6) rfl hv hr hk
theorem Sep.la6 {R0 R1 R2 R3 R4 R5 : Asr} (S : Sep E w0 w (R0 :: R1 :: R2 :: R3 :: R4 :: R5 :: BoxA b e vs :: Rs)) {l : List SS} {x : Tup l} (hr : tupR l vs = some x) {K : Tup l → Prop} (hk : K x) : LoadA w ⟨b, 0, none⟩ l K := S.ldaR (i := 6) rfl hr hk
theorem Sep.lb6 {R0 R1 R2 R3 R4 R5 : Asr} (S : Sep E w0 w (R0 :: R1 :: R2 :: R3 :: R4 :: R5 :: BoxA b e vs :: Rs)) {o : Nat} {l : List SS} {x : Tup l} (hr : tupR l ((vs.drop o).take l.length) = some x) {K : Tup l → Prop} (hk : K x) : LoadA w ⟨b, o, none⟩ l K := S.ldaRN (i := 6) rfl hr hk
theorem Sep.st6 {R0 R1 R2 R3 R4 R5 : Asr} (S : Sep E w0 w (R0 :: R1 :: R2 :: R3 :: R4 :: R5 :: BoxA b e vs :: Rs)) {news : List Value} (hl : vs.length = news.length) {K : World → Prop} (hk : ∀ w', Sep E w0 w' (R0 :: R1 :: R2 :: R3 :: R4 :: R5 :: BoxA b e news :: Rs) → Fr (fun k => k = b) w w' → K w') : StoreV w ⟨b, 0, none⟩ news K := S.storeR (i := 6) rfl hl hk
theorem Sep.su6 {R0 R1 R2 R3 R4 R5 : Asr} (S : Sep E w0 w (R0 :: R1 :: R2 :: R3 :: R4 :: R5 :: BoxA b e vs :: Rs)) {j : Nat} {v : Value} (hl : Nat.blt j vs.length = true) {K : World → Prop} (hk : ∀ w', Sep E w0 w' (R0 :: R1 :: R2 :: R3 :: R4 :: R5 :: BoxA b e (vs.set j v) :: Rs) → Fr (fun k => k = b) w w' → K w') : StoreV w ⟨b, j, none⟩ [v] K := S.storeR1 (i := 6) rfl (by simpa [Nat.blt_eq] using hl) hk
theorem Sep.bl6 {R0 R1 R2 R3 R4 R5 : Asr} (S : Sep E w0 w (R0 :: R1 :: R2 :: R3 :: R4 :: R5 :: BoxA b e vs :: Rs)) : b < w.heap.size := S.lt 6 rfl
theorem Sep.ap6 {R0 R1 R2 R3 R4 R5 : Asr} {sz by' : Nat} {a : Option Addr} {n c m : Nat} {news : List Value} (S : Sep E w0 w (R0 :: R1 :: R2 :: R3 :: R4 :: R5 :: OwnA e sz a n c vs :: Rs)) (hl : news.length = m * sz) (h1 : oneAll news) (hby : (2 * (n + m) + 256) * by' ≤ 281474976710656) (h63 : n + m ≤ 9223372036854775807) {K : Option Addr → Nat → Nat → World → Prop} (hk : ∀ a' c' w', Sep E w0 w' (R0 :: R1 :: R2 :: R3 :: R4 :: R5 :: OwnA e sz a' (n + m) c' (vs ++ news) :: Rs) → Fr (fun k => ∃ q : Addr, a = some q ∧ k = q.block) w w' → K a' (n + m) c' w') : AppV w e sz by' a n c news m K := S.app 6 rfl hl h1 hby h63 hk
theorem Sep.pu6 {R0 R1 R2 R3 R4 R5 : Asr} {a : Option Addr} {n c : Nat} (S : Sep E w0 w (R0 :: R1 :: R2 :: R3 :: R4 :: R5 :: OwnA e 1 a n c vs :: Rs)) {j : Int} (h0 : 0 ≤ j) (h1 : j < (n : Int)) {v : Value} (hv : v.oneCell' = true) {K : World → Prop} (hk : ∀ w', Sep E w0 w' (R0 :: R1 :: R2 :: R3 :: R4 :: R5 :: OwnA e 1 a n c (vs.set j.toNat v) :: Rs) → Fr (fun k => ∃ q : Addr, a = some q ∧ k = q.block) w w' → K w') : (0 ≤ j ∧ j < (n : Int)) ∧ ∃ q, a = some q ∧ StoreV w (q.add (j.toNat * 1)) [v] K := S.put 6 rfl h0 h1 hv hk
theorem Sep.in6 {R0 R1 R2 R3 R4 R5 : Asr} {a : Option Addr} {n c : Nat} {k : IntKind} {xs : List Int} (S : Sep E w0 w (R0 :: R1 :: R2 :: R3 :: R4 :: R5 :: OwnA e 1 a n c (xs.map (Value.int k)) :: Rs)) : Ints w k a n c xs := S.ints 6 rfl
theorem Sep.ab6 {R0 R1 R2 R3 R4 R5 : Asr} {a : Option Addr} {n c m : Nat} {xs ys : List Int} {a2 : Option Addr} {c2 : Nat} (S : Sep E w0 w (R0 :: R1 :: R2 :: R3 :: R4 :: R5 :: OwnA e 1 a n c (xs.map (Value.int .u8)) :: Rs)) (hy : Ints w .u8 a2 m c2 ys) (hn : n + m ≤ 140737488351232) {K : Option Addr → Nat → Nat → World → Prop} (hk : ∀ a' c' w', Sep E w0 w' (R0 :: R1 :: R2 :: R3 :: R4 :: R5 :: OwnA e 1 a' (n + m) c' ((xs ++ ys).map (Value.int .u8)) :: Rs) → Fr (fun k => ∃ q : Addr, a = some q ∧ k = q.block) w w' → K a' (n + m) c' w') : AppS w a2 m 1 fun ns => AppV w e 1 1 a n c ns m K :=
  AppS.of (news := ys.map (Value.int .u8)) (by rw [List.length_map, hy.len]; omega) hy.rd (S.ap6 (by rw [List.length_map, hy.len]; omega) (oneAll.ints _ _) (by omega) (by omega) fun a' c' w' S' f => hk a' c' w' (by rw [List.map_append]; exact S') f)
theorem Sep.ld7 {R0 R1 R2 R3 R4 R5 R6 : Asr} (S : Sep E w0 w (R0 :: R1 :: R2 :: R3 :: R4 :: R5 :: R6 :: BoxA b e vs :: Rs)) {j : Nat} {h : SS} {v : Value} {x : h.T} (hv : vs[j]? = some v) (hr : h.rd v = some x) {K : h.T → Prop} (hk : K x) : LoadS w ⟨b, j, none⟩ h K := S.ldR (i := 7) rfl hv hr hk
theorem Sep.la7 {R0 R1 R2 R3 R4 R5 R6 : Asr} (S : Sep E w0 w (R0 :: R1 :: R2 :: R3 :: R4 :: R5 :: R6 :: BoxA b e vs :: Rs)) {l : List SS} {x : Tup l} (hr : tupR l vs = some x) {K : Tup l → Prop} (hk : K x) : LoadA w ⟨b, 0, none⟩ l K := S.ldaR (i := 7) rfl hr hk
theorem Sep.lb7 {R0 R1 R2 R3 R4 R5 R6 : Asr} (S : Sep E w0 w (R0 :: R1 :: R2 :: R3 :: R4 :: R5 :: R6 :: BoxA b e vs :: Rs)) {o : Nat} {l : List SS} {x : Tup l} (hr : tupR l ((vs.drop o).take l.length) = some x) {K : Tup l → Prop} (hk : K x) : LoadA w ⟨b, o, none⟩ l K := S.ldaRN (i := 7) rfl hr hk
theorem Sep.st7 {R0 R1 R2 R3 R4 R5 R6 : Asr} (S : Sep E w0 w (R0 :: R1 :: R2 :: R3 :: R4 :: R5 :: R6 :: BoxA b e vs :: Rs)) {news : List Value} (hl : vs.length = news.length) {K : World → Prop} (hk : ∀ w', Sep E w0 w' (R0 :: R1 :: R2 :: R3 :: R4 :: R5 :: R6 :: BoxA b e news :: Rs) → Fr (fun k => k = b) w w' → K w') : StoreV w ⟨b, 0, none⟩ news K := S.storeR (i := 7) rfl hl hk
theorem Sep.su7 {R0 R1 R2 R3 R4 R5 R6 : Asr} (S : Sep E w0 w (R0 :: R1 :: R2 :: R3 :: R4 :: R5 :: R6 :: BoxA b e vs :: Rs)) {j : Nat} {v : Value} (hl : Nat.blt j vs.length = true) {K : World → Prop} (hk : ∀ w', Sep E w0 w' (R0 :: R1 :: R2 :: R3 :: R4 :: R5 :: R6 :: BoxA b e (vs.set j v) :: Rs) → Fr (fun k => k = b) w w' → K w') : StoreV w ⟨b, j, none⟩ [v] K := S.storeR1 (i := 7) rfl (by simpa [Nat.blt_eq] using hl) hk
theorem Sep.bl7 {R0 R1 R2 R3 R4 R5 R6 : Asr} (S : Sep E w0 w (R0 :: R1 :: R2 :: R3 :: R4 :: R5 :: R6 :: BoxA b e vs :: Rs)) : b < w.heap.size := S.lt 7 rfl
theorem Sep.ap7 {R0 R1 R2 R3 R4 R5 R6 : Asr} {sz by' : Nat} {a : Option Addr} {n c m : Nat} {news : List Value} (S : Sep E w0 w (R0 :: R1 :: R2 :: R3 :: R4 :: R5 :: R6 :: OwnA e sz a n c vs :: Rs)) (hl : news.length = m * sz) (h1 : oneAll news) (hby : (2 * (n + m) + 256) * by' ≤ 281474976710656) (h63 : n + m ≤ 9223372036854775807) {K : Option Addr → Nat → Nat → World → Prop} (hk : ∀ a' c' w', Sep E w0 w' (R0 :: R1 :: R2 :: R3 :: R4 :: R5 :: R6 :: OwnA e sz a' (n + m) c' (vs ++ news) :: Rs) → Fr (fun k => ∃ q : Addr, a = some q ∧ k = q.block) w w' → K a' (n + m) c' w') : AppV w e sz by' a n c news m K := S.app 7 rfl hl h1 hby h63 hk
theorem Sep.pu7 {R0 R1 R2 R3 R4 R5 R6 : Asr} {a : Option Addr} {n c : Nat} (S : Sep E w0 w (R0 :: R1 :: R2 :: R3 :: R4 :: R5 :: R6 :: OwnA e 1 a n c vs :: Rs)) {j : Int} (h0 : 0 ≤ j) (h1 : j < (n : Int)) {v : Value} (hv : v.oneCell' = true) {K : World → Prop} (hk : ∀ w', Sep E w0 w' (R0 :: R1 :: R2 :: R3 :: R4 :: R5 :: R6 :: OwnA e 1 a n c (vs.set j.toNat v) :: Rs) → Fr (fun k => ∃ q : Addr, a = some q ∧ k = q.block) w w' → K w') : (0 ≤ j ∧ j < (n : Int)) ∧ ∃ q, a = some q ∧ StoreV w (q.add (j.toNat * 1)) [v] K := S.put 7 rfl h0 h1 hv hk
theorem Sep.in7 {R0 R1 R2 R3 R4 R5 R6 : Asr} {a : Option Addr} {n c : Nat} {k : IntKind} {xs : List Int} (S : Sep E w0 w (R0 :: R1 :: R2 :: R3 :: R4 :: R5 :: R6 :: OwnA e 1 a n c (xs.map (Value.int k)) :: Rs)) : Ints w k a n c xs := S.ints 7 rfl
theorem Sep.ab7 {R0 R1 R2 R3 R4 R5 R6 : Asr} {a : Option Addr} {n c m : Nat} {xs ys : List Int} {a2 : Option Addr} {c2 : Nat} (S : Sep E w0 w (R0 :: R1 :: R2 :: R3 :: R4 :: R5 :: R6 :: OwnA e 1 a n c (xs.map (Value.int .u8)) :: Rs)) (hy : Ints w .u8 a2 m c2 ys) (hn : n + m ≤ 140737488351232) {K : Option Addr → Nat → Nat → World → Prop} (hk : ∀ a' c' w', Sep E w0 w' (R0 :: R1 :: R2 :: R3 :: R4 :: R5 :: R6 :: OwnA e 1 a' (n + m) c' ((xs ++ ys).map (Value.int .u8)) :: Rs) → Fr (fun k => ∃ q : Addr, a = some q ∧ k = q.block) w w' → K a' (n + m) c' w') : AppS w a2 m 1 fun ns => AppV w e 1 1 a n c ns m K :=
  AppS.of (news := ys.map (Value.int .u8)) (by rw [List.length_map, hy.len]; omega) hy.rd (S.ap7 (by rw [List.length_map, hy.len]; omega) (oneAll.ints _ _) (by omega) (by omega) fun a' c' w' S' f => hk a' c' w' (by rw [List.map_append]; exact S') f)
theorem Sep.ld8 {R0 R1 R2 R3 R4 R5 R6 R7 : Asr} (S : Sep E w0 w (R0 :: R1 :: R2 :: R3 :: R4 :: R5 :: R6 :: R7 :: BoxA b e vs :: Rs)) {j : Nat} {h : SS} {v : Value} {x : h.T} (hv : vs[j]? = some v) (hr : h.rd v = some x) {K : h.T → Prop} (hk : K x) : LoadS w ⟨b, j, none⟩ h K := S.ldR (i := 8) rfl hv hr hk
theorem Sep.la8 {R0 R1 R2 R3 R4 R5 R6 R7 : Asr} (S : Sep E w0 w (R0 :: R1 :: R2 :: R3 :: R4 :: R5 :: R6 :: R7 :: BoxA b e vs :: Rs)) {l : List SS} {x : Tup l} (hr : tupR l vs = some x) {K : Tup l → Prop} (hk : K x) : LoadA w ⟨b, 0, none⟩ l K := S.ldaR (i := 8) rfl hr hk
theorem Sep.lb8 {R0 R1 R2 R3 R4 R5 R6 R7 : Asr} (S : Sep E w0 w (R0 :: R1 :: R2 :: R3 :: R4 :: R5 :: R6 :: R7 :: BoxA b e vs :: Rs)) {o : Nat} {l : List SS} {x : Tup l} (hr : tupR l ((vs.drop o).take l.length) = some x) {K : Tup l → Prop} (hk : K x) : LoadA w ⟨b, o, none⟩ l K := S.ldaRN (i := 8) rfl hr hk
theorem Sep.st8 {R0 R1 R2 R3 R4 R5 R6 R7 : Asr} (S : Sep E w0 w (R0 :: R1 :: R2 :: R3 :: R4 :: R5 :: R6 :: R7 :: BoxA b e vs :: Rs)) {news : List Value} (hl : vs.length = news.length) {K : World → Prop} (hk : ∀ w', Sep E w0 w' (R0 :: R1 :: R2 :: R3 :: R4 :: R5 :: R6 :: R7 :: BoxA b e news :: Rs) → Fr (fun k => k = b) w w' → K w') : StoreV w ⟨b, 0, none⟩ news K := S.storeR (i := 8) rfl hl hk
theorem Sep.su8 {R0 R1 R2 R3 R4 R5 R6 R7 : Asr} (S : Sep E w0 w (R0 :: R1 :: R2 :: R3 :: R4 :: R5 :: R6 :: R7 :: BoxA b e vs :: Rs)) {j : Nat} {v : Value} (hl : Nat.blt j vs.length = true) {K : World → Prop} (hk : ∀ w', Sep E w0 w' (R0 :: R1 :: R2 :: R3 :: R4 :: R5 :: R6 :: R7 :: BoxA b e (vs.set j v) :: Rs) → Fr (fun k => k = b) w w' → K w') : StoreV w ⟨b, j, none⟩ [v] K := S.storeR1 (i := 8) rfl (by simpa [Nat.blt_eq] using hl) hk
theorem Sep.bl8 {R0 R1 R2 R3 R4 R5 R6 R7 : Asr} (S : Sep E w0 w (R0 :: R1 :: R2 :: R3 :: R4 :: R5 :: R6 :: R7 :: BoxA b e vs :: Rs)) : b < w.heap.size := S.lt 8 rfl
theorem Sep.ap8 {R0 R1 R2 R3 R4 R5 R6 R7 : Asr} {sz by' : Nat} {a : Option Addr} {n c m : Nat} {news : List Value} (S : Sep E w0 w (R0 :: R1 :: R2 :: R3 :: R4 :: R5 :: R6 :: R7 :: OwnA e sz a n c vs :: Rs)) (hl : news.length = m * sz) (h1 : oneAll news) (hby : (2 * (n + m) + 256) * by' ≤ 281474976710656) (h63 : n + m ≤ 9223372036854775807) {K : Option Addr → Nat → Nat → World → Prop} (hk : ∀ a' c' w', Sep E w0 w' (R0 :: R1 :: R2 :: R3 :: R4 :: R5 :: R6 :: R7 :: OwnA e sz a' (n + m) c' (vs ++ news) :: Rs) → Fr (fun k => ∃ q : Addr, a = some q ∧ k = q.block) w w' → K a' (n + m) c' w') : AppV w e sz by' a n c news m K := S.app 8 rfl hl h1 hby h63 hk
theorem Sep.pu8 {R0 R1 R2 R3 R4 R5 R6 R7 : Asr} {a : Option Addr} {n c : Nat} (S : Sep E w0 w (R0 :: R1 :: R2 :: R3 :: R4 :: R5 :: R6 :: R7 :: OwnA e 1 a n c vs :: Rs)) {j : Int} (h0 : 0 ≤ j) (h1 : j < (n : Int)) {v : Value} (hv : v.oneCell' = true) {K : World → Prop} (hk : ∀ w', Sep E w0 w' (R0 :: R1 :: R2 :: R3 :: R4 :: R5 :: R6 :: R7 :: OwnA e 1 a n c (vs.set j.toNat v) :: Rs) → Fr (fun k => ∃ q : Addr, a = some q ∧ k = q.block) w w' → K w') : (0 ≤ j ∧ j < (n : Int)) ∧ ∃ q, a = some q ∧ StoreV w (q.add (j.toNat * 1)) [v] K := S.put 8 rfl h0 h1 hv hk
theorem Sep.in8 {R0 R1 R2 R3 R4 R5 R6 R7 : Asr} {a : Option Addr} {n c : Nat} {k : IntKind} {xs : List Int} (S : Sep E w0 w (R0 :: R1 :: R2 :: R3 :: R4 :: R5 :: R6 :: R7 :: OwnA e 1 a n c (xs.map (Value.int k)) :: Rs)) : Ints w k a n c xs := S.ints 8 rfl
theorem Sep.ab8 {R0 R1 R2 R3 R4 R5 R6 R7 : Asr} {a : Option Addr} {n c m : Nat} {xs ys : List Int} {a2 : Option Addr} {c2 : Nat} (S : Sep E w0 w (R0 :: R1 :: R2 :: R3 :: R4 :: R5 :: R6 :: R7 :: OwnA e 1 a n c (xs.map (Value.int .u8)) :: Rs)) (hy : Ints w .u8 a2 m c2 ys) (hn : n + m ≤ 140737488351232) {K : Option Addr → Nat → Nat → World → Prop} (hk : ∀ a' c' w', Sep E w0 w' (R0 :: R1 :: R2 :: R3 :: R4 :: R5 :: R6 :: R7 :: OwnA e 1 a' (n + m) c' ((xs ++ ys).map (Value.int .u8)) :: Rs) → Fr (fun k => ∃ q : Addr, a = some q ∧ k = q.block) w w' → K a' (n + m) c' w') : AppS w a2 m 1 fun ns => AppV w e 1 1 a n c ns m K :=
  AppS.of (news := ys.map (Value.int .u8)) (by rw [List.length_map, hy.len]; omega) hy.rd (S.ap8 (by rw [List.length_map, hy.len]; omega) (oneAll.ints _ _) (by omega) (by omega) fun a' c' w' S' f => hk a' c' w' (by rw [List.map_append]; exact S') f)
theorem Sep.ld9 {R0 R1 R2 R3 R4 R5 R6 R7 R8 : Asr} (S : Sep E w0 w (R0 :: R1 :: R2 :: R3 :: R4 :: R5 :: R6 :: R7 :: R8 :: BoxA b e vs :: Rs)) {j : Nat} {h : SS} {v : Value} {x : h.T} (hv : vs[j]? = some v) (hr : h.rd v = some x) {K : h.T → Prop} (hk : K x) : LoadS w ⟨b, j, none⟩ h K := S.ldR (i := 9) rfl hv hr hk
theorem Sep.la9 {R0 R1 R2 R3 R4 R5 R6 R7 R8 : Asr} (S : Sep E w0 w (R0 :: R1 :: R2 :: R3 :: R4 :: R5 :: R6 :: R7 :: R8 :: BoxA b e vs :: Rs)) {l : List SS} {x : Tup l} (hr : tupR l vs = some x) {K : Tup l → Prop} (hk : K x) : LoadA w ⟨b, 0, none⟩ l K := S.ldaR (i := 9) rfl hr hk
theorem Sep.lb9 {R0 R1 R2 R3 R4 R5 R6 R7 R8 : Asr} (S : Sep E w0 w (R0 :: R1 :: R2 :: R3 :: R4 :: R5 :: R6 :: R7 :: R8 :: BoxA b e vs :: Rs)) {o : Nat} {l : List SS} {x : Tup l} (hr : tupR l ((vs.drop o).take l.length) = some x) {K : Tup l → Prop} (hk : K x) : LoadA w ⟨b, o, none⟩ l K := S.ldaRN (i := 9) rfl hr hk
theorem Sep.st9 {R0 R1 R2 R3 R4 R5 R6 R7 R8 : Asr} (S : Sep E w0 w (R0 :: R1 :: R2 :: R3 :: R4 :: R5 :: R6 :: R7 :: R8 :: BoxA b e vs :: Rs)) {news : List Value} (hl : vs.length = news.length) {K : World → Prop} (hk : ∀ w', Sep E w0 w' (R0 :: R1 :: R2 :: R3 :: R4 :: R5 :: R6 :: R7 :: R8 :: BoxA b e news :: Rs) → Fr (fun k => k = b) w w' → K w') : StoreV w ⟨b, 0, none⟩ news K := S.storeR (i := 9) rfl hl hk
theorem Sep.su9 {R0 R1 R2 R3 R4 R5 R6 R7 R8 : Asr} (S : Sep E w0 w (R0 :: R1 :: R2 :: R3 :: R4 :: R5 :: R6 :: R7 :: R8 :: BoxA b e vs :: Rs)) {j : Nat} {v : Value} (hl : Nat.blt j vs.length = true) {K : World → Prop} (hk : ∀ w', Sep E w0 w' (R0 :: R1 :: R2 :: R3 :: R4 :: R5 :: R6 :: R7 :: R8 :: BoxA b e (vs.set j v) :: Rs) → Fr (fun k => k = b) w w' → K w') : StoreV w ⟨b, j, none⟩ [v] K := S.storeR1 (i := 9) rfl (by simpa [Nat.blt_eq] using hl) hk
theorem Sep.bl9 {R0 R1 R2 R3 R4 R5 R6 R7 R8 : Asr} (S : Sep E w0 w (R0 :: R1 :: R2 :: R3 :: R4 :: R5 :: R6 :: R7 :: R8 :: BoxA b e vs :: Rs)) : b < w.heap.size := S.lt 9 rfl
theorem Sep.ap9 {R0 R1 R2 R3 R4 R5 R6 R7 R8 : Asr} {sz by' : Nat} {a : Option Addr} {n c m : Nat} {news : List Value} (S : Sep E w0 w (R0 :: R1 :: R2 :: R3 :: R4 :: R5 :: R6 :: R7 :: R8 :: OwnA e sz a n c vs :: Rs)) (hl : news.length = m * sz) (h1 : oneAll news) (hby : (2 * (n + m) + 256) * by' ≤ 281474976710656) (h63 : n + m ≤ 9223372036854775807) {K : Option Addr → Nat → Nat → World → Prop} (hk : ∀ a' c' w', Sep E w0 w' (R0 :: R1 :: R2 :: R3 :: R4 :: R5 :: R6 :: R7 :: R8 :: OwnA e sz a' (n + m) c' (vs ++ news) :: Rs) → Fr (fun k => ∃ q : Addr, a = some q ∧ k = q.block) w w' → K a' (n + m) c' w') : AppV w e sz by' a n c news m K := S.app 9 rfl hl h1 hby h63 hk
theorem Sep.pu9 {R0 R1 R2 R3 R4 R5 R6 R7 R8 : Asr} {a : Option Addr} {n c : Nat} (S : Sep E w0 w (R0 :: R1 :: R2 :: R3 :: R4 :: R5 :: R6 :: R7 :: R8 :: OwnA e 1 a n c vs :: Rs)) {j : Int} (h0 : 0 ≤ j) (h1 : j < (n : Int)) {v : Value} (hv : v.oneCell' = true) {K : World → Prop} (hk : ∀ w', Sep E w0 w' (R0 :: R1 :: R2 :: R3 :: R4 :: R5 :: R6 :: R7 :: R8 :: OwnA e 1 a n c (vs.set j.toNat v) :: Rs) → Fr (fun k => ∃ q : Addr, a = some q ∧ k = q.block) w w' → K w') : (0 ≤ j ∧ j < (n : Int)) ∧ ∃ q, a = some q ∧ StoreV w (q.add (j.toNat * 1)) [v] K := S.put 9 rfl h0 h1 hv hk
theorem Sep.in9 {R0 R1 R2 R3 R4 R5 R6 R7 R8 : Asr} {a : Option Addr} {n c : Nat} {k : IntKind} {xs : List Int} (S : Sep E w0 w (R0 :: R1 :: R2 :: R3 :: R4 :: R5 :: R6 :: R7 :: R8 :: OwnA e 1 a n c (xs.map (Value.int k)) :: Rs)) : Ints w k a n c xs := S.ints 9 rfl
theorem Sep.ab9 {R0 R1 R2 R3 R4 R5 R6 R7 R8 : Asr} {a : Option Addr} {n c m : Nat} {xs ys : List Int} {a2 : Option Addr} {c2 : Nat} (S : Sep E w0 w (R0 :: R1 :: R2 :: R3 :: R4 :: R5 :: R6 :: R7 :: R8 :: OwnA e 1 a n c (xs.map (Value.int .u8)) :: Rs)) (hy : Ints w .u8 a2 m c2 ys) (hn : n + m ≤ 140737488351232) {K : Option Addr → Nat → Nat → World → Prop} (hk : ∀ a' c' w', Sep E w0 w' (R0 :: R1 :: R2 :: R3 :: R4 :: R5 :: R6 :: R7 :: R8 :: OwnA e 1 a' (n + m) c' ((xs ++ ys).map (Value.int .u8)) :: Rs) → Fr (fun k => ∃ q : Addr, a = some q ∧ k = q.block) w w' → K a' (n + m) c' w') : AppS w a2 m 1 fun ns => AppV w e 1 1 a n c ns m K :=
  AppS.of (news := ys.map (Value.int .u8)) (by rw [List.length_map, hy.len]; omega) hy.rd (S.ap9 (by rw [List.length_map, hy.len]; omega) (oneAll.ints _ _) (by omega) (by omega) fun a' c' w' S' f => hk a' c' w' (by rw [List.map_append]; exact S') f)
theorem Sep.ld10 {R0 R1 R2 R3 R4 R5 R6 R7 R8 R9 : Asr} (S : Sep E w0 w (R0 :: R1 :: R2 :: R3 :: R4 :: R5 :: R6 :: R7 :: R8 :: R9 :: BoxA b e vs :: Rs)) {j : Nat} {h : SS} {v : Value} {x : h.T} (hv : vs[j]? = some v) (hr : h.rd v = some x) {K : h.T → Prop} (hk : K x) : LoadS w ⟨b, j, none⟩ h K := S.ldR (i := 10) rfl hv hr hk
theorem Sep.la10 {R0 R1 R2 R3 R4 R5 R6 R7 R8 R9 : Asr} (S : Sep E w0 w (R0 :: R1 :: R2 :: R3 :: R4 :: R5 :: R6 :: R7 :: R8 :: R9 :: BoxA b e vs :: Rs)) {l : List SS} {x : Tup l} (hr : tupR l vs = some x) {K : Tup l → Prop} (hk : K x) : LoadA w ⟨b, 0, none⟩ l K := S.ldaR (i := 10) rfl hr hk
theorem Sep.lb10 {R0 R1 R2 R3 R4 R5 R6 R7 R8 R9 : Asr} (S : Sep E w0 w (R0 :: R1 :: R2 :: R3 :: R4 :: R5 :: R6 :: R7 :: R8 :: R9 :: BoxA b e vs :: Rs)) {o : Nat} {l : List SS} {x : Tup l} (hr : tupR l ((vs.drop o).take l.length) = some x) {K : Tup l → Prop} (hk : K x) : LoadA w ⟨b, o, none⟩ l K := S.ldaRN (i := 10) rfl hr hk
theorem Sep.st10 {R0 R1 R2 R3 R4 R5 R6 R7 R8 R9 : Asr} (S : Sep E w0 w (R0 :: R1 :: R2 :: R3 :: R4 :: R5 :: R6 :: R7 :: R8 :: R9 :: BoxA b e vs :: Rs)) {news : List Value} (hl : vs.length = news.length) {K : World → Prop} (hk : ∀ w', Sep E w0 w' (R0 :: R1 :: R2 :: R3 :: R4 :: R5 :: R6 :: R7 :: R8 :: R9 :: BoxA b e news :: Rs) → Fr (fun k => k = b) w w' → K w') : StoreV w ⟨b, 0, none⟩ news K := S.storeR (i := 10) rfl hl hk
theorem Sep.su10 {R0 R1 R2 R3 R4 R5 R6 R7 R8 R9 : Asr} (S : Sep E w0 w (R0 :: R1 :: R2 :: R3 :: R4 :: R5 :: R6 :: R7 :: R8 :: R9 :: BoxA b e vs :: Rs)) {j : Nat} {v : Value} (hl : Nat.blt j vs.length = true) {K : World → Prop} (hk : ∀ w', Sep E w0 w' (R0 :: R1 :: R2 :: R3 :: R4 :: R5 :: R6 :: R7 :: R8 :: R9 :: BoxA b e (vs.set j v) :: Rs) → Fr (fun k => k = b) w w' → K w') : StoreV w ⟨b, j, none⟩ [v] K := S.storeR1 (i := 10) rfl (by simpa [Nat.blt_eq] using hl) hk
theorem Sep.bl10 {R0 R1 R2 R3 R4 R5 R6 R7 R8 R9 : Asr} (S : Sep E w0 w (R0 :: R1 :: R2 :: R3 :: R4 :: R5 :: R6 :: R7 :: R8 :: R9 :: BoxA b e vs :: Rs)) : b < w.heap.size := S.lt 10 rfl
theorem Sep.ap10 {R0 R1 R2 R3 R4 R5 R6 R7 R8 R9 : Asr} {sz by' : Nat} {a : Option Addr} {n c m : Nat} {news : List Value} (S : Sep E w0 w (R0 :: R1 :: R2 :: R3 :: R4 :: R5 :: R6 :: R7 :: R8 :: R9 :: OwnA e sz a n c vs :: Rs)) (hl : news.length = m * sz) (h1 : oneAll news) (hby : (2 * (n + m) + 256) * by' ≤ 281474976710656) (h63 : n + m ≤ 9223372036854775807) {K : Option Addr → Nat → Nat → World → Prop} (hk : ∀ a' c' w', Sep E w0 w' (R0 :: R1 :: R2 :: R3 :: R4 :: R5 :: R6 :: R7 :: R8 :: R9 :: OwnA e sz a' (n + m) c' (vs ++ news) :: Rs) → Fr (fun k => ∃ q : Addr, a = some q ∧ k = q.block) w w' → K a' (n + m) c' w') : AppV w e sz by' a n c news m K := S.app 10 rfl hl h1 hby h63 hk
theorem Sep.pu10 {R0 R1 R2 R3 R4 R5 R6 R7 R8 R9 : Asr} {a : Option Addr} {n c : Nat} (S : Sep E w0 w (R0 :: R1 :: R2 :: R3 :: R4 :: R5 :: R6 :: R7 :: R8 :: R9 :: OwnA e 1 a n c vs :: Rs)) {j : Int} (h0 : 0 ≤ j) (h1 : j < (n : Int)) {v : Value} (hv : v.oneCell' = true) {K : World → Prop} (hk : ∀ w', Sep E w0 w' (R0 :: R1 :: R2 :: R3 :: R4 :: R5 :: R6 :: R7 :: R8 :: R9 :: OwnA e 1 a n c (vs.set j.toNat v) :: Rs) → Fr (fun k => ∃ q : Addr, a = some q ∧ k = q.block) w w' → K w') : (0 ≤ j ∧ j < (n : Int)) ∧ ∃ q, a = some q ∧ StoreV w (q.add (j.toNat * 1)) [v] K := S.put 10 rfl h0 h1 hv hk
theorem Sep.in10 {R0 R1 R2 R3 R4 R5 R6 R7 R8 R9 : Asr} {a : Option Addr} {n c : Nat} {k : IntKind} {xs : List Int} (S : Sep E w0 w (R0 :: R1 :: R2 :: R3 :: R4 :: R5 :: R6 :: R7 :: R8 :: R9 :: OwnA e 1 a n c (xs.map (Value.int k)) :: Rs)) : Ints w k a n c xs := S.ints 10 rfl
theorem Sep.ab10 {R0 R1 R2 R3 R4 R5 R6 R7 R8 R9 : Asr} {a : Option Addr} {n c m : Nat} {xs ys : List Int} {a2 : Option Addr} {c2 : Nat} (S : Sep E w0 w (R0 :: R1 :: R2 :: R3 :: R4 :: R5 :: R6 :: R7 :: R8 :: R9 :: OwnA e 1 a n c (xs.map (Value.int .u8)) :: Rs)) (hy : Ints w .u8 a2 m c2 ys) (hn : n + m ≤ 140737488351232) {K : Option Addr → Nat → Nat → World → Prop} (hk : ∀ a' c' w', Sep E w0 w' (R0 :: R1 :: R2 :: R3 :: R4 :: R5 :: R6 :: R7 :: R8 :: R9 :: OwnA e 1 a' (n + m) c' ((xs ++ ys).map (Value.int .u8)) :: Rs) → Fr (fun k => ∃ q : Addr, a = some q ∧ k = q.block) w w' → K a' (n + m) c' w') : AppS w a2 m 1 fun ns => AppV w e 1 1 a n c ns m K :=
  AppS.of (news := ys.map (Value.int .u8)) (by rw [List.length_map, hy.len]; omega) hy.rd (S.ap10 (by rw [List.length_map, hy.len]; omega) (oneAll.ints _ _) (by omega) (by omega) fun a' c' w' S' f => hk a' c' w' (by rw [List.map_append]; exact S') f)
theorem Sep.ld11 {R0 R1 R2 R3 R4 R5 R6 R7 R8 R9 R10 : Asr} (S : Sep E w0 w (R0 :: R1 :: R2 :: R3 :: R4 :: R5 :: R6 :: R7 :: R8 :: R9 :: R10 :: BoxA b e vs :: Rs)) {j : Nat} {h : SS} {v : Value} {x : h.T} (hv : vs[j]? = some v) (hr : h.rd v = some x) {K : h.T → Prop} (hk : K x) : LoadS w ⟨b, j, none⟩ h K := S.ldR (i := 11) rfl hv hr hk
theorem Sep.la11 {R0 R1 R2 R3 R4 R5 R6 R7 R8 R9 R10 : Asr} (S : Sep E w0 w (R0 :: R1 :: R2 :: R3 :: R4 :: R5 :: R6 :: R7 :: R8 :: R9 :: R10 :: BoxA b e vs :: Rs)) {l : List SS} {x : Tup l} (hr : tupR l vs = some x) {K : Tup l → Prop} (hk : K x) : LoadA w ⟨b, 0, none⟩ l K := S.ldaR (i := 11) rfl hr hk
theorem Sep.lb11 {R0 R1 R2 R3 R4 R5 R6 R7 R8 R9 R10 : Asr} (S : Sep E w0 w (R0 :: R1 :: R2 :: R3 :: R4 :: R5 :: R6 :: R7 :: R8 :: R9 :: R10 :: BoxA b e vs :: Rs)) {o : Nat} {l : List SS} {x : Tup l} (hr : tupR l ((vs.drop o).take l.length) = some x) {K : Tup l → Prop} (hk : K x) : LoadA w ⟨b, o, none⟩ l K := S.ldaRN (i := 11) rfl hr hk
theorem Sep.st11 {R0 R1 R2 R3 R4 R5 R6 R7 R8 R9 R10 : Asr} (S : Sep E w0 w (R0 :: R1 :: R2 :: R3 :: R4 :: R5 :: R6 :: R7 :: R8 :: R9 :: R10 :: BoxA b e vs :: Rs)) {news : List Value} (hl : vs.length = news.length) {K : World → Prop} (hk : ∀ w', Sep E w0 w' (R0 :: R1 :: R2 :: R3 :: R4 :: R5 :: R6 :: R7 :: R8 :: R9 :: R10 :: BoxA b e news :: Rs) → Fr (fun k => k = b) w w' → K w') : StoreV w ⟨b, 0, none⟩ news K := S.storeR (i := 11) rfl hl hk
theorem Sep.su11 {R0 R1 R2 R3 R4 R5 R6 R7 R8 R9 R10 : Asr} (S : Sep E w0 w (R0 :: R1 :: R2 :: R3 :: R4 :: R5 :: R6 :: R7 :: R8 :: R9 :: R10 :: BoxA b e vs :: Rs)) {j : Nat} {v : Value} (hl : Nat.blt j vs.length = true) {K : World → Prop} (hk : ∀ w', Sep E w0 w' (R0 :: R1 :: R2 :: R3 :: R4 :: R5 :: R6 :: R7 :: R8 :: R9 :: R10 :: BoxA b e (vs.set j v) :: Rs) → Fr (fun k => k = b) w w' → K w') : StoreV w ⟨b, j, none⟩ [v] K := S.storeR1 (i := 11) rfl (by simpa [Nat.blt_eq] using hl) hk
theorem Sep.bl11 {R0 R1 R2 R3 R4 R5 R6 R7 R8 R9 R10 : Asr} (S : Sep E w0 w (R0 :: R1 :: R2 :: R3 :: R4 :: R5 :: R6 :: R7 :: R8 :: R9 :: R10 :: BoxA b e vs :: Rs)) : b < w.heap.size := S.lt 11 rfl
theorem Sep.ap11 {R0 R1 R2 R3 R4 R5 R6 R7 R8 R9 R10 : Asr} {sz by' : Nat} {a : Option Addr} {n c m : Nat} {news : List Value} (S : Sep E w0 w (R0 :: R1 :: R2 :: R3 :: R4 :: R5 :: R6 :: R7 :: R8 :: R9 :: R10 :: OwnA e sz a n c vs :: Rs)) (hl : news.length = m * sz) (h1 : oneAll news) (hby : (2 * (n + m) + 256) * by' ≤ 281474976710656) (h63 : n + m ≤ 9223372036854775807) {K : Option Addr → Nat → Nat → World → Prop} (hk : ∀ a' c' w', Sep E w0 w' (R0 :: R1 :: R2 :: R3 :: R4 :: R5 :: R6 :: R7 :: R8 :: R9 :: R10 :: OwnA e sz a' (n + m) c' (vs ++ news) :: Rs) → Fr (fun k => ∃ q : Addr, a = some q ∧ k = q.block) w w' → K a' (n + m) c' w') : AppV w e sz by' a n c news m K := S.app 11 rfl hl h1 hby h63 hk
theorem Sep.pu11 {R0 R1 R2 R3 R4 R5 R6 R7 R8 R9 R10 : Asr} {a : Option Addr} {n c : Nat} (S : Sep E w0 w (R0 :: R1 :: R2 :: R3 :: R4 :: R5 :: R6 :: R7 :: R8 :: R9 :: R10 :: OwnA e 1 a n c vs :: Rs)) {j : Int} (h0 : 0 ≤ j) (h1 : j < (n : Int)) {v : Value} (hv : v.oneCell' = true) {K : World → Prop} (hk : ∀ w', Sep E w0 w' (R0 :: R1 :: R2 :: R3 :: R4 :: R5 :: R6 :: R7 :: R8 :: R9 :: R10 :: OwnA e 1 a n c (vs.set j.toNat v) :: Rs) → Fr (fun k => ∃ q : Addr, a = some q ∧ k = q.block) w w' → K w') : (0 ≤ j ∧ j < (n : Int)) ∧ ∃ q, a = some q ∧ StoreV w (q.add (j.toNat * 1)) [v] K := S.put 11 rfl h0 h1 hv hk
theorem Sep.in11 {R0 R1 R2 R3 R4 R5 R6 R7 R8 R9 R10 : Asr} {a : Option Addr} {n c : Nat} {k : IntKind} {xs : List Int} (S : Sep E w0 w (R0 :: R1 :: R2 :: R3 :: R4 :: R5 :: R6 :: R7 :: R8 :: R9 :: R10 :: OwnA e 1 a n c (xs.map (Value.int k)) :: Rs)) : Ints w k a n c xs := S.ints 11 rfl
theorem Sep.ab11 {R0 R1 R2 R3 R4 R5 R6 R7 R8 R9 R10 : Asr} {a : Option Addr} {n c m : Nat} {xs ys : List Int} {a2 : Option Addr} {c2 : Nat} (S : Sep E w0 w (R0 :: R1 :: R2 :: R3 :: R4 :: R5 :: R6 :: R7 :: R8 :: R9 :: R10 :: OwnA e 1 a n c (xs.map (Value.int .u8)) :: Rs)) (hy : Ints w .u8 a2 m c2 ys) (hn : n + m ≤ 140737488351232) {K : Option Addr → Nat → Nat → World → Prop} (hk : ∀ a' c' w', Sep E w0 w' (R0 :: R1 :: R2 :: R3 :: R4 :: R5 :: R6 :: R7 :: R8 :: R9 :: R10 :: OwnA e 1 a' (n + m) c' ((xs ++ ys).map (Value.int .u8)) :: Rs) → Fr (fun k => ∃ q : Addr, a = some q ∧ k = q.block) w w' → K a' (n + m) c' w') : AppS w a2 m 1 fun ns => AppV w e 1 1 a n c ns m K :=
  AppS.of (news := ys.map (Value.int .u8)) (by rw [List.length_map, hy.len]; omega) hy.rd (S.ap11 (by rw [List.length_map, hy.len]; omega) (oneAll.ints _ _) (by omega) (by omega) fun a' c' w' S' f => hk a' c' w' (by rw [List.map_append]; exact S') f)
end
end Go.Eng

/-! Calls and single elements in the separate parts. -/
namespace Go.Eng
open Go
set_option linter.unusedVariables false
set_option linter.unusedSimpArgs false

/-- Nothing. -/
def emp : Asr := ⟨fun _ _ => True, fun _ _ => trivial⟩
section
variable {E : Nat → Prop} {w0 w w' : World} {Rs Ts : List Asr}
theorem Sep.emp (S : Sep E w0 w Rs) : Sep E w0 w (Go.Eng.emp :: Rs) := S.push (F := NoB) (Fr.refl _ _) trivial fun _ x => x.elim
/-- A call that owns the first parts. -/
theorem Sep.call {P : Program} {g : FuncId} {args : Array Value} {l : List Sh} (Rs : List Asr) {Ts : List Asr} (S : Sep E w0 w (Rs ++ Ts)) {C : (Nat → Prop) → RT l → World → Prop}
    (hc : ∀ F, Sep F w w Rs → CallV P g args w l fun r w' => C F r w') {K : RT l → World → Prop}
    (hk : ∀ F, (∀ w' Ls, Sep F w w' Ls → Sep E w0 w' (Ls ++ Ts)) → ∀ r w', C F r w' → K r w') : CallV P g args w l K := by
  obtain ⟨F, h1, h2, h3⟩ := S.frame
  exact (hc F (Sep.begin h1 h2)).mono fun r w' h => hk F h3 r w' h
/-- A slice of one's own is a block. -/
theorem Sep.focus {e : TypeId} {sz : Nat} {a : Option Addr} {n c : Nat} {vs : List Value} (S : Sep E w0 w (OwnA e sz a n c vs :: Rs)) (hn : vs ≠ []) :
    ∃ b tl, a = some ⟨b, 0, none⟩ ∧ vs.length = n * sz ∧ (vs ++ tl).length = c * sz ∧ n ≤ c ∧ n ≤ 9223372036854775807 ∧ oneAll vs ∧ Sep E w0 w (BoxA b e (vs ++ tl) :: Rs) := by
  have ho := S.own 0 rfl
  rcases ho.at_ with ⟨_, _, h⟩ | ⟨b, cs, h1, h2, h3, h4, h5⟩
  · exact absurd h hn
  · have he : vs ++ cs.toList.drop vs.length = cs.toList := by conv => rhs; rw [← List.take_append_drop vs.length cs.toList, h5]
    refine ⟨b, cs.toList.drop vs.length, h1, ho.len, by rw [he]; exact h4, ho.cap, ho.lim, ho.one, S.conv fun F h _ => ⟨h.2 _ h1, ?_⟩⟩
    rw [he, Array.toArray_toList]
    exact h3
theorem Sep.unfocus {e : TypeId} {sz : Nat} {n c b : Nat} {vs tl : List Value} (S : Sep E w0 w (BoxA b e (vs ++ tl) :: Rs)) (h1 : vs.length = n * sz) (h2 : (vs ++ tl).length = c * sz) (h3 : n ≤ c) (h4 : n ≤ 9223372036854775807) (h5 : oneAll vs) : Sep E w0 w (OwnA e sz (some ⟨b, 0, none⟩) n c vs :: Rs) :=
  S.conv fun F ⟨hF, h⟩ _ => ⟨⟨h1, h3, h4, h5, .inr ⟨b, (vs ++ tl).toArray, rfl, Nat.zero_le _, h, by simpa using h2, by simp⟩⟩, fun q hq => by cases hq; exact hF⟩
theorem splice_mid {pre xs post news : List Value} {o j : Nat} (ho : o = pre.length) (h : j + news.length ≤ xs.length) :
    (pre ++ (xs ++ post)).take (o + j) ++ (news ++ (pre ++ (xs ++ post)).drop (o + j + news.length)) = pre ++ ((xs.take j ++ (news ++ xs.drop (j + news.length))) ++ post) := by
  subst ho
  rw [List.take_append, List.take_of_length_le (by omega), show pre.length + j - pre.length = j by omega, List.take_append_of_le_length (by omega), show pre.length + j + news.length = pre.length + (j + news.length) by omega,
    ← List.drop_drop, List.drop_append_of_le_length (Nat.le_refl _), List.drop_length, List.nil_append, List.drop_append_of_le_length h]
  simp
variable {b o : Nat} {e : TypeId} {pre xs post : List Value}
theorem Sep.stM (i : Nat) (j : Nat) (S : Sep E w0 w Rs) (hi : Rs[i]? = some (BoxA b e (pre ++ (xs ++ post)))) (ho : o = pre.length) {news : List Value} (hl : j + news.length ≤ xs.length) {K : World → Prop}
    (hk : ∀ w', Sep E w0 w' (Rs.set i (BoxA b e (pre ++ ((xs.take j ++ (news ++ xs.drop (j + news.length))) ++ post)))) → Fr (fun k => k = b) w w' → K w') : StoreV w ((⟨b, o, none⟩ : Addr).add j) news K := by
  rw [show (⟨b, o, none⟩ : Addr).add j = ⟨b, o + j, none⟩ by simp [Addr.add_lit]]
  refine S.store i hi (o + j) (by subst ho; simp only [List.length_append]; omega) fun w' S f => hk w' ?_ f
  rw [← splice_mid ho hl]
  exact S
theorem Sep.stM0 (i : Nat) (S : Sep E w0 w Rs) (hi : Rs[i]? = some (BoxA b e (pre ++ (xs ++ post)))) (ho : o = pre.length) {news : List Value} (hl : news.length ≤ xs.length) {K : World → Prop}
    (hk : ∀ w', Sep E w0 w' (Rs.set i (BoxA b e (pre ++ ((news ++ xs.drop news.length) ++ post)))) → Fr (fun k => k = b) w w' → K w') : StoreV w (⟨b, o, none⟩ : Addr) news K := by
  have := S.stM i 0 hi ho (news := news) (by omega) (K := K) (by simpa using hk)
  rwa [show (⟨b, o, none⟩ : Addr).add 0 = ⟨b, o, none⟩ by simp [Addr.add_lit]] at this
theorem Sep.cellsM (i : Nat) (S : Sep E w0 w Rs) (hi : Rs[i]? = some (BoxA b e (pre ++ (xs ++ post)))) (ho : o = pre.length) : CellsAt w ⟨b, o, none⟩ xs := by
  have h := (S.cells i hi)
  intro j v hv
  have hj : j < xs.length := (List.getElem?_eq_some_iff.1 hv).1
  have := h (pre.length + j) v (by rw [List.getElem?_append_right (by omega), show pre.length + j - pre.length = j by omega, List.getElem?_append_left hj]; exact hv)
  rw [show (⟨b, 0, none⟩ : Addr).add (pre.length + j) = (⟨b, o, none⟩ : Addr).add j by subst ho; simp [Addr.add_lit]] at this
  exact this
theorem Sep.ldM (i : Nat) (j : Nat) (S : Sep E w0 w Rs) (hi : Rs[i]? = some (BoxA b e (pre ++ (xs ++ post)))) (ho : o = pre.length) {h : SS} {v : Value} {x : h.T} (hv : xs[j]? = some v) (hr : h.rd v = some x) {K : h.T → Prop} (hk : K x) : LoadS w ((⟨b, o, none⟩ : Addr).add j) h K :=
  ⟨x, by rw [← SS.rd_v hr]; exact S.cellsM i hi ho j v hv, hk⟩
theorem Sep.ldM0 (i : Nat) (S : Sep E w0 w Rs) (hi : Rs[i]? = some (BoxA b e (pre ++ (xs ++ post)))) (ho : o = pre.length) {h : SS} {v : Value} {x : h.T} (hv : xs[0]? = some v) (hr : h.rd v = some x) {K : h.T → Prop} (hk : K x) : LoadS w (⟨b, o, none⟩ : Addr) h K := by
  have := S.ldM i 0 hi ho hv hr hk
  rwa [show (⟨b, o, none⟩ : Addr).add 0 = ⟨b, o, none⟩ by simp [Addr.add_lit]] at this
end
/-- A variable read from cells. -/
theorem ldc {w : World} {p : Addr} {vs : List Value} (hc : CellsAt w p vs) (j : Nat) {h : SS} {x : h.T} (hv : vs[j]? = some (h.v x)) {K : h.T → Prop} (hk : K x) : LoadS w (p.add j) h K := ⟨x, hc j _ hv, hk⟩
theorem flat_mid {α β : Type} {f : α → List β} {L : List α} {i : Nat} {y z : α} (hy : L[i]? = some y) : L.flatMap f = (L.take i).flatMap f ++ (f y ++ (L.drop (i + 1)).flatMap f) ∧ (L.set i z).flatMap f = (L.take i).flatMap f ++ (f z ++ (L.drop (i + 1)).flatMap f) := by
  have hi : i < L.length := (List.getElem?_eq_some_iff.1 hy).1
  have he : L[i] = y := (List.getElem?_eq_some_iff.1 hy).2
  constructor
  · conv => lhs; rw [← List.take_append_drop i L, List.drop_eq_getElem_cons hi, he]
    rw [List.flatMap_append, List.flatMap_cons]
  · rw [List.set_eq_take_append_cons_drop, if_pos hi, List.flatMap_append, List.flatMap_cons]

section
variable {E : Nat → Prop} {w0 w w' : World} {Rs Ts : List Asr} {α : Type} {f : α → List Value} {m : Nat} {e : TypeId} {a : Option Addr} {n c : Nat} {L : List α}
theorem flatF_len (hm : ∀ x, (f x).length = m) (L : List α) : (L.flatMap f).length = L.length * m := by
  induction L with
  | nil => simp
  | cons x L ih => rw [List.flatMap_cons, List.length_append, hm, ih, List.length_cons, Nat.add_mul]; omega
theorem flatF_one (h1 : ∀ x, oneAll (f x)) (L : List α) : oneAll (L.flatMap f) := fun u hu => by
  obtain ⟨x, -, hx⟩ := List.mem_flatMap.1 hu
  exact h1 x u hx
/-- An element of one's own slice is read. -/
theorem Sep.nthF (i : Nat) (S : Sep E w0 w Rs) (hi : Rs[i]? = some (OwnA e m a n c (L.flatMap f))) (hm : ∀ x, (f x).length = m) (hp : 0 < m) {j : Int} (h0 : 0 ≤ j) (h1 : j < (n : Int)) :
    ∃ q x, a = some q ∧ L[j.toNat]? = some x ∧ CellsAt w (q.add (j.toNat * m)) (f x) := by
  have ho := S.own i hi
  have hl := ho.len
  rw [flatF_len hm] at hl
  have hl : L.length = n := Nat.eq_of_mul_eq_mul_right hp hl
  have hj : j.toNat < L.length := by omega
  rcases ho.rd with ⟨_, h2⟩ | ⟨q, h2, h3⟩
  · have := congrArg List.length h2
    rw [flatF_len hm, List.length_nil] at this
    rcases Nat.mul_eq_zero.1 this with h | h <;> omega
  · refine ⟨q, L[j.toNat], h2, List.getElem?_eq_getElem hj, ?_⟩
    obtain ⟨m1, -⟩ := flat_mid (f := f) (z := L[j.toNat]) (List.getElem?_eq_getElem hj)
    rw [m1] at h3
    have h4 := (h3.drop (j.toNat * m)).take m
    rw [List.drop_append_of_le_length (by rw [flatF_len hm, List.length_take, Nat.min_eq_left (by omega)]; exact Nat.le_refl _), List.drop_eq_nil_of_le (by rw [flatF_len hm, List.length_take, Nat.min_eq_left (by omega)]; exact Nat.le_refl _), List.nil_append, List.take_append_of_le_length (by rw [hm]; exact Nat.le_refl _), List.take_of_length_le (by rw [hm]; exact Nat.le_refl _)] at h4
    exact h4
/-- An element of one's own slice is written. -/
theorem Sep.putF (S : Sep E w0 w (OwnA e m a n c (L.flatMap f) :: Rs)) (hm : ∀ x, (f x).length = m) (h1 : ∀ x, oneAll (f x)) (hp : 0 < m) {j : Int} (hj : 0 ≤ j ∧ j < (n : Int)) (y : α) {K : World → Prop}
    (hk : ∀ w', Sep E w0 w' (OwnA e m a n c ((L.set j.toNat y).flatMap f) :: Rs) → Fr (fun k => ∃ q : Addr, a = some q ∧ k = q.block) w w' → K w') : ∃ q, a = some q ∧ StoreV w (q.add (j.toNat * m)) (f y) K := by
  have hl := (S.own 0 rfl).len
  rw [flatF_len hm] at hl
  have hl : L.length = n := Nat.eq_of_mul_eq_mul_right hp hl
  have hj' : j.toNat < L.length := by omega
  obtain ⟨m1, m2⟩ := flat_mid (f := f) (z := y) (List.getElem?_eq_getElem hj')
  obtain ⟨b, tl, ha, q1, q2, q3, q4, q5, S1⟩ := S.focus (by
    intro h
    have := congrArg List.length h
    rw [flatF_len hm, List.length_nil] at this
    rcases Nat.mul_eq_zero.1 this with h | h <;> omega)
  subst ha
  refine ⟨_, rfl, ?_⟩
  rw [show (⟨b, 0, none⟩ : Addr).add (j.toNat * m) = ⟨b, j.toNat * m, none⟩ by simp [Addr.add_lit]]
  rw [m1, List.append_assoc, List.append_assoc] at S1
  refine S1.stM0 0 rfl (by rw [flatF_len hm, List.length_take, Nat.min_eq_left (by omega)]) (by rw [hm, hm]; exact Nat.le_refl _) fun w' S2 f2 => hk w' ?_ (f2.mono fun k hk => ⟨_, rfl, hk⟩)
  have S2 : Sep E w0 w' (BoxA b e (((L.set j.toNat y).flatMap f) ++ tl) :: Rs) := by
    rw [m2, List.append_assoc, List.append_assoc]
    have hd : (f L[j.toNat]).drop (f y).length = [] := List.drop_eq_nil_of_le (by rw [hm, hm]; exact Nat.le_refl _)
    rw [hd, List.append_nil] at S2
    exact S2
  have hl2 : ((L.set j.toNat y).flatMap f).length = n * m := by rw [flatF_len hm, List.length_set, hl]
  exact S2.unfocus (n := n) (c := c) (sz := m) hl2 (by rw [List.length_append, hl2, ← q2, List.length_append, q1]) q3 q4 (flatF_one h1 _)
end

section
variable {E : Nat → Prop} {w0 w w' : World} {Rs : List Asr}
/-- A box lies elsewhere than a slice of one's own. -/
theorem Sep.neO (S : Sep E w0 w Rs) (i j : Nat) {b : Nat} {e e2 : TypeId} {vs us : List Value} {sz n c : Nat} {a : Option Addr} (hij : i ≠ j) (hi : Rs[i]? = some (BoxA b e vs)) (hj : Rs[j]? = some (OwnA e2 sz a n c us)) (q : Addr) (hq : a = some q) : b ≠ q.block := by
  obtain ⟨F, h, _⟩ := S.ex
  obtain ⟨F1, F2, h1, h2, h3, _⟩ := StarP.perm (perm_front hi) h
  have : (Rs.eraseIdx i)[if j < i then j else j - 1]? = some (OwnA e2 sz a n c us) := by
    split
    · rw [List.getElem?_eraseIdx_of_lt (by omega)]; exact hj
    · rw [List.getElem?_eraseIdx_of_ge (by omega), show j - 1 + 1 = j by omega]; exact hj
  obtain ⟨G, g1, g2⟩ := StarP.get this h2
  intro e
  exact h3 b h1.1 (g2 b (by rw [e]; exact g1.2 q hq))
/-- copy into the middle of a block. -/
theorem Sep.cpM (i : Nat) {b o : Nat} {e : TypeId} {pre xs post news : List Value} (S : Sep E w0 w Rs) (hi : Rs[i]? = some (BoxA b e (pre ++ (xs ++ post)))) (ho : o = pre.length) {src : Option Addr} {k : Nat} (hk : k = xs.length) (hl : news.length = xs.length) (hr : RdC w src news) (h1 : oneAll news) {K : World → Prop}
    (hK : ∀ w', Sep E w0 w' (Rs.set i (BoxA b e (pre ++ (news ++ post)))) → Fr (fun k => k = b) w w' → K w') : CopyV w (some ⟨b, o, none⟩) src k 1 K := by
  refine ⟨news, by omega, hr, h1, .inr ⟨_, rfl, ?_⟩⟩
  refine S.stM0 i hi ho (news := news) (by omega) fun w' S' f => hK w' ?_ f
  rw [hl, List.drop_length, List.append_nil] at S'
  exact S'
theorem Sep.intsM (i : Nat) {b o : Nat} {e : TypeId} {k : IntKind} {pre post : List Value} {xs : List Int} (S : Sep E w0 w Rs) (hi : Rs[i]? = some (BoxA b e (pre ++ (xs.map (Value.int k) ++ post)))) (ho : o = pre.length) {n c : Nat} (hn : n = xs.length) (hc : n ≤ c) (hlim : n ≤ 9223372036854775807) : Ints w k (some ⟨b, o, none⟩) n c xs :=
  ⟨hn.symm, hc, hlim, .inr ⟨_, rfl, S.cellsM i hi ho⟩⟩
end

end Go.Eng

/-! Maps from places to numbers, as parts. -/
namespace Go.Proofs.Ytiemdjnmghackaa.Vc
open Go Go.Eng Go.RowKit
set_option linter.unusedVariables false
set_option linter.unusedSimpArgs false

abbrev kV (k : Int × Int) : Value := .agg #[.int .i64 k.1, .int .i64 k.2]
structure ME where
  k : Int × Int
  v : Int
  b : Nat
abbrev ME.e (x : ME) : MapEntry := ⟨kV x.k, .int .i64 x.v, x.b⟩
def fndM (k : Int × Int) : List ME → Nat → Option (Nat × Int)
  | [], _ => none
  | x :: l, i => if x.k = k then some (i, x.v) else fndM k l (i + 1)
def getM (l : List ME) (k : Int × Int) : Int := match fndM k l 0 with | some r => r.2 | none => 0
theorem fndM_some {k : Int × Int} : ∀ {l : List ME} {i j : Nat} {v : Int}, fndM k l i = some (j, v) → i ≤ j ∧ ∃ x, l[j - i]? = some x ∧ x.k = k ∧ x.v = v
  | [], _, _, _, h => by cases h
  | x :: l, i, j, v, h => by
    unfold fndM at h
    split at h
    · rename_i hk
      cases h
      exact ⟨Nat.le_refl _, x, by rw [Nat.sub_self]; rfl, hk, rfl⟩
    · obtain ⟨h1, y, h2, h3⟩ := fndM_some h
      refine ⟨by omega, y, ?_, h3⟩
      rw [show j - i = (j - (i + 1)) + 1 by omega, List.getElem?_cons_succ]
      exact h2
theorem fndM_none {k : Int × Int} : ∀ {l : List ME} {i : Nat}, fndM k l i = none ↔ ∀ x ∈ l, x.k ≠ k
  | [], _ => by simp [fndM]
  | x :: l, i => by
    unfold fndM
    by_cases hk : x.k = k
    · rw [if_pos hk]; simp [hk]
    · rw [if_neg hk, fndM_none (i := i + 1)]; simp [hk]
theorem fndM_app {k : Int × Int} {x : ME} : ∀ {l : List ME} {i : Nat}, fndM k (l ++ [x]) i = match fndM k l i with | some r => some r | none => if x.k = k then some (i + l.length, x.v) else none
  | [], i => by simp [fndM]
  | y :: l, i => by
    rw [List.cons_append]
    unfold fndM
    by_cases hk : y.k = k
    · rw [if_pos hk, if_pos hk]
    · rw [if_neg hk, if_neg hk, fndM_app (l := l) (i := i + 1), List.length_cons]
      cases fndM k l (i + 1) with
      | some r => rfl
      | none => simp only; rw [show i + 1 + l.length = i + (l.length + 1) by omega]
structure MOk (l : List ME) (c : Nat) : Prop where
  kn : (l.map (·.k)).Nodup
  bn : (l.map (·.b)).Nodup
  bc : ∀ x ∈ l, x.b < c
theorem MOk.get {l : List ME} {c : Nat} (h : MOk l c) {x : ME} (hx : x ∈ l) : getM l x.k = x.v := by
  unfold getM
  cases hf : fndM x.k l 0 with
  | none => exact absurd rfl (fndM_none.1 hf x hx)
  | some r =>
    obtain ⟨j, v⟩ := r
    obtain ⟨-, y, hy, hk, hv⟩ := fndM_some hf
    rw [Nat.sub_zero] at hy
    have hym := List.mem_of_getElem? hy
    have : y = x := by
      obtain ⟨i, hi⟩ := List.getElem?_of_mem hx
      have h1 : (l.map (·.k))[j]? = some x.k := by rw [List.getElem?_map, hy]; exact congrArg some hk
      have h2 : (l.map (·.k))[i]? = some x.k := by rw [List.getElem?_map, hi]; rfl
      have hij := (List.getElem?_inj (by have := (List.getElem?_eq_some_iff.1 h1).1; exact this) h.kn).1 (h1.trans h2.symm)
      subst hij
      rw [hi] at hy
      exact (Option.some.inj hy).symm
    subst this
    exact hv.symm
theorem getM_none {l : List ME} {k : Int × Int} (h : ∀ x ∈ l, x.k ≠ k) : getM l k = 0 := by
  unfold getM
  rw [fndM_none.2 h]
def updM (m : Int × Int → Int) (k : Int × Int) (v : Int) : Int × Int → Int := fun k' => if k' = k then v else m k'

theorem _root_.List.set_getElem?_self' {α : Type} {l : List α} {i : Nat} {x : α} (h : l[i]? = some x) : l.set i x = l := by
  apply List.ext_getElem?
  intro j
  rw [List.getElem?_set]
  split
  · rename_i e
    subst e
    rw [h, if_pos (List.getElem?_eq_some_iff.1 h).1]
  · rfl
theorem erase_map : ∀ (l : List ME) (i : Nat), (l.map ME.e).eraseIdx i = (l.eraseIdx i).map ME.e
  | [], _ => rfl
  | x :: l, 0 => rfl
  | x :: l, i + 1 => by rw [List.map_cons, List.eraseIdx_cons_succ, List.eraseIdx_cons_succ, List.map_cons, erase_map l i]
section
variable {w : World} {r c : Nat} {l : List ME} {k : Int × Int}
theorem run_ask : ∀ (l : List ME) (i : Nat), (Instr.findAsking 55 (kV k) (l.map ME.e) i).run Try.prog w = .ok ((fndM k l i).map fun r => (r.1, .int .i64 r.2)) w
  | [], i => by simp [Instr.findAsking, fndM]
  | x :: l, i => by
    have h : (Op.equal 55 (kV k) (kV x.k)).run Try.prog w = .ok (k.1 == x.k.1 && k.2 == x.k.2) w := eqPl0 _ _ _ _ w
    rw [List.map_cons]
    simp only [Instr.findAsking, Sem.run_bind, h, Result.andThen_ok]
    unfold fndM
    by_cases hk : x.k = k
    · subst hk
      simp
    · have : (k.1 == x.k.1 && k.2 == x.k.2) = false := by
        rw [Bool.eq_false_iff]
        intro h2
        simp only [Bool.and_eq_true, beq_iff_eq] at h2
        exact hk (Prod.ext h2.1.symm h2.2.symm)
      rw [this, if_neg hk]
      simp only [Bool.false_eq_true, if_false]
      exact run_ask l (i + 1)
theorem run_find (l : List ME) : (Instr.findKey 55 (kV k) (l.map ME.e)).run Try.prog w = .ok ((fndM k l 0).map fun r => (r.1, .int .i64 r.2)) w := by
  rw [run_findKey_eq w (by kernel_rfl)]
  exact run_ask l 0
theorem run_chk (em : Bool) : (Instr.checkKey em 10000 55 (kV k)).run Try.prog w = .ok () w := by
  cases em <;> kernel_rfl
theorem run_getM (hb : w.heap[r]? = some (.map (l.map ME.e).toArray c)) : (getObj r).run Try.prog w = .ok (.map (l.map ME.e).toArray c) w := by simp [getObj, Sem.run, hb]
theorem run_look (hb : w.heap[r]? = some (.map (l.map ME.e).toArray c)) : (Instr.lookup 113 (.map (some r)) (kV k) false).run Try.prog w = .ok (.int .i64 (getM l k)) w := by
  have hu : Try.prog.underlying 113 = some (.map 55 3) := by kernel_rfl
  have hz : (zeroValue 3).run Try.prog w = .ok (.int .i64 0) w := by kernel_rfl
  simp only [Instr.lookup, Sem.run_bind, run_underlying hu, Result.andThen_ok, run_getM hb, Sem.run_pure, run_chk, run_find]
  unfold getM
  cases fndM k l 0 with
  | none => simp only [Option.map_none, Sem.run_bind, hz, Result.andThen_ok, Sem.run_pure, Bool.false_eq_true, if_false]
  | some q => simp only [Option.map_some, Sem.run_bind, Result.andThen_ok, Sem.run_pure, Bool.false_eq_true, if_false]
theorem same_bits (k : Int × Int) : Instr.sameBits 10000 (kV k) (kV k) = true := by
  show (#[Value.int .i64 k.1, .int .i64 k.2].size == #[Value.int .i64 k.1, .int .i64 k.2].size && _) = true
  simp [Instr.sameBits]
def setM (w : World) (r : Nat) (o : Obj) : World := { w with heap := w.heap.setIfInBounds r o }
theorem run_setM (o : Obj) (hb : w.heap[r]? = some (.map (l.map ME.e).toArray c)) : (setObj r o).run Try.prog w = .ok () (setM w r o) := by simp [setObj, Sem.run, hb, setM]
/-- The entry of a key, and its stamp. -/
theorem run_ent (hb : w.heap[r]? = some (.map (l.map ME.e).toArray c)) : ∃ l' c' s, (Instr.mapEntry 113 (.map (some r)) (kV k)).run Try.prog w = .ok (.tuple #[.int .i64 (getM l k), .int .i64 ((s : Nat) : Int)]) (setM w r (.map (l'.map ME.e).toArray c')) ∧
    (MOk l c → MOk l' c' ∧ (∀ k', getM l' k' = getM l k') ∧ ∃ x ∈ l', x.k = k ∧ x.b = s) := by
  have hu : Try.prog.underlying 113 = some (.map 55 3) := by kernel_rfl
  have hz : (zeroValue 3).run Try.prog w = .ok (.int .i64 0) w := by kernel_rfl
  cases hf : fndM k l 0 with
  | none =>
    refine ⟨l ++ [⟨k, 0, c⟩], c + 1, c, ?_, fun h => ⟨⟨?_, ?_, ?_⟩, ?_, ⟨k, 0, c⟩, by simp, rfl, rfl⟩⟩
    · simp only [Instr.mapEntry, Sem.run_bind, run_underlying hu, Result.andThen_ok, run_getM hb, run_chk, run_find, hf, Option.map_none, hz, run_setM _ hb, Sem.run_pure]
      have e : (l.map ME.e).toArray.push (⟨kV k, .int .i64 0, c⟩ : MapEntry) = ((l ++ [(⟨k, 0, c⟩ : ME)]).map ME.e).toArray := by simp
      rw [e]
      have hg : getM l k = 0 := by unfold getM; rw [hf]
      rw [hg]
      rfl
    · rw [List.map_append]
      refine List.nodup_append.2 ⟨h.kn, by simp, ?_⟩
      intro a ha b hb2 e
      obtain ⟨x, hx, rfl⟩ := List.mem_map.1 ha
      simp at hb2
      subst hb2
      exact fndM_none.1 hf x hx e
    · rw [List.map_append]
      refine List.nodup_append.2 ⟨h.bn, by simp, ?_⟩
      intro a ha b hb2 e
      obtain ⟨x, hx, rfl⟩ := List.mem_map.1 ha
      simp at hb2
      subst hb2
      have := h.bc x hx
      omega
    · intro x hx
      rcases List.mem_append.1 hx with hx | hx
      · have := h.bc x hx; omega
      · rw [List.mem_singleton.1 hx]; exact Nat.lt_succ_self _
    · intro k'
      unfold getM
      rw [fndM_app]
      cases hf' : fndM k' l 0 with
      | some q => rfl
      | none =>
        dsimp only
        by_cases hk2 : k = k'
        · rw [if_pos hk2]
        · rw [if_neg hk2]
  | some q =>
    obtain ⟨i, v⟩ := q
    obtain ⟨-, x, hx, hk, hv⟩ := fndM_some hf
    rw [Nat.sub_zero] at hx
    have hxe : ((l.map ME.e).toArray)[i]? = some x.e := by rw [List.getElem?_toArray, List.getElem?_map, hx]; rfl
    refine ⟨l, c, x.b, ?_, fun h => ⟨h, fun _ => rfl, x, List.mem_of_getElem? hx, hk, rfl⟩⟩
    have hm : (l.map ME.e).toArray.modify i (fun e => { e with key := kV k }) = (l.map ME.e).toArray := by
      apply Array.ext_getElem?
      intro j
      rw [Array.getElem?_modify]
      split
      · rename_i hij
        subst hij
        rw [hxe, ← hk]
        rfl
      · rfl
    have hs : (Instr.keyThatStays (kV k) (kV k)).run Try.prog w = .ok (kV k) w := by simp only [Instr.keyThatStays, same_bits, if_true, Sem.run_pure]
    have hk2 : ((((l.map ME.e).toArray)[i]?).map (·.key)).getD (kV k) = kV k := by rw [hxe, ← hk]; rfl
    have hb2 : ((((l.map ME.e).toArray)[i]?).map (fun e => ((e.born : Nat) : Int))).getD 0 = ((x.b : Nat) : Int) := by rw [hxe]; rfl
    have hg : getM l k = v := by unfold getM; rw [hf]
    simp only [Instr.mapEntry, Sem.run_bind, run_underlying hu, Result.andThen_ok, run_getM hb, run_chk, run_find, hf, Option.map_some, hk2, hb2, hs, hm, run_setM _ hb, Sem.run_pure, hg]
    rfl
theorem getM_cases (h : MOk l c) (k : Int × Int) : (∃ y ∈ l, y.k = k ∧ getM l k = y.v) ∨ ((∀ y ∈ l, y.k ≠ k) ∧ getM l k = 0) := by
  by_cases he : ∃ y ∈ l, y.k = k
  · obtain ⟨y, hy, rfl⟩ := he
    exact .inl ⟨y, hy, rfl, h.get hy⟩
  · have he : ∀ y ∈ l, y.k ≠ k := fun y hy e => he ⟨y, hy, e⟩
    exact .inr ⟨he, getM_none he⟩
theorem MOk.key {x y : ME} (h : MOk l c) (hx : x ∈ l) (hy : y ∈ l) (he : x.k = y.k) : x = y := by
  obtain ⟨i, hi⟩ := List.getElem?_of_mem hx
  obtain ⟨j, hj⟩ := List.getElem?_of_mem hy
  have h1 : (l.map (·.k))[i]? = some x.k := by rw [List.getElem?_map, hi]; rfl
  have h2 : (l.map (·.k))[j]? = some x.k := by rw [List.getElem?_map, hj]; exact congrArg some he.symm
  have hij := (List.getElem?_inj (List.getElem?_eq_some_iff.1 h1).1 h.kn).1 (h1.trans h2.symm)
  subst hij
  rw [hi] at hj
  exact Option.some.inj hj
theorem run_sto {x : ME} {v : Int} (hM : MOk l c) (hx : x ∈ l) (hb : w.heap[r]? = some (.map (l.map ME.e).toArray c)) : ∃ l', (Instr.entryStore 113 (.map (some r)) (.int .i64 ((x.b : Nat) : Int)) (.int .i64 v)).run Try.prog w = .ok () (setM w r (.map (l'.map ME.e).toArray c)) ∧
    MOk l' c ∧ ∀ k', getM l' k' = updM (getM l) x.k v k' := by
  obtain ⟨i, hi⟩ := List.getElem?_of_mem hx
  have hil : i < l.length := (List.getElem?_eq_some_iff.1 hi).1
  have hfi : (l.map ME.e).toArray.findIdx? (fun e => ((e.born : Nat) : Int) == ((x.b : Nat) : Int)) = some i := by
    rw [List.findIdx?_toArray, List.findIdx?_map, List.findIdx?_eq_some_iff_getElem]
    refine ⟨hil, ?_, fun j hj => ?_⟩
    · simp [(List.getElem?_eq_some_iff.1 hi).2]
    · intro he
      have hjl : j < l.length := by omega
      have he : (l[j].b : Int) = (x.b : Int) := by simpa using he
      have h1 : (l.map (·.b))[j]? = some x.b := by rw [List.getElem?_map, List.getElem?_eq_getElem hjl]; simp; omega
      have h2 : (l.map (·.b))[i]? = some x.b := by rw [List.getElem?_map, hi]; rfl
      have := (List.getElem?_inj (List.getElem?_eq_some_iff.1 h1).1 hM.bn).1 (h1.trans h2.symm)
      omega
  have hmod : (l.map ME.e).toArray.modify i (fun e => { e with val := .int .i64 v }) = ((l.set i ⟨x.k, v, x.b⟩).map ME.e).toArray := by
    apply Array.ext_getElem?
    intro j
    rw [Array.getElem?_modify, List.getElem?_toArray, List.getElem?_toArray, List.getElem?_map, List.getElem?_map, List.getElem?_set]
    by_cases hij : i = j
    · subst hij
      rw [if_pos rfl, if_pos rfl, if_pos hil, hi]
      rfl
    · rw [if_neg hij, if_neg hij]
  refine ⟨l.set i ⟨x.k, v, x.b⟩, ?_, ?_, fun k' => ?_⟩
  · simp only [Instr.entryStore, Sem.run_bind, Result.andThen_ok, run_getM hb, asInt, asIntOf, Sem.run_pure, hfi, hmod, run_setM _ hb]
  all_goals
    have hk : (l.set i ⟨x.k, v, x.b⟩).map (·.k) = l.map (·.k) := by
      rw [List.map_set]; exact List.set_getElem?_self' (by rw [List.getElem?_map, hi]; rfl)
    have hbb : (l.set i ⟨x.k, v, x.b⟩).map (·.b) = l.map (·.b) := by
      rw [List.map_set]; exact List.set_getElem?_self' (by rw [List.getElem?_map, hi]; rfl)
    have hM' : MOk (l.set i ⟨x.k, v, x.b⟩) c := ⟨by rw [hk]; exact hM.kn, by rw [hbb]; exact hM.bn, fun y hy => by
      rcases List.mem_or_eq_of_mem_set hy with h | h
      · exact hM.bc y h
      · rw [h]; exact hM.bc x hx⟩
  · exact hM'
  · unfold updM
    by_cases he : k' = x.k
    · subst he
      rw [if_pos rfl]
      exact hM'.get (x := ⟨x.k, v, x.b⟩) (List.mem_set hil _)
    · rw [if_neg he]
      rcases getM_cases hM k' with ⟨y, hy, rfl, h2⟩ | ⟨h1, h2⟩
      · rw [h2]
        refine hM'.get (x := y) ?_
        obtain ⟨j, hj⟩ := List.getElem?_of_mem hy
        refine List.mem_of_getElem? (i := j) ?_
        rw [List.getElem?_set, if_neg (fun e => ?_), hj]
        subst e
        rw [hi] at hj
        cases hj
        exact he rfl
      · rw [h2]
        refine getM_none fun y hy => ?_
        rcases List.mem_or_eq_of_mem_set hy with h | h
        · exact h1 y h
        · rw [h]; exact fun e => he e.symm
theorem run_del (hb : w.heap[r]? = some (.map (l.map ME.e).toArray c)) : ∃ l', (∀ ty, (Builtin.delete_ #[113, 55] ty #[.map (some r), kV k]).run Try.prog w = .ok (.tuple #[]) (setM w r (.map (l'.map ME.e).toArray c))) ∧
    (MOk l c → MOk l' c ∧ ∀ k', getM l' k' = updM (getM l) k 0 k') := by
  have hu : Try.prog.underlying 113 = some (.map 55 3) := by kernel_rfl
  cases hf : fndM k l 0 with
  | none =>
    refine ⟨l, fun ty => ?_, fun h => ⟨h, fun k' => ?_⟩⟩
    · simp only [Builtin.delete_, Sem.run_bind, run_underlying hu, Result.andThen_ok, run_getM hb, run_chk, run_find, hf, Option.map_none, run_setM _ hb, Sem.run_pure, List.getElem?_toArray, List.getElem?_cons_zero, List.getElem?_cons_succ]
    · unfold updM
      split
      · rename_i e; subst e; exact getM_none (fndM_none.1 hf)
      · rfl
  | some q =>
    obtain ⟨i, v⟩ := q
    obtain ⟨-, x, hx, hk, hv⟩ := fndM_some hf
    rw [Nat.sub_zero] at hx
    have hil : i < l.length := (List.getElem?_eq_some_iff.1 hx).1
    have he : (l.map ME.e).toArray.eraseIdxIfInBounds i = ((l.eraseIdx i).map ME.e).toArray := by
      apply Array.ext'
      rw [Array.toList_eraseIdxIfInBounds]
      exact erase_map l i
    refine ⟨l.eraseIdx i, fun ty => ?_, fun h => ?_⟩
    · simp only [Builtin.delete_, Sem.run_bind, run_underlying hu, Result.andThen_ok, run_getM hb, run_chk, run_find, hf, Option.map_some, he, run_setM _ hb, Sem.run_pure, List.getElem?_toArray, List.getElem?_cons_zero, List.getElem?_cons_succ]
    · have hsub := List.eraseIdx_sublist l i
      have hM' : MOk (l.eraseIdx i) c := ⟨h.kn.sublist (hsub.map _), h.bn.sublist (hsub.map _), fun y hy => h.bc y (hsub.mem hy)⟩
      refine ⟨hM', fun k' => ?_⟩
      unfold updM
      by_cases hkk : k' = k
      · subst hkk
        rw [if_pos rfl]
        refine getM_none fun y hy hyk => ?_
        have hyl := hsub.mem hy
        have hxy := h.key (List.mem_of_getElem? hx) hyl (hk.trans hyk.symm)
        subst hxy
        obtain ⟨j, hj⟩ := List.getElem?_of_mem hy
        rw [List.getElem?_eraseIdx] at hj
        have h2 : (l.map (·.k))[i]? = some x.k := by rw [List.getElem?_map, hx]; rfl
        split at hj
        · have h1 : (l.map (·.k))[j]? = some x.k := by rw [List.getElem?_map, hj]; rfl
          have := (List.getElem?_inj (List.getElem?_eq_some_iff.1 h1).1 h.kn).1 (h1.trans h2.symm)
          omega
        · have h1 : (l.map (·.k))[j + 1]? = some x.k := by rw [List.getElem?_map, hj]; rfl
          have := (List.getElem?_inj (List.getElem?_eq_some_iff.1 h1).1 h.kn).1 (h1.trans h2.symm)
          omega
      · rw [if_neg hkk]
        rcases getM_cases h k' with ⟨y, hy, rfl, h2⟩ | ⟨h1, h2⟩
        · rw [h2]
          refine hM'.get (x := y) ?_
          obtain ⟨j, hj⟩ := List.getElem?_of_mem hy
          have hji : j ≠ i := fun e => by subst e; rw [hx] at hj; cases hj; exact hkk hk
          by_cases hlt : j < i
          · exact List.mem_of_getElem? (i := j) (by rw [List.getElem?_eraseIdx, if_pos hlt, hj])
          · exact List.mem_of_getElem? (i := j - 1) (by rw [List.getElem?_eraseIdx, if_neg (by omega), show j - 1 + 1 = j by omega, hj])
        · rw [h2]
          exact getM_none fun y hy => h1 y (hsub.mem hy)
end

/-! ### A map as a part -/
def MapF (r : Nat) (m : Int × Int → Int) : Asr := ⟨fun w F => F r ∧ ∃ l c, w.heap[r]? = some (.map (l.map ME.e).toArray c) ∧ MOk l c ∧ ∀ k, getM l k = m k, fun h k => ⟨h.1, by obtain ⟨l, c, h1, h2⟩ := h.2; exact ⟨l, c, by rw [k _ h.1]; exact h1, h2⟩⟩⟩
/-- A map that has an entry of a key, with a stamp. -/
def MapS (r : Nat) (m : Int × Int → Int) (k : Int × Int) (s : Nat) : Asr := ⟨fun w F => F r ∧ ∃ l c, w.heap[r]? = some (.map (l.map ME.e).toArray c) ∧ MOk l c ∧ (∀ k, getM l k = m k) ∧ ∃ x ∈ l, x.k = k ∧ x.b = s, fun h k => ⟨h.1, by obtain ⟨l, c, h1, h2⟩ := h.2; exact ⟨l, c, by rw [k _ h.1]; exact h1, h2⟩⟩⟩
theorem setM_fr {w : World} {r : Nat} {o : Obj} (h : r < w.heap.size) : Fr (fun k => k = r) w (setM w r o) ∧ (setM w r o).heap[r]? = some o ∧ (setM w r o).heap.size = w.heap.size := by
  refine ⟨⟨rfl, rfl, rfl, by simp [setM], fun k hk hn => ?_⟩, by simp [setM, h], by simp [setM]⟩
  show (w.heap.setIfInBounds r o)[k]? = _
  rw [Array.getElem?_setIfInBounds, if_neg (fun e => hn e.symm)]
section
variable {E : Nat → Prop} {w0 w : World} {Rs : List Asr} {r : Nat} {m : Int × Int → Int} {k : Int × Int}
theorem _root_.Go.Eng.Sep.newM (S : Sep E w0 w Rs) {K : Nat → World → Prop} (hk : ∀ b w', Sep E w0 w' (MapF b (fun _ => 0) :: Rs) → Fr NoB w w' → w.heap.size ≤ b → K b w') : NewM w K := by
  rintro b w1 rfl rfl
  have f : Fr NoB w (w.alloc (.map #[] 0)) := .of (Ext.alloc _ _)
  refine hk _ _ (S.push (F := fun k => k = w.heap.size) f ⟨rfl, [], 0, heap_new w _, ⟨by simp, by simp, fun x hx => by simp at hx⟩, fun _ => rfl⟩ fun k hk => ?_) f (Nat.le_refl _)
  subst hk
  exact ⟨Nat.le_refl _, (Array.getElem?_eq_some_iff.1 (heap_new w (.map #[] 0))).1⟩
theorem _root_.Go.Eng.Sep.mstep (S : Sep E w0 w Rs) {i : Nat} {R : Asr} (hi : Rs[i]? = some R) {P : World → Prop} (hR : ∀ F, R.p w F → F r ∧ P w) {o : Obj} {R' : Asr} (hlt : r < w.heap.size) (hp : ∀ w' F, F r → w'.heap[r]? = some o → R'.p w' F) :
    Sep E w0 (setM w r o) (Rs.set i R') := by
  obtain ⟨F, h1, h2, h3⟩ := S.step hi
  obtain ⟨fr, hh, hs⟩ := setM_fr (o := o) hlt
  exact h3 _ F R' (hp _ _ (hR F h1).1 hh) (fr.mono fun k hk => by subst hk; exact (hR F h1).1) fun k hk => ⟨.inl hk, by rw [hs]; exact h2 k hk⟩
theorem _root_.Go.Eng.Sep.lookM (S : Sep E w0 w Rs) (i : Nat) (hi : Rs[i]? = some (MapF r m)) {K : RT [.one (.int .i64)] → World → Prop} (hk : K (m k, ()) w) : RunV Try.prog (Instr.lookup 113 (.map (some r)) (kV k) false) w [.one (.int .i64)] K := by
  obtain ⟨F, ⟨_, l, c, h1, h2, h3⟩, _⟩ := S.get hi
  exact ⟨(m k, ()), w, by rw [run_look h1, h3]; rfl, hk⟩
theorem _root_.Go.Eng.Sep.lookS (S : Sep E w0 w Rs) (i : Nat) {k' : Int × Int} {s : Nat} (hi : Rs[i]? = some (MapS r m k' s)) {K : RT [.one (.int .i64)] → World → Prop} (hk : K (m k, ()) w) : RunV Try.prog (Instr.lookup 113 (.map (some r)) (kV k) false) w [.one (.int .i64)] K := by
  obtain ⟨F, ⟨_, l, c, h1, h2, h3, _⟩, _⟩ := S.get hi
  exact ⟨(m k, ()), w, by rw [run_look h1, h3]; rfl, hk⟩
theorem _root_.Go.Eng.Sep.entM (S : Sep E w0 w Rs) (i : Nat) (hi : Rs[i]? = some (MapF r m)) {K : RT [.one (.int .i64), .one (.int .i64)] → World → Prop}
    (hk : ∀ (s : Nat) w', Sep E w0 w' (Rs.set i (MapS r m k s)) → Fr (fun k => k = r) w w' → K (m k, (s : Int), ()) w') : RunV Try.prog (Instr.mapEntry 113 (.map (some r)) (kV k)) w [.one (.int .i64), .one (.int .i64)] K := by
  obtain ⟨F, ⟨hF, l, c, h1, h2, h3⟩, hb⟩ := S.get hi
  have hlt := (hb r hF).2
  obtain ⟨l', c', s, hr, hM⟩ := run_ent (k := k) h1
  obtain ⟨g1, g2, x, g3⟩ := hM h2
  refine ⟨(m k, (s : Int), ()), _, by rw [hr, h3]; rfl, hk s _ (S.mstep hi (P := fun _ => True) (fun F h => ⟨h.1, trivial⟩) hlt fun w' F hF hw => ⟨hF, l', c', hw, g1, fun k' => (g2 k').trans (h3 k'), x, g3⟩) (setM_fr hlt).1⟩
theorem _root_.Go.Eng.Sep.stoM (S : Sep E w0 w Rs) (i : Nat) {s : Nat} (hi : Rs[i]? = some (MapS r m k s)) {v : Int} {K : World → Prop} (hk : ∀ w', Sep E w0 w' (Rs.set i (MapF r (updM m k v))) → Fr (fun k => k = r) w w' → K w') :
    RunU Try.prog (Instr.entryStore 113 (.map (some r)) (.int .i64 (s : Int)) (.int .i64 v)) w K := by
  obtain ⟨F, ⟨hF, l, c, h1, h2, h3, x, hx, rfl, rfl⟩, hb⟩ := S.get hi
  have hlt := (hb r hF).2
  obtain ⟨l', hr, g1, g2⟩ := run_sto (v := v) h2 hx h1
  refine ⟨_, hr, hk _ (S.mstep hi (P := fun _ => True) (fun F h => ⟨h.1, trivial⟩) hlt fun w' F hF hw => ⟨hF, l', c, hw, g1, fun k' => ?_⟩) (setM_fr hlt).1⟩
  rw [g2]
  unfold updM
  split
  · rfl
  · exact h3 k'
theorem _root_.Go.Eng.Sep.delM (S : Sep E w0 w Rs) (i : Nat) (hi : Rs[i]? = some (MapF r m)) {K : World → Prop} (hk : ∀ w', Sep E w0 w' (Rs.set i (MapF r (updM m k 0))) → Fr (fun k => k = r) w w' → K w') :
    DelV Try.prog [113, 55] [.map (some r), kV k] w K := by
  obtain ⟨F, ⟨hF, l, c, h1, h2, h3⟩, hb⟩ := S.get hi
  have hlt := (hb r hF).2
  obtain ⟨l', hr, hM⟩ := run_del (k := k) h1
  obtain ⟨g1, g2⟩ := hM h2
  refine ⟨_, hr, hk _ (S.mstep hi (P := fun _ => True) (fun F h => ⟨h.1, trivial⟩) hlt fun w' F hF hw => ⟨hF, l', c, hw, g1, fun k' => ?_⟩) (setM_fr hlt).1⟩
  rw [g2]
  unfold updM
  split
  · rfl
  · exact h3 k'
/-- An entry, changed: the look first. -/
theorem _root_.Go.Eng.Sep.incA (f : Int → Int) (S : Sep E w0 w Rs) (i : Nat) (hi : Rs[i]? = some (MapF r m)) {KO : World → Prop} (ko : ∀ w', Fr (fun k => k = r) w w' → KO w') (hr : Rng .i64 (f (m k))) {K : World → Prop} (hk : ∀ w', Sep E w0 w' (Rs.set i (MapF r (updM m k (f (m k))))) → Fr (fun k => k = r) w w' → K w') :
    RunV Try.prog (Instr.lookup 113 (.map (some r)) (kV k) false) w [.one (.int .i64)] fun (r22 : Int × Unit) w23 => KO w23 ∧ Rng .i64 (f r22.1) ∧
      RunV Try.prog (Instr.mapEntry 113 (.map (some r)) (kV k)) w23 [.one (.int .i64), .one (.int .i64)] fun (r24 : Int × Int × Unit) w25 => KO w25 ∧
        RunU Try.prog (Instr.entryStore 113 (.map (some r)) (.int .i64 r24.2.1) (.int .i64 (f r22.1))) w25 fun w26 => KO w26 ∧ K w26 :=
  S.lookM i hi ⟨ko _ (Fr.refl _ _), hr, S.entM i hi fun s w' S' f' => ⟨ko _ f', S'.stoM i (by rw [List.getElem?_set, if_pos rfl, if_pos (List.getElem?_eq_some_iff.1 hi).1]) fun w2 S2 f2 => ⟨ko _ (f'.trans f2), hk _ (by rw [List.set_set] at S2; exact S2) (f'.trans f2)⟩⟩⟩
/-- An entry, changed: the entry first. -/
theorem _root_.Go.Eng.Sep.incB (f : Int → Int) (S : Sep E w0 w Rs) (i : Nat) (hi : Rs[i]? = some (MapF r m)) {KO : World → Prop} (ko : ∀ w', Fr (fun k => k = r) w w' → KO w') (hr : Rng .i64 (f (m k))) {K : World → Prop} (hk : ∀ w', Sep E w0 w' (Rs.set i (MapF r (updM m k (f (m k))))) → Fr (fun k => k = r) w w' → K w') :
    RunV Try.prog (Instr.mapEntry 113 (.map (some r)) (kV k)) w [.one (.int .i64), .one (.int .i64)] fun (r24 : Int × Int × Unit) w25 => KO w25 ∧
      RunV Try.prog (Instr.lookup 113 (.map (some r)) (kV k) false) w25 [.one (.int .i64)] fun (r22 : Int × Unit) w23 => KO w23 ∧ Rng .i64 (f r22.1) ∧
        RunU Try.prog (Instr.entryStore 113 (.map (some r)) (.int .i64 r24.2.1) (.int .i64 (f r22.1))) w23 fun w26 => KO w26 ∧ K w26 :=
  S.entM i hi fun s w' S' f' => by
    have hi' : (Rs.set i (MapS r m k s))[i]? = some (MapS r m k s) := by rw [List.getElem?_set, if_pos rfl, if_pos (List.getElem?_eq_some_iff.1 hi).1]
    exact ⟨ko _ f', S'.lookS i hi' ⟨ko _ f', hr, S'.stoM i hi' fun w2 S2 f2 => ⟨ko _ (f'.trans f2), hk _ (by rw [List.set_set] at S2; exact S2) (f'.trans f2)⟩⟩⟩
end
end Go.Proofs.Ytiemdjnmghackaa.Vc

/-! The plans of functions as plain statements, printed by wip/tools/vcgen.py; the kernel holds each to the code. -/
namespace Go.Proofs.Ytiemdjnmghackaa.Vc
open Go Go.Eng
set_option linter.unusedVariables false

/-! ### nepenthe/pagemap.New: function 37 -/
def pagemap_New.A : Ann := .no
def pagemap_New.P  (w : World) (K : (Option Addr) × Unit → World → Prop) : Prop :=
  NewM w fun b1 w2 =>
  NewV #[.slice none 0 0, .slice none 0 0, .slice none 0 0, .slice none 0 0, .map (some b1)] 117 w2 fun b3 w4 =>
  K ((some ⟨b3, 0, none⟩), ()) w4
theorem pagemap_New.vc  (w : World) (K : (Option Addr) × Unit → World → Prop) (h : pagemap_New.P  w K) : CallV Try.prog 37 #[] w [.one .ptr] K := by
  have e : vcFun Try.prog okf false Try.f37 pagemap_New.A #[] w [.one .ptr] K = pagemap_New.P  w K := by kernel_rfl
  exact vcFun.calls okf_ok follows Try.func37 (e.symm ▸ h)

/-! ### (*nepenthe/pagemap.Map).own: function 80 -/
def pagemap_Map_own.A : Ann := .no
def pagemap_Map_own.P (p0 : Addr) (p1 : Int) (w : World) (K : SlV × Unit → World → Prop) : Prop :=
  cond (decide (p1 < 0))
  (K ((⟨none, 0, 0⟩ : SlV), ()) w)
  (cond (decide (p1 ≥ 4))
  (K ((⟨none, 0, 0⟩ : SlV), ()) w)
  ((0 ≤ p1 ∧ p1 < (4 : Int)) ∧
  LoadS w ((p0 : Addr).add (p1.toNat * 1)) .sl fun (x1 : SlV) =>
  K (x1, ()) w))
theorem pagemap_Map_own.vc (p0 : Addr) (p1 : Int) (w : World) (K : SlV × Unit → World → Prop) (h : pagemap_Map_own.P p0 p1 w K) : CallV Try.prog 80 #[.pointer (some p0), .int .i64 p1] w [.one .sl] K := by
  have e : vcFun Try.prog okf false Try.f80 pagemap_Map_own.A #[.pointer (some p0), .int .i64 p1] w [.one .sl] K = pagemap_Map_own.P p0 p1 w K := by kernel_rfl
  exact vcFun.calls okf_ok follows Try.func80 (e.symm ▸ h)

/-! ### (*nepenthe/pagemap.Map).Add: function 38 -/
def pagemap_Map_Add.A : Ann := .two .no (.two .no (.two .no (.two .no (.two (.draw (.take 0 (.take 1 (.take 2 (.take 4 (.take 5 (.eff 3 (.take 6 (.eff 7 (.done)))))))))) .no))))
def pagemap_Map_Add.P (p0 : Addr) (p1 : Int) (p2 : Int) (w : World) (K : Int × Unit → World → Prop) : Prop :=
  cond (decide (p1 < 0))
  (K ((2 : Int), ()) w)
  (cond (decide (p1 ≥ 4))
  (K ((2 : Int), ()) w)
  (cond (decide (p2 < 1))
  (K ((2 : Int), ()) w)
  (cond (decide (p2 > 65535))
  (K ((2 : Int), ()) w)
  ((0 ≤ p1 ∧ p1 < (4 : Int)) ∧
  LoadS w ((p0 : Addr).add (p1.toNat * 1)) .sl fun (x1 : SlV) =>
  cond (decide (((x1.n : Nat) : Int) > 0))
  (K ((11 : Int), ()) w)
  (LoadS w (p0.add 4) .map fun (x2 : Option Nat) =>
  cond x2.isNone
  (NewM w fun b3 w4 =>
  StoreV w4 (p0.add 4) [.map (some b3)] fun w5 =>
  DrawV fun D6 =>
  ((0 : Int) ≤ (p2 : Int) ∧ (p2 : Int) ≤ (p2 : Int) ∧ (p2 : Int) ≤ 9223372036854775807 ∧ ((120 : Nat) : Int) * (p2 : Int) ≤ 140737488355328) ∧
  NewV (List.replicate p2.toNat [.bool false, .int .i64 0, .int .i64 0, .int .i64 0, .int .i64 0, .int .i64 0, .int .u32 0, .int .u64 0, .int .u64 0, .int .i64 0, .int .i64 0, .int .i64 0, .int .u32 0, .int .u64 0, .int .u64 0]).flatten.toArray 120 w5.drew fun b7 w8 =>
  KeepOn D6 w5.drew w8 ∧
  (0 ≤ p1 ∧ p1 < (4 : Int)) ∧
  StoreV w8 ((p0 : Addr).add (p1.toNat * 1)) [.slice (some ⟨b7, 0, none⟩) p2.toNat p2.toNat] fun w9 =>
  KeepOn D6 w5.drew w9 ∧
  K ((0 : Int), ()) w9)
  (DrawV fun D10 =>
  ((0 : Int) ≤ (p2 : Int) ∧ (p2 : Int) ≤ (p2 : Int) ∧ (p2 : Int) ≤ 9223372036854775807 ∧ ((120 : Nat) : Int) * (p2 : Int) ≤ 140737488355328) ∧
  NewV (List.replicate p2.toNat [.bool false, .int .i64 0, .int .i64 0, .int .i64 0, .int .i64 0, .int .i64 0, .int .u32 0, .int .u64 0, .int .u64 0, .int .i64 0, .int .i64 0, .int .i64 0, .int .u32 0, .int .u64 0, .int .u64 0]).flatten.toArray 120 w.drew fun b11 w12 =>
  KeepOn D10 w.drew w12 ∧
  (0 ≤ p1 ∧ p1 < (4 : Int)) ∧
  StoreV w12 ((p0 : Addr).add (p1.toNat * 1)) [.slice (some ⟨b11, 0, none⟩) p2.toNat p2.toNat] fun w13 =>
  KeepOn D10 w.drew w13 ∧
  K ((0 : Int), ()) w13))))))
theorem pagemap_Map_Add.vc (p0 : Addr) (p1 : Int) (p2 : Int) (w : World) (K : Int × Unit → World → Prop) (h : pagemap_Map_Add.P p0 p1 p2 w K) : CallV Try.prog 38 #[.pointer (some p0), .int .i64 p1, .int .i64 p2] w [.one (.int .i64)] K := by
  have e : vcFun Try.prog okf false Try.f38 pagemap_Map_Add.A #[.pointer (some p0), .int .i64 p1, .int .i64 p2] w [.one (.int .i64)] K = pagemap_Map_Add.P p0 p1 p2 w K := by kernel_rfl
  exact vcFun.calls okf_ok follows Try.func38 (e.symm ▸ h)

/-! ### (*nepenthe/pagemap.Map).lose: function 78 -/
def pagemap_Map_lose.A : Ann := .two .no (.two .no (.two .no (.two (.two (.draw (.take 0 (.take 1 (.take 2 (.take 3 (.take 4 (.both 5 (.take 6 (.eff 7 (.take 8 (.eff 9 (.done))))) 7 (.take 8 (.eff 5 (.take 6 (.eff 9 (.done)))))))))))) (.two (.draw (.take 0 (.take 1 (.take 2 (.take 3 (.take 4 (.eff 5 (.take 6 (.done))))))))) .no)) (.two (.draw (.take 0 (.take 1 (.take 2 (.take 3 (.take 4 (.eff 5 (.done)))))))) .no))))
def pagemap_Map_lose.P (p0 : Addr) (p1_0 : Bool) (p1_1 : Int) (p1_2 : Int) (p1_3 : Int) (p1_4 : Int) (p1_5 : Int) (p1_6 : Int) (p1_7 : Int) (p1_8 : Int) (p1_9 : Int) (p1_10 : Int) (p1_11 : Int) (p1_12 : Int) (p1_13 : Int) (p1_14 : Int) (a2 : Option Addr) (n2 c2 : Nat) (w : World) (K : SlV × Unit → World → Prop) : Prop :=
  NewV #[.bool p1_0, .int .i64 p1_1, .int .i64 p1_2, .int .i64 p1_3, .int .i64 p1_4, .int .i64 p1_5, .int .u32 p1_6, .int .u64 p1_7, .int .u64 p1_8, .int .i64 p1_9, .int .i64 p1_10, .int .i64 p1_11, .int .u32 p1_12, .int .u64 p1_13, .int .u64 p1_14] 120 w fun b1 w2 =>
  LoadS w2 ⟨b1, 0, none⟩ .bool fun (x3 : Bool) =>
  cond (!x3)
  (K ((⟨a2, n2, c2⟩ : SlV), ()) w2)
  (LoadA w2 ⟨b1, 1, none⟩ [.int .i64, .int .i64] fun (x4 : Int × Int × Unit) =>
  NewV #[.int .i64 0, .int .i64 0] 55 w2 fun b5 w6 =>
  StoreV w6 ⟨b5, 0, none⟩ [.int .i64 x4.1, .int .i64 x4.2.1] fun w7 =>
  DrawV fun D8 =>
  (D8 (p0.add 4).block ∧ LoadS w7.drew (p0.add 4) .map fun (x9 : Option Nat) =>
  (D8 b5 ∧ LoadA w7.drew ⟨b5, 0, none⟩ [.int .i64, .int .i64] fun (x10 : Int × Int × Unit) =>
  ((RunV Try.prog (Instr.lookup 113 (.map x9) (.agg #[.int .i64 x10.1, .int .i64 x10.2.1]) false) w7.drew [.one (.int .i64)] fun (r11 : Int × Unit) w12 =>
  KeepOn D8 w7.drew w12 ∧
  Rng .i64 (r11.1 - 1) ∧
  RunV Try.prog (Instr.mapEntry 113 (.map x9) (.agg #[.int .i64 x10.1, .int .i64 x10.2.1])) w12 [.one (.int .i64), .one (.int .i64)] fun (r13 : Int × Int × Unit) w14 =>
  KeepOn D8 w7.drew w14 ∧
  RunU Try.prog (Instr.entryStore 113 (.map x9) (.int .i64 r13.2.1) (.int .i64 (r11.1 - 1))) w14 fun w15 =>
  KeepOn D8 w7.drew w15 ∧
  DrawV fun D16 =>
  (D16 (p0.add 4).block ∧ LoadS w15.drew (p0.add 4) .map fun (x17 : Option Nat) =>
  (D16 b5 ∧ LoadA w15.drew ⟨b5, 0, none⟩ [.int .i64, .int .i64] fun (x18 : Int × Int × Unit) =>
  RunV Try.prog (Instr.lookup 113 (.map x17) (.agg #[.int .i64 x18.1, .int .i64 x18.2.1]) false) w15.drew [.one (.int .i64)] fun (r19 : Int × Unit) w20 =>
  KeepOn D16 w15.drew w20 ∧
  cond (decide (r19.1 > 0))
  (K ((⟨a2, n2, c2⟩ : SlV), ()) w20)
  (DrawV fun D21 =>
  (D21 (p0.add 4).block ∧ LoadS w20.drew (p0.add 4) .map fun (x22 : Option Nat) =>
  (D21 b5 ∧ LoadA w20.drew ⟨b5, 0, none⟩ [.int .i64, .int .i64] fun (x23 : Int × Int × Unit) =>
  DelV Try.prog [113, 55] [.map x22, .agg #[.int .i64 x23.1, .int .i64 x23.2.1]] w20.drew fun w24 =>
  KeepOn D21 w20.drew w24 ∧
  LoadA w24 ⟨b5, 0, none⟩ [.int .i64, .int .i64] fun (x25 : Int × Int × Unit) =>
  NewV #[.int .i64 x25.1, .int .i64 x25.2.1] 55 w24 fun b26 w27 =>
  AppS w27 (some ⟨b26, 0, none⟩) 1 2 fun ns32 =>
  AppV w27 55 2 16 a2 n2 c2 ns32 1 fun a28 n29 c30 w31 =>
  K ((⟨a28, n29, c30⟩ : SlV), ()) w31)))))) ∧
  (RunV Try.prog (Instr.mapEntry 113 (.map x9) (.agg #[.int .i64 x10.1, .int .i64 x10.2.1])) w7.drew [.one (.int .i64), .one (.int .i64)] fun (r33 : Int × Int × Unit) w34 =>
  KeepOn D8 w7.drew w34 ∧
  RunV Try.prog (Instr.lookup 113 (.map x9) (.agg #[.int .i64 x10.1, .int .i64 x10.2.1]) false) w34 [.one (.int .i64)] fun (r35 : Int × Unit) w36 =>
  KeepOn D8 w7.drew w36 ∧
  Rng .i64 (r35.1 - 1) ∧
  RunU Try.prog (Instr.entryStore 113 (.map x9) (.int .i64 r33.2.1) (.int .i64 (r35.1 - 1))) w36 fun w37 =>
  KeepOn D8 w7.drew w37 ∧
  DrawV fun D38 =>
  (D38 (p0.add 4).block ∧ LoadS w37.drew (p0.add 4) .map fun (x39 : Option Nat) =>
  (D38 b5 ∧ LoadA w37.drew ⟨b5, 0, none⟩ [.int .i64, .int .i64] fun (x40 : Int × Int × Unit) =>
  RunV Try.prog (Instr.lookup 113 (.map x39) (.agg #[.int .i64 x40.1, .int .i64 x40.2.1]) false) w37.drew [.one (.int .i64)] fun (r41 : Int × Unit) w42 =>
  KeepOn D38 w37.drew w42 ∧
  cond (decide (r41.1 > 0))
  (K ((⟨a2, n2, c2⟩ : SlV), ()) w42)
  (DrawV fun D43 =>
  (D43 (p0.add 4).block ∧ LoadS w42.drew (p0.add 4) .map fun (x44 : Option Nat) =>
  (D43 b5 ∧ LoadA w42.drew ⟨b5, 0, none⟩ [.int .i64, .int .i64] fun (x45 : Int × Int × Unit) =>
  DelV Try.prog [113, 55] [.map x44, .agg #[.int .i64 x45.1, .int .i64 x45.2.1]] w42.drew fun w46 =>
  KeepOn D43 w42.drew w46 ∧
  LoadA w46 ⟨b5, 0, none⟩ [.int .i64, .int .i64] fun (x47 : Int × Int × Unit) =>
  NewV #[.int .i64 x47.1, .int .i64 x47.2.1] 55 w46 fun b48 w49 =>
  AppS w49 (some ⟨b48, 0, none⟩) 1 2 fun ns54 =>
  AppV w49 55 2 16 a2 n2 c2 ns54 1 fun a50 n51 c52 w53 =>
  K ((⟨a50, n51, c52⟩ : SlV), ()) w53))))))))))
theorem pagemap_Map_lose.vc (p0 : Addr) (p1_0 : Bool) (p1_1 : Int) (p1_2 : Int) (p1_3 : Int) (p1_4 : Int) (p1_5 : Int) (p1_6 : Int) (p1_7 : Int) (p1_8 : Int) (p1_9 : Int) (p1_10 : Int) (p1_11 : Int) (p1_12 : Int) (p1_13 : Int) (p1_14 : Int) (a2 : Option Addr) (n2 c2 : Nat) (w : World) (K : SlV × Unit → World → Prop) (h : pagemap_Map_lose.P p0 p1_0 p1_1 p1_2 p1_3 p1_4 p1_5 p1_6 p1_7 p1_8 p1_9 p1_10 p1_11 p1_12 p1_13 p1_14 a2 n2 c2 w K) : CallV Try.prog 78 #[.pointer (some p0), .agg #[.bool p1_0, .int .i64 p1_1, .int .i64 p1_2, .int .i64 p1_3, .int .i64 p1_4, .int .i64 p1_5, .int .u32 p1_6, .int .u64 p1_7, .int .u64 p1_8, .int .i64 p1_9, .int .i64 p1_10, .int .i64 p1_11, .int .u32 p1_12, .int .u64 p1_13, .int .u64 p1_14], .slice a2 n2 c2] w [.one .sl] K := by
  have e : vcFun Try.prog okf false Try.f78 pagemap_Map_lose.A #[.pointer (some p0), .agg #[.bool p1_0, .int .i64 p1_1, .int .i64 p1_2, .int .i64 p1_3, .int .i64 p1_4, .int .i64 p1_5, .int .u32 p1_6, .int .u64 p1_7, .int .u64 p1_8, .int .i64 p1_9, .int .i64 p1_10, .int .i64 p1_11, .int .u32 p1_12, .int .u64 p1_13, .int .u64 p1_14], .slice a2 n2 c2] w [.one .sl] K = pagemap_Map_lose.P p0 p1_0 p1_1 p1_2 p1_3 p1_4 p1_5 p1_6 p1_7 p1_8 p1_9 p1_10 p1_11 p1_12 p1_13 p1_14 a2 n2 c2 w K := by kernel_rfl
  exact vcFun.calls okf_ok follows Try.func78 (e.symm ▸ h)

/-! ### nepenthe/pagemap.told: function 79 -/
def pagemap_told.A : Ann := .no
def pagemap_told.P (a0 : Option Addr) (n0 c0 : Nat) (w : World) (K : SlV × Unit → World → Prop) : Prop :=
  CallV Try.prog 99 #[.slice a0 n0 c0, .func (.func 91) #[] #[]] w [] fun (r1 : Unit) w2 =>
  K ((⟨a0, n0, c0⟩ : SlV), ()) w2
theorem pagemap_told.vc (a0 : Option Addr) (n0 c0 : Nat) (w : World) (K : SlV × Unit → World → Prop) (h : pagemap_told.P a0 n0 c0 w K) : CallV Try.prog 79 #[.slice a0 n0 c0] w [.one .sl] K := by
  have e : vcFun Try.prog okf false Try.f79 pagemap_told.A #[.slice a0 n0 c0] w [.one .sl] K = pagemap_told.P a0 n0 c0 w K := by kernel_rfl
  exact vcFun.calls okf_ok follows Try.func79 (e.symm ▸ h)

/-! ### (*nepenthe/pagemap.Map).Drop: function 47 -/
-- loop 0 carries 7: .one .sl, 18: .one (.int .i64)
def pagemap_Map_Drop.A : Ann := .two .no (.two .no (.two .no (.two .no (.two (.two .no (.one (.loop [7, 9, 18, 19, 20, 21, 22, 23, 24, 25, 26] [(7, .one .sl), (18, .one (.int .i64))] .no))) .no))))
def pagemap_Map_Drop.P (p0 : Addr) (p1 : Int) (w : World) (K : SlV × Int × Unit → World → Prop) : Prop :=
  CallV Try.prog 80 #[.pointer (some p0), .int .i64 p1] w [.one .sl] fun (r1 : SlV × Unit) w2 =>
  cond (((r1.1.n : Nat) : Int) == 0)
  (K ((⟨none, 0, 0⟩ : SlV), (2 : Int), ()) w2)
  (LoopV [.one .sl, .one (.int .i64)] ((⟨none, 0, 0⟩ : SlV), (0 : Int), ()) w2 fun (z3 : SlV × Int × Unit) w4 (K5 : SlV × Int × Unit → World → Prop) =>
  cond (decide (z3.2.1 < ((r1.1.n : Nat) : Int)))
  ((0 ≤ z3.2.1 ∧ z3.2.1 < ((r1.1.n : Nat) : Int)) ∧ ∃ q6 : Addr, r1.1.a = some q6 ∧
  LoadA w4 (q6.add (z3.2.1.toNat * 15)) [.bool, .int .i64, .int .i64, .int .i64, .int .i64, .int .i64, .int .u32, .int .u64, .int .u64, .int .i64, .int .i64, .int .i64, .int .u32, .int .u64, .int .u64] fun (x7 : Bool × Int × Int × Int × Int × Int × Int × Int × Int × Int × Int × Int × Int × Int × Int × Unit) =>
  NewV #[.bool false, .int .i64 0, .int .i64 0, .int .i64 0, .int .i64 0, .int .i64 0, .int .u32 0, .int .u64 0, .int .u64 0, .int .i64 0, .int .i64 0, .int .i64 0, .int .u32 0, .int .u64 0, .int .u64 0] 120 w4 fun b8 w9 =>
  StoreV w9 ⟨b8, 0, none⟩ [.bool x7.1, .int .i64 x7.2.1, .int .i64 x7.2.2.1, .int .i64 x7.2.2.2.1, .int .i64 x7.2.2.2.2.1, .int .i64 x7.2.2.2.2.2.1, .int .u32 x7.2.2.2.2.2.2.1, .int .u64 x7.2.2.2.2.2.2.2.1, .int .u64 x7.2.2.2.2.2.2.2.2.1, .int .i64 x7.2.2.2.2.2.2.2.2.2.1, .int .i64 x7.2.2.2.2.2.2.2.2.2.2.1, .int .i64 x7.2.2.2.2.2.2.2.2.2.2.2.1, .int .u32 x7.2.2.2.2.2.2.2.2.2.2.2.2.1, .int .u64 x7.2.2.2.2.2.2.2.2.2.2.2.2.2.1, .int .u64 x7.2.2.2.2.2.2.2.2.2.2.2.2.2.2.1] fun w10 =>
  LoadA w10 ⟨b8, 0, none⟩ [.bool, .int .i64, .int .i64, .int .i64, .int .i64, .int .i64, .int .u32, .int .u64, .int .u64, .int .i64, .int .i64, .int .i64, .int .u32, .int .u64, .int .u64] fun (x11 : Bool × Int × Int × Int × Int × Int × Int × Int × Int × Int × Int × Int × Int × Int × Int × Unit) =>
  CallV Try.prog 78 #[.pointer (some p0), .agg #[.bool x11.1, .int .i64 x11.2.1, .int .i64 x11.2.2.1, .int .i64 x11.2.2.2.1, .int .i64 x11.2.2.2.2.1, .int .i64 x11.2.2.2.2.2.1, .int .u32 x11.2.2.2.2.2.2.1, .int .u64 x11.2.2.2.2.2.2.2.1, .int .u64 x11.2.2.2.2.2.2.2.2.1, .int .i64 x11.2.2.2.2.2.2.2.2.2.1, .int .i64 x11.2.2.2.2.2.2.2.2.2.2.1, .int .i64 x11.2.2.2.2.2.2.2.2.2.2.2.1, .int .u32 x11.2.2.2.2.2.2.2.2.2.2.2.2.1, .int .u64 x11.2.2.2.2.2.2.2.2.2.2.2.2.2.1, .int .u64 x11.2.2.2.2.2.2.2.2.2.2.2.2.2.2.1], .slice z3.1.a z3.1.n z3.1.c] w10 [.one .sl] fun (r12 : SlV × Unit) w13 =>
  Rng .i64 (z3.2.1 + 1) ∧
  K5 (r12.1, z3.2.1 + 1, ()) w13)
  ((0 ≤ p1 ∧ p1 < (4 : Int)) ∧
  StoreV w4 ((p0 : Addr).add (p1.toNat * 1)) [.slice none 0 0] fun w14 =>
  CallV Try.prog 79 #[.slice z3.1.a z3.1.n z3.1.c] w14 [.one .sl] fun (r15 : SlV × Unit) w16 =>
  K (r15.1, (0 : Int), ()) w16))
theorem pagemap_Map_Drop.vc (p0 : Addr) (p1 : Int) (w : World) (K : SlV × Int × Unit → World → Prop) (h : pagemap_Map_Drop.P p0 p1 w K) : CallV Try.prog 47 #[.pointer (some p0), .int .i64 p1] w [.one .sl, .one (.int .i64)] K := by
  have e : vcFun Try.prog okf false Try.f47 pagemap_Map_Drop.A #[.pointer (some p0), .int .i64 p1] w [.one .sl, .one (.int .i64)] K = pagemap_Map_Drop.P p0 p1 w K := by kernel_rfl
  exact vcFun.calls okf_ok follows Try.func47 (e.symm ▸ h)

/-! ### (*nepenthe/pagemap.Map).Size: function 48 -/
def pagemap_Map_Size.A : Ann := .no
def pagemap_Map_Size.P (p0 : Addr) (p1 : Int) (w : World) (K : Int × Unit → World → Prop) : Prop :=
  CallV Try.prog 80 #[.pointer (some p0), .int .i64 p1] w [.one .sl] fun (r1 : SlV × Unit) w2 =>
  K (((r1.1.n : Nat) : Int), ()) w2
theorem pagemap_Map_Size.vc (p0 : Addr) (p1 : Int) (w : World) (K : Int × Unit → World → Prop) (h : pagemap_Map_Size.P p0 p1 w K) : CallV Try.prog 48 #[.pointer (some p0), .int .i64 p1] w [.one (.int .i64)] K := by
  have e : vcFun Try.prog okf false Try.f48 pagemap_Map_Size.A #[.pointer (some p0), .int .i64 p1] w [.one (.int .i64)] K = pagemap_Map_Size.P p0 p1 w K := by kernel_rfl
  exact vcFun.calls okf_ok follows Try.func48 (e.symm ▸ h)

/-! ### nepenthe/pagemap.Newer: function 33 -/
def pagemap_Newer.A : Ann := .no
def pagemap_Newer.P (p0_0 : Int) (p0_1 : Int) (p0_2 : Int) (p0_3 : Int) (p0_4 : Int) (p0_5 : Int) (p0_6 : Int) (p0_7 : Int) (p0_8 : Int) (p0_9 : Int) (p0_10 : Int) (p0_11 : Int) (p0_12 : Int) (p0_13 : Int) (p1_0 : Int) (p1_1 : Int) (p1_2 : Int) (p1_3 : Int) (p1_4 : Int) (p1_5 : Int) (p1_6 : Int) (p1_7 : Int) (p1_8 : Int) (p1_9 : Int) (p1_10 : Int) (p1_11 : Int) (p1_12 : Int) (p1_13 : Int) (w : World) (K : Bool × Unit → World → Prop) : Prop :=
  NewV #[.int .i64 p0_0, .int .i64 p0_1, .int .i64 p0_2, .int .i64 p0_3, .int .i64 p0_4, .int .u32 p0_5, .int .u64 p0_6, .int .u64 p0_7, .int .i64 p0_8, .int .i64 p0_9, .int .i64 p0_10, .int .u32 p0_11, .int .u64 p0_12, .int .u64 p0_13] 61 w fun b1 w2 =>
  NewV #[.int .i64 p1_0, .int .i64 p1_1, .int .i64 p1_2, .int .i64 p1_3, .int .i64 p1_4, .int .u32 p1_5, .int .u64 p1_6, .int .u64 p1_7, .int .i64 p1_8, .int .i64 p1_9, .int .i64 p1_10, .int .u32 p1_11, .int .u64 p1_12, .int .u64 p1_13] 61 w2 fun b3 w4 =>
  LoadA w4 ⟨b3, 2, none⟩ [.int .i64, .int .i64, .int .i64, .int .u32, .int .u64, .int .u64] fun (x5 : Int × Int × Int × Int × Int × Int × Unit) =>
  LoadA w4 ⟨b1, 2, none⟩ [.int .i64, .int .i64, .int .i64, .int .u32, .int .u64, .int .u64] fun (x6 : Int × Int × Int × Int × Int × Int × Unit) =>
  CallV Try.prog 75 #[.agg #[.int .i64 x5.1, .int .i64 x5.2.1, .int .i64 x5.2.2.1, .int .u32 x5.2.2.2.1, .int .u64 x5.2.2.2.2.1, .int .u64 x5.2.2.2.2.2.1], .agg #[.int .i64 x6.1, .int .i64 x6.2.1, .int .i64 x6.2.2.1, .int .u32 x6.2.2.2.1, .int .u64 x6.2.2.2.2.1, .int .u64 x6.2.2.2.2.2.1]] w4 [.one .bool] fun (r7 : Bool × Unit) w8 =>
  cond r7.1
  (K (true, ()) w8)
  (LoadA w8 ⟨b1, 2, none⟩ [.int .i64, .int .i64, .int .i64, .int .u32, .int .u64, .int .u64] fun (x9 : Int × Int × Int × Int × Int × Int × Unit) =>
  LoadA w8 ⟨b3, 2, none⟩ [.int .i64, .int .i64, .int .i64, .int .u32, .int .u64, .int .u64] fun (x10 : Int × Int × Int × Int × Int × Int × Unit) =>
  CallV Try.prog 75 #[.agg #[.int .i64 x9.1, .int .i64 x9.2.1, .int .i64 x9.2.2.1, .int .u32 x9.2.2.2.1, .int .u64 x9.2.2.2.2.1, .int .u64 x9.2.2.2.2.2.1], .agg #[.int .i64 x10.1, .int .i64 x10.2.1, .int .i64 x10.2.2.1, .int .u32 x10.2.2.2.1, .int .u64 x10.2.2.2.2.1, .int .u64 x10.2.2.2.2.2.1]] w8 [.one .bool] fun (r11 : Bool × Unit) w12 =>
  cond r11.1
  (K (false, ()) w12)
  (LoadA w12 ⟨b3, 8, none⟩ [.int .i64, .int .i64, .int .i64, .int .u32, .int .u64, .int .u64] fun (x13 : Int × Int × Int × Int × Int × Int × Unit) =>
  LoadA w12 ⟨b1, 8, none⟩ [.int .i64, .int .i64, .int .i64, .int .u32, .int .u64, .int .u64] fun (x14 : Int × Int × Int × Int × Int × Int × Unit) =>
  CallV Try.prog 75 #[.agg #[.int .i64 x13.1, .int .i64 x13.2.1, .int .i64 x13.2.2.1, .int .u32 x13.2.2.2.1, .int .u64 x13.2.2.2.2.1, .int .u64 x13.2.2.2.2.2.1], .agg #[.int .i64 x14.1, .int .i64 x14.2.1, .int .i64 x14.2.2.1, .int .u32 x14.2.2.2.1, .int .u64 x14.2.2.2.2.1, .int .u64 x14.2.2.2.2.2.1]] w12 [.one .bool] fun (r15 : Bool × Unit) w16 =>
  K (r15.1, ()) w16))
theorem pagemap_Newer.vc (p0_0 : Int) (p0_1 : Int) (p0_2 : Int) (p0_3 : Int) (p0_4 : Int) (p0_5 : Int) (p0_6 : Int) (p0_7 : Int) (p0_8 : Int) (p0_9 : Int) (p0_10 : Int) (p0_11 : Int) (p0_12 : Int) (p0_13 : Int) (p1_0 : Int) (p1_1 : Int) (p1_2 : Int) (p1_3 : Int) (p1_4 : Int) (p1_5 : Int) (p1_6 : Int) (p1_7 : Int) (p1_8 : Int) (p1_9 : Int) (p1_10 : Int) (p1_11 : Int) (p1_12 : Int) (p1_13 : Int) (w : World) (K : Bool × Unit → World → Prop) (h : pagemap_Newer.P p0_0 p0_1 p0_2 p0_3 p0_4 p0_5 p0_6 p0_7 p0_8 p0_9 p0_10 p0_11 p0_12 p0_13 p1_0 p1_1 p1_2 p1_3 p1_4 p1_5 p1_6 p1_7 p1_8 p1_9 p1_10 p1_11 p1_12 p1_13 w K) : CallV Try.prog 33 #[.agg #[.int .i64 p0_0, .int .i64 p0_1, .int .i64 p0_2, .int .i64 p0_3, .int .i64 p0_4, .int .u32 p0_5, .int .u64 p0_6, .int .u64 p0_7, .int .i64 p0_8, .int .i64 p0_9, .int .i64 p0_10, .int .u32 p0_11, .int .u64 p0_12, .int .u64 p0_13], .agg #[.int .i64 p1_0, .int .i64 p1_1, .int .i64 p1_2, .int .i64 p1_3, .int .i64 p1_4, .int .u32 p1_5, .int .u64 p1_6, .int .u64 p1_7, .int .i64 p1_8, .int .i64 p1_9, .int .i64 p1_10, .int .u32 p1_11, .int .u64 p1_12, .int .u64 p1_13]] w [.one .bool] K := by
  have e : vcFun Try.prog okf false Try.f33 pagemap_Newer.A #[.agg #[.int .i64 p0_0, .int .i64 p0_1, .int .i64 p0_2, .int .i64 p0_3, .int .i64 p0_4, .int .u32 p0_5, .int .u64 p0_6, .int .u64 p0_7, .int .i64 p0_8, .int .i64 p0_9, .int .i64 p0_10, .int .u32 p0_11, .int .u64 p0_12, .int .u64 p0_13], .agg #[.int .i64 p1_0, .int .i64 p1_1, .int .i64 p1_2, .int .i64 p1_3, .int .i64 p1_4, .int .u32 p1_5, .int .u64 p1_6, .int .u64 p1_7, .int .i64 p1_8, .int .i64 p1_9, .int .i64 p1_10, .int .u32 p1_11, .int .u64 p1_12, .int .u64 p1_13]] w [.one .bool] K = pagemap_Newer.P p0_0 p0_1 p0_2 p0_3 p0_4 p0_5 p0_6 p0_7 p0_8 p0_9 p0_10 p0_11 p0_12 p0_13 p1_0 p1_1 p1_2 p1_3 p1_4 p1_5 p1_6 p1_7 p1_8 p1_9 p1_10 p1_11 p1_12 p1_13 w K := by kernel_rfl
  exact vcFun.calls okf_ok follows Try.func33 (e.symm ▸ h)

/-! ### (*nepenthe/pagemap.Map).speaks: function 77 -/
def pagemap_Map_speaks.A : Ann := .two .no (.two (.draw (.take 0 (.take 1 (.take 2 (.take 3 (.take 5 (.take 6 (.both 4 (.eff 7 (.take 8 (.eff 9 (.done)))) 7 (.eff 4 (.take 8 (.eff 9 (.done)))))))))))) .no)
def pagemap_Map_speaks.P (p0 : Addr) (p1_0 : Int) (p1_1 : Int) (p1_2 : Int) (p1_3 : Int) (p1_4 : Int) (p1_5 : Int) (p1_6 : Int) (p1_7 : Int) (p1_8 : Int) (p1_9 : Int) (p1_10 : Int) (p1_11 : Int) (p1_12 : Int) (p1_13 : Int) (w : World) (K : SlV × Unit → World → Prop) : Prop :=
  NewV #[.int .i64 p1_0, .int .i64 p1_1, .int .i64 p1_2, .int .i64 p1_3, .int .i64 p1_4, .int .u32 p1_5, .int .u64 p1_6, .int .u64 p1_7, .int .i64 p1_8, .int .i64 p1_9, .int .i64 p1_10, .int .u32 p1_11, .int .u64 p1_12, .int .u64 p1_13] 61 w fun b1 w2 =>
  DrawV fun D3 =>
  (D3 b1 ∧ LoadS w2.drew ⟨b1, 3, none⟩ (.int .i64) fun (x4 : Int) =>
  (D3 b1 ∧ LoadA w2.drew ⟨b1, 2, none⟩ [.int .i64, .int .i64, .int .i64, .int .u32, .int .u64, .int .u64] fun (x5 : Int × Int × Int × Int × Int × Int × Unit) =>
  ((CallV Try.prog 80 #[.pointer (some p0), .int .i64 x4] w2.drew [.one .sl] fun (r6 : SlV × Unit) w7 =>
  KeepOn D3 w2.drew w7 ∧
  NewV #[.int .i64 0, .int .i64 0, .int .i64 0, .int .u32 0, .int .u64 0, .int .u64 0] 59 w7 fun b8 w9 =>
  KeepOn D3 w2.drew w9 ∧
  StoreV w9 ⟨b8, 0, none⟩ [.int .i64 x5.1, .int .i64 x5.2.1, .int .i64 x5.2.2.1, .int .u32 x5.2.2.2.1, .int .u64 x5.2.2.2.2.1, .int .u64 x5.2.2.2.2.2.1] fun w10 =>
  KeepOn D3 w2.drew w10 ∧
  LoadS w10 ⟨b8, 0, none⟩ (.int .i64) fun (x11 : Int) =>
  cond (x11 != 1)
  (LoadS w10 ⟨b8, 0, none⟩ (.int .i64) fun (x12 : Int) =>
  cond (x12 != 2)
  (K ((⟨none, 0, 0⟩ : SlV), ()) w10)
  (LoadS w10 ⟨b8, 2, none⟩ (.int .i64) fun (x13 : Int) =>
  cond (decide (x13 < 1))
  (K ((⟨none, 0, 0⟩ : SlV), ()) w10)
  (LoadS w10 ⟨b8, 2, none⟩ (.int .i64) fun (x14 : Int) =>
  cond (decide (x14 > ((r6.1.n : Nat) : Int)))
  (K ((⟨none, 0, 0⟩ : SlV), ()) w10)
  (LoadS w10 ⟨b8, 3, none⟩ (.int .u32) fun (x15 : Int) =>
  LoadS w10 ⟨b8, 2, none⟩ (.int .i64) fun (x16 : Int) =>
  Rng .i64 (((r6.1.n : Nat) : Int) - x16) ∧
  cond (decide ((IntKind.i64.wrap x15) > (((r6.1.n : Nat) : Int) - x16)))
  (K ((⟨none, 0, 0⟩ : SlV), ()) w10)
  (LoadS w10 ⟨b8, 3, none⟩ (.int .u32) fun (x17 : Int) =>
  LoadS w10 ⟨b8, 3, none⟩ (.int .u32) fun (x18 : Int) =>
  LoadS w10 ⟨b8, 2, none⟩ (.int .i64) fun (x19 : Int) =>
  Rng .i64 ((IntKind.i64.wrap x18) + x19) ∧
  ((0 : Int) ≤ x17 ∧ x17 ≤ ((IntKind.i64.wrap x18) + x19) ∧ ((IntKind.i64.wrap x18) + x19) ≤ ((r6.1.c : Nat) : Int)) ∧
  SubK r6.1.a x17.toNat r6.1.c 15 fun a20 =>
  K ((⟨a20, (((IntKind.i64.wrap x18) + x19).toNat) - x17.toNat, r6.1.c - x17.toNat⟩ : SlV), ()) w10)))))
  (LoadS w10 ⟨b8, 2, none⟩ (.int .i64) fun (x21 : Int) =>
  cond (decide (x21 < 1))
  (K ((⟨none, 0, 0⟩ : SlV), ()) w10)
  (LoadS w10 ⟨b8, 2, none⟩ (.int .i64) fun (x22 : Int) =>
  cond (decide (x22 > ((r6.1.n : Nat) : Int)))
  (K ((⟨none, 0, 0⟩ : SlV), ()) w10)
  (LoadS w10 ⟨b8, 3, none⟩ (.int .u32) fun (x23 : Int) =>
  LoadS w10 ⟨b8, 2, none⟩ (.int .i64) fun (x24 : Int) =>
  Rng .i64 (((r6.1.n : Nat) : Int) - x24) ∧
  cond (decide ((IntKind.i64.wrap x23) > (((r6.1.n : Nat) : Int) - x24)))
  (K ((⟨none, 0, 0⟩ : SlV), ()) w10)
  (LoadS w10 ⟨b8, 3, none⟩ (.int .u32) fun (x25 : Int) =>
  LoadS w10 ⟨b8, 3, none⟩ (.int .u32) fun (x26 : Int) =>
  LoadS w10 ⟨b8, 2, none⟩ (.int .i64) fun (x27 : Int) =>
  Rng .i64 ((IntKind.i64.wrap x26) + x27) ∧
  ((0 : Int) ≤ x25 ∧ x25 ≤ ((IntKind.i64.wrap x26) + x27) ∧ ((IntKind.i64.wrap x26) + x27) ≤ ((r6.1.c : Nat) : Int)) ∧
  SubK r6.1.a x25.toNat r6.1.c 15 fun a28 =>
  K ((⟨a28, (((IntKind.i64.wrap x26) + x27).toNat) - x25.toNat, r6.1.c - x25.toNat⟩ : SlV), ()) w10))))) ∧
  (NewV #[.int .i64 0, .int .i64 0, .int .i64 0, .int .u32 0, .int .u64 0, .int .u64 0] 59 w2.drew fun b29 w30 =>
  KeepOn D3 w2.drew w30 ∧
  CallV Try.prog 80 #[.pointer (some p0), .int .i64 x4] w30 [.one .sl] fun (r31 : SlV × Unit) w32 =>
  KeepOn D3 w2.drew w32 ∧
  StoreV w32 ⟨b29, 0, none⟩ [.int .i64 x5.1, .int .i64 x5.2.1, .int .i64 x5.2.2.1, .int .u32 x5.2.2.2.1, .int .u64 x5.2.2.2.2.1, .int .u64 x5.2.2.2.2.2.1] fun w33 =>
  KeepOn D3 w2.drew w33 ∧
  LoadS w33 ⟨b29, 0, none⟩ (.int .i64) fun (x34 : Int) =>
  cond (x34 != 1)
  (LoadS w33 ⟨b29, 0, none⟩ (.int .i64) fun (x35 : Int) =>
  cond (x35 != 2)
  (K ((⟨none, 0, 0⟩ : SlV), ()) w33)
  (LoadS w33 ⟨b29, 2, none⟩ (.int .i64) fun (x36 : Int) =>
  cond (decide (x36 < 1))
  (K ((⟨none, 0, 0⟩ : SlV), ()) w33)
  (LoadS w33 ⟨b29, 2, none⟩ (.int .i64) fun (x37 : Int) =>
  cond (decide (x37 > ((r31.1.n : Nat) : Int)))
  (K ((⟨none, 0, 0⟩ : SlV), ()) w33)
  (LoadS w33 ⟨b29, 3, none⟩ (.int .u32) fun (x38 : Int) =>
  LoadS w33 ⟨b29, 2, none⟩ (.int .i64) fun (x39 : Int) =>
  Rng .i64 (((r31.1.n : Nat) : Int) - x39) ∧
  cond (decide ((IntKind.i64.wrap x38) > (((r31.1.n : Nat) : Int) - x39)))
  (K ((⟨none, 0, 0⟩ : SlV), ()) w33)
  (LoadS w33 ⟨b29, 3, none⟩ (.int .u32) fun (x40 : Int) =>
  LoadS w33 ⟨b29, 3, none⟩ (.int .u32) fun (x41 : Int) =>
  LoadS w33 ⟨b29, 2, none⟩ (.int .i64) fun (x42 : Int) =>
  Rng .i64 ((IntKind.i64.wrap x41) + x42) ∧
  ((0 : Int) ≤ x40 ∧ x40 ≤ ((IntKind.i64.wrap x41) + x42) ∧ ((IntKind.i64.wrap x41) + x42) ≤ ((r31.1.c : Nat) : Int)) ∧
  SubK r31.1.a x40.toNat r31.1.c 15 fun a43 =>
  K ((⟨a43, (((IntKind.i64.wrap x41) + x42).toNat) - x40.toNat, r31.1.c - x40.toNat⟩ : SlV), ()) w33)))))
  (LoadS w33 ⟨b29, 2, none⟩ (.int .i64) fun (x44 : Int) =>
  cond (decide (x44 < 1))
  (K ((⟨none, 0, 0⟩ : SlV), ()) w33)
  (LoadS w33 ⟨b29, 2, none⟩ (.int .i64) fun (x45 : Int) =>
  cond (decide (x45 > ((r31.1.n : Nat) : Int)))
  (K ((⟨none, 0, 0⟩ : SlV), ()) w33)
  (LoadS w33 ⟨b29, 3, none⟩ (.int .u32) fun (x46 : Int) =>
  LoadS w33 ⟨b29, 2, none⟩ (.int .i64) fun (x47 : Int) =>
  Rng .i64 (((r31.1.n : Nat) : Int) - x47) ∧
  cond (decide ((IntKind.i64.wrap x46) > (((r31.1.n : Nat) : Int) - x47)))
  (K ((⟨none, 0, 0⟩ : SlV), ()) w33)
  (LoadS w33 ⟨b29, 3, none⟩ (.int .u32) fun (x48 : Int) =>
  LoadS w33 ⟨b29, 3, none⟩ (.int .u32) fun (x49 : Int) =>
  LoadS w33 ⟨b29, 2, none⟩ (.int .i64) fun (x50 : Int) =>
  Rng .i64 ((IntKind.i64.wrap x49) + x50) ∧
  ((0 : Int) ≤ x48 ∧ x48 ≤ ((IntKind.i64.wrap x49) + x50) ∧ ((IntKind.i64.wrap x49) + x50) ≤ ((r31.1.c : Nat) : Int)) ∧
  SubK r31.1.a x48.toNat r31.1.c 15 fun a51 =>
  K ((⟨a51, (((IntKind.i64.wrap x49) + x50).toNat) - x48.toNat, r31.1.c - x48.toNat⟩ : SlV), ()) w33))))))))
theorem pagemap_Map_speaks.vc (p0 : Addr) (p1_0 : Int) (p1_1 : Int) (p1_2 : Int) (p1_3 : Int) (p1_4 : Int) (p1_5 : Int) (p1_6 : Int) (p1_7 : Int) (p1_8 : Int) (p1_9 : Int) (p1_10 : Int) (p1_11 : Int) (p1_12 : Int) (p1_13 : Int) (w : World) (K : SlV × Unit → World → Prop) (h : pagemap_Map_speaks.P p0 p1_0 p1_1 p1_2 p1_3 p1_4 p1_5 p1_6 p1_7 p1_8 p1_9 p1_10 p1_11 p1_12 p1_13 w K) : CallV Try.prog 77 #[.pointer (some p0), .agg #[.int .i64 p1_0, .int .i64 p1_1, .int .i64 p1_2, .int .i64 p1_3, .int .i64 p1_4, .int .u32 p1_5, .int .u64 p1_6, .int .u64 p1_7, .int .i64 p1_8, .int .i64 p1_9, .int .i64 p1_10, .int .u32 p1_11, .int .u64 p1_12, .int .u64 p1_13]] w [.one .sl] K := by
  have e : vcFun Try.prog okf false Try.f77 pagemap_Map_speaks.A #[.pointer (some p0), .agg #[.int .i64 p1_0, .int .i64 p1_1, .int .i64 p1_2, .int .i64 p1_3, .int .i64 p1_4, .int .u32 p1_5, .int .u64 p1_6, .int .u64 p1_7, .int .i64 p1_8, .int .i64 p1_9, .int .i64 p1_10, .int .u32 p1_11, .int .u64 p1_12, .int .u64 p1_13]] w [.one .sl] K = pagemap_Map_speaks.P p0 p1_0 p1_1 p1_2 p1_3 p1_4 p1_5 p1_6 p1_7 p1_8 p1_9 p1_10 p1_11 p1_12 p1_13 w K := by kernel_rfl
  exact vcFun.calls okf_ok follows Try.func77 (e.symm ▸ h)

/-! ### (*nepenthe/pagemap.Map).Put: function 39 -/
-- loop 0 carries 7: .one .sl, 18: .one (.int .i64)
def pagemap_Map_Put.A : Ann := .two .no (.two .no (.two .no (.two .no (.two (.two .no (.one (.loop [7, 8, 9, 18, 19, 20, 21, 22, 23, 24, 25, 26, 27, 28, 29, 30, 31, 32, 33, 34, 35, 36, 37, 38, 39, 40, 41, 42, 43, 44, 45, 46, 47, 48, 49, 50, 51] [(7, .one .sl), (18, .one (.int .i64))] (.two .no (.two .no (.two (.one (.two .no (.two .no (.two (.draw (.take 0 (.take 1 (.take 2 (.take 3 (.take 4 (.take 5 (.both 6 (.take 7 (.eff 8 (.take 9 (.eff 10 (.done))))) 8 (.take 9 (.eff 6 (.take 7 (.eff 10 (.done))))))))))))) .no)))) .no)))))) .no))))
def pagemap_Map_Put.P (p0 : Addr) (p1_0 : Int) (p1_1 : Int) (p1_2 : Int) (p1_3 : Int) (p1_4 : Int) (p1_5 : Int) (p1_6 : Int) (p1_7 : Int) (p1_8 : Int) (p1_9 : Int) (p1_10 : Int) (p1_11 : Int) (p1_12 : Int) (p1_13 : Int) (w : World) (K : SlV × Int × Unit → World → Prop) : Prop :=
  NewV #[.int .i64 p1_0, .int .i64 p1_1, .int .i64 p1_2, .int .i64 p1_3, .int .i64 p1_4, .int .u32 p1_5, .int .u64 p1_6, .int .u64 p1_7, .int .i64 p1_8, .int .i64 p1_9, .int .i64 p1_10, .int .u32 p1_11, .int .u64 p1_12, .int .u64 p1_13] 61 w fun b1 w2 =>
  LoadA w2 ⟨b1, 0, none⟩ [.int .i64, .int .i64, .int .i64, .int .i64, .int .i64, .int .u32, .int .u64, .int .u64, .int .i64, .int .i64, .int .i64, .int .u32, .int .u64, .int .u64] fun (x3 : Int × Int × Int × Int × Int × Int × Int × Int × Int × Int × Int × Int × Int × Int × Unit) =>
  CallV Try.prog 77 #[.pointer (some p0), .agg #[.int .i64 x3.1, .int .i64 x3.2.1, .int .i64 x3.2.2.1, .int .i64 x3.2.2.2.1, .int .i64 x3.2.2.2.2.1, .int .u32 x3.2.2.2.2.2.1, .int .u64 x3.2.2.2.2.2.2.1, .int .u64 x3.2.2.2.2.2.2.2.1, .int .i64 x3.2.2.2.2.2.2.2.2.1, .int .i64 x3.2.2.2.2.2.2.2.2.2.1, .int .i64 x3.2.2.2.2.2.2.2.2.2.2.1, .int .u32 x3.2.2.2.2.2.2.2.2.2.2.2.1, .int .u64 x3.2.2.2.2.2.2.2.2.2.2.2.2.1, .int .u64 x3.2.2.2.2.2.2.2.2.2.2.2.2.2.1]] w2 [.one .sl] fun (r4 : SlV × Unit) w5 =>
  cond (((r4.1.n : Nat) : Int) == 0)
  (K ((⟨none, 0, 0⟩ : SlV), (2 : Int), ()) w5)
  (LoopV [.one .sl, .one (.int .i64)] ((⟨none, 0, 0⟩ : SlV), (0 : Int), ()) w5 fun (z6 : SlV × Int × Unit) w7 (K8 : SlV × Int × Unit → World → Prop) =>
  cond (decide (z6.2.1 < ((r4.1.n : Nat) : Int)))
  ((0 ≤ z6.2.1 ∧ z6.2.1 < ((r4.1.n : Nat) : Int)) ∧ ∃ q9 : Addr, r4.1.a = some q9 ∧
  LoadA w7 (q9.add (z6.2.1.toNat * 15)) [.bool, .int .i64, .int .i64, .int .i64, .int .i64, .int .i64, .int .u32, .int .u64, .int .u64, .int .i64, .int .i64, .int .i64, .int .u32, .int .u64, .int .u64] fun (x10 : Bool × Int × Int × Int × Int × Int × Int × Int × Int × Int × Int × Int × Int × Int × Int × Unit) =>
  NewV #[.bool false, .int .i64 0, .int .i64 0, .int .i64 0, .int .i64 0, .int .i64 0, .int .u32 0, .int .u64 0, .int .u64 0, .int .i64 0, .int .i64 0, .int .i64 0, .int .u32 0, .int .u64 0, .int .u64 0] 120 w7 fun b11 w12 =>
  StoreV w12 ⟨b11, 0, none⟩ [.bool x10.1, .int .i64 x10.2.1, .int .i64 x10.2.2.1, .int .i64 x10.2.2.2.1, .int .i64 x10.2.2.2.2.1, .int .i64 x10.2.2.2.2.2.1, .int .u32 x10.2.2.2.2.2.2.1, .int .u64 x10.2.2.2.2.2.2.2.1, .int .u64 x10.2.2.2.2.2.2.2.2.1, .int .i64 x10.2.2.2.2.2.2.2.2.2.1, .int .i64 x10.2.2.2.2.2.2.2.2.2.2.1, .int .i64 x10.2.2.2.2.2.2.2.2.2.2.2.1, .int .u32 x10.2.2.2.2.2.2.2.2.2.2.2.2.1, .int .u64 x10.2.2.2.2.2.2.2.2.2.2.2.2.2.1, .int .u64 x10.2.2.2.2.2.2.2.2.2.2.2.2.2.2.1] fun w13 =>
  LoadS w13 ⟨b11, 0, none⟩ .bool fun (x14 : Bool) =>
  cond x14
  (LoadA w13 ⟨b1, 0, none⟩ [.int .i64, .int .i64, .int .i64, .int .i64, .int .i64, .int .u32, .int .u64, .int .u64, .int .i64, .int .i64, .int .i64, .int .u32, .int .u64, .int .u64] fun (x15 : Int × Int × Int × Int × Int × Int × Int × Int × Int × Int × Int × Int × Int × Int × Unit) =>
  LoadA w13 ⟨b11, 1, none⟩ [.int .i64, .int .i64, .int .i64, .int .i64, .int .i64, .int .u32, .int .u64, .int .u64, .int .i64, .int .i64, .int .i64, .int .u32, .int .u64, .int .u64] fun (x16 : Int × Int × Int × Int × Int × Int × Int × Int × Int × Int × Int × Int × Int × Int × Unit) =>
  CallV Try.prog 33 #[.agg #[.int .i64 x15.1, .int .i64 x15.2.1, .int .i64 x15.2.2.1, .int .i64 x15.2.2.2.1, .int .i64 x15.2.2.2.2.1, .int .u32 x15.2.2.2.2.2.1, .int .u64 x15.2.2.2.2.2.2.1, .int .u64 x15.2.2.2.2.2.2.2.1, .int .i64 x15.2.2.2.2.2.2.2.2.1, .int .i64 x15.2.2.2.2.2.2.2.2.2.1, .int .i64 x15.2.2.2.2.2.2.2.2.2.2.1, .int .u32 x15.2.2.2.2.2.2.2.2.2.2.2.1, .int .u64 x15.2.2.2.2.2.2.2.2.2.2.2.2.1, .int .u64 x15.2.2.2.2.2.2.2.2.2.2.2.2.2.1], .agg #[.int .i64 x16.1, .int .i64 x16.2.1, .int .i64 x16.2.2.1, .int .i64 x16.2.2.2.1, .int .i64 x16.2.2.2.2.1, .int .u32 x16.2.2.2.2.2.1, .int .u64 x16.2.2.2.2.2.2.1, .int .u64 x16.2.2.2.2.2.2.2.1, .int .i64 x16.2.2.2.2.2.2.2.2.1, .int .i64 x16.2.2.2.2.2.2.2.2.2.1, .int .i64 x16.2.2.2.2.2.2.2.2.2.2.1, .int .u32 x16.2.2.2.2.2.2.2.2.2.2.2.1, .int .u64 x16.2.2.2.2.2.2.2.2.2.2.2.2.1, .int .u64 x16.2.2.2.2.2.2.2.2.2.2.2.2.2.1]] w13 [.one .bool] fun (r17 : Bool × Unit) w18 =>
  cond (!r17.1)
  (Rng .i64 (z6.2.1 + 1) ∧
  K8 (z6.1, z6.2.1 + 1, ()) w18)
  (DrawV fun D19 =>
  (D19 (p0.add 4).block ∧ LoadS w18.drew (p0.add 4) .map fun (x20 : Option Nat) =>
  (D19 b1 ∧ LoadA w18.drew ⟨b1, 0, none⟩ [.int .i64, .int .i64] fun (x21 : Int × Int × Unit) =>
  ((RunV Try.prog (Instr.lookup 113 (.map x20) (.agg #[.int .i64 x21.1, .int .i64 x21.2.1]) false) w18.drew [.one (.int .i64)] fun (r22 : Int × Unit) w23 =>
  KeepOn D19 w18.drew w23 ∧
  Rng .i64 (r22.1 + 1) ∧
  RunV Try.prog (Instr.mapEntry 113 (.map x20) (.agg #[.int .i64 x21.1, .int .i64 x21.2.1])) w23 [.one (.int .i64), .one (.int .i64)] fun (r24 : Int × Int × Unit) w25 =>
  KeepOn D19 w18.drew w25 ∧
  RunU Try.prog (Instr.entryStore 113 (.map x20) (.int .i64 r24.2.1) (.int .i64 (r22.1 + 1))) w25 fun w26 =>
  KeepOn D19 w18.drew w26 ∧
  LoadA w26 ⟨b1, 0, none⟩ [.int .i64, .int .i64, .int .i64, .int .i64, .int .i64, .int .u32, .int .u64, .int .u64, .int .i64, .int .i64, .int .i64, .int .u32, .int .u64, .int .u64] fun (x27 : Int × Int × Int × Int × Int × Int × Int × Int × Int × Int × Int × Int × Int × Int × Unit) =>
  (0 ≤ z6.2.1 ∧ z6.2.1 < ((r4.1.n : Nat) : Int)) ∧ ∃ q28 : Addr, r4.1.a = some q28 ∧
  StoreV w26 (q28.add (z6.2.1.toNat * 15)) [.bool true, .int .i64 x27.1, .int .i64 x27.2.1, .int .i64 x27.2.2.1, .int .i64 x27.2.2.2.1, .int .i64 x27.2.2.2.2.1, .int .u32 x27.2.2.2.2.2.1, .int .u64 x27.2.2.2.2.2.2.1, .int .u64 x27.2.2.2.2.2.2.2.1, .int .i64 x27.2.2.2.2.2.2.2.2.1, .int .i64 x27.2.2.2.2.2.2.2.2.2.1, .int .i64 x27.2.2.2.2.2.2.2.2.2.2.1, .int .u32 x27.2.2.2.2.2.2.2.2.2.2.2.1, .int .u64 x27.2.2.2.2.2.2.2.2.2.2.2.2.1, .int .u64 x27.2.2.2.2.2.2.2.2.2.2.2.2.2.1] fun w29 =>
  LoadA w29 ⟨b11, 0, none⟩ [.bool, .int .i64, .int .i64, .int .i64, .int .i64, .int .i64, .int .u32, .int .u64, .int .u64, .int .i64, .int .i64, .int .i64, .int .u32, .int .u64, .int .u64] fun (x30 : Bool × Int × Int × Int × Int × Int × Int × Int × Int × Int × Int × Int × Int × Int × Int × Unit) =>
  CallV Try.prog 78 #[.pointer (some p0), .agg #[.bool x30.1, .int .i64 x30.2.1, .int .i64 x30.2.2.1, .int .i64 x30.2.2.2.1, .int .i64 x30.2.2.2.2.1, .int .i64 x30.2.2.2.2.2.1, .int .u32 x30.2.2.2.2.2.2.1, .int .u64 x30.2.2.2.2.2.2.2.1, .int .u64 x30.2.2.2.2.2.2.2.2.1, .int .i64 x30.2.2.2.2.2.2.2.2.2.1, .int .i64 x30.2.2.2.2.2.2.2.2.2.2.1, .int .i64 x30.2.2.2.2.2.2.2.2.2.2.2.1, .int .u32 x30.2.2.2.2.2.2.2.2.2.2.2.2.1, .int .u64 x30.2.2.2.2.2.2.2.2.2.2.2.2.2.1, .int .u64 x30.2.2.2.2.2.2.2.2.2.2.2.2.2.2.1], .slice z6.1.a z6.1.n z6.1.c] w29 [.one .sl] fun (r31 : SlV × Unit) w32 =>
  Rng .i64 (z6.2.1 + 1) ∧
  K8 (r31.1, z6.2.1 + 1, ()) w32) ∧
  (RunV Try.prog (Instr.mapEntry 113 (.map x20) (.agg #[.int .i64 x21.1, .int .i64 x21.2.1])) w18.drew [.one (.int .i64), .one (.int .i64)] fun (r33 : Int × Int × Unit) w34 =>
  KeepOn D19 w18.drew w34 ∧
  RunV Try.prog (Instr.lookup 113 (.map x20) (.agg #[.int .i64 x21.1, .int .i64 x21.2.1]) false) w34 [.one (.int .i64)] fun (r35 : Int × Unit) w36 =>
  KeepOn D19 w18.drew w36 ∧
  Rng .i64 (r35.1 + 1) ∧
  RunU Try.prog (Instr.entryStore 113 (.map x20) (.int .i64 r33.2.1) (.int .i64 (r35.1 + 1))) w36 fun w37 =>
  KeepOn D19 w18.drew w37 ∧
  LoadA w37 ⟨b1, 0, none⟩ [.int .i64, .int .i64, .int .i64, .int .i64, .int .i64, .int .u32, .int .u64, .int .u64, .int .i64, .int .i64, .int .i64, .int .u32, .int .u64, .int .u64] fun (x38 : Int × Int × Int × Int × Int × Int × Int × Int × Int × Int × Int × Int × Int × Int × Unit) =>
  (0 ≤ z6.2.1 ∧ z6.2.1 < ((r4.1.n : Nat) : Int)) ∧ ∃ q39 : Addr, r4.1.a = some q39 ∧
  StoreV w37 (q39.add (z6.2.1.toNat * 15)) [.bool true, .int .i64 x38.1, .int .i64 x38.2.1, .int .i64 x38.2.2.1, .int .i64 x38.2.2.2.1, .int .i64 x38.2.2.2.2.1, .int .u32 x38.2.2.2.2.2.1, .int .u64 x38.2.2.2.2.2.2.1, .int .u64 x38.2.2.2.2.2.2.2.1, .int .i64 x38.2.2.2.2.2.2.2.2.1, .int .i64 x38.2.2.2.2.2.2.2.2.2.1, .int .i64 x38.2.2.2.2.2.2.2.2.2.2.1, .int .u32 x38.2.2.2.2.2.2.2.2.2.2.2.1, .int .u64 x38.2.2.2.2.2.2.2.2.2.2.2.2.1, .int .u64 x38.2.2.2.2.2.2.2.2.2.2.2.2.2.1] fun w40 =>
  LoadA w40 ⟨b11, 0, none⟩ [.bool, .int .i64, .int .i64, .int .i64, .int .i64, .int .i64, .int .u32, .int .u64, .int .u64, .int .i64, .int .i64, .int .i64, .int .u32, .int .u64, .int .u64] fun (x41 : Bool × Int × Int × Int × Int × Int × Int × Int × Int × Int × Int × Int × Int × Int × Int × Unit) =>
  CallV Try.prog 78 #[.pointer (some p0), .agg #[.bool x41.1, .int .i64 x41.2.1, .int .i64 x41.2.2.1, .int .i64 x41.2.2.2.1, .int .i64 x41.2.2.2.2.1, .int .i64 x41.2.2.2.2.2.1, .int .u32 x41.2.2.2.2.2.2.1, .int .u64 x41.2.2.2.2.2.2.2.1, .int .u64 x41.2.2.2.2.2.2.2.2.1, .int .i64 x41.2.2.2.2.2.2.2.2.2.1, .int .i64 x41.2.2.2.2.2.2.2.2.2.2.1, .int .i64 x41.2.2.2.2.2.2.2.2.2.2.2.1, .int .u32 x41.2.2.2.2.2.2.2.2.2.2.2.2.1, .int .u64 x41.2.2.2.2.2.2.2.2.2.2.2.2.2.1, .int .u64 x41.2.2.2.2.2.2.2.2.2.2.2.2.2.2.1], .slice z6.1.a z6.1.n z6.1.c] w40 [.one .sl] fun (r42 : SlV × Unit) w43 =>
  Rng .i64 (z6.2.1 + 1) ∧
  K8 (r42.1, z6.2.1 + 1, ()) w43))))))
  (DrawV fun D44 =>
  (D44 (p0.add 4).block ∧ LoadS w13.drew (p0.add 4) .map fun (x45 : Option Nat) =>
  (D44 b1 ∧ LoadA w13.drew ⟨b1, 0, none⟩ [.int .i64, .int .i64] fun (x46 : Int × Int × Unit) =>
  ((RunV Try.prog (Instr.lookup 113 (.map x45) (.agg #[.int .i64 x46.1, .int .i64 x46.2.1]) false) w13.drew [.one (.int .i64)] fun (r47 : Int × Unit) w48 =>
  KeepOn D44 w13.drew w48 ∧
  Rng .i64 (r47.1 + 1) ∧
  RunV Try.prog (Instr.mapEntry 113 (.map x45) (.agg #[.int .i64 x46.1, .int .i64 x46.2.1])) w48 [.one (.int .i64), .one (.int .i64)] fun (r49 : Int × Int × Unit) w50 =>
  KeepOn D44 w13.drew w50 ∧
  RunU Try.prog (Instr.entryStore 113 (.map x45) (.int .i64 r49.2.1) (.int .i64 (r47.1 + 1))) w50 fun w51 =>
  KeepOn D44 w13.drew w51 ∧
  LoadA w51 ⟨b1, 0, none⟩ [.int .i64, .int .i64, .int .i64, .int .i64, .int .i64, .int .u32, .int .u64, .int .u64, .int .i64, .int .i64, .int .i64, .int .u32, .int .u64, .int .u64] fun (x52 : Int × Int × Int × Int × Int × Int × Int × Int × Int × Int × Int × Int × Int × Int × Unit) =>
  (0 ≤ z6.2.1 ∧ z6.2.1 < ((r4.1.n : Nat) : Int)) ∧ ∃ q53 : Addr, r4.1.a = some q53 ∧
  StoreV w51 (q53.add (z6.2.1.toNat * 15)) [.bool true, .int .i64 x52.1, .int .i64 x52.2.1, .int .i64 x52.2.2.1, .int .i64 x52.2.2.2.1, .int .i64 x52.2.2.2.2.1, .int .u32 x52.2.2.2.2.2.1, .int .u64 x52.2.2.2.2.2.2.1, .int .u64 x52.2.2.2.2.2.2.2.1, .int .i64 x52.2.2.2.2.2.2.2.2.1, .int .i64 x52.2.2.2.2.2.2.2.2.2.1, .int .i64 x52.2.2.2.2.2.2.2.2.2.2.1, .int .u32 x52.2.2.2.2.2.2.2.2.2.2.2.1, .int .u64 x52.2.2.2.2.2.2.2.2.2.2.2.2.1, .int .u64 x52.2.2.2.2.2.2.2.2.2.2.2.2.2.1] fun w54 =>
  LoadA w54 ⟨b11, 0, none⟩ [.bool, .int .i64, .int .i64, .int .i64, .int .i64, .int .i64, .int .u32, .int .u64, .int .u64, .int .i64, .int .i64, .int .i64, .int .u32, .int .u64, .int .u64] fun (x55 : Bool × Int × Int × Int × Int × Int × Int × Int × Int × Int × Int × Int × Int × Int × Int × Unit) =>
  CallV Try.prog 78 #[.pointer (some p0), .agg #[.bool x55.1, .int .i64 x55.2.1, .int .i64 x55.2.2.1, .int .i64 x55.2.2.2.1, .int .i64 x55.2.2.2.2.1, .int .i64 x55.2.2.2.2.2.1, .int .u32 x55.2.2.2.2.2.2.1, .int .u64 x55.2.2.2.2.2.2.2.1, .int .u64 x55.2.2.2.2.2.2.2.2.1, .int .i64 x55.2.2.2.2.2.2.2.2.2.1, .int .i64 x55.2.2.2.2.2.2.2.2.2.2.1, .int .i64 x55.2.2.2.2.2.2.2.2.2.2.2.1, .int .u32 x55.2.2.2.2.2.2.2.2.2.2.2.2.1, .int .u64 x55.2.2.2.2.2.2.2.2.2.2.2.2.2.1, .int .u64 x55.2.2.2.2.2.2.2.2.2.2.2.2.2.2.1], .slice z6.1.a z6.1.n z6.1.c] w54 [.one .sl] fun (r56 : SlV × Unit) w57 =>
  Rng .i64 (z6.2.1 + 1) ∧
  K8 (r56.1, z6.2.1 + 1, ()) w57) ∧
  (RunV Try.prog (Instr.mapEntry 113 (.map x45) (.agg #[.int .i64 x46.1, .int .i64 x46.2.1])) w13.drew [.one (.int .i64), .one (.int .i64)] fun (r58 : Int × Int × Unit) w59 =>
  KeepOn D44 w13.drew w59 ∧
  RunV Try.prog (Instr.lookup 113 (.map x45) (.agg #[.int .i64 x46.1, .int .i64 x46.2.1]) false) w59 [.one (.int .i64)] fun (r60 : Int × Unit) w61 =>
  KeepOn D44 w13.drew w61 ∧
  Rng .i64 (r60.1 + 1) ∧
  RunU Try.prog (Instr.entryStore 113 (.map x45) (.int .i64 r58.2.1) (.int .i64 (r60.1 + 1))) w61 fun w62 =>
  KeepOn D44 w13.drew w62 ∧
  LoadA w62 ⟨b1, 0, none⟩ [.int .i64, .int .i64, .int .i64, .int .i64, .int .i64, .int .u32, .int .u64, .int .u64, .int .i64, .int .i64, .int .i64, .int .u32, .int .u64, .int .u64] fun (x63 : Int × Int × Int × Int × Int × Int × Int × Int × Int × Int × Int × Int × Int × Int × Unit) =>
  (0 ≤ z6.2.1 ∧ z6.2.1 < ((r4.1.n : Nat) : Int)) ∧ ∃ q64 : Addr, r4.1.a = some q64 ∧
  StoreV w62 (q64.add (z6.2.1.toNat * 15)) [.bool true, .int .i64 x63.1, .int .i64 x63.2.1, .int .i64 x63.2.2.1, .int .i64 x63.2.2.2.1, .int .i64 x63.2.2.2.2.1, .int .u32 x63.2.2.2.2.2.1, .int .u64 x63.2.2.2.2.2.2.1, .int .u64 x63.2.2.2.2.2.2.2.1, .int .i64 x63.2.2.2.2.2.2.2.2.1, .int .i64 x63.2.2.2.2.2.2.2.2.2.1, .int .i64 x63.2.2.2.2.2.2.2.2.2.2.1, .int .u32 x63.2.2.2.2.2.2.2.2.2.2.2.1, .int .u64 x63.2.2.2.2.2.2.2.2.2.2.2.2.1, .int .u64 x63.2.2.2.2.2.2.2.2.2.2.2.2.2.1] fun w65 =>
  LoadA w65 ⟨b11, 0, none⟩ [.bool, .int .i64, .int .i64, .int .i64, .int .i64, .int .i64, .int .u32, .int .u64, .int .u64, .int .i64, .int .i64, .int .i64, .int .u32, .int .u64, .int .u64] fun (x66 : Bool × Int × Int × Int × Int × Int × Int × Int × Int × Int × Int × Int × Int × Int × Int × Unit) =>
  CallV Try.prog 78 #[.pointer (some p0), .agg #[.bool x66.1, .int .i64 x66.2.1, .int .i64 x66.2.2.1, .int .i64 x66.2.2.2.1, .int .i64 x66.2.2.2.2.1, .int .i64 x66.2.2.2.2.2.1, .int .u32 x66.2.2.2.2.2.2.1, .int .u64 x66.2.2.2.2.2.2.2.1, .int .u64 x66.2.2.2.2.2.2.2.2.1, .int .i64 x66.2.2.2.2.2.2.2.2.2.1, .int .i64 x66.2.2.2.2.2.2.2.2.2.2.1, .int .i64 x66.2.2.2.2.2.2.2.2.2.2.2.1, .int .u32 x66.2.2.2.2.2.2.2.2.2.2.2.2.1, .int .u64 x66.2.2.2.2.2.2.2.2.2.2.2.2.2.1, .int .u64 x66.2.2.2.2.2.2.2.2.2.2.2.2.2.2.1], .slice z6.1.a z6.1.n z6.1.c] w65 [.one .sl] fun (r67 : SlV × Unit) w68 =>
  Rng .i64 (z6.2.1 + 1) ∧
  K8 (r67.1, z6.2.1 + 1, ()) w68))))))
  (CallV Try.prog 79 #[.slice z6.1.a z6.1.n z6.1.c] w7 [.one .sl] fun (r69 : SlV × Unit) w70 =>
  K (r69.1, (0 : Int), ()) w70))
theorem pagemap_Map_Put.vc (p0 : Addr) (p1_0 : Int) (p1_1 : Int) (p1_2 : Int) (p1_3 : Int) (p1_4 : Int) (p1_5 : Int) (p1_6 : Int) (p1_7 : Int) (p1_8 : Int) (p1_9 : Int) (p1_10 : Int) (p1_11 : Int) (p1_12 : Int) (p1_13 : Int) (w : World) (K : SlV × Int × Unit → World → Prop) (h : pagemap_Map_Put.P p0 p1_0 p1_1 p1_2 p1_3 p1_4 p1_5 p1_6 p1_7 p1_8 p1_9 p1_10 p1_11 p1_12 p1_13 w K) : CallV Try.prog 39 #[.pointer (some p0), .agg #[.int .i64 p1_0, .int .i64 p1_1, .int .i64 p1_2, .int .i64 p1_3, .int .i64 p1_4, .int .u32 p1_5, .int .u64 p1_6, .int .u64 p1_7, .int .i64 p1_8, .int .i64 p1_9, .int .i64 p1_10, .int .u32 p1_11, .int .u64 p1_12, .int .u64 p1_13]] w [.one .sl, .one (.int .i64)] K := by
  have e : vcFun Try.prog okf false Try.f39 pagemap_Map_Put.A #[.pointer (some p0), .agg #[.int .i64 p1_0, .int .i64 p1_1, .int .i64 p1_2, .int .i64 p1_3, .int .i64 p1_4, .int .u32 p1_5, .int .u64 p1_6, .int .u64 p1_7, .int .i64 p1_8, .int .i64 p1_9, .int .i64 p1_10, .int .u32 p1_11, .int .u64 p1_12, .int .u64 p1_13]] w [.one .sl, .one (.int .i64)] K = pagemap_Map_Put.P p0 p1_0 p1_1 p1_2 p1_3 p1_4 p1_5 p1_6 p1_7 p1_8 p1_9 p1_10 p1_11 p1_12 p1_13 w K := by kernel_rfl
  exact vcFun.calls okf_ok follows Try.func39 (e.symm ▸ h)

/-! ### (*nepenthe/pagemap.Map).Get: function 40 -/
def pagemap_Map_Get.A : Ann := .no
def pagemap_Map_Get.P (p0 : Addr) (p1 : Int) (p2 : Int) (w : World) (K : (Int × Int × Int × Int × Int × Int × Int × Int × Int × Int × Int × Int × Int × Int × Unit) × Bool × Unit → World → Prop) : Prop :=
  NewV #[.int .i64 0, .int .i64 0, .int .i64 0, .int .i64 0, .int .i64 0, .int .u32 0, .int .u64 0, .int .u64 0, .int .i64 0, .int .i64 0, .int .i64 0, .int .u32 0, .int .u64 0, .int .u64 0] 61 w fun b1 w2 =>
  CallV Try.prog 80 #[.pointer (some p0), .int .i64 p1] w2 [.one .sl] fun (r3 : SlV × Unit) w4 =>
  cond (decide (p2 < 0))
  (StoreV w4 ⟨b1, 0, none⟩ [.int .i64 0, .int .i64 0, .int .i64 0, .int .i64 0, .int .i64 0, .int .u32 0, .int .u64 0, .int .u64 0, .int .i64 0, .int .i64 0, .int .i64 0, .int .u32 0, .int .u64 0, .int .u64 0] fun w5 =>
  LoadA w5 ⟨b1, 0, none⟩ [.int .i64, .int .i64, .int .i64, .int .i64, .int .i64, .int .u32, .int .u64, .int .u64, .int .i64, .int .i64, .int .i64, .int .u32, .int .u64, .int .u64] fun (x6 : Int × Int × Int × Int × Int × Int × Int × Int × Int × Int × Int × Int × Int × Int × Unit) =>
  K ((x6.1, x6.2.1, x6.2.2.1, x6.2.2.2.1, x6.2.2.2.2.1, x6.2.2.2.2.2.1, x6.2.2.2.2.2.2.1, x6.2.2.2.2.2.2.2.1, x6.2.2.2.2.2.2.2.2.1, x6.2.2.2.2.2.2.2.2.2.1, x6.2.2.2.2.2.2.2.2.2.2.1, x6.2.2.2.2.2.2.2.2.2.2.2.1, x6.2.2.2.2.2.2.2.2.2.2.2.2.1, x6.2.2.2.2.2.2.2.2.2.2.2.2.2.1, ()), false, ()) w5)
  (cond (decide (p2 ≥ ((r3.1.n : Nat) : Int)))
  (StoreV w4 ⟨b1, 0, none⟩ [.int .i64 0, .int .i64 0, .int .i64 0, .int .i64 0, .int .i64 0, .int .u32 0, .int .u64 0, .int .u64 0, .int .i64 0, .int .i64 0, .int .i64 0, .int .u32 0, .int .u64 0, .int .u64 0] fun w7 =>
  LoadA w7 ⟨b1, 0, none⟩ [.int .i64, .int .i64, .int .i64, .int .i64, .int .i64, .int .u32, .int .u64, .int .u64, .int .i64, .int .i64, .int .i64, .int .u32, .int .u64, .int .u64] fun (x8 : Int × Int × Int × Int × Int × Int × Int × Int × Int × Int × Int × Int × Int × Int × Unit) =>
  K ((x8.1, x8.2.1, x8.2.2.1, x8.2.2.2.1, x8.2.2.2.2.1, x8.2.2.2.2.2.1, x8.2.2.2.2.2.2.1, x8.2.2.2.2.2.2.2.1, x8.2.2.2.2.2.2.2.2.1, x8.2.2.2.2.2.2.2.2.2.1, x8.2.2.2.2.2.2.2.2.2.2.1, x8.2.2.2.2.2.2.2.2.2.2.2.1, x8.2.2.2.2.2.2.2.2.2.2.2.2.1, x8.2.2.2.2.2.2.2.2.2.2.2.2.2.1, ()), false, ()) w7)
  ((0 ≤ p2 ∧ p2 < ((r3.1.n : Nat) : Int)) ∧ ∃ q9 : Addr, r3.1.a = some q9 ∧
  LoadS w4 (q9.add (p2.toNat * 15)) .bool fun (x10 : Bool) =>
  cond (!x10)
  (StoreV w4 ⟨b1, 0, none⟩ [.int .i64 0, .int .i64 0, .int .i64 0, .int .i64 0, .int .i64 0, .int .u32 0, .int .u64 0, .int .u64 0, .int .i64 0, .int .i64 0, .int .i64 0, .int .u32 0, .int .u64 0, .int .u64 0] fun w11 =>
  LoadA w11 ⟨b1, 0, none⟩ [.int .i64, .int .i64, .int .i64, .int .i64, .int .i64, .int .u32, .int .u64, .int .u64, .int .i64, .int .i64, .int .i64, .int .u32, .int .u64, .int .u64] fun (x12 : Int × Int × Int × Int × Int × Int × Int × Int × Int × Int × Int × Int × Int × Int × Unit) =>
  K ((x12.1, x12.2.1, x12.2.2.1, x12.2.2.2.1, x12.2.2.2.2.1, x12.2.2.2.2.2.1, x12.2.2.2.2.2.2.1, x12.2.2.2.2.2.2.2.1, x12.2.2.2.2.2.2.2.2.1, x12.2.2.2.2.2.2.2.2.2.1, x12.2.2.2.2.2.2.2.2.2.2.1, x12.2.2.2.2.2.2.2.2.2.2.2.1, x12.2.2.2.2.2.2.2.2.2.2.2.2.1, x12.2.2.2.2.2.2.2.2.2.2.2.2.2.1, ()), false, ()) w11)
  ((0 ≤ p2 ∧ p2 < ((r3.1.n : Nat) : Int)) ∧ ∃ q13 : Addr, r3.1.a = some q13 ∧
  LoadA w4 ((q13.add (p2.toNat * 15)).add 1) [.int .i64, .int .i64, .int .i64, .int .i64, .int .i64, .int .u32, .int .u64, .int .u64, .int .i64, .int .i64, .int .i64, .int .u32, .int .u64, .int .u64] fun (x14 : Int × Int × Int × Int × Int × Int × Int × Int × Int × Int × Int × Int × Int × Int × Unit) =>
  StoreV w4 ⟨b1, 0, none⟩ [.int .i64 x14.1, .int .i64 x14.2.1, .int .i64 x14.2.2.1, .int .i64 x14.2.2.2.1, .int .i64 x14.2.2.2.2.1, .int .u32 x14.2.2.2.2.2.1, .int .u64 x14.2.2.2.2.2.2.1, .int .u64 x14.2.2.2.2.2.2.2.1, .int .i64 x14.2.2.2.2.2.2.2.2.1, .int .i64 x14.2.2.2.2.2.2.2.2.2.1, .int .i64 x14.2.2.2.2.2.2.2.2.2.2.1, .int .u32 x14.2.2.2.2.2.2.2.2.2.2.2.1, .int .u64 x14.2.2.2.2.2.2.2.2.2.2.2.2.1, .int .u64 x14.2.2.2.2.2.2.2.2.2.2.2.2.2.1] fun w15 =>
  LoadA w15 ⟨b1, 0, none⟩ [.int .i64, .int .i64, .int .i64, .int .i64, .int .i64, .int .u32, .int .u64, .int .u64, .int .i64, .int .i64, .int .i64, .int .u32, .int .u64, .int .u64] fun (x16 : Int × Int × Int × Int × Int × Int × Int × Int × Int × Int × Int × Int × Int × Int × Unit) =>
  K ((x16.1, x16.2.1, x16.2.2.1, x16.2.2.2.1, x16.2.2.2.2.1, x16.2.2.2.2.2.1, x16.2.2.2.2.2.2.1, x16.2.2.2.2.2.2.2.1, x16.2.2.2.2.2.2.2.2.1, x16.2.2.2.2.2.2.2.2.2.1, x16.2.2.2.2.2.2.2.2.2.2.1, x16.2.2.2.2.2.2.2.2.2.2.2.1, x16.2.2.2.2.2.2.2.2.2.2.2.2.1, x16.2.2.2.2.2.2.2.2.2.2.2.2.2.1, ()), true, ()) w15)))
theorem pagemap_Map_Get.vc (p0 : Addr) (p1 : Int) (p2 : Int) (w : World) (K : (Int × Int × Int × Int × Int × Int × Int × Int × Int × Int × Int × Int × Int × Int × Unit) × Bool × Unit → World → Prop) (h : pagemap_Map_Get.P p0 p1 p2 w K) : CallV Try.prog 40 #[.pointer (some p0), .int .i64 p1, .int .i64 p2] w [.agg [.int .i64, .int .i64, .int .i64, .int .i64, .int .i64, .int .u32, .int .u64, .int .u64, .int .i64, .int .i64, .int .i64, .int .u32, .int .u64, .int .u64], .one .bool] K := by
  have e : vcFun Try.prog okf false Try.f40 pagemap_Map_Get.A #[.pointer (some p0), .int .i64 p1, .int .i64 p2] w [.agg [.int .i64, .int .i64, .int .i64, .int .i64, .int .i64, .int .u32, .int .u64, .int .u64, .int .i64, .int .i64, .int .i64, .int .u32, .int .u64, .int .u64], .one .bool] K = pagemap_Map_Get.P p0 p1 p2 w K := by kernel_rfl
  exact vcFun.calls okf_ok follows Try.func40 (e.symm ▸ h)

/-! ### (*nepenthe/pagemap.Map).Refs: function 43 -/
def pagemap_Map_Refs.A : Ann := .two .no (.two .no (.two (.draw (.take 0 (.take 1 (.take 2 (.take 3 (.take 4 (.eff 5 (.take 6 (.done))))))))) .no))
def pagemap_Map_Refs.P (p0 : Addr) (p1_0 : Int) (p1_1 : Int) (w : World) (K : Int × Unit → World → Prop) : Prop :=
  NewV #[.int .i64 p1_0, .int .i64 p1_1] 55 w fun b1 w2 =>
  DrawV fun D3 =>
  (D3 (p0.add 4).block ∧ LoadS w2.drew (p0.add 4) .map fun (x4 : Option Nat) =>
  (D3 b1 ∧ LoadA w2.drew ⟨b1, 0, none⟩ [.int .i64, .int .i64] fun (x5 : Int × Int × Unit) =>
  RunV Try.prog (Instr.lookup 113 (.map x4) (.agg #[.int .i64 x5.1, .int .i64 x5.2.1]) false) w2.drew [.one (.int .i64)] fun (r6 : Int × Unit) w7 =>
  KeepOn D3 w2.drew w7 ∧
  K (r6.1, ()) w7))
theorem pagemap_Map_Refs.vc (p0 : Addr) (p1_0 : Int) (p1_1 : Int) (w : World) (K : Int × Unit → World → Prop) (h : pagemap_Map_Refs.P p0 p1_0 p1_1 w K) : CallV Try.prog 43 #[.pointer (some p0), .agg #[.int .i64 p1_0, .int .i64 p1_1]] w [.one (.int .i64)] K := by
  have e : vcFun Try.prog okf false Try.f43 pagemap_Map_Refs.A #[.pointer (some p0), .agg #[.int .i64 p1_0, .int .i64 p1_1]] w [.one (.int .i64)] K = pagemap_Map_Refs.P p0 p1_0 p1_1 w K := by kernel_rfl
  exact vcFun.calls okf_ok follows Try.func43 (e.symm ▸ h)

/-! ### (*nepenthe/pagemap.Map).Move: function 49 -/
-- loop 0 carries 45: .one (.int .i64)
-- loop 1 carries 40: .one (.int .i64)
-- loop 2 carries 45: .one (.int .i64)
-- loop 3 carries 40: .one (.int .i64)
def pagemap_Map_Move.A : Ann := .two .no (.two (.two (.draw (.take 0 (.take 1 (.take 2 (.take 3 (.take 4 (.take 5 (.take 6 (.take 7 (.take 8 (.take 9 (.take 10 (.take 11 (.eff 12 (.take 13 (.take 14 (.take 15 (.done)))))))))))))))))) .no) (.two (.draw (.take 0 (.take 1 (.take 2 (.take 3 (.take 4 (.eff 5 (.take 6 (.done))))))))) (.two (.two .no (.one (.loop [11, 12, 13, 40, 41, 42, 43, 44, 45, 46, 47, 48, 49, 50, 51, 52, 53, 54, 55, 56, 57, 58, 59, 60, 61, 62, 63, 64, 65, 66, 67, 68, 69, 70, 71, 72] [(40, .one (.int .i64))] (.two .no (.two .no (.two (.one (.two .no (.two .no (.one (.loop [12, 13, 45, 46, 47, 48, 49, 50, 51, 52, 53, 54, 55, 56, 57, 58, 59, 60, 61, 62, 63, 64, 65, 66, 67, 68, 69, 70, 71] [(45, .one (.int .i64))] (.two .no (.two .no (.two (.one (.two .no (.two .no (.two (.draw (.take 0 (.take 1 (.take 2 (.take 3 (.take 4 (.take 5 (.take 6 (.take 7 (.take 8 (.eff 9 (.take 10 (.take 11 (.take 12 (.eff 13 (.done)))))))))))))))) .no)))) .no)))))))) .no)))))) (.two (.two .no (.two (.two (.draw (.take 0 (.take 1 (.take 2 (.take 3 (.take 4 (.take 5 (.eff 6 (.done))))))))) (.draw (.take 0 (.take 1 (.take 2 (.take 3 (.take 4 (.eff 5 (.done))))))))) .no)) .no))))
def pagemap_Map_Move.P (p0 : Addr) (p1_0 : Int) (p1_1 : Int) (p2_0 : Int) (p2_1 : Int) (p3_0 : Int) (p3_1 : Int) (p3_2 : Int) (p3_3 : Int) (p3_4 : Int) (p3_5 : Int) (w : World) (K : Int × Unit → World → Prop) : Prop :=
  NewV #[.int .i64 p1_0, .int .i64 p1_1] 55 w fun b1 w2 =>
  NewV #[.int .i64 p2_0, .int .i64 p2_1] 55 w2 fun b3 w4 =>
  NewV #[.int .i64 p3_0, .int .i64 p3_1, .int .i64 p3_2, .int .u32 p3_3, .int .u64 p3_4, .int .u64 p3_5] 59 w4 fun b5 w6 =>
  DrawV fun D7 =>
  (D7 b1 ∧ LoadA w6.drew ⟨b1, 0, none⟩ [.int .i64, .int .i64] fun (x8 : Int × Int × Unit) =>
  (D7 b3 ∧ LoadA w6.drew ⟨b3, 0, none⟩ [.int .i64, .int .i64] fun (x9 : Int × Int × Unit) =>
  AggEq Try.prog 55 #[.int .i64 x8.1, .int .i64 x8.2.1] #[.int .i64 x9.1, .int .i64 x9.2.1] fun e10 =>
  cond (!e10)
  ((D7 (p0.add 4).block ∧ LoadS w6.drew (p0.add 4) .map fun (x11 : Option Nat) =>
  (D7 b3 ∧ LoadA w6.drew ⟨b3, 0, none⟩ [.int .i64, .int .i64] fun (x12 : Int × Int × Unit) =>
  RunV Try.prog (Instr.lookup 113 (.map x11) (.agg #[.int .i64 x12.1, .int .i64 x12.2.1]) false) w6.drew [.one (.int .i64)] fun (r13 : Int × Unit) w14 =>
  KeepOn D7 w6.drew w14 ∧
  cond (decide (r13.1 > 0))
  (K ((2 : Int), ()) w14)
  (DrawV fun D15 =>
  (D15 (p0.add 4).block ∧ LoadS w14.drew (p0.add 4) .map fun (x16 : Option Nat) =>
  (D15 b1 ∧ LoadA w14.drew ⟨b1, 0, none⟩ [.int .i64, .int .i64] fun (x17 : Int × Int × Unit) =>
  RunV Try.prog (Instr.lookup 113 (.map x16) (.agg #[.int .i64 x17.1, .int .i64 x17.2.1]) false) w14.drew [.one (.int .i64)] fun (r18 : Int × Unit) w19 =>
  KeepOn D15 w14.drew w19 ∧
  LoadA w19 p0 [.sl, .sl, .sl, .sl] fun (x20 : SlV × SlV × SlV × SlV × Unit) =>
  LoopV [.one (.int .i64)] ((0 : Int), ()) w19 fun (z21 : Int × Unit) w22 (K23 : Int × Unit → World → Prop) =>
  cond (decide (z21.1 < 4))
  ((0 ≤ z21.1 ∧ z21.1 < (4 : Int)) ∧ ∃ y24 : SlV, ([.slice x20.1.a x20.1.n x20.1.c, .slice x20.2.1.a x20.2.1.n x20.2.1.c, .slice x20.2.2.1.a x20.2.2.1.n x20.2.2.1.c, .slice x20.2.2.2.1.a x20.2.2.2.1.n x20.2.2.2.1.c] : List Value)[z21.1.toNat * 1]? = some (.slice y24.a y24.n y24.c) ∧
  LoopV [.one (.int .i64)] ((0 : Int), ()) w22 fun (z25 : Int × Unit) w26 (K27 : Int × Unit → World → Prop) =>
  cond (decide (z25.1 < ((y24.n : Nat) : Int)))
  ((0 ≤ z25.1 ∧ z25.1 < ((y24.n : Nat) : Int)) ∧ ∃ q28 : Addr, y24.a = some q28 ∧
  LoadA w26 (q28.add (z25.1.toNat * 15)) [.bool, .int .i64, .int .i64, .int .i64, .int .i64, .int .i64, .int .u32, .int .u64, .int .u64, .int .i64, .int .i64, .int .i64, .int .u32, .int .u64, .int .u64] fun (x29 : Bool × Int × Int × Int × Int × Int × Int × Int × Int × Int × Int × Int × Int × Int × Int × Unit) =>
  NewV #[.bool false, .int .i64 0, .int .i64 0, .int .i64 0, .int .i64 0, .int .i64 0, .int .u32 0, .int .u64 0, .int .u64 0, .int .i64 0, .int .i64 0, .int .i64 0, .int .u32 0, .int .u64 0, .int .u64 0] 120 w26 fun b30 w31 =>
  StoreV w31 ⟨b30, 0, none⟩ [.bool x29.1, .int .i64 x29.2.1, .int .i64 x29.2.2.1, .int .i64 x29.2.2.2.1, .int .i64 x29.2.2.2.2.1, .int .i64 x29.2.2.2.2.2.1, .int .u32 x29.2.2.2.2.2.2.1, .int .u64 x29.2.2.2.2.2.2.2.1, .int .u64 x29.2.2.2.2.2.2.2.2.1, .int .i64 x29.2.2.2.2.2.2.2.2.2.1, .int .i64 x29.2.2.2.2.2.2.2.2.2.2.1, .int .i64 x29.2.2.2.2.2.2.2.2.2.2.2.1, .int .u32 x29.2.2.2.2.2.2.2.2.2.2.2.2.1, .int .u64 x29.2.2.2.2.2.2.2.2.2.2.2.2.2.1, .int .u64 x29.2.2.2.2.2.2.2.2.2.2.2.2.2.2.1] fun w32 =>
  LoadS w32 ⟨b30, 0, none⟩ .bool fun (x33 : Bool) =>
  cond x33
  (LoadA w32 ⟨b30, 1, none⟩ [.int .i64, .int .i64] fun (x34 : Int × Int × Unit) =>
  LoadA w32 ⟨b1, 0, none⟩ [.int .i64, .int .i64] fun (x35 : Int × Int × Unit) =>
  AggEq Try.prog 55 #[.int .i64 x34.1, .int .i64 x34.2.1] #[.int .i64 x35.1, .int .i64 x35.2.1] fun e36 =>
  cond e36
  (DrawV fun D37 =>
  (D37 b3 ∧ LoadA w32.drew ⟨b3, 0, none⟩ [.int .i64, .int .i64] fun (x38 : Int × Int × Unit) =>
  (D37 b5 ∧ LoadA w32.drew ⟨b5, 0, none⟩ [.int .i64, .int .i64, .int .i64, .int .u32, .int .u64, .int .u64] fun (x39 : Int × Int × Int × Int × Int × Int × Unit) =>
  (0 ≤ z25.1 ∧ z25.1 < ((y24.n : Nat) : Int)) ∧ ∃ q40 : Addr, y24.a = some q40 ∧
  StoreV w32.drew ((q40.add (z25.1.toNat * 15)).add 1) [.int .i64 x38.1, .int .i64 x38.2.1] fun w41 =>
  KeepOn D37 w32.drew w41 ∧
  (0 ≤ z25.1 ∧ z25.1 < ((y24.n : Nat) : Int)) ∧ ∃ q42 : Addr, y24.a = some q42 ∧
  StoreV w41 (((q42.add (z25.1.toNat * 15)).add 1).add 8) [.int .i64 x39.1, .int .i64 x39.2.1, .int .i64 x39.2.2.1, .int .u32 x39.2.2.2.1, .int .u64 x39.2.2.2.2.1, .int .u64 x39.2.2.2.2.2.1] fun w43 =>
  KeepOn D37 w32.drew w43 ∧
  Rng .i64 (z25.1 + 1) ∧
  K27 (z25.1 + 1, ()) w43)))
  (Rng .i64 (z25.1 + 1) ∧
  K27 (z25.1 + 1, ()) w32))
  (Rng .i64 (z25.1 + 1) ∧
  K27 (z25.1 + 1, ()) w32))
  (Rng .i64 (z21.1 + 1) ∧
  K23 (z21.1 + 1, ()) w26))
  (cond (decide (r18.1 > 0))
  (LoadA w22 ⟨b1, 0, none⟩ [.int .i64, .int .i64] fun (x44 : Int × Int × Unit) =>
  LoadA w22 ⟨b3, 0, none⟩ [.int .i64, .int .i64] fun (x45 : Int × Int × Unit) =>
  AggEq Try.prog 55 #[.int .i64 x44.1, .int .i64 x44.2.1] #[.int .i64 x45.1, .int .i64 x45.2.1] fun e46 =>
  cond (!e46)
  (DrawV fun D47 =>
  (D47 (p0.add 4).block ∧ LoadS w22.drew (p0.add 4) .map fun (x48 : Option Nat) =>
  (D47 b3 ∧ LoadA w22.drew ⟨b3, 0, none⟩ [.int .i64, .int .i64] fun (x49 : Int × Int × Unit) =>
  RunU Try.prog (Instr.mapUpdate 113 (.map x48) (.agg #[.int .i64 x49.1, .int .i64 x49.2.1]) (.int .i64 r18.1)) w22.drew fun w50 =>
  KeepOn D47 w22.drew w50 ∧
  DrawV fun D51 =>
  (D51 (p0.add 4).block ∧ LoadS w50.drew (p0.add 4) .map fun (x52 : Option Nat) =>
  (D51 b1 ∧ LoadA w50.drew ⟨b1, 0, none⟩ [.int .i64, .int .i64] fun (x53 : Int × Int × Unit) =>
  DelV Try.prog [113, 55] [.map x52, .agg #[.int .i64 x53.1, .int .i64 x53.2.1]] w50.drew fun w54 =>
  KeepOn D51 w50.drew w54 ∧
  K ((0 : Int), ()) w54)))))
  (K ((0 : Int), ()) w22))
  (K ((0 : Int), ()) w22))))))))
  (DrawV fun D55 =>
  (D55 (p0.add 4).block ∧ LoadS w6.drew.drew (p0.add 4) .map fun (x56 : Option Nat) =>
  (D55 b1 ∧ LoadA w6.drew.drew ⟨b1, 0, none⟩ [.int .i64, .int .i64] fun (x57 : Int × Int × Unit) =>
  RunV Try.prog (Instr.lookup 113 (.map x56) (.agg #[.int .i64 x57.1, .int .i64 x57.2.1]) false) w6.drew.drew [.one (.int .i64)] fun (r58 : Int × Unit) w59 =>
  KeepOn D55 w6.drew.drew w59 ∧
  LoadA w59 p0 [.sl, .sl, .sl, .sl] fun (x60 : SlV × SlV × SlV × SlV × Unit) =>
  LoopV [.one (.int .i64)] ((0 : Int), ()) w59 fun (z61 : Int × Unit) w62 (K63 : Int × Unit → World → Prop) =>
  cond (decide (z61.1 < 4))
  ((0 ≤ z61.1 ∧ z61.1 < (4 : Int)) ∧ ∃ y64 : SlV, ([.slice x60.1.a x60.1.n x60.1.c, .slice x60.2.1.a x60.2.1.n x60.2.1.c, .slice x60.2.2.1.a x60.2.2.1.n x60.2.2.1.c, .slice x60.2.2.2.1.a x60.2.2.2.1.n x60.2.2.2.1.c] : List Value)[z61.1.toNat * 1]? = some (.slice y64.a y64.n y64.c) ∧
  LoopV [.one (.int .i64)] ((0 : Int), ()) w62 fun (z65 : Int × Unit) w66 (K67 : Int × Unit → World → Prop) =>
  cond (decide (z65.1 < ((y64.n : Nat) : Int)))
  ((0 ≤ z65.1 ∧ z65.1 < ((y64.n : Nat) : Int)) ∧ ∃ q68 : Addr, y64.a = some q68 ∧
  LoadA w66 (q68.add (z65.1.toNat * 15)) [.bool, .int .i64, .int .i64, .int .i64, .int .i64, .int .i64, .int .u32, .int .u64, .int .u64, .int .i64, .int .i64, .int .i64, .int .u32, .int .u64, .int .u64] fun (x69 : Bool × Int × Int × Int × Int × Int × Int × Int × Int × Int × Int × Int × Int × Int × Int × Unit) =>
  NewV #[.bool false, .int .i64 0, .int .i64 0, .int .i64 0, .int .i64 0, .int .i64 0, .int .u32 0, .int .u64 0, .int .u64 0, .int .i64 0, .int .i64 0, .int .i64 0, .int .u32 0, .int .u64 0, .int .u64 0] 120 w66 fun b70 w71 =>
  StoreV w71 ⟨b70, 0, none⟩ [.bool x69.1, .int .i64 x69.2.1, .int .i64 x69.2.2.1, .int .i64 x69.2.2.2.1, .int .i64 x69.2.2.2.2.1, .int .i64 x69.2.2.2.2.2.1, .int .u32 x69.2.2.2.2.2.2.1, .int .u64 x69.2.2.2.2.2.2.2.1, .int .u64 x69.2.2.2.2.2.2.2.2.1, .int .i64 x69.2.2.2.2.2.2.2.2.2.1, .int .i64 x69.2.2.2.2.2.2.2.2.2.2.1, .int .i64 x69.2.2.2.2.2.2.2.2.2.2.2.1, .int .u32 x69.2.2.2.2.2.2.2.2.2.2.2.2.1, .int .u64 x69.2.2.2.2.2.2.2.2.2.2.2.2.2.1, .int .u64 x69.2.2.2.2.2.2.2.2.2.2.2.2.2.2.1] fun w72 =>
  LoadS w72 ⟨b70, 0, none⟩ .bool fun (x73 : Bool) =>
  cond x73
  (LoadA w72 ⟨b70, 1, none⟩ [.int .i64, .int .i64] fun (x74 : Int × Int × Unit) =>
  LoadA w72 ⟨b1, 0, none⟩ [.int .i64, .int .i64] fun (x75 : Int × Int × Unit) =>
  AggEq Try.prog 55 #[.int .i64 x74.1, .int .i64 x74.2.1] #[.int .i64 x75.1, .int .i64 x75.2.1] fun e76 =>
  cond e76
  (DrawV fun D77 =>
  (D77 b3 ∧ LoadA w72.drew ⟨b3, 0, none⟩ [.int .i64, .int .i64] fun (x78 : Int × Int × Unit) =>
  (D77 b5 ∧ LoadA w72.drew ⟨b5, 0, none⟩ [.int .i64, .int .i64, .int .i64, .int .u32, .int .u64, .int .u64] fun (x79 : Int × Int × Int × Int × Int × Int × Unit) =>
  (0 ≤ z65.1 ∧ z65.1 < ((y64.n : Nat) : Int)) ∧ ∃ q80 : Addr, y64.a = some q80 ∧
  StoreV w72.drew ((q80.add (z65.1.toNat * 15)).add 1) [.int .i64 x78.1, .int .i64 x78.2.1] fun w81 =>
  KeepOn D77 w72.drew w81 ∧
  (0 ≤ z65.1 ∧ z65.1 < ((y64.n : Nat) : Int)) ∧ ∃ q82 : Addr, y64.a = some q82 ∧
  StoreV w81 (((q82.add (z65.1.toNat * 15)).add 1).add 8) [.int .i64 x79.1, .int .i64 x79.2.1, .int .i64 x79.2.2.1, .int .u32 x79.2.2.2.1, .int .u64 x79.2.2.2.2.1, .int .u64 x79.2.2.2.2.2.1] fun w83 =>
  KeepOn D77 w72.drew w83 ∧
  Rng .i64 (z65.1 + 1) ∧
  K67 (z65.1 + 1, ()) w83)))
  (Rng .i64 (z65.1 + 1) ∧
  K67 (z65.1 + 1, ()) w72))
  (Rng .i64 (z65.1 + 1) ∧
  K67 (z65.1 + 1, ()) w72))
  (Rng .i64 (z61.1 + 1) ∧
  K63 (z61.1 + 1, ()) w66))
  (cond (decide (r58.1 > 0))
  (LoadA w62 ⟨b1, 0, none⟩ [.int .i64, .int .i64] fun (x84 : Int × Int × Unit) =>
  LoadA w62 ⟨b3, 0, none⟩ [.int .i64, .int .i64] fun (x85 : Int × Int × Unit) =>
  AggEq Try.prog 55 #[.int .i64 x84.1, .int .i64 x84.2.1] #[.int .i64 x85.1, .int .i64 x85.2.1] fun e86 =>
  cond (!e86)
  (DrawV fun D87 =>
  (D87 (p0.add 4).block ∧ LoadS w62.drew (p0.add 4) .map fun (x88 : Option Nat) =>
  (D87 b3 ∧ LoadA w62.drew ⟨b3, 0, none⟩ [.int .i64, .int .i64] fun (x89 : Int × Int × Unit) =>
  RunU Try.prog (Instr.mapUpdate 113 (.map x88) (.agg #[.int .i64 x89.1, .int .i64 x89.2.1]) (.int .i64 r58.1)) w62.drew fun w90 =>
  KeepOn D87 w62.drew w90 ∧
  DrawV fun D91 =>
  (D91 (p0.add 4).block ∧ LoadS w90.drew (p0.add 4) .map fun (x92 : Option Nat) =>
  (D91 b1 ∧ LoadA w90.drew ⟨b1, 0, none⟩ [.int .i64, .int .i64] fun (x93 : Int × Int × Unit) =>
  DelV Try.prog [113, 55] [.map x92, .agg #[.int .i64 x93.1, .int .i64 x93.2.1]] w90.drew fun w94 =>
  KeepOn D91 w90.drew w94 ∧
  K ((0 : Int), ()) w94)))))
  (K ((0 : Int), ()) w62))
  (K ((0 : Int), ()) w62)))))))
theorem pagemap_Map_Move.vc (p0 : Addr) (p1_0 : Int) (p1_1 : Int) (p2_0 : Int) (p2_1 : Int) (p3_0 : Int) (p3_1 : Int) (p3_2 : Int) (p3_3 : Int) (p3_4 : Int) (p3_5 : Int) (w : World) (K : Int × Unit → World → Prop) (h : pagemap_Map_Move.P p0 p1_0 p1_1 p2_0 p2_1 p3_0 p3_1 p3_2 p3_3 p3_4 p3_5 w K) : CallV Try.prog 49 #[.pointer (some p0), .agg #[.int .i64 p1_0, .int .i64 p1_1], .agg #[.int .i64 p2_0, .int .i64 p2_1], .agg #[.int .i64 p3_0, .int .i64 p3_1, .int .i64 p3_2, .int .u32 p3_3, .int .u64 p3_4, .int .u64 p3_5]] w [.one (.int .i64)] K := by
  have e : vcFun Try.prog okf false Try.f49 pagemap_Map_Move.A #[.pointer (some p0), .agg #[.int .i64 p1_0, .int .i64 p1_1], .agg #[.int .i64 p2_0, .int .i64 p2_1], .agg #[.int .i64 p3_0, .int .i64 p3_1, .int .i64 p3_2, .int .u32 p3_3, .int .u64 p3_4, .int .u64 p3_5]] w [.one (.int .i64)] K = pagemap_Map_Move.P p0 p1_0 p1_1 p2_0 p2_1 p3_0 p3_1 p3_2 p3_3 p3_4 p3_5 w K := by kernel_rfl
  exact vcFun.calls okf_ok follows Try.func49 (e.symm ▸ h)

/-! ### (*nepenthe/pagemap.Map).In: function 46 -/
-- loop 0 carries 5: .one .sl, 18: .one (.int .i64)
-- loop 1 carries 5: .one .sl, 11: .one (.int .i64)
def pagemap_Map_In.A : Ann := .two .no (.two .no (.two .no (.two (.two .no (.one (.loop [5, 7, 9, 11, 12, 13, 14, 15, 16, 17, 18, 19, 20, 21, 22, 23, 24, 25, 26, 27, 28, 29, 30, 31, 32, 33, 34, 35, 36, 37, 38, 39, 40, 41, 42, 43, 44, 45, 46, 47, 48, 49, 50, 51, 52, 53, 54] [(5, .one .sl), (11, .one (.int .i64))] (.two .no (.two .no (.two (.one (.two .no (.two .no (.one (.loop [5, 9, 18, 19, 20, 21, 22, 23, 24, 25, 26, 27, 28, 29, 30, 31, 32, 33, 34, 35, 36, 37, 38, 39, 40, 41, 42, 43, 44, 45, 46, 47, 48, 49, 50, 51, 52, 53] [(5, .one .sl), (18, .one (.int .i64))] (.two .no (.two .no (.two (.one (.two .no (.two .no (.two (.two (.draw (.take 0 (.take 1 (.take 2 (.take 3 (.both 4 (.take 5 (.eff 6 (.take 7 (.eff 8 (.done))))) 6 (.take 7 (.eff 4 (.take 5 (.eff 8 (.done))))))))))) .no) .no)))) .no)))))))) .no)))))) .no)))
def pagemap_Map_In.P (p0 : Addr) (p1 : Int) (w : World) (K : SlV × Unit → World → Prop) : Prop :=
  NewM w fun b1 w2 =>
  LoopV [.one .sl, .one (.int .i64)] ((⟨none, 0, 0⟩ : SlV), (0 : Int), ()) w2 fun (z3 : SlV × Int × Unit) w4 (K5 : SlV × Int × Unit → World → Prop) =>
  cond (decide (z3.2.1 < 4))
  (CallV Try.prog 80 #[.pointer (some p0), .int .i64 z3.2.1] w4 [.one .sl] fun (r6 : SlV × Unit) w7 =>
  LoopV [.one .sl, .one (.int .i64)] (z3.1, (0 : Int), ()) w7 fun (z8 : SlV × Int × Unit) w9 (K10 : SlV × Int × Unit → World → Prop) =>
  cond (decide (z8.2.1 < ((r6.1.n : Nat) : Int)))
  ((0 ≤ z8.2.1 ∧ z8.2.1 < ((r6.1.n : Nat) : Int)) ∧ ∃ q11 : Addr, r6.1.a = some q11 ∧
  LoadA w9 (q11.add (z8.2.1.toNat * 15)) [.bool, .int .i64, .int .i64, .int .i64, .int .i64, .int .i64, .int .u32, .int .u64, .int .u64, .int .i64, .int .i64, .int .i64, .int .u32, .int .u64, .int .u64] fun (x12 : Bool × Int × Int × Int × Int × Int × Int × Int × Int × Int × Int × Int × Int × Int × Int × Unit) =>
  NewV #[.bool false, .int .i64 0, .int .i64 0, .int .i64 0, .int .i64 0, .int .i64 0, .int .u32 0, .int .u64 0, .int .u64 0, .int .i64 0, .int .i64 0, .int .i64 0, .int .u32 0, .int .u64 0, .int .u64 0] 120 w9 fun b13 w14 =>
  StoreV w14 ⟨b13, 0, none⟩ [.bool x12.1, .int .i64 x12.2.1, .int .i64 x12.2.2.1, .int .i64 x12.2.2.2.1, .int .i64 x12.2.2.2.2.1, .int .i64 x12.2.2.2.2.2.1, .int .u32 x12.2.2.2.2.2.2.1, .int .u64 x12.2.2.2.2.2.2.2.1, .int .u64 x12.2.2.2.2.2.2.2.2.1, .int .i64 x12.2.2.2.2.2.2.2.2.2.1, .int .i64 x12.2.2.2.2.2.2.2.2.2.2.1, .int .i64 x12.2.2.2.2.2.2.2.2.2.2.2.1, .int .u32 x12.2.2.2.2.2.2.2.2.2.2.2.2.1, .int .u64 x12.2.2.2.2.2.2.2.2.2.2.2.2.2.1, .int .u64 x12.2.2.2.2.2.2.2.2.2.2.2.2.2.2.1] fun w15 =>
  LoadS w15 ⟨b13, 0, none⟩ .bool fun (x16 : Bool) =>
  cond x16
  (LoadS w15 ⟨b13, 1, none⟩ (.int .i64) fun (x17 : Int) =>
  cond (x17 == p1)
  (LoadA w15 ⟨b13, 1, none⟩ [.int .i64, .int .i64] fun (x18 : Int × Int × Unit) =>
  RunV Try.prog (Instr.lookup 113 (.map (some b1)) (.agg #[.int .i64 x18.1, .int .i64 x18.2.1]) false) w15 [.one (.int .i64)] fun (r19 : Int × Unit) w20 =>
  cond (r19.1 == 0)
  (DrawV fun D21 =>
  (D21 b13 ∧ LoadA w20.drew ⟨b13, 1, none⟩ [.int .i64, .int .i64] fun (x22 : Int × Int × Unit) =>
  ((RunV Try.prog (Instr.lookup 113 (.map (some b1)) (.agg #[.int .i64 x22.1, .int .i64 x22.2.1]) false) w20.drew [.one (.int .i64)] fun (r23 : Int × Unit) w24 =>
  KeepOn D21 w20.drew w24 ∧
  Rng .i64 (r23.1 + 1) ∧
  RunV Try.prog (Instr.mapEntry 113 (.map (some b1)) (.agg #[.int .i64 x22.1, .int .i64 x22.2.1])) w24 [.one (.int .i64), .one (.int .i64)] fun (r25 : Int × Int × Unit) w26 =>
  KeepOn D21 w20.drew w26 ∧
  RunU Try.prog (Instr.entryStore 113 (.map (some b1)) (.int .i64 r25.2.1) (.int .i64 (r23.1 + 1))) w26 fun w27 =>
  KeepOn D21 w20.drew w27 ∧
  LoadA w27 ⟨b13, 1, none⟩ [.int .i64, .int .i64, .int .i64, .int .i64, .int .i64, .int .u32, .int .u64, .int .u64, .int .i64, .int .i64, .int .i64, .int .u32, .int .u64, .int .u64] fun (x28 : Int × Int × Int × Int × Int × Int × Int × Int × Int × Int × Int × Int × Int × Int × Unit) =>
  NewV #[.int .i64 x28.1, .int .i64 x28.2.1, .int .i64 x28.2.2.1, .int .i64 x28.2.2.2.1, .int .i64 x28.2.2.2.2.1, .int .u32 x28.2.2.2.2.2.1, .int .u64 x28.2.2.2.2.2.2.1, .int .u64 x28.2.2.2.2.2.2.2.1, .int .i64 x28.2.2.2.2.2.2.2.2.1, .int .i64 x28.2.2.2.2.2.2.2.2.2.1, .int .i64 x28.2.2.2.2.2.2.2.2.2.2.1, .int .u32 x28.2.2.2.2.2.2.2.2.2.2.2.1, .int .u64 x28.2.2.2.2.2.2.2.2.2.2.2.2.1, .int .u64 x28.2.2.2.2.2.2.2.2.2.2.2.2.2.1] 61 w27 fun b29 w30 =>
  AppS w30 (some ⟨b29, 0, none⟩) 1 14 fun ns35 =>
  AppV w30 61 14 112 z8.1.a z8.1.n z8.1.c ns35 1 fun a31 n32 c33 w34 =>
  Rng .i64 (z8.2.1 + 1) ∧
  K10 ((⟨a31, n32, c33⟩ : SlV), z8.2.1 + 1, ()) w34) ∧
  (RunV Try.prog (Instr.mapEntry 113 (.map (some b1)) (.agg #[.int .i64 x22.1, .int .i64 x22.2.1])) w20.drew [.one (.int .i64), .one (.int .i64)] fun (r36 : Int × Int × Unit) w37 =>
  KeepOn D21 w20.drew w37 ∧
  RunV Try.prog (Instr.lookup 113 (.map (some b1)) (.agg #[.int .i64 x22.1, .int .i64 x22.2.1]) false) w37 [.one (.int .i64)] fun (r38 : Int × Unit) w39 =>
  KeepOn D21 w20.drew w39 ∧
  Rng .i64 (r38.1 + 1) ∧
  RunU Try.prog (Instr.entryStore 113 (.map (some b1)) (.int .i64 r36.2.1) (.int .i64 (r38.1 + 1))) w39 fun w40 =>
  KeepOn D21 w20.drew w40 ∧
  LoadA w40 ⟨b13, 1, none⟩ [.int .i64, .int .i64, .int .i64, .int .i64, .int .i64, .int .u32, .int .u64, .int .u64, .int .i64, .int .i64, .int .i64, .int .u32, .int .u64, .int .u64] fun (x41 : Int × Int × Int × Int × Int × Int × Int × Int × Int × Int × Int × Int × Int × Int × Unit) =>
  NewV #[.int .i64 x41.1, .int .i64 x41.2.1, .int .i64 x41.2.2.1, .int .i64 x41.2.2.2.1, .int .i64 x41.2.2.2.2.1, .int .u32 x41.2.2.2.2.2.1, .int .u64 x41.2.2.2.2.2.2.1, .int .u64 x41.2.2.2.2.2.2.2.1, .int .i64 x41.2.2.2.2.2.2.2.2.1, .int .i64 x41.2.2.2.2.2.2.2.2.2.1, .int .i64 x41.2.2.2.2.2.2.2.2.2.2.1, .int .u32 x41.2.2.2.2.2.2.2.2.2.2.2.1, .int .u64 x41.2.2.2.2.2.2.2.2.2.2.2.2.1, .int .u64 x41.2.2.2.2.2.2.2.2.2.2.2.2.2.1] 61 w40 fun b42 w43 =>
  AppS w43 (some ⟨b42, 0, none⟩) 1 14 fun ns48 =>
  AppV w43 61 14 112 z8.1.a z8.1.n z8.1.c ns48 1 fun a44 n45 c46 w47 =>
  Rng .i64 (z8.2.1 + 1) ∧
  K10 ((⟨a44, n45, c46⟩ : SlV), z8.2.1 + 1, ()) w47))))
  (Rng .i64 (z8.2.1 + 1) ∧
  K10 (z8.1, z8.2.1 + 1, ()) w20))
  (Rng .i64 (z8.2.1 + 1) ∧
  K10 (z8.1, z8.2.1 + 1, ()) w15))
  (Rng .i64 (z8.2.1 + 1) ∧
  K10 (z8.1, z8.2.1 + 1, ()) w15))
  (Rng .i64 (z3.2.1 + 1) ∧
  K5 (z8.1, z3.2.1 + 1, ()) w9))
  (CallV Try.prog 89 #[.slice z3.1.a z3.1.n z3.1.c, .func (.func 90) #[] #[]] w4 [] fun (r49 : Unit) w50 =>
  K (z3.1, ()) w50)
theorem pagemap_Map_In.vc (p0 : Addr) (p1 : Int) (w : World) (K : SlV × Unit → World → Prop) (h : pagemap_Map_In.P p0 p1 w K) : CallV Try.prog 46 #[.pointer (some p0), .int .i64 p1] w [.one .sl] K := by
  have e : vcFun Try.prog okf false Try.f46 pagemap_Map_In.A #[.pointer (some p0), .int .i64 p1] w [.one .sl] K = pagemap_Map_In.P p0 p1 w K := by kernel_rfl
  exact vcFun.calls okf_ok follows Try.func46 (e.symm ▸ h)

/-! ### (*nepenthe/pagemap.Map).In$1: function 90 -/
def pagemap_Map_In_1.A : Ann := .no
def pagemap_Map_In_1.P (p0_0 : Int) (p0_1 : Int) (p0_2 : Int) (p0_3 : Int) (p0_4 : Int) (p0_5 : Int) (p0_6 : Int) (p0_7 : Int) (p0_8 : Int) (p0_9 : Int) (p0_10 : Int) (p0_11 : Int) (p0_12 : Int) (p0_13 : Int) (p1_0 : Int) (p1_1 : Int) (p1_2 : Int) (p1_3 : Int) (p1_4 : Int) (p1_5 : Int) (p1_6 : Int) (p1_7 : Int) (p1_8 : Int) (p1_9 : Int) (p1_10 : Int) (p1_11 : Int) (p1_12 : Int) (p1_13 : Int) (w : World) (K : Int × Unit → World → Prop) : Prop :=
  NewV #[.int .i64 p0_0, .int .i64 p0_1, .int .i64 p0_2, .int .i64 p0_3, .int .i64 p0_4, .int .u32 p0_5, .int .u64 p0_6, .int .u64 p0_7, .int .i64 p0_8, .int .i64 p0_9, .int .i64 p0_10, .int .u32 p0_11, .int .u64 p0_12, .int .u64 p0_13] 61 w fun b1 w2 =>
  NewV #[.int .i64 p1_0, .int .i64 p1_1, .int .i64 p1_2, .int .i64 p1_3, .int .i64 p1_4, .int .u32 p1_5, .int .u64 p1_6, .int .u64 p1_7, .int .i64 p1_8, .int .i64 p1_9, .int .i64 p1_10, .int .u32 p1_11, .int .u64 p1_12, .int .u64 p1_13] 61 w2 fun b3 w4 =>
  LoadA w4 ⟨b1, 0, none⟩ [.int .i64, .int .i64] fun (x5 : Int × Int × Unit) =>
  LoadA w4 ⟨b3, 0, none⟩ [.int .i64, .int .i64] fun (x6 : Int × Int × Unit) =>
  CallV Try.prog 91 #[.agg #[.int .i64 x5.1, .int .i64 x5.2.1], .agg #[.int .i64 x6.1, .int .i64 x6.2.1]] w4 [.one (.int .i64)] fun (r7 : Int × Unit) w8 =>
  K (r7.1, ()) w8
theorem pagemap_Map_In_1.vc (p0_0 : Int) (p0_1 : Int) (p0_2 : Int) (p0_3 : Int) (p0_4 : Int) (p0_5 : Int) (p0_6 : Int) (p0_7 : Int) (p0_8 : Int) (p0_9 : Int) (p0_10 : Int) (p0_11 : Int) (p0_12 : Int) (p0_13 : Int) (p1_0 : Int) (p1_1 : Int) (p1_2 : Int) (p1_3 : Int) (p1_4 : Int) (p1_5 : Int) (p1_6 : Int) (p1_7 : Int) (p1_8 : Int) (p1_9 : Int) (p1_10 : Int) (p1_11 : Int) (p1_12 : Int) (p1_13 : Int) (w : World) (K : Int × Unit → World → Prop) (h : pagemap_Map_In_1.P p0_0 p0_1 p0_2 p0_3 p0_4 p0_5 p0_6 p0_7 p0_8 p0_9 p0_10 p0_11 p0_12 p0_13 p1_0 p1_1 p1_2 p1_3 p1_4 p1_5 p1_6 p1_7 p1_8 p1_9 p1_10 p1_11 p1_12 p1_13 w K) : CallV Try.prog 90 #[.agg #[.int .i64 p0_0, .int .i64 p0_1, .int .i64 p0_2, .int .i64 p0_3, .int .i64 p0_4, .int .u32 p0_5, .int .u64 p0_6, .int .u64 p0_7, .int .i64 p0_8, .int .i64 p0_9, .int .i64 p0_10, .int .u32 p0_11, .int .u64 p0_12, .int .u64 p0_13], .agg #[.int .i64 p1_0, .int .i64 p1_1, .int .i64 p1_2, .int .i64 p1_3, .int .i64 p1_4, .int .u32 p1_5, .int .u64 p1_6, .int .u64 p1_7, .int .i64 p1_8, .int .i64 p1_9, .int .i64 p1_10, .int .u32 p1_11, .int .u64 p1_12, .int .u64 p1_13]] w [.one (.int .i64)] K := by
  have e : vcFun Try.prog okf false Try.f90 pagemap_Map_In_1.A #[.agg #[.int .i64 p0_0, .int .i64 p0_1, .int .i64 p0_2, .int .i64 p0_3, .int .i64 p0_4, .int .u32 p0_5, .int .u64 p0_6, .int .u64 p0_7, .int .i64 p0_8, .int .i64 p0_9, .int .i64 p0_10, .int .u32 p0_11, .int .u64 p0_12, .int .u64 p0_13], .agg #[.int .i64 p1_0, .int .i64 p1_1, .int .i64 p1_2, .int .i64 p1_3, .int .i64 p1_4, .int .u32 p1_5, .int .u64 p1_6, .int .u64 p1_7, .int .i64 p1_8, .int .i64 p1_9, .int .i64 p1_10, .int .u32 p1_11, .int .u64 p1_12, .int .u64 p1_13]] w [.one (.int .i64)] K = pagemap_Map_In_1.P p0_0 p0_1 p0_2 p0_3 p0_4 p0_5 p0_6 p0_7 p0_8 p0_9 p0_10 p0_11 p0_12 p0_13 p1_0 p1_1 p1_2 p1_3 p1_4 p1_5 p1_6 p1_7 p1_8 p1_9 p1_10 p1_11 p1_12 p1_13 w K := by kernel_rfl
  exact vcFun.calls okf_ok follows Try.func90 (e.symm ▸ h)

/-! ### (*nepenthe/pagemap.Map).Data: function 50 -/
-- loop 0 carries 5: .one (.int .i64), 12: .one (.int .i64)
def pagemap_Map_Data.A : Ann := .two .no (.two .no (.two (.two .no (.one (.loop [5, 7, 12, 13, 14, 15, 16, 17, 18, 19, 20, 21, 22, 23, 24, 25, 26, 27] [(5, .one (.int .i64)), (12, .one (.int .i64))] .no))) .no))
def pagemap_Map_Data.P (p0 : Addr) (p1 : Int) (w : World) (K : Int × Unit → World → Prop) : Prop :=
  CallV Try.prog 80 #[.pointer (some p0), .int .i64 p1] w [.one .sl] fun (r1 : SlV × Unit) w2 =>
  LoopV [.one (.int .i64), .one (.int .i64)] ((0 : Int), (0 : Int), ()) w2 fun (z3 : Int × Int × Unit) w4 (K5 : Int × Int × Unit → World → Prop) =>
  cond (decide (z3.2.1 < ((r1.1.n : Nat) : Int)))
  ((0 ≤ z3.2.1 ∧ z3.2.1 < ((r1.1.n : Nat) : Int)) ∧ ∃ q6 : Addr, r1.1.a = some q6 ∧
  LoadA w4 (q6.add (z3.2.1.toNat * 15)) [.bool, .int .i64, .int .i64, .int .i64, .int .i64, .int .i64, .int .u32, .int .u64, .int .u64, .int .i64, .int .i64, .int .i64, .int .u32, .int .u64, .int .u64] fun (x7 : Bool × Int × Int × Int × Int × Int × Int × Int × Int × Int × Int × Int × Int × Int × Int × Unit) =>
  NewV #[.bool false, .int .i64 0, .int .i64 0, .int .i64 0, .int .i64 0, .int .i64 0, .int .u32 0, .int .u64 0, .int .u64 0, .int .i64 0, .int .i64 0, .int .i64 0, .int .u32 0, .int .u64 0, .int .u64 0] 120 w4 fun b8 w9 =>
  StoreV w9 ⟨b8, 0, none⟩ [.bool x7.1, .int .i64 x7.2.1, .int .i64 x7.2.2.1, .int .i64 x7.2.2.2.1, .int .i64 x7.2.2.2.2.1, .int .i64 x7.2.2.2.2.2.1, .int .u32 x7.2.2.2.2.2.2.1, .int .u64 x7.2.2.2.2.2.2.2.1, .int .u64 x7.2.2.2.2.2.2.2.2.1, .int .i64 x7.2.2.2.2.2.2.2.2.2.1, .int .i64 x7.2.2.2.2.2.2.2.2.2.2.1, .int .i64 x7.2.2.2.2.2.2.2.2.2.2.2.1, .int .u32 x7.2.2.2.2.2.2.2.2.2.2.2.2.1, .int .u64 x7.2.2.2.2.2.2.2.2.2.2.2.2.2.1, .int .u64 x7.2.2.2.2.2.2.2.2.2.2.2.2.2.2.1] fun w10 =>
  LoadS w10 ⟨b8, 0, none⟩ .bool fun (x11 : Bool) =>
  cond x11
  (LoadS w10 ⟨b8, 3, none⟩ (.int .i64) fun (x12 : Int) =>
  cond (x12 == 1)
  (Rng .i64 (z3.1 + 1) ∧
  Rng .i64 (z3.2.1 + 1) ∧
  K5 (z3.1 + 1, z3.2.1 + 1, ()) w10)
  (Rng .i64 (z3.2.1 + 1) ∧
  K5 (z3.1, z3.2.1 + 1, ()) w10))
  (Rng .i64 (z3.2.1 + 1) ∧
  K5 (z3.1, z3.2.1 + 1, ()) w10))
  (K (z3.1, ()) w4)
theorem pagemap_Map_Data.vc (p0 : Addr) (p1 : Int) (w : World) (K : Int × Unit → World → Prop) (h : pagemap_Map_Data.P p0 p1 w K) : CallV Try.prog 50 #[.pointer (some p0), .int .i64 p1] w [.one (.int .i64)] K := by
  have e : vcFun Try.prog okf false Try.f50 pagemap_Map_Data.A #[.pointer (some p0), .int .i64 p1] w [.one (.int .i64)] K = pagemap_Map_Data.P p0 p1 w K := by kernel_rfl
  exact vcFun.calls okf_ok follows Try.func50 (e.symm ▸ h)

/-! ### nepenthe/pagemap.less: function 91 -/
def pagemap_less.A : Ann := .no
def pagemap_less.P (p0_0 : Int) (p0_1 : Int) (p1_0 : Int) (p1_1 : Int) (w : World) (K : Int × Unit → World → Prop) : Prop :=
  NewV #[.int .i64 p0_0, .int .i64 p0_1] 55 w fun b1 w2 =>
  NewV #[.int .i64 p1_0, .int .i64 p1_1] 55 w2 fun b3 w4 =>
  LoadS w4 ⟨b1, 0, none⟩ (.int .i64) fun (x5 : Int) =>
  LoadS w4 ⟨b3, 0, none⟩ (.int .i64) fun (x6 : Int) =>
  cond (x5 != x6)
  (LoadS w4 ⟨b1, 0, none⟩ (.int .i64) fun (x7 : Int) =>
  LoadS w4 ⟨b3, 0, none⟩ (.int .i64) fun (x8 : Int) =>
  Rng .i64 (x7 - x8) ∧
  K (x7 - x8, ()) w4)
  (LoadS w4 ⟨b1, 1, none⟩ (.int .i64) fun (x9 : Int) =>
  LoadS w4 ⟨b3, 1, none⟩ (.int .i64) fun (x10 : Int) =>
  Rng .i64 (x9 - x10) ∧
  K (x9 - x10, ()) w4)
theorem pagemap_less.vc (p0_0 : Int) (p0_1 : Int) (p1_0 : Int) (p1_1 : Int) (w : World) (K : Int × Unit → World → Prop) (h : pagemap_less.P p0_0 p0_1 p1_0 p1_1 w K) : CallV Try.prog 91 #[.agg #[.int .i64 p0_0, .int .i64 p0_1], .agg #[.int .i64 p1_0, .int .i64 p1_1]] w [.one (.int .i64)] K := by
  have e : vcFun Try.prog okf false Try.f91 pagemap_less.A #[.agg #[.int .i64 p0_0, .int .i64 p0_1], .agg #[.int .i64 p1_0, .int .i64 p1_1]] w [.one (.int .i64)] K = pagemap_less.P p0_0 p0_1 p1_0 p1_1 w K := by kernel_rfl
  exact vcFun.calls okf_ok follows Try.func91 (e.symm ▸ h)

/-! ### nepenthe/head.Less: function 75 -/
def head_Less.A : Ann := .no
def head_Less.P (p0_0 : Int) (p0_1 : Int) (p0_2 : Int) (p0_3 : Int) (p0_4 : Int) (p0_5 : Int) (p1_0 : Int) (p1_1 : Int) (p1_2 : Int) (p1_3 : Int) (p1_4 : Int) (p1_5 : Int) (w : World) (K : Bool × Unit → World → Prop) : Prop :=
  NewV #[.int .i64 p0_0, .int .i64 p0_1, .int .i64 p0_2, .int .u32 p0_3, .int .u64 p0_4, .int .u64 p0_5] 59 w fun b1 w2 =>
  NewV #[.int .i64 p1_0, .int .i64 p1_1, .int .i64 p1_2, .int .u32 p1_3, .int .u64 p1_4, .int .u64 p1_5] 59 w2 fun b3 w4 =>
  LoadS w4 ⟨b1, 4, none⟩ (.int .u64) fun (x5 : Int) =>
  LoadS w4 ⟨b3, 4, none⟩ (.int .u64) fun (x6 : Int) =>
  cond (x5 != x6)
  (LoadS w4 ⟨b1, 4, none⟩ (.int .u64) fun (x7 : Int) =>
  LoadS w4 ⟨b3, 4, none⟩ (.int .u64) fun (x8 : Int) =>
  K (decide (x7 < x8), ()) w4)
  (LoadS w4 ⟨b1, 5, none⟩ (.int .u64) fun (x9 : Int) =>
  LoadS w4 ⟨b3, 5, none⟩ (.int .u64) fun (x10 : Int) =>
  K (decide (x9 < x10), ()) w4)
theorem head_Less.vc (p0_0 : Int) (p0_1 : Int) (p0_2 : Int) (p0_3 : Int) (p0_4 : Int) (p0_5 : Int) (p1_0 : Int) (p1_1 : Int) (p1_2 : Int) (p1_3 : Int) (p1_4 : Int) (p1_5 : Int) (w : World) (K : Bool × Unit → World → Prop) (h : head_Less.P p0_0 p0_1 p0_2 p0_3 p0_4 p0_5 p1_0 p1_1 p1_2 p1_3 p1_4 p1_5 w K) : CallV Try.prog 75 #[.agg #[.int .i64 p0_0, .int .i64 p0_1, .int .i64 p0_2, .int .u32 p0_3, .int .u64 p0_4, .int .u64 p0_5], .agg #[.int .i64 p1_0, .int .i64 p1_1, .int .i64 p1_2, .int .u32 p1_3, .int .u64 p1_4, .int .u64 p1_5]] w [.one .bool] K := by
  have e : vcFun Try.prog okf false Try.f75 head_Less.A #[.agg #[.int .i64 p0_0, .int .i64 p0_1, .int .i64 p0_2, .int .u32 p0_3, .int .u64 p0_4, .int .u64 p0_5], .agg #[.int .i64 p1_0, .int .i64 p1_1, .int .i64 p1_2, .int .u32 p1_3, .int .u64 p1_4, .int .u64 p1_5]] w [.one .bool] K = head_Less.P p0_0 p0_1 p0_2 p0_3 p0_4 p0_5 p1_0 p1_1 p1_2 p1_3 p1_4 p1_5 w K := by kernel_rfl
  exact vcFun.calls okf_ok follows Try.func75 (e.symm ▸ h)

end Go.Proofs.Ytiemdjnmghackaa.Vc
