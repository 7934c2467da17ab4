/- Texts in one: The steps of a plan on a memory of parts, by the part's place (printed by wip/tools/sepgen.py). Calls and single elements in the separate parts. Plain laws of layer 13 (nand): an array of pages, what each operation makes of it. Parts and results. Lists of slices of bytes. The plans of functions as plain statements, printed by wip/tools/vcgen.py; the kernel holds each to the code. The contracts of layer 13 (nand): the array's parts, and what only reads it. The contracts of layer 13 (nand): what only reads an array, and a byte changed. The contracts of layer 13 (nand): the power, and a byte changed. The contracts of layer 13 (nand): an operation that is done. The plans of functions as plain statements, printed by wip/tools/vcgen.py; the kernel holds each to the code. The laws FaultBits, FaultSets, FaultClears and FaultWhole of layer 12: each call gives true, and what it read stays. The contracts of layer 13 (nand): a page, programmed. The contracts of layer 13 (nand): a page, programmed. The contracts of layer 13 (nand): a block's bytes; closures of erase and scrub. The contracts of layer 13 (nand): a block, scrubbed or erased. -/
import Derived.Test.YtfpkaebmiojicaaZNandRunsb

/-! The steps of a plan on a memory of parts, by the part's place (printed by wip/tools/sepgen.py). -/
namespace Go.Eng
open Go Go.RowKit
set_option linter.unusedVariables false
section
variable {E : Nat → Prop} {w0 w w' : World} {Rs : List Asr} {b : Nat} {e : TypeId} {vs : List Value}
theorem Sep.ldR {i : Nat} (S : Sep E w0 w Rs) (hi : Rs[i]? = some (BoxA b e vs)) {j : Nat} {h : SS} {v : Value} {x : h.T} (hv : vs[j]? = some v) (hr : h.rd v = some x) {K : h.T → Prop} (hk : K x) : LoadS w ⟨b, j, none⟩ h K :=
  S.ld i hi x (by rw [hv, SS.rd_v hr]) hk
theorem Sep.ldaR {i : Nat} (S : Sep E w0 w Rs) (hi : Rs[i]? = some (BoxA b e vs)) {l : List SS} {x : Tup l} (hr : tupR l vs = some x) {K : Tup l → Prop} (hk : K x) : LoadA w ⟨b, 0, none⟩ l K :=
  S.lda i hi x (tupR_v hr).symm hk
theorem Sep.ldaRN {i : Nat} (S : Sep E w0 w Rs) (hi : Rs[i]? = some (BoxA b e vs)) {o : Nat} {l : List SS} {x : Tup l} (hr : tupR l ((vs.drop o).take l.length) = some x) {K : Tup l → Prop} (hk : K x) : LoadA w ⟨b, o, none⟩ l K :=
  S.ldaN i hi o x (tupR_v hr).symm hk
theorem Sep.storeR {i : Nat} (S : Sep E w0 w Rs) (hi : Rs[i]? = some (BoxA b e vs)) {news : List Value} (hl : vs.length = news.length) {K : World → Prop}
    (hk : ∀ w', Sep E w0 w' (Rs.set i (BoxA b e news)) → Fr (fun k => k = b) w w' → K w') : StoreV w ⟨b, 0, none⟩ news K :=
  S.store i hi 0 (by omega) fun w' S' f => hk w' (by rw [show vs.take 0 ++ (news ++ vs.drop (0 + news.length)) = news by rw [List.take_zero, List.drop_eq_nil_of_le (by omega)]; simp] at S'; exact S') f
theorem Sep.storeR1 {i : Nat} (S : Sep E w0 w Rs) (hi : Rs[i]? = some (BoxA b e vs)) {j : Nat} {v : Value} (hl : j < vs.length) {K : World → Prop}
    (hk : ∀ w', Sep E w0 w' (Rs.set i (BoxA b e (vs.set j v))) → Fr (fun k => k = b) w w' → K w') : StoreV w ⟨b, j, none⟩ [v] K :=
  S.store i hi j (by simp; omega) fun w' S' f => hk w' (by
    rw [show vs.take j ++ ([v] ++ vs.drop (j + [v].length)) = vs.set j v by
      rw [List.set_eq_take_append_cons_drop, if_pos hl]; rfl] at S'
    exact S') f

theorem Sep.ld0 (S : Sep E w0 w (BoxA b e vs :: Rs)) {j : Nat} {h : SS} {v : Value} {x : h.T} (hv : vs[j]? = some v) (hr : h.rd v = some x) {K : h.T → Prop} (hk : K x) : LoadS w ⟨b, j, none⟩ h K := S.ldR (i := 0) rfl hv hr hk
theorem Sep.la0 (S : Sep E w0 w (BoxA b e vs :: Rs)) {l : List SS} {x : Tup l} (hr : tupR l vs = some x) {K : Tup l → Prop} (hk : K x) : LoadA w ⟨b, 0, none⟩ l K := S.ldaR (i := 0) rfl hr hk
theorem Sep.lb0 (S : Sep E w0 w (BoxA b e vs :: Rs)) {o : Nat} {l : List SS} {x : Tup l} (hr : tupR l ((vs.drop o).take l.length) = some x) {K : Tup l → Prop} (hk : K x) : LoadA w ⟨b, o, none⟩ l K := S.ldaRN (i := 0) rfl hr hk
theorem Sep.st0 (S : Sep E w0 w (BoxA b e vs :: Rs)) {news : List Value} (hl : vs.length = news.length) {K : World → Prop} (hk : ∀ w', Sep E w0 w' (BoxA b e news :: Rs) → Fr (fun k => k = b) w w' → K w') : StoreV w ⟨b, 0, none⟩ news K := S.storeR (i := 0) rfl hl hk
theorem Sep.su0 (S : Sep E w0 w (BoxA b e vs :: Rs)) {j : Nat} {v : Value} (hl : Nat.blt j vs.length = true) {K : World → Prop} (hk : ∀ w', Sep E w0 w' (BoxA b e (vs.set j v) :: Rs) → Fr (fun k => k = b) w w' → K w') : StoreV w ⟨b, j, none⟩ [v] K := S.storeR1 (i := 0) rfl (by simpa [Nat.blt_eq] using hl) hk
theorem Sep.bl0 (S : Sep E w0 w (BoxA b e vs :: Rs)) : b < w.heap.size := S.lt 0 rfl
theorem Sep.ap0 {sz by' : Nat} {a : Option Addr} {n c m : Nat} {news : List Value} (S : Sep E w0 w (OwnA e sz a n c vs :: Rs)) (hl : news.length = m * sz) (h1 : oneAll news) (hby : (2 * (n + m) + 256) * by' ≤ 281474976710656) (h63 : n + m ≤ 9223372036854775807) {K : Option Addr → Nat → Nat → World → Prop} (hk : ∀ a' c' w', Sep E w0 w' (OwnA e sz a' (n + m) c' (vs ++ news) :: Rs) → Fr (fun k => ∃ q : Addr, a = some q ∧ k = q.block) w w' → K a' (n + m) c' w') : AppV w e sz by' a n c news m K := S.app 0 rfl hl h1 hby h63 hk
theorem Sep.pu0 {a : Option Addr} {n c : Nat} (S : Sep E w0 w (OwnA e 1 a n c vs :: Rs)) {j : Int} (h0 : 0 ≤ j) (h1 : j < (n : Int)) {v : Value} (hv : v.oneCell' = true) {K : World → Prop} (hk : ∀ w', Sep E w0 w' (OwnA e 1 a n c (vs.set j.toNat v) :: Rs) → Fr (fun k => ∃ q : Addr, a = some q ∧ k = q.block) w w' → K w') : (0 ≤ j ∧ j < (n : Int)) ∧ ∃ q, a = some q ∧ StoreV w (q.add (j.toNat * 1)) [v] K := S.put 0 rfl h0 h1 hv hk
theorem Sep.in0 {a : Option Addr} {n c : Nat} {k : IntKind} {xs : List Int} (S : Sep E w0 w (OwnA e 1 a n c (xs.map (Value.int k)) :: Rs)) : Ints w k a n c xs := S.ints 0 rfl
theorem Sep.ab0 {a : Option Addr} {n c m : Nat} {xs ys : List Int} {a2 : Option Addr} {c2 : Nat} (S : Sep E w0 w (OwnA e 1 a n c (xs.map (Value.int .u8)) :: Rs)) (hy : Ints w .u8 a2 m c2 ys) (hn : n + m ≤ 140737488351232) {K : Option Addr → Nat → Nat → World → Prop} (hk : ∀ a' c' w', Sep E w0 w' (OwnA e 1 a' (n + m) c' ((xs ++ ys).map (Value.int .u8)) :: Rs) → Fr (fun k => ∃ q : Addr, a = some q ∧ k = q.block) w w' → K a' (n + m) c' w') : AppS w a2 m 1 fun ns => AppV w e 1 1 a n c ns m K :=
  AppS.of (news := ys.map (Value.int .u8)) (by rw [List.length_map, hy.len]; omega) hy.rd (S.ap0 (by rw [List.length_map, hy.len]; omega) (oneAll.ints _ _) (by omega) (by omega) fun a' c' w' S' f => hk a' c' w' (by rw [List.map_append]; exact S') f)
theorem Sep.ld1 {R0 : Asr} (S : Sep E w0 w (R0 :: BoxA b e vs :: Rs)) {j : Nat} {h : SS} {v : Value} {x : h.T} (hv : vs[j]? = some v) (hr : h.rd v = some x) {K : h.T → Prop} (hk : K x) : LoadS w ⟨b, j, none⟩ h K := S.ldR (i := 1) rfl hv hr hk
theorem Sep.la1 {R0 : Asr} (S : Sep E w0 w (R0 :: BoxA b e vs :: Rs)) {l : List SS} {x : Tup l} (hr : tupR l vs = some x) {K : Tup l → Prop} (hk : K x) : LoadA w ⟨b, 0, none⟩ l K := S.ldaR (i := 1) rfl hr hk
theorem Sep.lb1 {R0 : Asr} (S : Sep E w0 w (R0 :: BoxA b e vs :: Rs)) {o : Nat} {l : List SS} {x : Tup l} (hr : tupR l ((vs.drop o).take l.length) = some x) {K : Tup l → Prop} (hk : K x) : LoadA w ⟨b, o, none⟩ l K := S.ldaRN (i := 1) rfl hr hk
theorem Sep.st1 {R0 : Asr} (S : Sep E w0 w (R0 :: BoxA b e vs :: Rs)) {news : List Value} (hl : vs.length = news.length) {K : World → Prop} (hk : ∀ w', Sep E w0 w' (R0 :: BoxA b e news :: Rs) → Fr (fun k => k = b) w w' → K w') : StoreV w ⟨b, 0, none⟩ news K := S.storeR (i := 1) rfl hl hk
theorem Sep.su1 {R0 : Asr} (S : Sep E w0 w (R0 :: BoxA b e vs :: Rs)) {j : Nat} {v : Value} (hl : Nat.blt j vs.length = true) {K : World → Prop} (hk : ∀ w', Sep E w0 w' (R0 :: BoxA b e (vs.set j v) :: Rs) → Fr (fun k => k = b) w w' → K w') : StoreV w ⟨b, j, none⟩ [v] K := S.storeR1 (i := 1) rfl (by simpa [Nat.blt_eq] using hl) hk
theorem Sep.bl1 {R0 : Asr} (S : Sep E w0 w (R0 :: BoxA b e vs :: Rs)) : b < w.heap.size := S.lt 1 rfl
theorem Sep.ap1 {R0 : Asr} {sz by' : Nat} {a : Option Addr} {n c m : Nat} {news : List Value} (S : Sep E w0 w (R0 :: OwnA e sz a n c vs :: Rs)) (hl : news.length = m * sz) (h1 : oneAll news) (hby : (2 * (n + m) + 256) * by' ≤ 281474976710656) (h63 : n + m ≤ 9223372036854775807) {K : Option Addr → Nat → Nat → World → Prop} (hk : ∀ a' c' w', Sep E w0 w' (R0 :: OwnA e sz a' (n + m) c' (vs ++ news) :: Rs) → Fr (fun k => ∃ q : Addr, a = some q ∧ k = q.block) w w' → K a' (n + m) c' w') : AppV w e sz by' a n c news m K := S.app 1 rfl hl h1 hby h63 hk
theorem Sep.pu1 {R0 : Asr} {a : Option Addr} {n c : Nat} (S : Sep E w0 w (R0 :: OwnA e 1 a n c vs :: Rs)) {j : Int} (h0 : 0 ≤ j) (h1 : j < (n : Int)) {v : Value} (hv : v.oneCell' = true) {K : World → Prop} (hk : ∀ w', Sep E w0 w' (R0 :: OwnA e 1 a n c (vs.set j.toNat v) :: Rs) → Fr (fun k => ∃ q : Addr, a = some q ∧ k = q.block) w w' → K w') : (0 ≤ j ∧ j < (n : Int)) ∧ ∃ q, a = some q ∧ StoreV w (q.add (j.toNat * 1)) [v] K := S.put 1 rfl h0 h1 hv hk
theorem Sep.in1 {R0 : Asr} {a : Option Addr} {n c : Nat} {k : IntKind} {xs : List Int} (S : Sep E w0 w (R0 :: OwnA e 1 a n c (xs.map (Value.int k)) :: Rs)) : Ints w k a n c xs := S.ints 1 rfl
theorem Sep.ab1 {R0 : Asr} {a : Option Addr} {n c m : Nat} {xs ys : List Int} {a2 : Option Addr} {c2 : Nat} (S : Sep E w0 w (R0 :: OwnA e 1 a n c (xs.map (Value.int .u8)) :: Rs)) (hy : Ints w .u8 a2 m c2 ys) (hn : n + m ≤ 140737488351232) {K : Option Addr → Nat → Nat → World → Prop} (hk : ∀ a' c' w', Sep E w0 w' (R0 :: OwnA e 1 a' (n + m) c' ((xs ++ ys).map (Value.int .u8)) :: Rs) → Fr (fun k => ∃ q : Addr, a = some q ∧ k = q.block) w w' → K a' (n + m) c' w') : AppS w a2 m 1 fun ns => AppV w e 1 1 a n c ns m K :=
  AppS.of (news := ys.map (Value.int .u8)) (by rw [List.length_map, hy.len]; omega) hy.rd (S.ap1 (by rw [List.length_map, hy.len]; omega) (oneAll.ints _ _) (by omega) (by omega) fun a' c' w' S' f => hk a' c' w' (by rw [List.map_append]; exact S') f)
theorem Sep.ld2 {R0 R1 : Asr} (S : Sep E w0 w (R0 :: R1 :: BoxA b e vs :: Rs)) {j : Nat} {h : SS} {v : Value} {x : h.T} (hv : vs[j]? = some v) (hr : h.rd v = some x) {K : h.T → Prop} (hk : K x) : LoadS w ⟨b, j, none⟩ h K := S.ldR (i := 2) rfl hv hr hk
theorem Sep.la2 {R0 R1 : Asr} (S : Sep E w0 w (R0 :: R1 :: BoxA b e vs :: Rs)) {l : List SS} {x : Tup l} (hr : tupR l vs = some x) {K : Tup l → Prop} (hk : K x) : LoadA w ⟨b, 0, none⟩ l K := S.ldaR (i := 2) rfl hr hk
theorem Sep.lb2 {R0 R1 : Asr} (S : Sep E w0 w (R0 :: R1 :: BoxA b e vs :: Rs)) {o : Nat} {l : List SS} {x : Tup l} (hr : tupR l ((vs.drop o).take l.length) = some x) {K : Tup l → Prop} (hk : K x) : LoadA w ⟨b, o, none⟩ l K := S.ldaRN (i := 2) rfl hr hk
theorem Sep.st2 {R0 R1 : Asr} (S : Sep E w0 w (R0 :: R1 :: BoxA b e vs :: Rs)) {news : List Value} (hl : vs.length = news.length) {K : World → Prop} (hk : ∀ w', Sep E w0 w' (R0 :: R1 :: BoxA b e news :: Rs) → Fr (fun k => k = b) w w' → K w') : StoreV w ⟨b, 0, none⟩ news K := S.storeR (i := 2) rfl hl hk
theorem Sep.su2 {R0 R1 : Asr} (S : Sep E w0 w (R0 :: R1 :: BoxA b e vs :: Rs)) {j : Nat} {v : Value} (hl : Nat.blt j vs.length = true) {K : World → Prop} (hk : ∀ w', Sep E w0 w' (R0 :: R1 :: BoxA b e (vs.set j v) :: Rs) → Fr (fun k => k = b) w w' → K w') : StoreV w ⟨b, j, none⟩ [v] K := S.storeR1 (i := 2) rfl (by simpa [Nat.blt_eq] using hl) hk
theorem Sep.bl2 {R0 R1 : Asr} (S : Sep E w0 w (R0 :: R1 :: BoxA b e vs :: Rs)) : b < w.heap.size := S.lt 2 rfl
theorem Sep.ap2 {R0 R1 : Asr} {sz by' : Nat} {a : Option Addr} {n c m : Nat} {news : List Value} (S : Sep E w0 w (R0 :: R1 :: OwnA e sz a n c vs :: Rs)) (hl : news.length = m * sz) (h1 : oneAll news) (hby : (2 * (n + m) + 256) * by' ≤ 281474976710656) (h63 : n + m ≤ 9223372036854775807) {K : Option Addr → Nat → Nat → World → Prop} (hk : ∀ a' c' w', Sep E w0 w' (R0 :: R1 :: OwnA e sz a' (n + m) c' (vs ++ news) :: Rs) → Fr (fun k => ∃ q : Addr, a = some q ∧ k = q.block) w w' → K a' (n + m) c' w') : AppV w e sz by' a n c news m K := S.app 2 rfl hl h1 hby h63 hk
theorem Sep.pu2 {R0 R1 : Asr} {a : Option Addr} {n c : Nat} (S : Sep E w0 w (R0 :: R1 :: OwnA e 1 a n c vs :: Rs)) {j : Int} (h0 : 0 ≤ j) (h1 : j < (n : Int)) {v : Value} (hv : v.oneCell' = true) {K : World → Prop} (hk : ∀ w', Sep E w0 w' (R0 :: R1 :: OwnA e 1 a n c (vs.set j.toNat v) :: Rs) → Fr (fun k => ∃ q : Addr, a = some q ∧ k = q.block) w w' → K w') : (0 ≤ j ∧ j < (n : Int)) ∧ ∃ q, a = some q ∧ StoreV w (q.add (j.toNat * 1)) [v] K := S.put 2 rfl h0 h1 hv hk
theorem Sep.in2 {R0 R1 : Asr} {a : Option Addr} {n c : Nat} {k : IntKind} {xs : List Int} (S : Sep E w0 w (R0 :: R1 :: OwnA e 1 a n c (xs.map (Value.int k)) :: Rs)) : Ints w k a n c xs := S.ints 2 rfl
theorem Sep.ab2 {R0 R1 : Asr} {a : Option Addr} {n c m : Nat} {xs ys : List Int} {a2 : Option Addr} {c2 : Nat} (S : Sep E w0 w (R0 :: R1 :: OwnA e 1 a n c (xs.map (Value.int .u8)) :: Rs)) (hy : Ints w .u8 a2 m c2 ys) (hn : n + m ≤ 140737488351232) {K : Option Addr → Nat → Nat → World → Prop} (hk : ∀ a' c' w', Sep E w0 w' (R0 :: R1 :: OwnA e 1 a' (n + m) c' ((xs ++ ys).map (Value.int .u8)) :: Rs) → Fr (fun k => ∃ q : Addr, a = some q ∧ k = q.block) w w' → K a' (n + m) c' w') : AppS w a2 m 1 fun ns => AppV w e 1 1 a n c ns m K :=
  AppS.of (news := ys.map (Value.int .u8)) (by rw [List.length_map, hy.len]; omega) hy.rd (S.ap2 (by rw [List.length_map, hy.len]; omega) (oneAll.ints _ _) (by omega) (by omega) fun a' c' w' S' f => hk a' c' w' (by rw [List.map_append]; exact S') f)
theorem Sep.ld3 {R0 R1 R2 : Asr} (S : Sep E w0 w (R0 :: R1 :: R2 :: BoxA b e vs :: Rs)) {j : Nat} {h : SS} {v : Value} {x : h.T} (hv : vs[j]? = some v) (hr : h.rd v = some x) {K : h.T → Prop} (hk : K x) : LoadS w ⟨b, j, none⟩ h K := S.ldR (i := 3) rfl hv hr hk
theorem Sep.la3 {R0 R1 R2 : Asr} (S : Sep E w0 w (R0 :: R1 :: R2 :: BoxA b e vs :: Rs)) {l : List SS} {x : Tup l} (hr : tupR l vs = some x) {K : Tup l → Prop} (hk : K x) : LoadA w ⟨b, 0, none⟩ l K := S.ldaR (i := 3) rfl hr hk
theorem Sep.lb3 {R0 R1 R2 : Asr} (S : Sep E w0 w (R0 :: R1 :: R2 :: BoxA b e vs :: Rs)) {o : Nat} {l : List SS} {x : Tup l} (hr : tupR l ((vs.drop o).take l.length) = some x) {K : Tup l → Prop} (hk : K x) : LoadA w ⟨b, o, none⟩ l K := S.ldaRN (i := 3) rfl hr hk
theorem Sep.st3 {R0 R1 R2 : Asr} (S : Sep E w0 w (R0 :: R1 :: R2 :: BoxA b e vs :: Rs)) {news : List Value} (hl : vs.length = news.length) {K : World → Prop} (hk : ∀ w', Sep E w0 w' (R0 :: R1 :: R2 :: BoxA b e news :: Rs) → Fr (fun k => k = b) w w' → K w') : StoreV w ⟨b, 0, none⟩ news K := S.storeR (i := 3) rfl hl hk
theorem Sep.su3 {R0 R1 R2 : Asr} (S : Sep E w0 w (R0 :: R1 :: R2 :: BoxA b e vs :: Rs)) {j : Nat} {v : Value} (hl : Nat.blt j vs.length = true) {K : World → Prop} (hk : ∀ w', Sep E w0 w' (R0 :: R1 :: R2 :: BoxA b e (vs.set j v) :: Rs) → Fr (fun k => k = b) w w' → K w') : StoreV w ⟨b, j, none⟩ [v] K := S.storeR1 (i := 3) rfl (by simpa [Nat.blt_eq] using hl) hk
theorem Sep.bl3 {R0 R1 R2 : Asr} (S : Sep E w0 w (R0 :: R1 :: R2 :: BoxA b e vs :: Rs)) : b < w.heap.size := S.lt 3 rfl
theorem Sep.ap3 {R0 R1 R2 : Asr} {sz by' : Nat} {a : Option Addr} {n c m : Nat} {news : List Value} (S : Sep E w0 w (R0 :: R1 :: R2 :: OwnA e sz a n c vs :: Rs)) (hl : news.length = m * sz) (h1 : oneAll news) (hby : (2 * (n + m) + 256) * by' ≤ 281474976710656) (h63 : n + m ≤ 9223372036854775807) {K : Option Addr → Nat → Nat → World → Prop} (hk : ∀ a' c' w', Sep E w0 w' (R0 :: R1 :: R2 :: OwnA e sz a' (n + m) c' (vs ++ news) :: Rs) → Fr (fun k => ∃ q : Addr, a = some q ∧ k = q.block) w w' → K a' (n + m) c' w') : AppV w e sz by' a n c news m K := S.app 3 rfl hl h1 hby h63 hk
theorem Sep.pu3 {R0 R1 R2 : Asr} {a : Option Addr} {n c : Nat} (S : Sep E w0 w (R0 :: R1 :: R2 :: OwnA e 1 a n c vs :: Rs)) {j : Int} (h0 : 0 ≤ j) (h1 : j < (n : Int)) {v : Value} (hv : v.oneCell' = true) {K : World → Prop} (hk : ∀ w', Sep E w0 w' (R0 :: R1 :: R2 :: OwnA e 1 a n c (vs.set j.toNat v) :: Rs) → Fr (fun k => ∃ q : Addr, a = some q ∧ k = q.block) w w' → K w') : (0 ≤ j ∧ j < (n : Int)) ∧ ∃ q, a = some q ∧ StoreV w (q.add (j.toNat * 1)) [v] K := S.put 3 rfl h0 h1 hv hk
theorem Sep.in3 {R0 R1 R2 : Asr} {a : Option Addr} {n c : Nat} {k : IntKind} {xs : List Int} (S : Sep E w0 w (R0 :: R1 :: R2 :: OwnA e 1 a n c (xs.map (Value.int k)) :: Rs)) : Ints w k a n c xs := S.ints 3 rfl
theorem Sep.ab3 {R0 R1 R2 : Asr} {a : Option Addr} {n c m : Nat} {xs ys : List Int} {a2 : Option Addr} {c2 : Nat} (S : Sep E w0 w (R0 :: R1 :: R2 :: OwnA e 1 a n c (xs.map (Value.int .u8)) :: Rs)) (hy : Ints w .u8 a2 m c2 ys) (hn : n + m ≤ 140737488351232) {K : Option Addr → Nat → Nat → World → Prop} (hk : ∀ a' c' w', Sep E w0 w' (R0 :: R1 :: R2 :: OwnA e 1 a' (n + m) c' ((xs ++ ys).map (Value.int .u8)) :: Rs) → Fr (fun k => ∃ q : Addr, a = some q ∧ k = q.block) w w' → K a' (n + m) c' w') : AppS w a2 m 1 fun ns => AppV w e 1 1 a n c ns m K :=
  AppS.of (news := ys.map (Value.int .u8)) (by rw [List.length_map, hy.len]; omega) hy.rd (S.ap3 (by rw [List.length_map, hy.len]; omega) (oneAll.ints _ _) (by omega) (by omega) fun a' c' w' S' f => hk a' c' w' (by rw [List.map_append]; exact S') f)
theorem Sep.ld4 {R0 R1 R2 R3 : Asr} (S : Sep E w0 w (R0 :: R1 :: R2 :: R3 :: BoxA b e vs :: Rs)) {j : Nat} {h : SS} {v : Value} {x : h.T} (hv : vs[j]? = some v) (hr : h.rd v = some x) {K : h.T → Prop} (hk : K x) : LoadS w ⟨b, j, none⟩ h K := S.ldR (i := 4) rfl hv hr hk
theorem Sep.la4 {R0 R1 R2 R3 : Asr} (S : Sep E w0 w (R0 :: R1 :: R2 :: R3 :: BoxA b e vs :: Rs)) {l : List SS} {x : Tup l} (hr : tupR l vs = some x) {K : Tup l → Prop} (hk : K x) : LoadA w ⟨b, 0, none⟩ l K := S.ldaR (i := 4) rfl hr hk
theorem Sep.lb4 {R0 R1 R2 R3 : Asr} (S : Sep E w0 w (R0 :: R1 :: R2 :: R3 :: BoxA b e vs :: Rs)) {o : Nat} {l : List SS} {x : Tup l} (hr : tupR l ((vs.drop o).take l.length) = some x) {K : Tup l → Prop} (hk : K x) : LoadA w ⟨b, o, none⟩ l K := S.ldaRN (i := 4) rfl hr hk
theorem Sep.st4 {R0 R1 R2 R3 : Asr} (S : Sep E w0 w (R0 :: R1 :: R2 :: R3 :: BoxA b e vs :: Rs)) {news : List Value} (hl : vs.length = news.length) {K : World → Prop} (hk : ∀ w', Sep E w0 w' (R0 :: R1 :: R2 :: R3 :: BoxA b e news :: Rs) → Fr (fun k => k = b) w w' → K w') : StoreV w ⟨b, 0, none⟩ news K := S.storeR (i := 4) rfl hl hk
theorem Sep.su4 {R0 R1 R2 R3 : Asr} (S : Sep E w0 w (R0 :: R1 :: R2 :: R3 :: BoxA b e vs :: Rs)) {j : Nat} {v : Value} (hl : Nat.blt j vs.length = true) {K : World → Prop} (hk : ∀ w', Sep E w0 w' (R0 :: R1 :: R2 :: R3 :: BoxA b e (vs.set j v) :: Rs) → Fr (fun k => k = b) w w' → K w') : StoreV w ⟨b, j, none⟩ [v] K := S.storeR1 (i := 4) rfl (by simpa [Nat.blt_eq] using hl) hk
theorem Sep.bl4 {R0 R1 R2 R3 : Asr} (S : Sep E w0 w (R0 :: R1 :: R2 :: R3 :: BoxA b e vs :: Rs)) : b < w.heap.size := S.lt 4 rfl
theorem Sep.ap4 {R0 R1 R2 R3 : Asr} {sz by' : Nat} {a : Option Addr} {n c m : Nat} {news : List Value} (S : Sep E w0 w (R0 :: R1 :: R2 :: R3 :: OwnA e sz a n c vs :: Rs)) (hl : news.length = m * sz) (h1 : oneAll news) (hby : (2 * (n + m) + 256) * by' ≤ 281474976710656) (h63 : n + m ≤ 9223372036854775807) {K : Option Addr → Nat → Nat → World → Prop} (hk : ∀ a' c' w', Sep E w0 w' (R0 :: R1 :: R2 :: R3 :: OwnA e sz a' (n + m) c' (vs ++ news) :: Rs) → Fr (fun k => ∃ q : Addr, a = some q ∧ k = q.block) w w' → K a' (n + m) c' w') : AppV w e sz by' a n c news m K := S.app 4 rfl hl h1 hby h63 hk
theorem Sep.pu4 {R0 R1 R2 R3 : Asr} {a : Option Addr} {n c : Nat} (S : Sep E w0 w (R0 :: R1 :: R2 :: R3 :: OwnA e 1 a n c vs :: Rs)) {j : Int} (h0 : 0 ≤ j) (h1 : j < (n : Int)) {v : Value} (hv : v.oneCell' = true) {K : World → Prop} (hk : ∀ w', Sep E w0 w' (R0 :: R1 :: R2 :: R3 :: OwnA e 1 a n c (vs.set j.toNat v) :: Rs) → Fr (fun k => ∃ q : Addr, a = some q ∧ k = q.block) w w' → K w') : (0 ≤ j ∧ j < (n : Int)) ∧ ∃ q, a = some q ∧ StoreV w (q.add (j.toNat * 1)) [v] K := S.put 4 rfl h0 h1 hv hk
theorem Sep.in4 {R0 R1 R2 R3 : Asr} {a : Option Addr} {n c : Nat} {k : IntKind} {xs : List Int} (S : Sep E w0 w (R0 :: R1 :: R2 :: R3 :: OwnA e 1 a n c (xs.map (Value.int k)) :: Rs)) : Ints w k a n c xs := S.ints 4 rfl
theorem Sep.ab4 {R0 R1 R2 R3 : Asr} {a : Option Addr} {n c m : Nat} {xs ys : List Int} {a2 : Option Addr} {c2 : Nat} (S : Sep E w0 w (R0 :: R1 :: R2 :: R3 :: OwnA e 1 a n c (xs.map (Value.int .u8)) :: Rs)) (hy : Ints w .u8 a2 m c2 ys) (hn : n + m ≤ 140737488351232) {K : Option Addr → Nat → Nat → World → Prop} (hk : ∀ a' c' w', Sep E w0 w' (R0 :: R1 :: R2 :: R3 :: OwnA e 1 a' (n + m) c' ((xs ++ ys).map (Value.int .u8)) :: Rs) → Fr (fun k => ∃ q : Addr, a = some q ∧ k = q.block) w w' → K a' (n + m) c' w') : AppS w a2 m 1 fun ns => AppV w e 1 1 a n c ns m K :=
  AppS.of (news := ys.map (Value.int .u8)) (by rw [List.length_map, hy.len]; omega) hy.rd (S.ap4 (by rw [List.length_map, hy.len]; omega) (oneAll.ints _ _) (by omega) (by omega) fun a' c' w' S' f => hk a' c' w' (by rw [List.map_append]; exact S') f)
theorem Sep.ld5 {R0 R1 R2 R3 R4 : Asr} (S : Sep E w0 w (R0 :: R1 :: R2 :: R3 :: R4 :: BoxA b e vs :: Rs)) {j : Nat} {h : SS} {v : Value} {x : h.T} (hv : vs[j]? = some v) (hr : h.rd v = some x) {K : h.T → Prop} (hk : K x) : LoadS w ⟨b, j, none⟩ h K := S.ldR (i := 5) rfl hv hr hk
theorem Sep.la5 {R0 R1 R2 R3 R4 : Asr} (S : Sep E w0 w (R0 :: R1 :: R2 :: R3 :: R4 :: BoxA b e vs :: Rs)) {l : List SS} {x : Tup l} (hr : tupR l vs = some x) {K : Tup l → Prop} (hk : K x) : LoadA w ⟨b, 0, none⟩ l K := S.ldaR (i := 5) rfl hr hk
theorem Sep.lb5 {R0 R1 R2 R3 R4 : Asr} (S : Sep E w0 w (R0 :: R1 :: R2 :: R3 :: R4 :: BoxA b e vs :: Rs)) {o : Nat} {l : List SS} {x : Tup l} (hr : tupR l ((vs.drop o).take l.length) = some x) {K : Tup l → Prop} (hk : K x) : LoadA w ⟨b, o, none⟩ l K := S.ldaRN (i := 5) rfl hr hk
theorem Sep.st5 {R0 R1 R2 R3 R4 : Asr} (S : Sep E w0 w (R0 :: R1 :: R2 :: R3 :: R4 :: BoxA b e vs :: Rs)) {news : List Value} (hl : vs.length = news.length) {K : World → Prop} (hk : ∀ w', Sep E w0 w' (R0 :: R1 :: R2 :: R3 :: R4 :: BoxA b e news :: Rs) → Fr (fun k => k = b) w w' → K w') : StoreV w ⟨b, 0, none⟩ news K := S.storeR (i := 5) rfl hl hk
theorem Sep.su5 {R0 R1 R2 R3 R4 : Asr} (S : Sep E w0 w (R0 :: R1 :: R2 :: R3 :: R4 :: BoxA b e vs :: Rs)) {j : Nat} {v : Value} (hl : Nat.blt j vs.length = true) {K : World → Prop} (hk : ∀ w', Sep E w0 w' (R0 :: R1 :: R2 :: R3 :: R4 :: BoxA b e (vs.set j v) :: Rs) → Fr (fun k => k = b) w w' → K w') : StoreV w ⟨b, j, none⟩ [v] K := S.storeR1 (i := 5) rfl (by simpa [Nat.blt_eq] using hl) hk
theorem Sep.bl5 {R0 R1 R2 R3 R4 : Asr} (S : Sep E w0 w (R0 :: R1 :: R2 :: R3 :: R4 :: BoxA b e vs :: Rs)) : b < w.heap.size := S.lt 5 rfl
theorem Sep.ap5 {R0 R1 R2 R3 R4 : Asr} {sz by' : Nat} {a : Option Addr} {n c m : Nat} {news : List Value} (S : Sep E w0 w (R0 :: R1 :: R2 :: R3 :: R4 :: OwnA e sz a n c vs :: Rs)) (hl : news.length = m * sz) (h1 : oneAll news) (hby : (2 * (n + m) + 256) * by' ≤ 281474976710656) (h63 : n + m ≤ 9223372036854775807) {K : Option Addr → Nat → Nat → World → Prop} (hk : ∀ a' c' w', Sep E w0 w' (R0 :: R1 :: R2 :: R3 :: R4 :: OwnA e sz a' (n + m) c' (vs ++ news) :: Rs) → Fr (fun k => ∃ q : Addr, a = some q ∧ k = q.block) w w' → K a' (n + m) c' w') : AppV w e sz by' a n c news m K := S.app 5 rfl hl h1 hby h63 hk
theorem Sep.pu5 {R0 R1 R2 R3 R4 : Asr} {a : Option Addr} {n c : Nat} (S : Sep E w0 w (R0 :: R1 :: R2 :: R3 :: R4 :: OwnA e 1 a n c vs :: Rs)) {j : Int} (h0 : 0 ≤ j) (h1 : j < (n : Int)) {v : Value} (hv : v.oneCell' = true) {K : World → Prop} (hk : ∀ w', Sep E w0 w' (R0 :: R1 :: R2 :: R3 :: R4 :: OwnA e 1 a n c (vs.set j.toNat v) :: Rs) → Fr (fun k => ∃ q : Addr, a = some q ∧ k = q.block) w w' → K w') : (0 ≤ j ∧ j < (n : Int)) ∧ ∃ q, a = some q ∧ StoreV w (q.add (j.toNat * 1)) [v] K := S.put 5 rfl h0 h1 hv hk
theorem Sep.in5 {R0 R1 R2 R3 R4 : Asr} {a : Option Addr} {n c : Nat} {k : IntKind} {xs : List Int} (S : Sep E w0 w (R0 :: R1 :: R2 :: R3 :: R4 :: OwnA e 1 a n c (xs.map (Value.int k)) :: Rs)) : Ints w k a n c xs := S.ints 5 rfl
theorem Sep.ab5 {R0 R1 R2 R3 R4 : Asr} {a : Option Addr} {n c m : Nat} {xs ys : List Int} {a2 : Option Addr} {c2 : Nat} (S : Sep E w0 w (R0 :: R1 :: R2 :: R3 :: R4 :: OwnA e 1 a n c (xs.map (Value.int .u8)) :: Rs)) (hy : Ints w .u8 a2 m c2 ys) (hn : n + m ≤ 140737488351232) {K : Option Addr → Nat → Nat → World → Prop} (hk : ∀ a' c' w', Sep E w0 w' (R0 :: R1 :: R2 :: R3 :: R4 :: OwnA e 1 a' (n + m) c' ((xs ++ ys).map (Value.int .u8)) :: Rs) → Fr (fun k => ∃ q : Addr, a = some q ∧ k = q.block) w w' → K a' (n + m) c' w') : AppS w a2 m 1 fun ns => AppV w e 1 1 a n c ns m K :=
  AppS.of (news := ys.map (Value.int .u8)) (by rw [List.length_map, hy.len]; omega) hy.rd (S.ap5 (by rw [List.length_map, hy.len]; omega) (oneAll.ints _ _) (by omega) (by omega) fun a' c' w' S' f => hk a' c' w' (by rw [List.map_append]; exact S') f)
theorem Sep.ld6 {R0 R1 R2 R3 R4 R5 : Asr} (S : Sep E w0 w (R0 :: R1 :: R2 :: R3 :: R4 :: R5 :: BoxA b e vs :: Rs)) {j : Nat} {h : SS} {v : Value} {x : h.T} (hv : vs[j]? = some v) (hr : h.rd v = some x) {K : h.T → Prop} (hk : K x) : LoadS w ⟨b, j, none⟩ h K := S.ldR (i := 6) rfl hv hr hk
theorem Sep.la6 {R0 R1 R2 R3 R4 R5 : Asr} (S : Sep E w0 w (R0 :: R1 :: R2 :: R3 :: R4 :: R5 :: BoxA b e vs :: Rs)) {l : List SS} {x : Tup l} (hr : tupR l vs = some x) {K : Tup l → Prop} (hk : K x) : LoadA w ⟨b, 0, none⟩ l K := S.ldaR (i := 6) rfl hr hk
theorem Sep.lb6 {R0 R1 R2 R3 R4 R5 : Asr} (S : Sep E w0 w (R0 :: R1 :: R2 :: R3 :: R4 :: R5 :: BoxA b e vs :: Rs)) {o : Nat} {l : List SS} {x : Tup l} (hr : tupR l ((vs.drop o).take l.length) = some x) {K : Tup l → Prop} (hk : K x) : LoadA w ⟨b, o, none⟩ l K := S.ldaRN (i := 6) rfl hr hk
theorem Sep.st6 {R0 R1 R2 R3 R4 R5 : Asr} (S : Sep E w0 w (R0 :: R1 :: R2 :: R3 :: R4 :: R5 :: BoxA b e vs :: Rs)) {news : List Value} (hl : vs.length = news.length) {K : World → Prop} (hk : ∀ w', Sep E w0 w' (R0 :: R1 :: R2 :: R3 :: R4 :: R5 :: BoxA b e news :: Rs) → Fr (fun k => k = b) w w' → K w') : StoreV w ⟨b, 0, none⟩ news K := S.storeR (i := 6) rfl hl hk
theorem Sep.su6 {R0 R1 R2 R3 R4 R5 : Asr} (S : Sep E w0 w (R0 :: R1 :: R2 :: R3 :: R4 :: R5 :: BoxA b e vs :: Rs)) {j : Nat} {v : Value} (hl : Nat.blt j vs.length = true) {K : World → Prop} (hk : ∀ w', Sep E w0 w' (R0 :: R1 :: R2 :: R3 :: R4 :: R5 :: BoxA b e (vs.set j v) :: Rs) → Fr (fun k => k = b) w w' → K w') : StoreV w ⟨b, j, none⟩ [v] K := S.storeR1 (i := 6) rfl (by simpa [Nat.blt_eq] using hl) hk
theorem Sep.bl6 {R0 R1 R2 R3 R4 R5 : Asr} (S : Sep E w0 w (R0 :: R1 :: R2 :: R3 :: R4 :: R5 :: BoxA b e vs :: Rs)) : b < w.heap.size := S.lt 6 rfl
theorem Sep.ap6 {R0 R1 R2 R3 R4 R5 : Asr} {sz by' : Nat} {a : Option Addr} {n c m : Nat} {news : List Value} (S : Sep E w0 w (R0 :: R1 :: R2 :: R3 :: R4 :: R5 :: OwnA e sz a n c vs :: Rs)) (hl : news.length = m * sz) (h1 : oneAll news) (hby : (2 * (n + m) + 256) * by' ≤ 281474976710656) (h63 : n + m ≤ 9223372036854775807) {K : Option Addr → Nat → Nat → World → Prop} (hk : ∀ a' c' w', Sep E w0 w' (R0 :: R1 :: R2 :: R3 :: R4 :: R5 :: OwnA e sz a' (n + m) c' (vs ++ news) :: Rs) → Fr (fun k => ∃ q : Addr, a = some q ∧ k = q.block) w w' → K a' (n + m) c' w') : AppV w e sz by' a n c news m K := S.app 6 rfl hl h1 hby h63 hk
theorem Sep.pu6 {R0 R1 R2 R3 R4 R5 : Asr} {a : Option Addr} {n c : Nat} (S : Sep E w0 w (R0 :: R1 :: R2 :: R3 :: R4 :: R5 :: OwnA e 1 a n c vs :: Rs)) {j : Int} (h0 : 0 ≤ j) (h1 : j < (n : Int)) {v : Value} (hv : v.oneCell' = true) {K : World → Prop} (hk : ∀ w', Sep E w0 w' (R0 :: R1 :: R2 :: R3 :: R4 :: R5 :: OwnA e 1 a n c (vs.set j.toNat v) :: Rs) → Fr (fun k => ∃ q : Addr, a = some q ∧ k = q.block) w w' → K w') : (0 ≤ j ∧ j < (n : Int)) ∧ ∃ q, a = some q ∧ StoreV w (q.add (j.toNat * 1)) [v] K := S.put 6 rfl h0 h1 hv hk
theorem Sep.in6 {R0 R1 R2 R3 R4 R5 : Asr} {a : Option Addr} {n c : Nat} {k : IntKind} {xs : List Int} (S : Sep E w0 w (R0 :: R1 :: R2 :: R3 :: R4 :: R5 :: OwnA e 1 a n c (xs.map (Value.int k)) :: Rs)) : Ints w k a n c xs := S.ints 6 rfl
theorem Sep.ab6 {R0 R1 R2 R3 R4 R5 : Asr} {a : Option Addr} {n c m : Nat} {xs ys : List Int} {a2 : Option Addr} {c2 : Nat} (S : Sep E w0 w (R0 :: R1 :: R2 :: R3 :: R4 :: R5 :: OwnA e 1 a n c (xs.map (Value.int .u8)) :: Rs)) (hy : Ints w .u8 a2 m c2 ys) (hn : n + m ≤ 140737488351232) {K : Option Addr → Nat → Nat → World → Prop} (hk : ∀ a' c' w', Sep E w0 w' (R0 :: R1 :: R2 :: R3 :: R4 :: R5 :: OwnA e 1 a' (n + m) c' ((xs ++ ys).map (Value.int .u8)) :: Rs) → Fr (fun k => ∃ q : Addr, a = some q ∧ k = q.block) w w' → K a' (n + m) c' w') : AppS w a2 m 1 fun ns => AppV w e 1 1 a n c ns m K :=
  AppS.of (news := ys.map (Value.int .u8)) (by rw [List.length_map, hy.len]; omega) hy.rd (S.ap6 (by rw [List.length_map, hy.len]; omega) (oneAll.ints _ _) (by omega) (by omega) fun a' c' w' S' f => hk a' c' w' (by rw [List.map_append]; exact S') f)
theorem Sep.ld7 {R0 R1 R2 R3 R4 R5 R6 : Asr} (S : Sep E w0 w (R0 :: R1 :: R2 :: R3 :: R4 :: R5 :: R6 :: BoxA b e vs :: Rs)) {j : Nat} {h : SS} {v : Value} {x : h.T} (hv : vs[j]? = some v) (hr : h.rd v = some x) {K : h.T → Prop} (hk : K x) : LoadS w ⟨b, j, none⟩ h K := S.ldR (i := 7) rfl hv hr hk
theorem Sep.la7 {R0 R1 R2 R3 R4 R5 R6 : Asr} (S : Sep E w0 w (R0 :: R1 :: R2 :: R3 :: R4 :: R5 :: R6 :: BoxA b e vs :: Rs)) {l : List SS} {x : Tup l} (hr : tupR l vs = some x) {K : Tup l → Prop} (hk : K x) : LoadA w ⟨b, 0, none⟩ l K := S.ldaR (i := 7) rfl hr hk
theorem Sep.lb7 {R0 R1 R2 R3 R4 R5 R6 : Asr} (S : Sep E w0 w (R0 :: R1 :: R2 :: R3 :: R4 :: R5 :: R6 :: BoxA b e vs :: Rs)) {o : Nat} {l : List SS} {x : Tup l} (hr : tupR l ((vs.drop o).take l.length) = some x) {K : Tup l → Prop} (hk : K x) : LoadA w ⟨b, o, none⟩ l K := S.ldaRN (i := 7) rfl hr hk
theorem Sep.st7 {R0 R1 R2 R3 R4 R5 R6 : Asr} (S : Sep E w0 w (R0 :: R1 :: R2 :: R3 :: R4 :: R5 :: R6 :: BoxA b e vs :: Rs)) {news : List Value} (hl : vs.length = news.length) {K : World → Prop} (hk : ∀ w', Sep E w0 w' (R0 :: R1 :: R2 :: R3 :: R4 :: R5 :: R6 :: BoxA b e news :: Rs) → Fr (fun k => k = b) w w' → K w') : StoreV w ⟨b, 0, none⟩ news K := S.storeR (i := 7) rfl hl hk
theorem Sep.su7 {R0 R1 R2 R3 R4 R5 R6 : Asr} (S : Sep E w0 w (R0 :: R1 :: R2 :: R3 :: R4 :: R5 :: R6 :: BoxA b e vs :: Rs)) {j : Nat} {v : Value} (hl : Nat.blt j vs.length = true) {K : World → Prop} (hk : ∀ w', Sep E w0 w' (R0 :: R1 :: R2 :: R3 :: R4 :: R5 :: R6 :: BoxA b e (vs.set j v) :: Rs) → Fr (fun k => k = b) w w' → K w') : StoreV w ⟨b, j, none⟩ [v] K := S.storeR1 (i := 7) rfl (by simpa [Nat.blt_eq] using hl) hk
theorem Sep.bl7 {R0 R1 R2 R3 R4 R5 R6 : Asr} (S : Sep E w0 w (R0 :: R1 :: R2 :: R3 :: R4 :: R5 :: R6 :: BoxA b e vs :: Rs)) : b < w.heap.size := S.lt 7 rfl
theorem Sep.ap7 {R0 R1 R2 R3 R4 R5 R6 : Asr} {sz by' : Nat} {a : Option Addr} {n c m : Nat} {news : List Value} (S : Sep E w0 w (R0 :: R1 :: R2 :: R3 :: R4 :: R5 :: R6 :: OwnA e sz a n c vs :: Rs)) (hl : news.length = m * sz) (h1 : oneAll news) (hby : (2 * (n + m) + 256) * by' ≤ 281474976710656) (h63 : n + m ≤ 9223372036854775807) {K : Option Addr → Nat → Nat → World → Prop} (hk : ∀ a' c' w', Sep E w0 w' (R0 :: R1 :: R2 :: R3 :: R4 :: R5 :: R6 :: OwnA e sz a' (n + m) c' (vs ++ news) :: Rs) → Fr (fun k => ∃ q : Addr, a = some q ∧ k = q.block) w w' → K a' (n + m) c' w') : AppV w e sz by' a n c news m K := S.app 7 rfl hl h1 hby h63 hk
theorem Sep.pu7 {R0 R1 R2 R3 R4 R5 R6 : Asr} {a : Option Addr} {n c : Nat} (S : Sep E w0 w (R0 :: R1 :: R2 :: R3 :: R4 :: R5 :: R6 :: OwnA e 1 a n c vs :: Rs)) {j : Int} (h0 : 0 ≤ j) (h1 : j < (n : Int)) {v : Value} (hv : v.oneCell' = true) {K : World → Prop} (hk : ∀ w', Sep E w0 w' (R0 :: R1 :: R2 :: R3 :: R4 :: R5 :: R6 :: OwnA e 1 a n c (vs.set j.toNat v) :: Rs) → Fr (fun k => ∃ q : Addr, a = some q ∧ k = q.block) w w' → K w') : (0 ≤ j ∧ j < (n : Int)) ∧ ∃ q, a = some q ∧ StoreV w (q.add (j.toNat * 1)) [v] K := S.put 7 rfl h0 h1 hv hk
theorem Sep.in7 {R0 R1 R2 R3 R4 R5 R6 : Asr} {a : Option Addr} {n c : Nat} {k : IntKind} {xs : List Int} (S : Sep E w0 w (R0 :: R1 :: R2 :: R3 :: R4 :: R5 :: R6 :: OwnA e 1 a n c (xs.map (Value.int k)) :: Rs)) : Ints w k a n c xs := S.ints 7 rfl
theorem Sep.ab7 {R0 R1 R2 R3 R4 R5 R6 : Asr} {a : Option Addr} {n c m : Nat} {xs ys : List Int} {a2 : Option Addr} {c2 : Nat} (S : Sep E w0 w (R0 :: R1 :: R2 :: R3 :: R4 :: R5 :: R6 :: OwnA e 1 a n c (xs.map (Value.int .u8)) :: Rs)) (hy : Ints w .u8 a2 m c2 ys) (hn : n + m ≤ 140737488351232) {K : Option Addr → Nat → Nat → World → Prop} (hk : ∀ a' c' w', Sep E w0 w' (R0 :: R1 :: R2 :: R3 :: R4 :: R5 :: R6 :: OwnA e 1 a' (n + m) c' ((xs ++ ys).map (Value.int .u8)) :: Rs) → Fr (fun k => ∃ q : Addr, a = some q ∧ k = q.block) w w' → K a' (n + m) c' w') : AppS w a2 m 1 fun ns => AppV w e 1 1 a n c ns m K :=
  AppS.of (news := ys.map (Value.int .u8)) (by rw [List.length_map, hy.len]; omega) hy.rd (S.ap7 (by rw [List.length_map, hy.len]; omega) (oneAll.ints _ _) (by omega) (by omega) fun a' c' w' S' f => hk a' c' w' (by rw [List.map_append]; exact S') f)
theorem Sep.ld8 {R0 R1 R2 R3 R4 R5 R6 R7 : Asr} (S : Sep E w0 w (R0 :: R1 :: R2 :: R3 :: R4 :: R5 :: R6 :: R7 :: BoxA b e vs :: Rs)) {j : Nat} {h : SS} {v : Value} {x : h.T} (hv : vs[j]? = some v) (hr : h.rd v = some x) {K : h.T → Prop} (hk : K x) : LoadS w ⟨b, j, none⟩ h K := S.ldR (i := 8) rfl hv hr hk
theorem Sep.la8 {R0 R1 R2 R3 R4 R5 R6 R7 : Asr} (S : Sep E w0 w (R0 :: R1 :: R2 :: R3 :: R4 :: R5 :: R6 :: R7 :: BoxA b e vs :: Rs)) {l : List SS} {x : Tup l} (hr : tupR l vs = some x) {K : Tup l → Prop} (hk : K x) : LoadA w ⟨b, 0, none⟩ l K := S.ldaR (i := 8) rfl hr hk
theorem Sep.lb8 {R0 R1 R2 R3 R4 R5 R6 R7 : Asr} (S : Sep E w0 w (R0 :: R1 :: R2 :: R3 :: R4 :: R5 :: R6 :: R7 :: BoxA b e vs :: Rs)) {o : Nat} {l : List SS} {x : Tup l} (hr : tupR l ((vs.drop o).take l.length) = some x) {K : Tup l → Prop} (hk : K x) : LoadA w ⟨b, o, none⟩ l K := S.ldaRN (i := 8) rfl hr hk
theorem Sep.st8 {R0 R1 R2 R3 R4 R5 R6 R7 : Asr} (S : Sep E w0 w (R0 :: R1 :: R2 :: R3 :: R4 :: R5 :: R6 :: R7 :: BoxA b e vs :: Rs)) {news : List Value} (hl : vs.length = news.length) {K : World → Prop} (hk : ∀ w', Sep E w0 w' (R0 :: R1 :: R2 :: R3 :: R4 :: R5 :: R6 :: R7 :: BoxA b e news :: Rs) → Fr (fun k => k = b) w w' → K w') : StoreV w ⟨b, 0, none⟩ news K := S.storeR (i := 8) rfl hl hk
theorem Sep.su8 {R0 R1 R2 R3 R4 R5 R6 R7 : Asr} (S : Sep E w0 w (R0 :: R1 :: R2 :: R3 :: R4 :: R5 :: R6 :: R7 :: BoxA b e vs :: Rs)) {j : Nat} {v : Value} (hl : Nat.blt j vs.length = true) {K : World → Prop} (hk : ∀ w', Sep E w0 w' (R0 :: R1 :: R2 :: R3 :: R4 :: R5 :: R6 :: R7 :: BoxA b e (vs.set j v) :: Rs) → Fr (fun k => k = b) w w' → K w') : StoreV w ⟨b, j, none⟩ [v] K := S.storeR1 (i := 8) rfl (by simpa [Nat.blt_eq] using hl) hk
theorem Sep.bl8 {R0 R1 R2 R3 R4 R5 R6 R7 : Asr} (S : Sep E w0 w (R0 :: R1 :: R2 :: R3 :: R4 :: R5 :: R6 :: R7 :: BoxA b e vs :: Rs)) : b < w.heap.size := S.lt 8 rfl
theorem Sep.ap8 {R0 R1 R2 R3 R4 R5 R6 R7 : Asr} {sz by' : Nat} {a : Option Addr} {n c m : Nat} {news : List Value} (S : Sep E w0 w (R0 :: R1 :: R2 :: R3 :: R4 :: R5 :: R6 :: R7 :: OwnA e sz a n c vs :: Rs)) (hl : news.length = m * sz) (h1 : oneAll news) (hby : (2 * (n + m) + 256) * by' ≤ 281474976710656) (h63 : n + m ≤ 9223372036854775807) {K : Option Addr → Nat → Nat → World → Prop} (hk : ∀ a' c' w', Sep E w0 w' (R0 :: R1 :: R2 :: R3 :: R4 :: R5 :: R6 :: R7 :: OwnA e sz a' (n + m) c' (vs ++ news) :: Rs) → Fr (fun k => ∃ q : Addr, a = some q ∧ k = q.block) w w' → K a' (n + m) c' w') : AppV w e sz by' a n c news m K := S.app 8 rfl hl h1 hby h63 hk
theorem Sep.pu8 {R0 R1 R2 R3 R4 R5 R6 R7 : Asr} {a : Option Addr} {n c : Nat} (S : Sep E w0 w (R0 :: R1 :: R2 :: R3 :: R4 :: R5 :: R6 :: R7 :: OwnA e 1 a n c vs :: Rs)) {j : Int} (h0 : 0 ≤ j) (h1 : j < (n : Int)) {v : Value} (hv : v.oneCell' = true) {K : World → Prop} (hk : ∀ w', Sep E w0 w' (R0 :: R1 :: R2 :: R3 :: R4 :: R5 :: R6 :: R7 :: OwnA e 1 a n c (vs.set j.toNat v) :: Rs) → Fr (fun k => ∃ q : Addr, a = some q ∧ k = q.block) w w' → K w') : (0 ≤ j ∧ j < (n : Int)) ∧ ∃ q, a = some q ∧ StoreV w (q.add (j.toNat * 1)) [v] K := S.put 8 rfl h0 h1 hv hk
theorem Sep.in8 {R0 R1 R2 R3 R4 R5 R6 R7 : Asr} {a : Option Addr} {n c : Nat} {k : IntKind} {xs : List Int} (S : Sep E w0 w (R0 :: R1 :: R2 :: R3 :: R4 :: R5 :: R6 :: R7 :: OwnA e 1 a n c (xs.map (Value.int k)) :: Rs)) : Ints w k a n c xs := S.ints 8 rfl
theorem Sep.ab8 {R0 R1 R2 R3 R4 R5 R6 R7 : Asr} {a : Option Addr} {n c m : Nat} {xs ys : List Int} {a2 : Option Addr} {c2 : Nat} (S : Sep E w0 w (R0 :: R1 :: R2 :: R3 :: R4 :: R5 :: R6 :: R7 :: OwnA e 1 a n c (xs.map (Value.int .u8)) :: Rs)) (hy : Ints w .u8 a2 m c2 ys) (hn : n + m ≤ 140737488351232) {K : Option Addr → Nat → Nat → World → Prop} (hk : ∀ a' c' w', Sep E w0 w' (R0 :: R1 :: R2 :: R3 :: R4 :: R5 :: R6 :: R7 :: OwnA e 1 a' (n + m) c' ((xs ++ ys).map (Value.int .u8)) :: Rs) → Fr (fun k => ∃ q : Addr, a = some q ∧ k = q.block) w w' → K a' (n + m) c' w') : AppS w a2 m 1 fun ns => AppV w e 1 1 a n c ns m K :=
  AppS.of (news := ys.map (Value.int .u8)) (by rw [List.length_map, hy.len]; omega) hy.rd (S.ap8 (by rw [List.length_map, hy.len]; omega) (oneAll.ints _ _) (by omega) (by omega) fun a' c' w' S' f => hk a' c' w' (by rw [List.map_append]; exact S') f)
theorem Sep.ld9 {R0 R1 R2 R3 R4 R5 R6 R7 R8 : Asr} (S : Sep E w0 w (R0 :: R1 :: R2 :: R3 :: R4 :: R5 :: R6 :: R7 :: R8 :: BoxA b e vs :: Rs)) {j : Nat} {h : SS} {v : Value} {x : h.T} (hv : vs[j]? = some v) (hr : h.rd v = some x) {K : h.T → Prop} (hk : K x) : LoadS w ⟨b, j, none⟩ h K := S.ldR (i := 9) rfl hv hr hk
theorem Sep.la9 {R0 R1 R2 R3 R4 R5 R6 R7 R8 : Asr} (S : Sep E w0 w (R0 :: R1 :: R2 :: R3 :: R4 :: R5 :: R6 :: R7 :: R8 :: BoxA b e vs :: Rs)) {l : List SS} {x : Tup l} (hr : tupR l vs = some x) {K : Tup l → Prop} (hk : K x) : LoadA w ⟨b, 0, none⟩ l K := S.ldaR (i := 9) rfl hr hk
theorem Sep.lb9 {R0 R1 R2 R3 R4 R5 R6 R7 R8 : Asr} (S : Sep E w0 w (R0 :: R1 :: R2 :: R3 :: R4 :: R5 :: R6 :: R7 :: R8 :: BoxA b e vs :: Rs)) {o : Nat} {l : List SS} {x : Tup l} (hr : tupR l ((vs.drop o).take l.length) = some x) {K : Tup l → Prop} (hk : K x) : LoadA w ⟨b, o, none⟩ l K := S.ldaRN (i := 9) rfl hr hk
theorem Sep.st9 {R0 R1 R2 R3 R4 R5 R6 R7 R8 : Asr} (S : Sep E w0 w (R0 :: R1 :: R2 :: R3 :: R4 :: R5 :: R6 :: R7 :: R8 :: BoxA b e vs :: Rs)) {news : List Value} (hl : vs.length = news.length) {K : World → Prop} (hk : ∀ w', Sep E w0 w' (R0 :: R1 :: R2 :: R3 :: R4 :: R5 :: R6 :: R7 :: R8 :: BoxA b e news :: Rs) → Fr (fun k => k = b) w w' → K w') : StoreV w ⟨b, 0, none⟩ news K := S.storeR (i := 9) rfl hl hk
theorem Sep.su9 {R0 R1 R2 R3 R4 R5 R6 R7 R8 : Asr} (S : Sep E w0 w (R0 :: R1 :: R2 :: R3 :: R4 :: R5 :: R6 :: R7 :: R8 :: BoxA b e vs :: Rs)) {j : Nat} {v : Value} (hl : Nat.blt j vs.length = true) {K : World → Prop} (hk : ∀ w', Sep E w0 w' (R0 :: R1 :: R2 :: R3 :: R4 :: R5 :: R6 :: R7 :: R8 :: BoxA b e (vs.set j v) :: Rs) → Fr (fun k => k = b) w w' → K w') : StoreV w ⟨b, j, none⟩ [v] K := S.storeR1 (i := 9) rfl (by simpa [Nat.blt_eq] using hl) hk
theorem Sep.bl9 {R0 R1 R2 R3 R4 R5 R6 R7 R8 : Asr} (S : Sep E w0 w (R0 :: R1 :: R2 :: R3 :: R4 :: R5 :: R6 :: R7 :: R8 :: BoxA b e vs :: Rs)) : b < w.heap.size := S.lt 9 rfl
theorem Sep.ap9 {R0 R1 R2 R3 R4 R5 R6 R7 R8 : Asr} {sz by' : Nat} {a : Option Addr} {n c m : Nat} {news : List Value} (S : Sep E w0 w (R0 :: R1 :: R2 :: R3 :: R4 :: R5 :: R6 :: R7 :: R8 :: OwnA e sz a n c vs :: Rs)) (hl : news.length = m * sz) (h1 : oneAll news) (hby : (2 * (n + m) + 256) * by' ≤ 281474976710656) (h63 : n + m ≤ 9223372036854775807) {K : Option Addr → Nat → Nat → World → Prop} (hk : ∀ a' c' w', Sep E w0 w' (R0 :: R1 :: R2 :: R3 :: R4 :: R5 :: R6 :: R7 :: R8 :: OwnA e sz a' (n + m) c' (vs ++ news) :: Rs) → Fr (fun k => ∃ q : Addr, a = some q ∧ k = q.block) w w' → K a' (n + m) c' w') : AppV w e sz by' a n c news m K := S.app 9 rfl hl h1 hby h63 hk
theorem Sep.pu9 {R0 R1 R2 R3 R4 R5 R6 R7 R8 : Asr} {a : Option Addr} {n c : Nat} (S : Sep E w0 w (R0 :: R1 :: R2 :: R3 :: R4 :: R5 :: R6 :: R7 :: R8 :: OwnA e 1 a n c vs :: Rs)) {j : Int} (h0 : 0 ≤ j) (h1 : j < (n : Int)) {v : Value} (hv : v.oneCell' = true) {K : World → Prop} (hk : ∀ w', Sep E w0 w' (R0 :: R1 :: R2 :: R3 :: R4 :: R5 :: R6 :: R7 :: R8 :: OwnA e 1 a n c (vs.set j.toNat v) :: Rs) → Fr (fun k => ∃ q : Addr, a = some q ∧ k = q.block) w w' → K w') : (0 ≤ j ∧ j < (n : Int)) ∧ ∃ q, a = some q ∧ StoreV w (q.add (j.toNat * 1)) [v] K := S.put 9 rfl h0 h1 hv hk
theorem Sep.in9 {R0 R1 R2 R3 R4 R5 R6 R7 R8 : Asr} {a : Option Addr} {n c : Nat} {k : IntKind} {xs : List Int} (S : Sep E w0 w (R0 :: R1 :: R2 :: R3 :: R4 :: R5 :: R6 :: R7 :: R8 :: OwnA e 1 a n c (xs.map (Value.int k)) :: Rs)) : Ints w k a n c xs := S.ints 9 rfl
theorem Sep.ab9 {R0 R1 R2 R3 R4 R5 R6 R7 R8 : Asr} {a : Option Addr} {n c m : Nat} {xs ys : List Int} {a2 : Option Addr} {c2 : Nat} (S : Sep E w0 w (R0 :: R1 :: R2 :: R3 :: R4 :: R5 :: R6 :: R7 :: R8 :: OwnA e 1 a n c (xs.map (Value.int .u8)) :: Rs)) (hy : Ints w .u8 a2 m c2 ys) (hn : n + m ≤ 140737488351232) {K : Option Addr → Nat → Nat → World → Prop} (hk : ∀ a' c' w', Sep E w0 w' (R0 :: R1 :: R2 :: R3 :: R4 :: R5 :: R6 :: R7 :: R8 :: OwnA e 1 a' (n + m) c' ((xs ++ ys).map (Value.int .u8)) :: Rs) → Fr (fun k => ∃ q : Addr, a = some q ∧ k = q.block) w w' → K a' (n + m) c' w') : AppS w a2 m 1 fun ns => AppV w e 1 1 a n c ns m K :=
  AppS.of (news := ys.map (Value.int .u8)) (by rw [List.length_map, hy.len]; omega) hy.rd (S.ap9 (by rw [List.length_map, hy.len]; omega) (oneAll.ints _ _) (by omega) (by omega) fun a' c' w' S' f => hk a' c' w' (by rw [List.map_append]; exact S') f)
theorem Sep.ld10 {R0 R1 R2 R3 R4 R5 R6 R7 R8 R9 : Asr} (S : Sep E w0 w (R0 :: R1 :: R2 :: R3 :: R4 :: R5 :: R6 :: R7 :: R8 :: R9 :: BoxA b e vs :: Rs)) {j : Nat} {h : SS} {v : Value} {x : h.T} (hv : vs[j]? = some v) (hr : h.rd v = some x) {K : h.T → Prop} (hk : K x) : LoadS w ⟨b, j, none⟩ h K := S.ldR (i := 10) rfl hv hr hk
theorem Sep.la10 {R0 R1 R2 R3 R4 R5 R6 R7 R8 R9 : Asr} (S : Sep E w0 w (R0 :: R1 :: R2 :: R3 :: R4 :: R5 :: R6 :: R7 :: R8 :: R9 :: BoxA b e vs :: Rs)) {l : List SS} {x : Tup l} (hr : tupR l vs = some x) {K : Tup l → Prop} (hk : K x) : LoadA w ⟨b, 0, none⟩ l K := S.ldaR (i := 10) rfl hr hk
theorem Sep.lb10 {R0 R1 R2 R3 R4 R5 R6 R7 R8 R9 : Asr} (S : Sep E w0 w (R0 :: R1 :: R2 :: R3 :: R4 :: R5 :: R6 :: R7 :: R8 :: R9 :: BoxA b e vs :: Rs)) {o : Nat} {l : List SS} {x : Tup l} (hr : tupR l ((vs.drop o).take l.length) = some x) {K : Tup l → Prop} (hk : K x) : LoadA w ⟨b, o, none⟩ l K := S.ldaRN (i := 10) rfl hr hk
theorem Sep.st10 {R0 R1 R2 R3 R4 R5 R6 R7 R8 R9 : Asr} (S : Sep E w0 w (R0 :: R1 :: R2 :: R3 :: R4 :: R5 :: R6 :: R7 :: R8 :: R9 :: BoxA b e vs :: Rs)) {news : List Value} (hl : vs.length = news.length) {K : World → Prop} (hk : ∀ w', Sep E w0 w' (R0 :: R1 :: R2 :: R3 :: R4 :: R5 :: R6 :: R7 :: R8 :: R9 :: BoxA b e news :: Rs) → Fr (fun k => k = b) w w' → K w') : StoreV w ⟨b, 0, none⟩ news K := S.storeR (i := 10) rfl hl hk
theorem Sep.su10 {R0 R1 R2 R3 R4 R5 R6 R7 R8 R9 : Asr} (S : Sep E w0 w (R0 :: R1 :: R2 :: R3 :: R4 :: R5 :: R6 :: R7 :: R8 :: R9 :: BoxA b e vs :: Rs)) {j : Nat} {v : Value} (hl : Nat.blt j vs.length = true) {K : World → Prop} (hk : ∀ w', Sep E w0 w' (R0 :: R1 :: R2 :: R3 :: R4 :: R5 :: R6 :: R7 :: R8 :: R9 :: BoxA b e (vs.set j v) :: Rs) → Fr (fun k => k = b) w w' → K w') : StoreV w ⟨b, j, none⟩ [v] K := S.storeR1 (i := 10) rfl (by simpa [Nat.blt_eq] using hl) hk
theorem Sep.bl10 {R0 R1 R2 R3 R4 R5 R6 R7 R8 R9 : Asr} (S : Sep E w0 w (R0 :: R1 :: R2 :: R3 :: R4 :: R5 :: R6 :: R7 :: R8 :: R9 :: BoxA b e vs :: Rs)) : b < w.heap.size := S.lt 10 rfl
theorem Sep.ap10 {R0 R1 R2 R3 R4 R5 R6 R7 R8 R9 : Asr} {sz by' : Nat} {a : Option Addr} {n c m : Nat} {news : List Value} (S : Sep E w0 w (R0 :: R1 :: R2 :: R3 :: R4 :: R5 :: R6 :: R7 :: R8 :: R9 :: OwnA e sz a n c vs :: Rs)) (hl : news.length = m * sz) (h1 : oneAll news) (hby : (2 * (n + m) + 256) * by' ≤ 281474976710656) (h63 : n + m ≤ 9223372036854775807) {K : Option Addr → Nat → Nat → World → Prop} (hk : ∀ a' c' w', Sep E w0 w' (R0 :: R1 :: R2 :: R3 :: R4 :: R5 :: R6 :: R7 :: R8 :: R9 :: OwnA e sz a' (n + m) c' (vs ++ news) :: Rs) → Fr (fun k => ∃ q : Addr, a = some q ∧ k = q.block) w w' → K a' (n + m) c' w') : AppV w e sz by' a n c news m K := S.app 10 rfl hl h1 hby h63 hk
theorem Sep.pu10 {R0 R1 R2 R3 R4 R5 R6 R7 R8 R9 : Asr} {a : Option Addr} {n c : Nat} (S : Sep E w0 w (R0 :: R1 :: R2 :: R3 :: R4 :: R5 :: R6 :: R7 :: R8 :: R9 :: OwnA e 1 a n c vs :: Rs)) {j : Int} (h0 : 0 ≤ j) (h1 : j < (n : Int)) {v : Value} (hv : v.oneCell' = true) {K : World → Prop} (hk : ∀ w', Sep E w0 w' (R0 :: R1 :: R2 :: R3 :: R4 :: R5 :: R6 :: R7 :: R8 :: R9 :: OwnA e 1 a n c (vs.set j.toNat v) :: Rs) → Fr (fun k => ∃ q : Addr, a = some q ∧ k = q.block) w w' → K w') : (0 ≤ j ∧ j < (n : Int)) ∧ ∃ q, a = some q ∧ StoreV w (q.add (j.toNat * 1)) [v] K := S.put 10 rfl h0 h1 hv hk
theorem Sep.in10 {R0 R1 R2 R3 R4 R5 R6 R7 R8 R9 : Asr} {a : Option Addr} {n c : Nat} {k : IntKind} {xs : List Int} (S : Sep E w0 w (R0 :: R1 :: R2 :: R3 :: R4 :: R5 :: R6 :: R7 :: R8 :: R9 :: OwnA e 1 a n c (xs.map (Value.int k)) :: Rs)) : Ints w k a n c xs := S.ints 10 rfl
theorem Sep.ab10 {R0 R1 R2 R3 R4 R5 R6 R7 R8 R9 : Asr} {a : Option Addr} {n c m : Nat} {xs ys : List Int} {a2 : Option Addr} {c2 : Nat} (S : Sep E w0 w (R0 :: R1 :: R2 :: R3 :: R4 :: R5 :: R6 :: R7 :: R8 :: R9 :: OwnA e 1 a n c (xs.map (Value.int .u8)) :: Rs)) (hy : Ints w .u8 a2 m c2 ys) (hn : n + m ≤ 140737488351232) {K : Option Addr → Nat → Nat → World → Prop} (hk : ∀ a' c' w', Sep E w0 w' (R0 :: R1 :: R2 :: R3 :: R4 :: R5 :: R6 :: R7 :: R8 :: R9 :: OwnA e 1 a' (n + m) c' ((xs ++ ys).map (Value.int .u8)) :: Rs) → Fr (fun k => ∃ q : Addr, a = some q ∧ k = q.block) w w' → K a' (n + m) c' w') : AppS w a2 m 1 fun ns => AppV w e 1 1 a n c ns m K :=
  AppS.of (news := ys.map (Value.int .u8)) (by rw [List.length_map, hy.len]; omega) hy.rd (S.ap10 (by rw [List.length_map, hy.len]; omega) (oneAll.ints _ _) (by omega) (by omega) fun a' c' w' S' f => hk a' c' w' (by rw [List.map_append]; exact S') f)
theorem Sep.ld11 {R0 R1 R2 R3 R4 R5 R6 R7 R8 R9 R10 : Asr} (S : Sep E w0 w (R0 :: R1 :: R2 :: R3 :: R4 :: R5 :: R6 :: R7 :: R8 :: R9 :: R10 :: BoxA b e vs :: Rs)) {j : Nat} {h : SS} {v : Value} {x : h.T} (hv : vs[j]? = some v) (hr : h.rd v = some x) {K : h.T → Prop} (hk : K x) : LoadS w ⟨b, j, none⟩ h K := S.ldR (i := 11) rfl hv hr hk
theorem Sep.la11 {R0 R1 R2 R3 R4 R5 R6 R7 R8 R9 R10 : Asr} (S : Sep E w0 w (R0 :: R1 :: R2 :: R3 :: R4 :: R5 :: R6 :: R7 :: R8 :: R9 :: R10 :: BoxA b e vs :: Rs)) {l : List SS} {x : Tup l} (hr : tupR l vs = some x) {K : Tup l → Prop} (hk : K x) : LoadA w ⟨b, 0, none⟩ l K := S.ldaR (i := 11) rfl hr hk
theorem Sep.lb11 {R0 R1 R2 R3 R4 R5 R6 R7 R8 R9 R10 : Asr} (S : Sep E w0 w (R0 :: R1 :: R2 :: R3 :: R4 :: R5 :: R6 :: R7 :: R8 :: R9 :: R10 :: BoxA b e vs :: Rs)) {o : Nat} {l : List SS} {x : Tup l} (hr : tupR l ((vs.drop o).take l.length) = some x) {K : Tup l → Prop} (hk : K x) : LoadA w ⟨b, o, none⟩ l K := S.ldaRN (i := 11) rfl hr hk
theorem Sep.st11 {R0 R1 R2 R3 R4 R5 R6 R7 R8 R9 R10 : Asr} (S : Sep E w0 w (R0 :: R1 :: R2 :: R3 :: R4 :: R5 :: R6 :: R7 :: R8 :: R9 :: R10 :: BoxA b e vs :: Rs)) {news : List Value} (hl : vs.length = news.length) {K : World → Prop} (hk : ∀ w', Sep E w0 w' (R0 :: R1 :: R2 :: R3 :: R4 :: R5 :: R6 :: R7 :: R8 :: R9 :: R10 :: BoxA b e news :: Rs) → Fr (fun k => k = b) w w' → K w') : StoreV w ⟨b, 0, none⟩ news K := S.storeR (i := 11) rfl hl hk
theorem Sep.su11 {R0 R1 R2 R3 R4 R5 R6 R7 R8 R9 R10 : Asr} (S : Sep E w0 w (R0 :: R1 :: R2 :: R3 :: R4 :: R5 :: R6 :: R7 :: R8 :: R9 :: R10 :: BoxA b e vs :: Rs)) {j : Nat} {v : Value} (hl : Nat.blt j vs.length = true) {K : World → Prop} (hk : ∀ w', Sep E w0 w' (R0 :: R1 :: R2 :: R3 :: R4 :: R5 :: R6 :: R7 :: R8 :: R9 :: R10 :: BoxA b e (vs.set j v) :: Rs) → Fr (fun k => k = b) w w' → K w') : StoreV w ⟨b, j, none⟩ [v] K := S.storeR1 (i := 11) rfl (by simpa [Nat.blt_eq] using hl) hk
theorem Sep.bl11 {R0 R1 R2 R3 R4 R5 R6 R7 R8 R9 R10 : Asr} (S : Sep E w0 w (R0 :: R1 :: R2 :: R3 :: R4 :: R5 :: R6 :: R7 :: R8 :: R9 :: R10 :: BoxA b e vs :: Rs)) : b < w.heap.size := S.lt 11 rfl
theorem Sep.ap11 {R0 R1 R2 R3 R4 R5 R6 R7 R8 R9 R10 : Asr} {sz by' : Nat} {a : Option Addr} {n c m : Nat} {news : List Value} (S : Sep E w0 w (R0 :: R1 :: R2 :: R3 :: R4 :: R5 :: R6 :: R7 :: R8 :: R9 :: R10 :: OwnA e sz a n c vs :: Rs)) (hl : news.length = m * sz) (h1 : oneAll news) (hby : (2 * (n + m) + 256) * by' ≤ 281474976710656) (h63 : n + m ≤ 9223372036854775807) {K : Option Addr → Nat → Nat → World → Prop} (hk : ∀ a' c' w', Sep E w0 w' (R0 :: R1 :: R2 :: R3 :: R4 :: R5 :: R6 :: R7 :: R8 :: R9 :: R10 :: OwnA e sz a' (n + m) c' (vs ++ news) :: Rs) → Fr (fun k => ∃ q : Addr, a = some q ∧ k = q.block) w w' → K a' (n + m) c' w') : AppV w e sz by' a n c news m K := S.app 11 rfl hl h1 hby h63 hk
theorem Sep.pu11 {R0 R1 R2 R3 R4 R5 R6 R7 R8 R9 R10 : Asr} {a : Option Addr} {n c : Nat} (S : Sep E w0 w (R0 :: R1 :: R2 :: R3 :: R4 :: R5 :: R6 :: R7 :: R8 :: R9 :: R10 :: OwnA e 1 a n c vs :: Rs)) {j : Int} (h0 : 0 ≤ j) (h1 : j < (n : Int)) {v : Value} (hv : v.oneCell' = true) {K : World → Prop} (hk : ∀ w', Sep E w0 w' (R0 :: R1 :: R2 :: R3 :: R4 :: R5 :: R6 :: R7 :: R8 :: R9 :: R10 :: OwnA e 1 a n c (vs.set j.toNat v) :: Rs) → Fr (fun k => ∃ q : Addr, a = some q ∧ k = q.block) w w' → K w') : (0 ≤ j ∧ j < (n : Int)) ∧ ∃ q, a = some q ∧ StoreV w (q.add (j.toNat * 1)) [v] K := S.put 11 rfl h0 h1 hv hk
theorem Sep.in11 {R0 R1 R2 R3 R4 R5 R6 R7 R8 R9 R10 : Asr} {a : Option Addr} {n c : Nat} {k : IntKind} {xs : List Int} (S : Sep E w0 w (R0 :: R1 :: R2 :: R3 :: R4 :: R5 :: R6 :: R7 :: R8 :: R9 :: R10 :: OwnA e 1 a n c (xs.map (Value.int k)) :: Rs)) : Ints w k a n c xs := S.ints 11 rfl
theorem Sep.ab11 {R0 R1 R2 R3 R4 R5 R6 R7 R8 R9 R10 : Asr} {a : Option Addr} {n c m : Nat} {xs ys : List Int} {a2 : Option Addr} {c2 : Nat} (S : Sep E w0 w (R0 :: R1 :: R2 :: R3 :: R4 :: R5 :: R6 :: R7 :: R8 :: R9 :: R10 :: OwnA e 1 a n c (xs.map (Value.int .u8)) :: Rs)) (hy : Ints w .u8 a2 m c2 ys) (hn : n + m ≤ 140737488351232) {K : Option Addr → Nat → Nat → World → Prop} (hk : ∀ a' c' w', Sep E w0 w' (R0 :: R1 :: R2 :: R3 :: R4 :: R5 :: R6 :: R7 :: R8 :: R9 :: R10 :: OwnA e 1 a' (n + m) c' ((xs ++ ys).map (Value.int .u8)) :: Rs) → Fr (fun k => ∃ q : Addr, a = some q ∧ k = q.block) w w' → K a' (n + m) c' w') : AppS w a2 m 1 fun ns => AppV w e 1 1 a n c ns m K :=
  AppS.of (news := ys.map (Value.int .u8)) (by rw [List.length_map, hy.len]; omega) hy.rd (S.ap11 (by rw [List.length_map, hy.len]; omega) (oneAll.ints _ _) (by omega) (by omega) fun a' c' w' S' f => hk a' c' w' (by rw [List.map_append]; exact S') f)
end
end Go.Eng

/-! Calls and single elements in the separate parts. -/
namespace Go.Eng
open Go
set_option linter.unusedVariables false
set_option linter.unusedSimpArgs false

/-- Nothing. -/
def emp : Asr := ⟨fun _ _ => True, fun _ _ => trivial⟩
section
variable {E : Nat → Prop} {w0 w w' : World} {Rs Ts : List Asr}
theorem Sep.emp (S : Sep E w0 w Rs) : Sep E w0 w (Go.Eng.emp :: Rs) := S.push (F := NoB) (Fr.refl _ _) trivial fun _ x => x.elim
/-- A call that owns the first parts. -/
theorem Sep.call {P : Program} {g : FuncId} {args : Array Value} {l : List Sh} (Rs : List Asr) {Ts : List Asr} (S : Sep E w0 w (Rs ++ Ts)) {C : (Nat → Prop) → RT l → World → Prop}
    (hc : ∀ F, Sep F w w Rs → CallV P g args w l fun r w' => C F r w') {K : RT l → World → Prop}
    (hk : ∀ F, (∀ w' Ls, Sep F w w' Ls → Sep E w0 w' (Ls ++ Ts)) → ∀ r w', C F r w' → K r w') : CallV P g args w l K := by
  obtain ⟨F, h1, h2, h3⟩ := S.frame
  exact (hc F (Sep.begin h1 h2)).mono fun r w' h => hk F h3 r w' h
/-- A slice of one's own is a block. -/
theorem Sep.focus {e : TypeId} {sz : Nat} {a : Option Addr} {n c : Nat} {vs : List Value} (S : Sep E w0 w (OwnA e sz a n c vs :: Rs)) (hn : vs ≠ []) :
    ∃ b tl, a = some ⟨b, 0, none⟩ ∧ vs.length = n * sz ∧ (vs ++ tl).length = c * sz ∧ n ≤ c ∧ n ≤ 9223372036854775807 ∧ oneAll vs ∧ Sep E w0 w (BoxA b e (vs ++ tl) :: Rs) := by
  have ho := S.own 0 rfl
  rcases ho.at_ with ⟨_, _, h⟩ | ⟨b, cs, h1, h2, h3, h4, h5⟩
  · exact absurd h hn
  · have he : vs ++ cs.toList.drop vs.length = cs.toList := by conv => rhs; rw [← List.take_append_drop vs.length cs.toList, h5]
    refine ⟨b, cs.toList.drop vs.length, h1, ho.len, by rw [he]; exact h4, ho.cap, ho.lim, ho.one, S.conv fun F h _ => ⟨h.2 _ h1, ?_⟩⟩
    rw [he, Array.toArray_toList]
    exact h3
theorem Sep.unfocus {e : TypeId} {sz : Nat} {n c b : Nat} {vs tl : List Value} (S : Sep E w0 w (BoxA b e (vs ++ tl) :: Rs)) (h1 : vs.length = n * sz) (h2 : (vs ++ tl).length = c * sz) (h3 : n ≤ c) (h4 : n ≤ 9223372036854775807) (h5 : oneAll vs) : Sep E w0 w (OwnA e sz (some ⟨b, 0, none⟩) n c vs :: Rs) :=
  S.conv fun F ⟨hF, h⟩ _ => ⟨⟨h1, h3, h4, h5, .inr ⟨b, (vs ++ tl).toArray, rfl, Nat.zero_le _, h, by simpa using h2, by simp⟩⟩, fun q hq => by cases hq; exact hF⟩
theorem splice_mid {pre xs post news : List Value} {o j : Nat} (ho : o = pre.length) (h : j + news.length ≤ xs.length) :
    (pre ++ (xs ++ post)).take (o + j) ++ (news ++ (pre ++ (xs ++ post)).drop (o + j + news.length)) = pre ++ ((xs.take j ++ (news ++ xs.drop (j + news.length))) ++ post) := by
  subst ho
  rw [List.take_append, List.take_of_length_le (by omega), show pre.length + j - pre.length = j by omega, List.take_append_of_le_length (by omega), show pre.length + j + news.length = pre.length + (j + news.length) by omega,
    ← List.drop_drop, List.drop_append_of_le_length (Nat.le_refl _), List.drop_length, List.nil_append, List.drop_append_of_le_length h]
  simp
variable {b o : Nat} {e : TypeId} {pre xs post : List Value}
theorem Sep.stM (i : Nat) (j : Nat) (S : Sep E w0 w Rs) (hi : Rs[i]? = some (BoxA b e (pre ++ (xs ++ post)))) (ho : o = pre.length) {news : List Value} (hl : j + news.length ≤ xs.length) {K : World → Prop}
    (hk : ∀ w', Sep E w0 w' (Rs.set i (BoxA b e (pre ++ ((xs.take j ++ (news ++ xs.drop (j + news.length))) ++ post)))) → Fr (fun k => k = b) w w' → K w') : StoreV w ((⟨b, o, none⟩ : Addr).add j) news K := by
  rw [show (⟨b, o, none⟩ : Addr).add j = ⟨b, o + j, none⟩ by simp [Addr.add_lit]]
  refine S.store i hi (o + j) (by subst ho; simp only [List.length_append]; omega) fun w' S f => hk w' ?_ f
  rw [← splice_mid ho hl]
  exact S
theorem Sep.stM0 (i : Nat) (S : Sep E w0 w Rs) (hi : Rs[i]? = some (BoxA b e (pre ++ (xs ++ post)))) (ho : o = pre.length) {news : List Value} (hl : news.length ≤ xs.length) {K : World → Prop}
    (hk : ∀ w', Sep E w0 w' (Rs.set i (BoxA b e (pre ++ ((news ++ xs.drop news.length) ++ post)))) → Fr (fun k => k = b) w w' → K w') : StoreV w (⟨b, o, none⟩ : Addr) news K := by
  have := S.stM i 0 hi ho (news := news) (by omega) (K := K) (by simpa using hk)
  rwa [show (⟨b, o, none⟩ : Addr).add 0 = ⟨b, o, none⟩ by simp [Addr.add_lit]] at this
theorem Sep.cellsM (i : Nat) (S : Sep E w0 w Rs) (hi : Rs[i]? = some (BoxA b e (pre ++ (xs ++ post)))) (ho : o = pre.length) : CellsAt w ⟨b, o, none⟩ xs := by
  have h := (S.cells i hi)
  intro j v hv
  have hj : j < xs.length := (List.getElem?_eq_some_iff.1 hv).1
  have := h (pre.length + j) v (by rw [List.getElem?_append_right (by omega), show pre.length + j - pre.length = j by omega, List.getElem?_append_left hj]; exact hv)
  rw [show (⟨b, 0, none⟩ : Addr).add (pre.length + j) = (⟨b, o, none⟩ : Addr).add j by subst ho; simp [Addr.add_lit]] at this
  exact this
theorem Sep.ldM (i : Nat) (j : Nat) (S : Sep E w0 w Rs) (hi : Rs[i]? = some (BoxA b e (pre ++ (xs ++ post)))) (ho : o = pre.length) {h : SS} {v : Value} {x : h.T} (hv : xs[j]? = some v) (hr : h.rd v = some x) {K : h.T → Prop} (hk : K x) : LoadS w ((⟨b, o, none⟩ : Addr).add j) h K :=
  ⟨x, by rw [← SS.rd_v hr]; exact S.cellsM i hi ho j v hv, hk⟩
theorem Sep.ldM0 (i : Nat) (S : Sep E w0 w Rs) (hi : Rs[i]? = some (BoxA b e (pre ++ (xs ++ post)))) (ho : o = pre.length) {h : SS} {v : Value} {x : h.T} (hv : xs[0]? = some v) (hr : h.rd v = some x) {K : h.T → Prop} (hk : K x) : LoadS w (⟨b, o, none⟩ : Addr) h K := by
  have := S.ldM i 0 hi ho hv hr hk
  rwa [show (⟨b, o, none⟩ : Addr).add 0 = ⟨b, o, none⟩ by simp [Addr.add_lit]] at this
end
/-- A variable read from cells. -/
theorem ldc {w : World} {p : Addr} {vs : List Value} (hc : CellsAt w p vs) (j : Nat) {h : SS} {x : h.T} (hv : vs[j]? = some (h.v x)) {K : h.T → Prop} (hk : K x) : LoadS w (p.add j) h K := ⟨x, hc j _ hv, hk⟩
theorem flat_mid {α β : Type} {f : α → List β} {L : List α} {i : Nat} {y z : α} (hy : L[i]? = some y) : L.flatMap f = (L.take i).flatMap f ++ (f y ++ (L.drop (i + 1)).flatMap f) ∧ (L.set i z).flatMap f = (L.take i).flatMap f ++ (f z ++ (L.drop (i + 1)).flatMap f) := by
  have hi : i < L.length := (List.getElem?_eq_some_iff.1 hy).1
  have he : L[i] = y := (List.getElem?_eq_some_iff.1 hy).2
  constructor
  · conv => lhs; rw [← List.take_append_drop i L, List.drop_eq_getElem_cons hi, he]
    rw [List.flatMap_append, List.flatMap_cons]
  · rw [List.set_eq_take_append_cons_drop, if_pos hi, List.flatMap_append, List.flatMap_cons]

section
variable {E : Nat → Prop} {w0 w w' : World} {Rs Ts : List Asr} {α : Type} {f : α → List Value} {m : Nat} {e : TypeId} {a : Option Addr} {n c : Nat} {L : List α}
theorem flatF_len (hm : ∀ x, (f x).length = m) (L : List α) : (L.flatMap f).length = L.length * m := by
  induction L with
  | nil => simp
  | cons x L ih => rw [List.flatMap_cons, List.length_append, hm, ih, List.length_cons, Nat.add_mul]; omega
theorem flatF_one (h1 : ∀ x, oneAll (f x)) (L : List α) : oneAll (L.flatMap f) := fun u hu => by
  obtain ⟨x, -, hx⟩ := List.mem_flatMap.1 hu
  exact h1 x u hx
/-- An element of one's own slice is read. -/
theorem Sep.nthF (i : Nat) (S : Sep E w0 w Rs) (hi : Rs[i]? = some (OwnA e m a n c (L.flatMap f))) (hm : ∀ x, (f x).length = m) (hp : 0 < m) {j : Int} (h0 : 0 ≤ j) (h1 : j < (n : Int)) :
    ∃ q x, a = some q ∧ L[j.toNat]? = some x ∧ CellsAt w (q.add (j.toNat * m)) (f x) := by
  have ho := S.own i hi
  have hl := ho.len
  rw [flatF_len hm] at hl
  have hl : L.length = n := Nat.eq_of_mul_eq_mul_right hp hl
  have hj : j.toNat < L.length := by omega
  rcases ho.rd with ⟨_, h2⟩ | ⟨q, h2, h3⟩
  · have := congrArg List.length h2
    rw [flatF_len hm, List.length_nil] at this
    rcases Nat.mul_eq_zero.1 this with h | h <;> omega
  · refine ⟨q, L[j.toNat], h2, List.getElem?_eq_getElem hj, ?_⟩
    obtain ⟨m1, -⟩ := flat_mid (f := f) (z := L[j.toNat]) (List.getElem?_eq_getElem hj)
    rw [m1] at h3
    have h4 := (h3.drop (j.toNat * m)).take m
    rw [List.drop_append_of_le_length (by rw [flatF_len hm, List.length_take, Nat.min_eq_left (by omega)]; exact Nat.le_refl _), List.drop_eq_nil_of_le (by rw [flatF_len hm, List.length_take, Nat.min_eq_left (by omega)]; exact Nat.le_refl _), List.nil_append, List.take_append_of_le_length (by rw [hm]; exact Nat.le_refl _), List.take_of_length_le (by rw [hm]; exact Nat.le_refl _)] at h4
    exact h4
/-- An element of one's own slice is written. -/
theorem Sep.putF (S : Sep E w0 w (OwnA e m a n c (L.flatMap f) :: Rs)) (hm : ∀ x, (f x).length = m) (h1 : ∀ x, oneAll (f x)) (hp : 0 < m) {j : Int} (hj : 0 ≤ j ∧ j < (n : Int)) (y : α) {K : World → Prop}
    (hk : ∀ w', Sep E w0 w' (OwnA e m a n c ((L.set j.toNat y).flatMap f) :: Rs) → Fr (fun k => ∃ q : Addr, a = some q ∧ k = q.block) w w' → K w') : ∃ q, a = some q ∧ StoreV w (q.add (j.toNat * m)) (f y) K := by
  have hl := (S.own 0 rfl).len
  rw [flatF_len hm] at hl
  have hl : L.length = n := Nat.eq_of_mul_eq_mul_right hp hl
  have hj' : j.toNat < L.length := by omega
  obtain ⟨m1, m2⟩ := flat_mid (f := f) (z := y) (List.getElem?_eq_getElem hj')
  obtain ⟨b, tl, ha, q1, q2, q3, q4, q5, S1⟩ := S.focus (by
    intro h
    have := congrArg List.length h
    rw [flatF_len hm, List.length_nil] at this
    rcases Nat.mul_eq_zero.1 this with h | h <;> omega)
  subst ha
  refine ⟨_, rfl, ?_⟩
  rw [show (⟨b, 0, none⟩ : Addr).add (j.toNat * m) = ⟨b, j.toNat * m, none⟩ by simp [Addr.add_lit]]
  rw [m1, List.append_assoc, List.append_assoc] at S1
  refine S1.stM0 0 rfl (by rw [flatF_len hm, List.length_take, Nat.min_eq_left (by omega)]) (by rw [hm, hm]; exact Nat.le_refl _) fun w' S2 f2 => hk w' ?_ (f2.mono fun k hk => ⟨_, rfl, hk⟩)
  have S2 : Sep E w0 w' (BoxA b e (((L.set j.toNat y).flatMap f) ++ tl) :: Rs) := by
    rw [m2, List.append_assoc, List.append_assoc]
    have hd : (f L[j.toNat]).drop (f y).length = [] := List.drop_eq_nil_of_le (by rw [hm, hm]; exact Nat.le_refl _)
    rw [hd, List.append_nil] at S2
    exact S2
  have hl2 : ((L.set j.toNat y).flatMap f).length = n * m := by rw [flatF_len hm, List.length_set, hl]
  exact S2.unfocus (n := n) (c := c) (sz := m) hl2 (by rw [List.length_append, hl2, ← q2, List.length_append, q1]) q3 q4 (flatF_one h1 _)
end

section
variable {E : Nat → Prop} {w0 w w' : World} {Rs : List Asr}
/-- A box lies elsewhere than a slice of one's own. -/
theorem Sep.neO (S : Sep E w0 w Rs) (i j : Nat) {b : Nat} {e e2 : TypeId} {vs us : List Value} {sz n c : Nat} {a : Option Addr} (hij : i ≠ j) (hi : Rs[i]? = some (BoxA b e vs)) (hj : Rs[j]? = some (OwnA e2 sz a n c us)) (q : Addr) (hq : a = some q) : b ≠ q.block := by
  obtain ⟨F, h, _⟩ := S.ex
  obtain ⟨F1, F2, h1, h2, h3, _⟩ := StarP.perm (perm_front hi) h
  have : (Rs.eraseIdx i)[if j < i then j else j - 1]? = some (OwnA e2 sz a n c us) := by
    split
    · rw [List.getElem?_eraseIdx_of_lt (by omega)]; exact hj
    · rw [List.getElem?_eraseIdx_of_ge (by omega), show j - 1 + 1 = j by omega]; exact hj
  obtain ⟨G, g1, g2⟩ := StarP.get this h2
  intro e
  exact h3 b h1.1 (g2 b (by rw [e]; exact g1.2 q hq))
/-- copy into the middle of a block. -/
theorem Sep.cpM (i : Nat) {b o : Nat} {e : TypeId} {pre xs post news : List Value} (S : Sep E w0 w Rs) (hi : Rs[i]? = some (BoxA b e (pre ++ (xs ++ post)))) (ho : o = pre.length) {src : Option Addr} {k : Nat} (hk : k = xs.length) (hl : news.length = xs.length) (hr : RdC w src news) (h1 : oneAll news) {K : World → Prop}
    (hK : ∀ w', Sep E w0 w' (Rs.set i (BoxA b e (pre ++ (news ++ post)))) → Fr (fun k => k = b) w w' → K w') : CopyV w (some ⟨b, o, none⟩) src k 1 K := by
  refine ⟨news, by omega, hr, h1, .inr ⟨_, rfl, ?_⟩⟩
  refine S.stM0 i hi ho (news := news) (by omega) fun w' S' f => hK w' ?_ f
  rw [hl, List.drop_length, List.append_nil] at S'
  exact S'
theorem Sep.intsM (i : Nat) {b o : Nat} {e : TypeId} {k : IntKind} {pre post : List Value} {xs : List Int} (S : Sep E w0 w Rs) (hi : Rs[i]? = some (BoxA b e (pre ++ (xs.map (Value.int k) ++ post)))) (ho : o = pre.length) {n c : Nat} (hn : n = xs.length) (hc : n ≤ c) (hlim : n ≤ 9223372036854775807) : Ints w k (some ⟨b, o, none⟩) n c xs :=
  ⟨hn.symm, hc, hlim, .inr ⟨_, rfl, S.cellsM i hi ho⟩⟩
end

end Go.Eng

/-! Plain laws of layer 13 (nand): an array of pages, what each operation makes of it. -/
namespace Go.Proofs.Ytfpkaebmiojicaa.Vc
open Go Go.Eng Go.RowKit
set_option linter.unusedVariables false
set_option linter.unusedSimpArgs false

/-! ### Lists of lists of one length -/
section
variable {α β : Type} {f : α → List β} {m : Nat}
theorem fl_len : ∀ {l : List α}, (∀ x ∈ l, (f x).length = m) → (l.flatMap f).length = l.length * m
  | [], _ => by simp
  | x :: l, h => by rw [List.flatMap_cons, List.length_append, h x List.mem_cons_self, fl_len fun y hy => h y (List.mem_cons_of_mem _ hy), List.length_cons, Nat.add_mul]; omega
theorem fl_split {l : List α} {i : Nat} {x : α} (hi : l[i]? = some x) : l.flatMap f = (l.take i).flatMap f ++ (f x ++ (l.drop (i + 1)).flatMap f) := (flat_mid (z := x) hi).1
theorem fl_set {l : List α} {i : Nat} {x y : α} (hi : l[i]? = some x) : (l.set i y).flatMap f = (l.take i).flatMap f ++ (f y ++ (l.drop (i + 1)).flatMap f) := (flat_mid (z := y) hi).2
theorem fl_take {l : List α} (h : ∀ x ∈ l, (f x).length = m) {i : Nat} (hi : i ≤ l.length) : ((l.take i).flatMap f).length = i * m := by
  rw [fl_len fun x hx => h x (List.mem_of_mem_take hx), List.length_take, Nat.min_eq_left hi]
theorem fl_get {l : List α} (h : ∀ x ∈ l, (f x).length = m) {i j : Nat} {x : α} (hi : l[i]? = some x) (hj : j < m) : (l.flatMap f)[i * m + j]? = (f x)[j]? := by
  have hl : i < l.length := (List.getElem?_eq_some_iff.1 hi).1
  have hx := h x (List.mem_of_getElem? hi)
  rw [fl_split hi, List.getElem?_append_right (by rw [fl_take h (by omega)]; omega), fl_take h (by omega), List.getElem?_append_left (by omega)]
  congr 1
  omega
theorem fl_put {l : List α} (h : ∀ x ∈ l, (f x).length = m) {i j : Nat} {x y : α} {v : β} (hi : l[i]? = some x) (hj : j < m) (hy : f y = (f x).set j v) : (l.set i y).flatMap f = (l.flatMap f).set (i * m + j) v := by
  have hl : i < l.length := (List.getElem?_eq_some_iff.1 hi).1
  have hx := h x (List.mem_of_getElem? hi)
  rw [fl_set hi, fl_split hi, List.set_append_right _ _ (by rw [fl_take h (by omega)]; omega), fl_take h (by omega), List.set_append_left _ _ (by omega), hy]
  congr 3
  omega
end
theorem getD_some {α : Type} {l : List α} {i : Nat} {d x : α} (h : l[i]? = some x) : l.getD i d = x := by rw [List.getD_eq_getElem?_getD, h]; rfl
theorem some_getD {α : Type} {l : List α} {i : Nat} {d : α} (h : i < l.length) : l[i]? = some (l.getD i d) := by rw [List.getD_eq_getElem?_getD, List.getElem?_eq_getElem h]; rfl

/-! ### An array -/
structure BD where
  pg : List (List Int)
  us : List Int
  la : Int
  sc : Bool
  er : Int
instance : Inhabited BD := ⟨⟨[], [], 0, false, 0⟩⟩
structure CD where
  g : Geo
  bs : List BD
  pl : List FD
  off : Bool
  ops : Nat
abbrev szP (g : Geo) : Nat := (g.s + 88).toNat
def LG (g : Geo) : Prop := g.b ≤ 16 ∧ g.p ≤ 20 ∧ g.s ≤ 128
instance (g : Geo) : Decidable (LG g) := by unfold LG; infer_instance
structure BOk (g : Geo) (m : Nat) (x : BD) : Prop where
  pl : x.pg.length = g.p.toNat
  pb : ∀ q ∈ x.pg, q.length = szP g ∧ Byt q
  ul : x.us.length = g.p.toNat
  ub : ∀ u ∈ x.us, 0 ≤ u ∧ u ≤ 2
  la : -1 ≤ x.la ∧ x.la < g.p
  er : 0 ≤ x.er ∧ x.er ≤ m
structure COk (C : CD) : Prop where
  g : Right C.g
  lg : LG C.g
  bl : C.bs.length = C.g.b.toNat
  bo : ∀ x ∈ C.bs, BOk C.g C.ops x
  pm : ∀ f ∈ C.pl, Byt f.2.2.1 ∧ f.2.2.1.length ≤ 140737488351232
  ops : C.ops ≤ 1000000
def blankB (g : Geo) : BD := ⟨List.replicate g.p.toNat (List.replicate (szP g) 255), List.replicate g.p.toNat 0, -1, false, 0⟩
def newC (g : Geo) (pl : List FD) : CD := ⟨g, List.replicate g.b.toNat (blankB g), pl, false, 0⟩
theorem blankB_ok (g : Geo) (h : Right g) (m : Nat) : BOk g m (blankB g) := by
  have h1 := h.1.2.1
  refine ⟨by simp [blankB], fun q hq => ?_, by simp [blankB], fun u hu => ?_, ⟨by show (-1 : Int) ≤ -1; omega, by show (-1 : Int) < g.p; omega⟩, ⟨by show (0 : Int) ≤ 0; omega, by show (0 : Int) ≤ _; omega⟩⟩
  · rw [(List.mem_replicate.1 hq).2]
    exact ⟨by simp, Byt.replicate (by decide) (by decide) _⟩
  · rw [(List.mem_replicate.1 hu).2]; decide
theorem newC_ok {g : Geo} {pl : List FD} (h : Right g) (hl : LG g) (hp : ∀ f ∈ pl, Byt f.2.2.1 ∧ f.2.2.1.length ≤ 140737488351232) : COk (newC g pl) :=
  ⟨h, hl, by simp [newC], fun x hx => by rw [(List.mem_replicate.1 hx).2]; exact blankB_ok g h _, hp, by show 0 ≤ 1000000; omega⟩

/-- What an operation comes to: its answer, the fault's mask, does the power go? -/
def codeC (C : CD) : Int × List Int × Bool := match atF C.pl (C.ops : Int) with | none => (0, [], false) | some f => (if f.2.1 then 4 else 5, f.2.2.1, f.2.1)
def progL (was b ms : List Int) (fails : Bool) : List Int := turn was (prF was b ms fails was.length) (8 * was.length)
def eraL (xs ms : List Int) : List Int := turn xs (erF xs ms) (8 * xs.length)
def cutL (all : List Int) (p : Nat) : List (List Int) := (List.range p).map fun i => (all.drop (i * (all.length / p))).take (all.length / p)
def inC (C : CD) (bl pa : Int) : Prop := (0 ≤ bl ∧ bl < C.g.b) ∧ (0 ≤ pa ∧ pa < C.g.p)
instance (C : CD) (bl pa : Int) : Decidable (inC C bl pa) := by unfold inC; infer_instance
abbrev blkC (C : CD) (bl : Int) : BD := C.bs.getD bl.toNat default
abbrev usC (C : CD) (bl pa : Int) : Int := (blkC C bl).us.getD pa.toNat 0
abbrev pgC13 (C : CD) (bl pa : Int) : List Int := (blkC C bl).pg.getD pa.toNat []
/-- Why a page may not be programmed; nought: it may. -/
def refC (C : CD) (bl pa : Int) (n : Nat) : Int :=
  if C.off = true then 4 else if ¬ (inC C bl pa ∧ n = szP C.g) then 2 else if (blkC C bl).sc = true ∨ 2 ≤ usC C bl pa then 7 else if usC C bl pa = 0 ∧ pa ≤ (blkC C bl).la then 6 else 0
def progX (C : CD) (bl pa : Int) (b : List Int) : CD :=
  { C with bs := C.bs.set bl.toNat { blkC C bl with pg := (blkC C bl).pg.set pa.toNat (if (codeC C).1 = 0 then andL (pgC13 C bl pa) b else progL (pgC13 C bl pa) b (codeC C).2.1 (!(codeC C).2.2)), us := (blkC C bl).us.set pa.toNat (usC C bl pa + 1), la := max (blkC C bl).la pa },
           off := (codeC C).2.2, ops := C.ops + 1 }
def progC (C : CD) (bl pa : Int) (b : List Int) : CD × Int := if refC C bl pa b.length = 0 then (progX C bl pa b, (codeC C).1) else (C, refC C bl pa b.length)
def mayC (C : CD) (n : Int) : Int := if C.off = true then 4 else if ¬ (0 ≤ n ∧ n < C.g.b) then 2 else 0
def eraX (C : CD) (n : Int) : CD :=
  { C with bs := C.bs.set n.toNat (if (codeC C).1 = 0 then { blankB C.g with er := (blkC C n).er + 1 } else { blkC C n with pg := cutL (eraL (blkC C n).pg.flatten (codeC C).2.1) C.g.p.toNat, er := (blkC C n).er + 1 }),
           off := (codeC C).2.2, ops := C.ops + 1 }
def eraC (C : CD) (n : Int) : CD × Int := if mayC C n = 0 then (eraX C n, (codeC C).1) else (C, mayC C n)
def scrX (C : CD) (n : Int) : CD :=
  let all := (blkC C n).pg.flatten
  { C with bs := C.bs.set n.toNat { blkC C n with sc := true, pg := cutL (if (codeC C).1 = 0 then List.replicate all.length 0 else progL all (List.replicate all.length 0) (codeC C).2.1 false) C.g.p.toNat },
           off := (codeC C).2.2, ops := C.ops + 1 }
def scrC (C : CD) (n : Int) : CD × Int := if mayC C n = 0 then (scrX C n, (codeC C).1) else (C, mayC C n)
def pokC (C : CD) (bl pa at_ x : Int) : CD × Int :=
  if C.off = false then (C, 4) else if ¬ (inC C bl pa ∧ 0 ≤ at_ ∧ at_ < C.g.s + 88) then (C, 2) else
  ({ C with bs := C.bs.set bl.toNat { blkC C bl with pg := (blkC C bl).pg.set pa.toNat ((pgC13 C bl pa).set at_.toNat x) } }, 0)

theorem code_off (C : CD) : ((codeC C).1 = 0 → (codeC C).2.2 = false ∧ (codeC C).2.1 = []) ∧ ((codeC C).2.2 = true → (codeC C).1 = 4) := by
  unfold codeC
  split
  · exact ⟨fun _ => ⟨rfl, rfl⟩, fun h => by cases h⟩
  · rename_i f _
    refine ⟨fun h => ?_, fun h => ?_⟩
    · dsimp only at h; split at h <;> omega
    · dsimp only at h ⊢; rw [if_pos h]

end Go.Proofs.Ytfpkaebmiojicaa.Vc

/-! Parts and results. -/
namespace Go.Proofs.Ytfpkaebmiojicaa.Vc
open Go Go.Eng Go.RowKit
set_option linter.unusedVariables false
set_option linter.unusedSimpArgs false

theorem Right.sec {g : Geo} (h : Right g) : 32 ≤ g.s ∧ g.s ≤ 4096 := by unfold Right Kept at h; omega

theorem fill_sec {g : Geo} (hs : 32 ≤ g.s ∧ g.s ≤ 4096) : (max 0 (min (65536 : Int) g.s)).toNat = g.s.toNat := by generalize hL : (65536 : Int) = L; omega
theorem _root_.Go.Eng.Sep.res {E : Nat → Prop} {w0 w w' : World} {Rs : List Asr} {s : SlV} {xs : List Int} (S : Sep E w0 w Rs) (h : Res w w' s xs) : Sep E w0 w' (OwnA 5 1 s.a s.n s.c (xs.map (Value.int .u8)) :: Rs) := S.pushO h.ext h.own
/-- The first part as a result. -/
theorem _root_.Go.Eng.Sep.out {w0 w : World} {Rs : List Asr} {a : Option Addr} {n c : Nat} {xs : List Int} (S : Sep NoB w0 w (OwnA 5 1 a n c (xs.map (Value.int .u8)) :: Rs)) : Res w0 w ⟨a, n, c⟩ xs := by
  obtain ⟨F, ⟨h, hF⟩, hb⟩ := S.get (i := 0) rfl
  refine ⟨S.ext, ⟨h.len, h.cap, h.lim, h.one, h.at_.imp id fun ⟨b, cs, h1, h2, h3, h4⟩ => ⟨b, cs, h1, ?_, h3, h4⟩⟩⟩
  exact ((hb _ (hF _ h1)).1.elim (fun x => x.elim) id)

theorem chunks_join (xs : List Int) (s : Nat) : ∀ n : Nat, ((List.range n).map fun i => (xs.drop (i * s)).take s).flatten = xs.take (n * s)
  | 0 => by simp
  | n + 1 => by
    rw [List.range_succ, List.map_append, List.flatten_append, chunks_join xs s n, Nat.add_mul, Nat.one_mul, List.take_add]
    simp

theorem intsNil {w : World} : Ints w .u8 none 0 0 [] := ⟨rfl, Nat.le_refl _, by omega, .inl ⟨rfl, rfl⟩⟩

end Go.Proofs.Ytfpkaebmiojicaa.Vc

/-! Lists of slices of bytes. -/
namespace Go.Proofs.Ytfpkaebmiojicaa.Vc
open Go Go.Eng Go.RowKit
set_option linter.unusedVariables false
set_option linter.unusedSimpArgs false

abbrev TB : Ty := .sl (.int .u8)
abbrev TBB : Ty := .sl TB
abbrev slV (s : SlP Int) : Value := .slice s.a s.n s.c
theorem flat_sl (L : List (SlP Int)) : L.flatMap TB.vs = L.map slV := by
  induction L with
  | nil => rfl
  | cons x L ih => rw [List.flatMap_cons, ih]; rfl
/-- Slices of bytes that are read. -/
def RdL (L : List (SlP Int)) : Asr := ⟨fun w F => ∀ x ∈ L, TB.rd w F x, fun h k x hx => TB.rd_kp (fun i hi _ => k i hi) (h x hx)⟩
theorem maxLen_eq : maxLen = 9223372036854775807 := by decide
theorem own_rd {w : World} {F : Nat → Prop} {a : Option Addr} {n c : Nat} {xs : List Int} (h : (OwnA 5 1 a n c (xs.map (Value.int .u8))).p w F) (bx : Byt xs) : TB.rd w F ⟨a, n, c, xs⟩ := by
  obtain ⟨ho, hF⟩ := h
  have hm := maxLen_eq
  refine ⟨by have := ho.len; simpa using this, ho.cap, by have := ho.lim; show n ≤ maxLen; omega, ?_, fun y hy => rngU8 (bx y hy)⟩
  rw [show xs.flatMap (Ty.int .u8).vs = xs.map (Value.int .u8) from flat_ints .u8 _]
  rcases ho.rd with h | ⟨p, h1, h2⟩
  · exact .inl h
  · exact .inr ⟨p, h1, h2, fun _ => hF p h1⟩
/-- A new page behind pages. -/
theorem _root_.Go.Eng.Sep.addL {E : Nat → Prop} {w0 w : World} {Rs : List Asr} {a : Option Addr} {n c : Nat} {xs : List Int} {L : List (SlP Int)} (S : Sep E w0 w (OwnA 5 1 a n c (xs.map (Value.int .u8)) :: RdL L :: Rs)) (bx : Byt xs) : Sep E w0 w (RdL (L ++ [⟨a, n, c, xs⟩]) :: Rs) :=
  S.conv2 fun F1 F2 h1 h2 _ x hx => by
    rcases List.mem_append.1 hx with h | h
    · exact TB.rd_mono (fun k hk _ => .inr hk) (h2 x h)
    · rw [List.mem_singleton.1 h]
      exact TB.rd_mono (fun k hk _ => .inl hk) (own_rd h1 bx)
theorem _root_.Go.Eng.Sep.nilL {E : Nat → Prop} {w0 w : World} {Rs : List Asr} (S : Sep E w0 w Rs) : Sep E w0 w (RdL [] :: Rs) :=
  S.push (F := NoB) (Fr.refl _ _) (fun x hx => (List.not_mem_nil hx).elim) fun _ x => x.elim
/-- Pages that a call has made. -/
abbrev LstS (w w' : World) (y : SlP (SlP Int)) : Prop := Sep NoB w w' [OwnA 28 1 y.a y.n y.c (y.l.map slV), RdL y.l]
theorem lst_rd {E : Nat → Prop} {w0 w : World} {Rs : List Asr} {e : TypeId} {a : Option Addr} {n c : Nat} {L : List (SlP Int)} (S : Sep E w0 w (OwnA e 1 a n c (L.map slV) :: RdL L :: Rs)) : TBB.rd w All ⟨a, n, c, L⟩ := by
  obtain ⟨F, h, _⟩ := S.get (i := 1) rfl
  have ho := S.own 0 rfl
  have hm := maxLen_eq
  refine ⟨by have := ho.len; simpa using this, ho.cap, by have := ho.lim; show n ≤ maxLen; omega, .of ?_, fun x hx => TB.rd_mono (fun _ _ _ => trivial) (h x hx)⟩
  rw [show (L.flatMap TB.vs) = L.map slV from flat_sl L]
  exact ho.rd
theorem TBB_nth {w : World} {G : Nat → Prop} {x : SlP (SlP Int)} (h : TBB.rd w G x) {i : Int} (h0 : 0 ≤ i) (h1 : i < (x.n : Int)) :
    ∃ q y, x.a = some q ∧ x.l[i.toNat]? = some y ∧ CellsAt w (q.add (i.toNat * 1)) [slV y] ∧ TB.rd w G y ∧ G q.block ∧ q.block < w.heap.size := Ty.nth (e := TB) h h0 h1 (by decide)

end Go.Proofs.Ytfpkaebmiojicaa.Vc

/-! The plans of functions as plain statements, printed by wip/tools/vcgen.py; the kernel holds each to the code. -/
namespace Go.Proofs.Ytfpkaebmiojicaa.Vc
open Go Go.Eng
set_option linter.unusedVariables false

/-! ### nepenthe/nand.New: function 43 -/
-- loop 0 carries 75: .one (.int .i64)
-- loop 1 carries 42: .one (.int .i64)
def nand_New.A : Ann := .two .no (.two .no (.two (.draw (.take 0 (.take 1 (.take 3 (.eff 2 (.eff 4 (.take 5 (.eff 6 (.take 7 (.done)))))))))) (.two (.draw (.take 0 (.take 1 (.take 2 (.take 3 (.take 4 (.take 5 (.take 6 (.take 7 (.take 8 (.eff 9 (.take 10 (.eff 11 (.take 12 (.take 13 (.eff 14 (.done))))))))))))))))) (.two (.two .no (.one (.loop [7, 42, 43, 44, 45, 46, 47, 48, 49, 50, 51] [(42, .one (.int .i64))] .no))) (.two .no (.join [61, 62, 63, 64, 65, 66, 67, 68, 69, 70, 71, 72] [] (.draw (.take 0 (.take 1 (.take 2 (.take 3 (.take 5 (.take 6 (.both 4 (.take 8 (.take 9 (.both 7 (.eff 10 (.take 11 (.take 12 (.eff 13 (.done))))) 10 (.eff 7 (.take 11 (.take 12 (.eff 13 (.done)))))))) 7 (.eff 4 (.take 8 (.take 9 (.eff 10 (.take 11 (.take 12 (.eff 13 (.done)))))))))))))))) (.two (.two .no (.one (.loop [75, 76, 77, 78, 79, 80, 81, 82, 83, 84, 85, 86] [(75, .one (.int .i64))] .no))) .no)))))))
def nand_New.P (p0_0 : Int) (p0_1 : Int) (p0_2 : Int) (p0_3 : Int) (p0_4 : Int) (p0_5 : Int) (a1 : Option Addr) (n1 c1 : Nat) (w : World) (K : (Option Addr) × Int × Unit → World → Prop) : Prop :=
  NewV #[.int .i64 p0_0, .int .i64 p0_1, .int .i64 p0_2, .int .i64 p0_3, .int .i64 p0_4, .int .i64 p0_5] 23 w fun b1 w2 =>
  LoadA w2 ⟨b1, 0, none⟩ [.int .i64, .int .i64, .int .i64, .int .i64, .int .i64, .int .i64] fun (x3 : Int × Int × Int × Int × Int × Int × Unit) =>
  CallV Try.prog 57 #[.agg #[.int .i64 x3.1, .int .i64 x3.2.1, .int .i64 x3.2.2.1, .int .i64 x3.2.2.2.1, .int .i64 x3.2.2.2.2.1, .int .i64 x3.2.2.2.2.2.1]] w2 [.one (.int .i64)] fun (r4 : Int × Unit) w5 =>
  cond (r4.1 != 0)
  (K (none, (2 : Int), ()) w5)
  (CallV Try.prog 75 #[.slice a1 n1 c1] w5 [.one (.int .i64)] fun (r6 : Int × Unit) w7 =>
  cond (r6.1 != 0)
  (K (none, (2 : Int), ()) w7)
  (DrawV fun D8 =>
  (D8 b1 ∧ LoadA w7.drew ⟨b1, 0, none⟩ [.int .i64, .int .i64, .int .i64, .int .i64, .int .i64, .int .i64] fun (x9 : Int × Int × Int × Int × Int × Int × Unit) =>
  (D8 b1 ∧ LoadA w7.drew ⟨b1, 0, none⟩ [.int .i64, .int .i64, .int .i64, .int .i64, .int .i64, .int .i64] fun (x10 : Int × Int × Int × Int × Int × Int × Unit) =>
  CallV Try.prog 61 #[.agg #[.int .i64 x10.1, .int .i64 x10.2.1, .int .i64 x10.2.2.1, .int .i64 x10.2.2.2.1, .int .i64 x10.2.2.2.2.1, .int .i64 x10.2.2.2.2.2.1]] w7.drew [.one (.int .i64)] fun (r11 : Int × Unit) w12 =>
  KeepOn D8 w7.drew w12 ∧
  CallV Try.prog 76 #[.slice a1 n1 c1] w12 [.one .sl] fun (r13 : SlV × Unit) w14 =>
  KeepOn D8 w7.drew w14 ∧
  NewV #[.int .i64 x9.1, .int .i64 x9.2.1, .int .i64 x9.2.2.1, .int .i64 x9.2.2.2.1, .int .i64 x9.2.2.2.2.1, .int .i64 x9.2.2.2.2.2.1, .int .i64 r11.1, .slice none 0 0, .slice none 0 0, .slice none 0 0, .slice none 0 0, .slice none 0 0, .slice r13.1.a r13.1.n r13.1.c, .bool false, .slice none 0 0] 131 w14 fun b15 w16 =>
  KeepOn D8 w7.drew w16 ∧
  DrawV fun D17 =>
  (D17 b1 ∧ LoadS w16.drew ⟨b1, 0, none⟩ (.int .i64) fun (x18 : Int) =>
  (D17 b1 ∧ LoadS w16.drew ⟨b1, 1, none⟩ (.int .i64) fun (x19 : Int) =>
  Rng .i64 (x18 * x19) ∧
  LoadS w16.drew ⟨b15, 6, none⟩ (.int .i64) fun (x20 : Int) =>
  KeepOn D17 w16.drew w16.drew ∧
  Rng .i64 ((x18 * x19) * x20) ∧
  ((0 : Int) ≤ ((x18 * x19) * x20 : Int) ∧ ((x18 * x19) * x20 : Int) ≤ ((x18 * x19) * x20 : Int) ∧ ((x18 * x19) * x20 : Int) ≤ 9223372036854775807 ∧ ((1 : Nat) : Int) * ((x18 * x19) * x20 : Int) ≤ 140737488355328) ∧
  NewV (List.replicate (((x18 * x19) * x20).toNat) [.int .u8 0]).flatten.toArray 5 w16.drew fun b21 w22 =>
  KeepOn D17 w16.drew w22 ∧
  StoreV w22 ⟨b15, 7, none⟩ [.slice (some ⟨b21, 0, none⟩) (((x18 * x19) * x20).toNat) (((x18 * x19) * x20).toNat)] fun w23 =>
  KeepOn D17 w16.drew w23 ∧
  LoadS w23 ⟨b15, 7, none⟩ .sl fun (x24 : SlV) =>
  LoopV [.one (.int .i64)] ((0 : Int), ()) w23 fun (z25 : Int × Unit) w26 (K27 : Int × Unit → World → Prop) =>
  cond (decide (z25.1 < ((x24.n : Nat) : Int)))
  (LoadS w26 ⟨b15, 7, none⟩ .sl fun (x28 : SlV) =>
  (0 ≤ z25.1 ∧ z25.1 < ((x28.n : Nat) : Int)) ∧ ∃ q29 : Addr, x28.a = some q29 ∧
  StoreV w26 (q29.add (z25.1.toNat * 1)) [.int .u8 255] fun w30 =>
  Rng .i64 (z25.1 + 1) ∧
  K27 (z25.1 + 1, ()) w30)
  (LoadS w26 ⟨b1, 0, none⟩ (.int .i64) fun (x31 : Int) =>
  LoadS w26 ⟨b1, 1, none⟩ (.int .i64) fun (x32 : Int) =>
  Rng .i64 (x31 * x32) ∧
  ((0 : Int) ≤ (x31 * x32 : Int) ∧ (x31 * x32 : Int) ≤ (x31 * x32 : Int) ∧ (x31 * x32 : Int) ≤ 9223372036854775807 ∧ ((8 : Nat) : Int) * (x31 * x32 : Int) ≤ 140737488355328) ∧
  NewV (List.replicate ((x31 * x32).toNat) [.int .i64 0]).flatten.toArray 3 w26 fun b33 w34 =>
  StoreV w34 ⟨b15, 8, none⟩ [.slice (some ⟨b33, 0, none⟩) ((x31 * x32).toNat) ((x31 * x32).toNat)] fun w35 =>
  JoinV [] (fun (v37 : Unit) w38 =>
  LoadS w38 ⟨b1, 0, none⟩ (.int .i64) fun (x39 : Int) =>
  LoopV [.one (.int .i64)] ((0 : Int), ()) w38 fun (z40 : Int × Unit) w41 (K42 : Int × Unit → World → Prop) =>
  cond (decide (z40.1 < x39))
  (LoadS w41 ⟨b15, 9, none⟩ .sl fun (x43 : SlV) =>
  NewV #[.int .i64 (-1)] 3 w41 fun b44 w45 =>
  AppS w45 (some ⟨b44, 0, none⟩) 1 1 fun ns50 =>
  AppV w45 3 1 8 x43.a x43.n x43.c ns50 1 fun a46 n47 c48 w49 =>
  StoreV w49 ⟨b15, 9, none⟩ [.slice a46 n47 c48] fun w51 =>
  Rng .i64 (z40.1 + 1) ∧
  K42 (z40.1 + 1, ()) w51)
  (K ((some ⟨b15, 0, none⟩), (0 : Int), ()) w41)) fun (J36 : Unit → World → Prop) =>
  DrawV fun D52 =>
  (D52 b1 ∧ LoadS w35.drew ⟨b1, 0, none⟩ (.int .i64) fun (x53 : Int) =>
  (D52 b1 ∧ LoadS w35.drew ⟨b1, 0, none⟩ (.int .i64) fun (x54 : Int) =>
  ((((0 : Int) ≤ (x53 : Int) ∧ (x53 : Int) ≤ (x53 : Int) ∧ (x53 : Int) ≤ 9223372036854775807 ∧ ((8 : Nat) : Int) * (x53 : Int) ≤ 140737488355328) ∧
  NewV (List.replicate x53.toNat [.int .i64 0]).flatten.toArray 3 w35.drew fun b55 w56 =>
  KeepOn D52 w35.drew w56 ∧
  ((((0 : Int) ≤ (x54 : Int) ∧ (x54 : Int) ≤ (x54 : Int) ∧ (x54 : Int) ≤ 9223372036854775807 ∧ ((8 : Nat) : Int) * (x54 : Int) ≤ 140737488355328) ∧
  NewV (List.replicate x54.toNat [.int .i64 0]).flatten.toArray 3 w56 fun b57 w58 =>
  KeepOn D52 w35.drew w58 ∧
  StoreV w58 ⟨b15, 10, none⟩ [.slice (some ⟨b55, 0, none⟩) x53.toNat x53.toNat] fun w59 =>
  KeepOn D52 w35.drew w59 ∧
  StoreV w59 ⟨b15, 11, none⟩ [.slice (some ⟨b57, 0, none⟩) x54.toNat x54.toNat] fun w60 =>
  KeepOn D52 w35.drew w60 ∧
  J36 (()) w60) ∧
  (StoreV w56 ⟨b15, 10, none⟩ [.slice (some ⟨b55, 0, none⟩) x53.toNat x53.toNat] fun w61 =>
  KeepOn D52 w35.drew w61 ∧
  ((0 : Int) ≤ (x54 : Int) ∧ (x54 : Int) ≤ (x54 : Int) ∧ (x54 : Int) ≤ 9223372036854775807 ∧ ((8 : Nat) : Int) * (x54 : Int) ≤ 140737488355328) ∧
  NewV (List.replicate x54.toNat [.int .i64 0]).flatten.toArray 3 w61 fun b62 w63 =>
  KeepOn D52 w35.drew w63 ∧
  StoreV w63 ⟨b15, 11, none⟩ [.slice (some ⟨b62, 0, none⟩) x54.toNat x54.toNat] fun w64 =>
  KeepOn D52 w35.drew w64 ∧
  J36 (()) w64))) ∧
  (((0 : Int) ≤ (x54 : Int) ∧ (x54 : Int) ≤ (x54 : Int) ∧ (x54 : Int) ≤ 9223372036854775807 ∧ ((8 : Nat) : Int) * (x54 : Int) ≤ 140737488355328) ∧
  NewV (List.replicate x54.toNat [.int .i64 0]).flatten.toArray 3 w35.drew fun b65 w66 =>
  KeepOn D52 w35.drew w66 ∧
  ((0 : Int) ≤ (x53 : Int) ∧ (x53 : Int) ≤ (x53 : Int) ∧ (x53 : Int) ≤ 9223372036854775807 ∧ ((8 : Nat) : Int) * (x53 : Int) ≤ 140737488355328) ∧
  NewV (List.replicate x53.toNat [.int .i64 0]).flatten.toArray 3 w66 fun b67 w68 =>
  KeepOn D52 w35.drew w68 ∧
  StoreV w68 ⟨b15, 10, none⟩ [.slice (some ⟨b67, 0, none⟩) x53.toNat x53.toNat] fun w69 =>
  KeepOn D52 w35.drew w69 ∧
  StoreV w69 ⟨b15, 11, none⟩ [.slice (some ⟨b65, 0, none⟩) x54.toNat x54.toNat] fun w70 =>
  KeepOn D52 w35.drew w70 ∧
  J36 (()) w70)))))))))))
theorem nand_New.vc (p0_0 : Int) (p0_1 : Int) (p0_2 : Int) (p0_3 : Int) (p0_4 : Int) (p0_5 : Int) (a1 : Option Addr) (n1 c1 : Nat) (w : World) (K : (Option Addr) × Int × Unit → World → Prop) (h : nand_New.P p0_0 p0_1 p0_2 p0_3 p0_4 p0_5 a1 n1 c1 w K) : CallV Try.prog 43 #[.agg #[.int .i64 p0_0, .int .i64 p0_1, .int .i64 p0_2, .int .i64 p0_3, .int .i64 p0_4, .int .i64 p0_5], .slice a1 n1 c1] w [.one .ptr, .one (.int .i64)] K := by
  have e : vcFun Try.prog okf false Try.f43 nand_New.A #[.agg #[.int .i64 p0_0, .int .i64 p0_1, .int .i64 p0_2, .int .i64 p0_3, .int .i64 p0_4, .int .i64 p0_5], .slice a1 n1 c1] w [.one .ptr, .one (.int .i64)] K = nand_New.P p0_0 p0_1 p0_2 p0_3 p0_4 p0_5 a1 n1 c1 w K := by kernel_rfl
  exact vcFun.calls okf_ok follows Try.func43 (e.symm ▸ h)

/-! ### (*nepenthe/nand.Chip).page: function 87 -/
def nand_Chip_page.A : Ann := .two .no (.two (.draw (.take 0 (.take 1 (.take 2 (.take 3 (.take 4 (.take 5 (.take 6 (.take 7 (.take 8 (.take 9 (.take 10 (.take 11 (.take 12 (.take 13 (.take 14 (.take 15 (.take 16 (.take 17 (.take 18 (.take 19 (.take 20 (.take 21 (.take 22 (.take 23 (.take 24 (.take 25 (.done)))))))))))))))))))))))))))) .no)
def nand_Chip_page.P (p0 : Addr) (p1 : Int) (w : World) (K : SlV × Unit → World → Prop) : Prop :=
  DrawV fun D1 =>
  (D1 (p0.add 7).block ∧ LoadS w.drew (p0.add 7) .sl fun (x2 : SlV) =>
  (D1 (p0.add 6).block ∧ LoadS w.drew (p0.add 6) (.int .i64) fun (x3 : Int) =>
  Rng .i64 (p1 * x3) ∧
  Rng .i64 (p1 + 1) ∧
  (D1 (p0.add 6).block ∧ LoadS w.drew (p0.add 6) (.int .i64) fun (x4 : Int) =>
  Rng .i64 ((p1 + 1) * x4) ∧
  Rng .i64 (p1 + 1) ∧
  (D1 (p0.add 6).block ∧ LoadS w.drew (p0.add 6) (.int .i64) fun (x5 : Int) =>
  Rng .i64 ((p1 + 1) * x5) ∧
  ((0 : Int) ≤ (p1 * x3) ∧ (p1 * x3) ≤ ((p1 + 1) * x4) ∧ ((p1 + 1) * x4) ≤ ((p1 + 1) * x5) ∧ ((p1 + 1) * x5) ≤ ((x2.c : Nat) : Int)) ∧
  SubK x2.a ((p1 * x3).toNat) (((p1 + 1) * x5).toNat) 1 fun a6 =>
  K ((⟨a6, (((p1 + 1) * x4).toNat) - ((p1 * x3).toNat), (((p1 + 1) * x5).toNat) - ((p1 * x3).toNat)⟩ : SlV), ()) w.drew))))
theorem nand_Chip_page.vc (p0 : Addr) (p1 : Int) (w : World) (K : SlV × Unit → World → Prop) (h : nand_Chip_page.P p0 p1 w K) : CallV Try.prog 87 #[.pointer (some p0), .int .i64 p1] w [.one .sl] K := by
  have e : vcFun Try.prog okf false Try.f87 nand_Chip_page.A #[.pointer (some p0), .int .i64 p1] w [.one .sl] K = nand_Chip_page.P p0 p1 w K := by kernel_rfl
  exact vcFun.calls okf_ok follows Try.func87 (e.symm ▸ h)

/-! ### (*nepenthe/nand.Chip).block: function 113 -/
def nand_Chip_block.A : Ann := .two .no (.two (.draw (.take 0 (.take 1 (.take 2 (.take 3 (.take 4 (.take 5 (.take 6 (.take 7 (.take 8 (.take 9 (.take 10 (.done))))))))))))) .no)
def nand_Chip_block.P (p0 : Addr) (p1 : Int) (w : World) (K : SlV × Unit → World → Prop) : Prop :=
  DrawV fun D1 =>
  (D1 (p0.add 1).block ∧ LoadS w.drew (p0.add 1) (.int .i64) fun (x2 : Int) =>
  (D1 (p0.add 6).block ∧ LoadS w.drew (p0.add 6) (.int .i64) fun (x3 : Int) =>
  Rng .i64 (x2 * x3) ∧
  LoadS w.drew (p0.add 7) .sl fun (x4 : SlV) =>
  Rng .i64 (p1 * (x2 * x3)) ∧
  Rng .i64 (p1 + 1) ∧
  Rng .i64 ((p1 + 1) * (x2 * x3)) ∧
  Rng .i64 (p1 + 1) ∧
  Rng .i64 ((p1 + 1) * (x2 * x3)) ∧
  ((0 : Int) ≤ (p1 * (x2 * x3)) ∧ (p1 * (x2 * x3)) ≤ ((p1 + 1) * (x2 * x3)) ∧ ((p1 + 1) * (x2 * x3)) ≤ ((p1 + 1) * (x2 * x3)) ∧ ((p1 + 1) * (x2 * x3)) ≤ ((x4.c : Nat) : Int)) ∧
  SubK x4.a ((p1 * (x2 * x3)).toNat) (((p1 + 1) * (x2 * x3)).toNat) 1 fun a5 =>
  K ((⟨a5, (((p1 + 1) * (x2 * x3)).toNat) - ((p1 * (x2 * x3)).toNat), (((p1 + 1) * (x2 * x3)).toNat) - ((p1 * (x2 * x3)).toNat)⟩ : SlV), ()) w.drew))
theorem nand_Chip_block.vc (p0 : Addr) (p1 : Int) (w : World) (K : SlV × Unit → World → Prop) (h : nand_Chip_block.P p0 p1 w K) : CallV Try.prog 113 #[.pointer (some p0), .int .i64 p1] w [.one .sl] K := by
  have e : vcFun Try.prog okf false Try.f113 nand_Chip_block.A #[.pointer (some p0), .int .i64 p1] w [.one .sl] K = nand_Chip_block.P p0 p1 w K := by kernel_rfl
  exact vcFun.calls okf_ok follows Try.func113 (e.symm ▸ h)

/-! ### (*nepenthe/nand.Chip).done: function 106 -/
def nand_Chip_done.A : Ann := .two .no (.two .no (.join [14, 15, 16, 17, 18, 19, 20, 21, 22, 23, 24, 25, 26, 27, 28] [(14, .one .ptr), (15, .one .bool)] (.draw (.take 0 (.take 1 (.take 2 (.take 3 (.take 4 (.take 5 (.take 6 (.take 7 (.take 8 (.both 9 (.take 10 (.take 11 (.take 12 (.eff 13 (.eff 14 (.take 15 (.done))))))) 13 (.eff 9 (.take 10 (.take 11 (.take 12 (.eff 14 (.take 15 (.done)))))))))))))))))) (.join [13, 29, 30, 31, 32, 33, 34, 35, 36, 37, 38, 39, 40, 41, 42, 43, 44, 45, 46, 47, 48, 49, 50, 51, 52, 53, 54] [(13, .one (.int .i64))] .no (.join [55, 56, 57, 58, 59, 60, 61, 62, 63, 64, 65, 66, 67, 68, 69, 70] [] (.draw (.take 0 (.take 1 (.take 2 (.take 3 (.take 5 (.take 6 (.take 8 (.take 10 (.both 4 (.eff 7 (.eff 9 (.take 11 (.eff 12 (.eff 13 (.take 14 (.take 15 (.eff 16 (.done))))))))) 7 (.both 4 (.eff 9 (.take 11 (.eff 12 (.eff 13 (.take 14 (.take 15 (.eff 16 (.done)))))))) 9 (.take 11 (.both 4 (.eff 12 (.eff 13 (.take 14 (.take 15 (.eff 16 (.done)))))) 12 (.eff 4 (.eff 13 (.take 14 (.take 15 (.eff 16 (.done))))))))))))))))))) .no))))
def nand_Chip_done.P (p0 : Addr) (p1 : Int) (p2_0 : Int) (p2_1 : Int) (a3 : Option Addr) (n3 c3 : Nat) (p4_0 : (FuncId × Array Value × Array Value)) (p4_1 : (FuncId × Array Value × Array Value)) (a5 : Option Addr) (n5 c5 : Nat) (w : World) (K : Int × Unit → World → Prop) : Prop :=
  NewV #[.int .i64 p2_0, .int .i64 p2_1] 81 w fun b1 w2 =>
  NewV #[.func (.func p4_0.1) p4_0.2.1 p4_0.2.2, .func (.func p4_1.1) p4_1.2.1 p4_1.2.2] 153 w2 fun b3 w4 =>
  JoinV [.one .ptr, .one .bool] (fun (v6 : (Option Addr) × Bool × Unit) w7 =>
  JoinV [.one (.int .i64)] (fun (v9 : Int × Unit) w10 =>
  JoinV [] (fun (v12 : Unit) w13 =>
  K (v9.1, ()) w13) fun (J11 : Unit → World → Prop) =>
  DrawV fun D14 =>
  (D14 b1 ∧ LoadA w10.drew ⟨b1, 0, none⟩ [.int .i64, .int .i64] fun (x15 : Int × Int × Unit) =>
  ((LoadS w10.drew (p0.add 14) .sl fun (x16 : SlV) =>
  KeepOn D14 w10.drew w10.drew ∧
  NewV #[] 5 w10.drew fun b17 w18 =>
  KeepOn D14 w10.drew w18 ∧
  AppS w18 a3 n3 1 fun ns23 =>
  AppV w18 5 1 1 (some ⟨b17, 0, none⟩) 0 0 ns23 n3 fun a19 n20 c21 w22 =>
  KeepOn D14 w10.drew w22 ∧
  NewV #[.int .i64 p1, .int .i64 x15.1, .int .i64 x15.2.1, .slice a19 n20 c21, .int .i64 v9.1] 106 w22 fun b24 w25 =>
  KeepOn D14 w10.drew w25 ∧
  AppS w25 (some ⟨b24, 0, none⟩) 1 5 fun ns30 =>
  AppV w25 106 5 56 x16.a x16.n x16.c ns30 1 fun a26 n27 c28 w29 =>
  KeepOn D14 w10.drew w29 ∧
  StoreV w29 (p0.add 14) [.slice a26 n27 c28] fun w31 =>
  KeepOn D14 w10.drew w31 ∧
  J11 (()) w31) ∧
  (NewV #[] 5 w10.drew fun b32 w33 =>
  KeepOn D14 w10.drew w33 ∧
  ((LoadS w33 (p0.add 14) .sl fun (x34 : SlV) =>
  KeepOn D14 w10.drew w33 ∧
  AppS w33 a3 n3 1 fun ns39 =>
  AppV w33 5 1 1 (some ⟨b32, 0, none⟩) 0 0 ns39 n3 fun a35 n36 c37 w38 =>
  KeepOn D14 w10.drew w38 ∧
  NewV #[.int .i64 p1, .int .i64 x15.1, .int .i64 x15.2.1, .slice a35 n36 c37, .int .i64 v9.1] 106 w38 fun b40 w41 =>
  KeepOn D14 w10.drew w41 ∧
  AppS w41 (some ⟨b40, 0, none⟩) 1 5 fun ns46 =>
  AppV w41 106 5 56 x34.a x34.n x34.c ns46 1 fun a42 n43 c44 w45 =>
  KeepOn D14 w10.drew w45 ∧
  StoreV w45 (p0.add 14) [.slice a42 n43 c44] fun w47 =>
  KeepOn D14 w10.drew w47 ∧
  J11 (()) w47) ∧
  (AppS w33 a3 n3 1 fun ns52 =>
  AppV w33 5 1 1 (some ⟨b32, 0, none⟩) 0 0 ns52 n3 fun a48 n49 c50 w51 =>
  KeepOn D14 w10.drew w51 ∧
  ((LoadS w51 (p0.add 14) .sl fun (x53 : SlV) =>
  KeepOn D14 w10.drew w51 ∧
  NewV #[.int .i64 p1, .int .i64 x15.1, .int .i64 x15.2.1, .slice a48 n49 c50, .int .i64 v9.1] 106 w51 fun b54 w55 =>
  KeepOn D14 w10.drew w55 ∧
  AppS w55 (some ⟨b54, 0, none⟩) 1 5 fun ns60 =>
  AppV w55 106 5 56 x53.a x53.n x53.c ns60 1 fun a56 n57 c58 w59 =>
  KeepOn D14 w10.drew w59 ∧
  StoreV w59 (p0.add 14) [.slice a56 n57 c58] fun w61 =>
  KeepOn D14 w10.drew w61 ∧
  J11 (()) w61) ∧
  (NewV #[.int .i64 p1, .int .i64 x15.1, .int .i64 x15.2.1, .slice a48 n49 c50, .int .i64 v9.1] 106 w51 fun b62 w63 =>
  KeepOn D14 w10.drew w63 ∧
  LoadS w63 (p0.add 14) .sl fun (x64 : SlV) =>
  KeepOn D14 w10.drew w63 ∧
  AppS w63 (some ⟨b62, 0, none⟩) 1 5 fun ns69 =>
  AppV w63 106 5 56 x64.a x64.n x64.c ns69 1 fun a65 n66 c67 w68 =>
  KeepOn D14 w10.drew w68 ∧
  StoreV w68 (p0.add 14) [.slice a65 n66 c67] fun w70 =>
  KeepOn D14 w10.drew w70 ∧
  J11 (()) w70)))))))) fun (J8 : Int × Unit → World → Prop) =>
  cond (!v6.2.1)
  (LoadS w7 ⟨b3, 0, none⟩ .fn fun (x71 : (FuncId × Array Value × Array Value)) =>
  cond (okf x71.1)
  (CallV Try.prog x71.1 ((x71.2.1).toList ++ ([] ++ (x71.2.2).toList)).toArray w7 [.one .sl] fun (r72 : SlV × Unit) w73 =>
  CopyV w73 a5 r72.1.a (Nat.min r72.1.n n5) 1 fun w74 =>
  J8 ((0 : Int), ()) w74)
  False)
  (PtrK v6.1 fun q75 =>
  LoadS w7 (q75.add 1) .bool fun (x76 : Bool) =>
  cond x76
  (LoadS w7 ⟨b3, 1, none⟩ .fn fun (x77 : (FuncId × Array Value × Array Value)) =>
  PtrK v6.1 fun q78 =>
  LoadA w7 q78 [.int .i64, .bool, .sl] fun (x79 : Int × Bool × SlV × Unit) =>
  cond (okf x77.1)
  (CallV Try.prog x77.1 ((x77.2.1).toList ++ ((([.agg #[.int .i64 x79.1, .bool x79.2.1, .slice x79.2.2.1.a x79.2.2.1.n x79.2.2.1.c]] : List Value)) ++ (x77.2.2).toList)).toArray w7 [.one .sl] fun (r80 : SlV × Unit) w81 =>
  CopyV w81 a5 r80.1.a (Nat.min r80.1.n n5) 1 fun w82 =>
  StoreV w82 (p0.add 13) [.bool true] fun w83 =>
  J8 ((4 : Int), ()) w83)
  False)
  (LoadS w7 ⟨b3, 1, none⟩ .fn fun (x84 : (FuncId × Array Value × Array Value)) =>
  PtrK v6.1 fun q85 =>
  LoadA w7 q85 [.int .i64, .bool, .sl] fun (x86 : Int × Bool × SlV × Unit) =>
  cond (okf x84.1)
  (CallV Try.prog x84.1 ((x84.2.1).toList ++ ((([.agg #[.int .i64 x86.1, .bool x86.2.1, .slice x86.2.2.1.a x86.2.2.1.n x86.2.2.1.c]] : List Value)) ++ (x84.2.2).toList)).toArray w7 [.one .sl] fun (r87 : SlV × Unit) w88 =>
  CopyV w88 a5 r87.1.a (Nat.min r87.1.n n5) 1 fun w89 =>
  J8 ((5 : Int), ()) w89)
  False))) fun (J5 : (Option Addr) × Bool × Unit → World → Prop) =>
  DrawV fun D90 =>
  (D90 (p0.add 12).block ∧ LoadS w4.drew (p0.add 12) .sl fun (x91 : SlV) =>
  (D90 (p0.add 14).block ∧ LoadS w4.drew (p0.add 14) .sl fun (x92 : SlV) =>
  ((CallV Try.prog 126 #[.slice x91.a x91.n x91.c, .int .i64 ((x92.n : Nat) : Int)] w4.drew [.agg [.int .i64, .bool, .sl], .one .bool] fun (r93 : (Int × Bool × SlV × Unit) × Bool × Unit) w94 =>
  KeepOn D90 w4.drew w94 ∧
  NewV #[.int .i64 0, .bool false, .slice none 0 0] 109 w94 fun b95 w96 =>
  KeepOn D90 w4.drew w96 ∧
  StoreV w96 ⟨b95, 0, none⟩ [.int .i64 r93.1.1, .bool r93.1.2.1, .slice r93.1.2.2.1.a r93.1.2.2.1.n r93.1.2.2.1.c] fun w97 =>
  KeepOn D90 w4.drew w97 ∧
  J5 ((some ⟨b95, 0, none⟩), r93.2.1, ()) w97) ∧
  (NewV #[.int .i64 0, .bool false, .slice none 0 0] 109 w4.drew fun b98 w99 =>
  KeepOn D90 w4.drew w99 ∧
  CallV Try.prog 126 #[.slice x91.a x91.n x91.c, .int .i64 ((x92.n : Nat) : Int)] w99 [.agg [.int .i64, .bool, .sl], .one .bool] fun (r100 : (Int × Bool × SlV × Unit) × Bool × Unit) w101 =>
  KeepOn D90 w4.drew w101 ∧
  StoreV w101 ⟨b98, 0, none⟩ [.int .i64 r100.1.1, .bool r100.1.2.1, .slice r100.1.2.2.1.a r100.1.2.2.1.n r100.1.2.2.1.c] fun w102 =>
  KeepOn D90 w4.drew w102 ∧
  J5 ((some ⟨b98, 0, none⟩), r100.2.1, ()) w102))))
theorem nand_Chip_done.vc (p0 : Addr) (p1 : Int) (p2_0 : Int) (p2_1 : Int) (a3 : Option Addr) (n3 c3 : Nat) (p4_0 : (FuncId × Array Value × Array Value)) (p4_1 : (FuncId × Array Value × Array Value)) (a5 : Option Addr) (n5 c5 : Nat) (w : World) (K : Int × Unit → World → Prop) (h : nand_Chip_done.P p0 p1 p2_0 p2_1 a3 n3 c3 p4_0 p4_1 a5 n5 c5 w K) : CallV Try.prog 106 #[.pointer (some p0), .int .i64 p1, .agg #[.int .i64 p2_0, .int .i64 p2_1], .slice a3 n3 c3, .agg #[.func (.func p4_0.1) p4_0.2.1 p4_0.2.2, .func (.func p4_1.1) p4_1.2.1 p4_1.2.2], .slice a5 n5 c5] w [.one (.int .i64)] K := by
  have e : vcFun Try.prog okf false Try.f106 nand_Chip_done.A #[.pointer (some p0), .int .i64 p1, .agg #[.int .i64 p2_0, .int .i64 p2_1], .slice a3 n3 c3, .agg #[.func (.func p4_0.1) p4_0.2.1 p4_0.2.2, .func (.func p4_1.1) p4_1.2.1 p4_1.2.2], .slice a5 n5 c5] w [.one (.int .i64)] K = nand_Chip_done.P p0 p1 p2_0 p2_1 a3 n3 c3 p4_0 p4_1 a5 n5 c5 w K := by kernel_rfl
  exact vcFun.calls okf_ok follows Try.func106 (e.symm ▸ h)

/-! ### (*nepenthe/nand.Chip).refused: function 101 -/
def nand_Chip_refused.A : Ann := .two .no (.two .no (.two (.one (.two (.draw (.take 0 (.take 1 (.take 2 (.take 3 (.take 4 (.take 5 (.take 6 (.take 7 (.take 8 (.take 9 (.take 10 (.take 11 (.take 12 (.take 13 (.take 14 (.take 15 (.take 16 (.take 17 (.take 18 (.take 19 (.done)))))))))))))))))))))) (.two .no (.two (.draw (.take 0 (.take 1 (.take 2 (.take 3 (.take 4 (.take 5 (.take 6 (.take 7 (.take 8 (.take 9 (.take 10 (.take 11 (.take 12 (.take 13 (.take 14 (.take 15 (.take 16 (.take 17 (.take 18 (.take 19 (.take 20 (.take 21 (.done)))))))))))))))))))))))) .no)))) .no))
def nand_Chip_refused.P (p0 : Addr) (p1_0 : Int) (p1_1 : Int) (p2 : Int) (p3 : Int) (w : World) (K : Int × Unit → World → Prop) : Prop :=
  NewV #[.int .i64 p1_0, .int .i64 p1_1] 81 w fun b1 w2 =>
  LoadS w2 (p0.add 6) (.int .i64) fun (x3 : Int) =>
  cond (p3 != x3)
  (K ((2 : Int), ()) w2)
  (DrawV fun D4 =>
  (D4 (p0.add 10).block ∧ LoadS w2.drew (p0.add 10) .sl fun (x5 : SlV) =>
  (D4 b1 ∧ LoadS w2.drew ⟨b1, 0, none⟩ (.int .i64) fun (x6 : Int) =>
  (0 ≤ x6 ∧ x6 < ((x5.n : Nat) : Int)) ∧ ∃ q7 : Addr, x5.a = some q7 ∧
  (D4 (q7.add (x6.toNat * 1)).block ∧ LoadS w2.drew (q7.add (x6.toNat * 1)) (.int .i64) fun (x8 : Int) =>
  cond (decide (x8 > 0))
  (K ((7 : Int), ()) w2.drew)
  ((D4 (p0.add 8).block ∧ LoadS w2.drew (p0.add 8) .sl fun (x9 : SlV) =>
  (0 ≤ p2 ∧ p2 < ((x9.n : Nat) : Int)) ∧ ∃ q10 : Addr, x9.a = some q10 ∧
  (D4 (q10.add (p2.toNat * 1)).block ∧ LoadS w2.drew (q10.add (p2.toNat * 1)) (.int .i64) fun (x11 : Int) =>
  cond (decide (x11 ≥ 2))
  (K ((7 : Int), ()) w2.drew)
  (DrawV fun D12 =>
  (D12 (p0.add 8).block ∧ LoadS w2.drew.drew (p0.add 8) .sl fun (x13 : SlV) =>
  (0 ≤ p2 ∧ p2 < ((x13.n : Nat) : Int)) ∧ ∃ q14 : Addr, x13.a = some q14 ∧
  (D12 (q14.add (p2.toNat * 1)).block ∧ LoadS w2.drew.drew (q14.add (p2.toNat * 1)) (.int .i64) fun (x15 : Int) =>
  cond (x15 == 0)
  ((D12 b1 ∧ LoadS w2.drew.drew ⟨b1, 1, none⟩ (.int .i64) fun (x16 : Int) =>
  (D12 (p0.add 9).block ∧ LoadS w2.drew.drew (p0.add 9) .sl fun (x17 : SlV) =>
  (D12 b1 ∧ LoadS w2.drew.drew ⟨b1, 0, none⟩ (.int .i64) fun (x18 : Int) =>
  (0 ≤ x18 ∧ x18 < ((x17.n : Nat) : Int)) ∧ ∃ q19 : Addr, x17.a = some q19 ∧
  (D12 (q19.add (x18.toNat * 1)).block ∧ LoadS w2.drew.drew (q19.add (x18.toNat * 1)) (.int .i64) fun (x20 : Int) =>
  cond (decide (x16 ≤ x20))
  (K ((6 : Int), ()) w2.drew.drew)
  (K ((0 : Int), ()) w2.drew.drew))))))
  (K ((0 : Int), ()) w2.drew.drew)))))))))))
theorem nand_Chip_refused.vc (p0 : Addr) (p1_0 : Int) (p1_1 : Int) (p2 : Int) (p3 : Int) (w : World) (K : Int × Unit → World → Prop) (h : nand_Chip_refused.P p0 p1_0 p1_1 p2 p3 w K) : CallV Try.prog 101 #[.pointer (some p0), .agg #[.int .i64 p1_0, .int .i64 p1_1], .int .i64 p2, .int .i64 p3] w [.one (.int .i64)] K := by
  have e : vcFun Try.prog okf false Try.f101 nand_Chip_refused.A #[.pointer (some p0), .agg #[.int .i64 p1_0, .int .i64 p1_1], .int .i64 p2, .int .i64 p3] w [.one (.int .i64)] K = nand_Chip_refused.P p0 p1_0 p1_1 p2 p3 w K := by kernel_rfl
  exact vcFun.calls okf_ok follows Try.func101 (e.symm ▸ h)

/-! ### (*nepenthe/nand.Chip).Program: function 74 -/
def nand_Chip_Program.A : Ann := .two .no (.two .no (.two (.draw (.take 0 (.take 1 (.take 2 (.take 3 (.take 4 (.eff 5 (.take 6 (.take 7 (.take 8 (.take 9 (.take 10 (.done))))))))))))) (.two .no (.two .no (.two .no (.two .no (.join [49, 50, 51, 52, 53, 54, 55, 56, 57, 58, 59, 60, 61, 62, 63, 64, 65, 66] [] (.draw (.take 0 (.take 1 (.take 2 (.take 4 (.take 5 (.take 6 (.take 7 (.take 8 (.take 10 (.take 11 (.take 14 (.take 15 (.both 3 (.eff 9 (.take 12 (.eff 13 (.take 16 (.take 17 (.eff 18 (.done))))))) 9 (.take 12 (.both 3 (.eff 13 (.take 16 (.take 17 (.eff 18 (.done))))) 13 (.take 16 (.eff 3 (.take 17 (.eff 18 (.done))))))))))))))))))))) .no)))))))
def nand_Chip_Program.P (p0 : Addr) (p1_0 : Int) (p1_1 : Int) (a2 : Option Addr) (n2 c2 : Nat) (w : World) (K : Int × Unit → World → Prop) : Prop :=
  NewV #[.int .i64 p1_0, .int .i64 p1_1] 81 w fun b1 w2 =>
  NewV #[.slice a2 n2 c2] 28 w2 fun b3 w4 =>
  CallV Try.prog 54 #[.pointer (some p0)] w4 [.one .bool] fun (r5 : Bool × Unit) w6 =>
  cond (!r5.1)
  (K ((4 : Int), ()) w6)
  (DrawV fun D7 =>
  (D7 p0.block ∧ LoadA w6.drew p0 [.int .i64, .int .i64, .int .i64, .int .i64, .int .i64, .int .i64] fun (x8 : Int × Int × Int × Int × Int × Int × Unit) =>
  (D7 b1 ∧ LoadA w6.drew ⟨b1, 0, none⟩ [.int .i64, .int .i64] fun (x9 : Int × Int × Unit) =>
  CallV Try.prog 86 #[.agg #[.int .i64 x8.1, .int .i64 x8.2.1, .int .i64 x8.2.2.1, .int .i64 x8.2.2.2.1, .int .i64 x8.2.2.2.2.1, .int .i64 x8.2.2.2.2.2.1], .agg #[.int .i64 x9.1, .int .i64 x9.2.1]] w6.drew [.one (.int .i64), .one (.int .i64)] fun (r10 : Int × Int × Unit) w11 =>
  KeepOn D7 w6.drew w11 ∧
  cond (r10.2.1 != 0)
  (K (r10.2.1, ()) w11)
  (LoadA w11 ⟨b1, 0, none⟩ [.int .i64, .int .i64] fun (x12 : Int × Int × Unit) =>
  LoadS w11 ⟨b3, 0, none⟩ .sl fun (x13 : SlV) =>
  CallV Try.prog 101 #[.pointer (some p0), .agg #[.int .i64 x12.1, .int .i64 x12.2.1], .int .i64 r10.1, .int .i64 ((x13.n : Nat) : Int)] w11 [.one (.int .i64)] fun (r14 : Int × Unit) w15 =>
  cond (r14.1 != 0)
  (K (r14.1, ()) w15)
  (CallV Try.prog 87 #[.pointer (some p0), .int .i64 r10.1] w15 [.one .sl] fun (r16 : SlV × Unit) w17 =>
  NewV #[.slice none 0 0] 28 w17 fun b18 w19 =>
  StoreV w19 ⟨b18, 0, none⟩ [.slice r16.1.a r16.1.n r16.1.c] fun w20 =>
  LoadS w20 (p0.add 8) .sl fun (x21 : SlV) =>
  (0 ≤ r10.1 ∧ r10.1 < ((x21.n : Nat) : Int)) ∧ ∃ q22 : Addr, x21.a = some q22 ∧
  LoadS w20 (q22.add (r10.1.toNat * 1)) (.int .i64) fun (x23 : Int) =>
  Rng .i64 (x23 + 1) ∧
  (0 ≤ r10.1 ∧ r10.1 < ((x21.n : Nat) : Int)) ∧ ∃ q24 : Addr, x21.a = some q24 ∧
  StoreV w20 (q24.add (r10.1.toNat * 1)) [.int .i64 (x23 + 1)] fun w25 =>
  JoinV [] (fun (v27 : Unit) w28 =>
  LoadA w28 ⟨b1, 0, none⟩ [.int .i64, .int .i64] fun (x29 : Int × Int × Unit) =>
  LoadS w28 ⟨b3, 0, none⟩ .sl fun (x30 : SlV) =>
  LoadS w28 ⟨b18, 0, none⟩ .sl fun (x31 : SlV) =>
  CallV Try.prog 106 #[.pointer (some p0), .int .i64 1, .agg #[.int .i64 x29.1, .int .i64 x29.2.1], .slice x30.a x30.n x30.c, .agg #[.func (.func 102) #[] #[.pointer (some ⟨b18, 0, none⟩), .pointer (some ⟨b3, 0, none⟩)], .func (.func 104) #[] #[.pointer (some ⟨b18, 0, none⟩), .pointer (some ⟨b3, 0, none⟩)]], .slice x31.a x31.n x31.c] w28 [.one (.int .i64)] fun (r32 : Int × Unit) w33 =>
  K (r32.1, ()) w33) fun (J26 : Unit → World → Prop) =>
  DrawV fun D34 =>
  (D34 b1 ∧ LoadS w25.drew ⟨b1, 0, none⟩ (.int .i64) fun (x35 : Int) =>
  (D34 b1 ∧ LoadS w25.drew ⟨b1, 0, none⟩ (.int .i64) fun (x36 : Int) =>
  (D34 b1 ∧ LoadS w25.drew ⟨b1, 1, none⟩ (.int .i64) fun (x37 : Int) =>
  ((LoadS w25.drew (p0.add 9) .sl fun (x38 : SlV) =>
  KeepOn D34 w25.drew w25.drew ∧
  LoadS w25.drew (p0.add 9) .sl fun (x39 : SlV) =>
  KeepOn D34 w25.drew w25.drew ∧
  (0 ≤ x36 ∧ x36 < ((x39.n : Nat) : Int)) ∧ ∃ q40 : Addr, x39.a = some q40 ∧
  LoadS w25.drew (q40.add (x36.toNat * 1)) (.int .i64) fun (x41 : Int) =>
  KeepOn D34 w25.drew w25.drew ∧
  NameI (max x41 x37) fun z42 =>
  (0 ≤ x35 ∧ x35 < ((x38.n : Nat) : Int)) ∧ ∃ q43 : Addr, x38.a = some q43 ∧
  StoreV w25.drew (q43.add (x35.toNat * 1)) [.int .i64 z42] fun w44 =>
  KeepOn D34 w25.drew w44 ∧
  J26 (()) w44) ∧
  (LoadS w25.drew (p0.add 9) .sl fun (x45 : SlV) =>
  KeepOn D34 w25.drew w25.drew ∧
  (0 ≤ x36 ∧ x36 < ((x45.n : Nat) : Int)) ∧ ∃ q46 : Addr, x45.a = some q46 ∧
  ((LoadS w25.drew (p0.add 9) .sl fun (x47 : SlV) =>
  KeepOn D34 w25.drew w25.drew ∧
  LoadS w25.drew (q46.add (x36.toNat * 1)) (.int .i64) fun (x48 : Int) =>
  KeepOn D34 w25.drew w25.drew ∧
  NameI (max x48 x37) fun z49 =>
  (0 ≤ x35 ∧ x35 < ((x47.n : Nat) : Int)) ∧ ∃ q50 : Addr, x47.a = some q50 ∧
  StoreV w25.drew (q50.add (x35.toNat * 1)) [.int .i64 z49] fun w51 =>
  KeepOn D34 w25.drew w51 ∧
  J26 (()) w51) ∧
  (LoadS w25.drew (q46.add (x36.toNat * 1)) (.int .i64) fun (x52 : Int) =>
  KeepOn D34 w25.drew w25.drew ∧
  NameI (max x52 x37) fun z53 =>
  LoadS w25.drew (p0.add 9) .sl fun (x54 : SlV) =>
  KeepOn D34 w25.drew w25.drew ∧
  (0 ≤ x35 ∧ x35 < ((x54.n : Nat) : Int)) ∧ ∃ q55 : Addr, x54.a = some q55 ∧
  StoreV w25.drew (q55.add (x35.toNat * 1)) [.int .i64 z53] fun w56 =>
  KeepOn D34 w25.drew w56 ∧
  J26 (()) w56))))))))))))
theorem nand_Chip_Program.vc (p0 : Addr) (p1_0 : Int) (p1_1 : Int) (a2 : Option Addr) (n2 c2 : Nat) (w : World) (K : Int × Unit → World → Prop) (h : nand_Chip_Program.P p0 p1_0 p1_1 a2 n2 c2 w K) : CallV Try.prog 74 #[.pointer (some p0), .agg #[.int .i64 p1_0, .int .i64 p1_1], .slice a2 n2 c2] w [.one (.int .i64)] K := by
  have e : vcFun Try.prog okf false Try.f74 nand_Chip_Program.A #[.pointer (some p0), .agg #[.int .i64 p1_0, .int .i64 p1_1], .slice a2 n2 c2] w [.one (.int .i64)] K = nand_Chip_Program.P p0 p1_0 p1_1 a2 n2 c2 w K := by kernel_rfl
  exact vcFun.calls okf_ok follows Try.func74 (e.symm ▸ h)

/-! ### (*nepenthe/nand.Chip).Program$1: function 102 -/
def nand_Chip_Program_1.A : Ann := .no
def nand_Chip_Program_1.P (q0 : Addr) (q1 : Addr) (w : World) (K : SlV × Unit → World → Prop) : Prop :=
  LoadS w q0 .sl fun (x1 : SlV) =>
  LoadS w q1 .sl fun (x2 : SlV) =>
  CallV Try.prog 103 #[.slice x1.a x1.n x1.c, .slice x2.a x2.n x2.c, .slice none 0 0] w [.one .sl, .one (.int .i64)] fun (r3 : SlV × Int × Unit) w4 =>
  K (r3.1, ()) w4
theorem nand_Chip_Program_1.vc (q0 : Addr) (q1 : Addr) (w : World) (K : SlV × Unit → World → Prop) (h : nand_Chip_Program_1.P q0 q1 w K) : CallV Try.prog 102 #[.pointer (some q0), .pointer (some q1)] w [.one .sl] K := by
  have e : vcFun Try.prog okf false Try.f102 nand_Chip_Program_1.A #[.pointer (some q0), .pointer (some q1)] w [.one .sl] K = nand_Chip_Program_1.P q0 q1 w K := by kernel_rfl
  exact vcFun.calls okf_ok follows Try.func102 (e.symm ▸ h)

/-! ### (*nepenthe/nand.Chip).Program$2: function 104 -/
def nand_Chip_Program_2.A : Ann := .no
def nand_Chip_Program_2.P (p0_0 : Int) (p0_1 : Bool) (a0_2 : Option Addr) (n0_2 c0_2 : Nat) (q0 : Addr) (q1 : Addr) (w : World) (K : SlV × Unit → World → Prop) : Prop :=
  NewV #[.int .i64 p0_0, .bool p0_1, .slice a0_2 n0_2 c0_2] 109 w fun b1 w2 =>
  LoadS w2 q0 .sl fun (x3 : SlV) =>
  LoadS w2 q1 .sl fun (x4 : SlV) =>
  LoadS w2 ⟨b1, 2, none⟩ .sl fun (x5 : SlV) =>
  CallV Try.prog 103 #[.slice x3.a x3.n x3.c, .slice x4.a x4.n x4.c, .slice x5.a x5.n x5.c] w2 [.one .sl, .one (.int .i64)] fun (r6 : SlV × Int × Unit) w7 =>
  LoadS w7 ⟨b1, 1, none⟩ .bool fun (x8 : Bool) =>
  cond (!x8)
  (LoadS w7 q0 .sl fun (x9 : SlV) =>
  LoadS w7 q1 .sl fun (x10 : SlV) =>
  LoadS w7 ⟨b1, 2, none⟩ .sl fun (x11 : SlV) =>
  CallV Try.prog 105 #[.slice x9.a x9.n x9.c, .slice x10.a x10.n x10.c, .slice x11.a x11.n x11.c] w7 [.one .sl, .one (.int .i64)] fun (r12 : SlV × Int × Unit) w13 =>
  K (r12.1, ()) w13)
  (K (r6.1, ()) w7)
theorem nand_Chip_Program_2.vc (p0_0 : Int) (p0_1 : Bool) (a0_2 : Option Addr) (n0_2 c0_2 : Nat) (q0 : Addr) (q1 : Addr) (w : World) (K : SlV × Unit → World → Prop) (h : nand_Chip_Program_2.P p0_0 p0_1 a0_2 n0_2 c0_2 q0 q1 w K) : CallV Try.prog 104 #[.agg #[.int .i64 p0_0, .bool p0_1, .slice a0_2 n0_2 c0_2], .pointer (some q0), .pointer (some q1)] w [.one .sl] K := by
  have e : vcFun Try.prog okf false Try.f104 nand_Chip_Program_2.A #[.agg #[.int .i64 p0_0, .bool p0_1, .slice a0_2 n0_2 c0_2], .pointer (some q0), .pointer (some q1)] w [.one .sl] K = nand_Chip_Program_2.P p0_0 p0_1 a0_2 n0_2 c0_2 q0 q1 w K := by kernel_rfl
  exact vcFun.calls okf_ok follows Try.func104 (e.symm ▸ h)

/-! ### (*nepenthe/nand.Chip).may: function 112 -/
def nand_Chip_may.A : Ann := .no
def nand_Chip_may.P (p0 : Addr) (p1 : Int) (w : World) (K : Int × Unit → World → Prop) : Prop :=
  CallV Try.prog 54 #[.pointer (some p0)] w [.one .bool] fun (r1 : Bool × Unit) w2 =>
  cond (!r1.1)
  (K ((4 : Int), ()) w2)
  (cond (decide (p1 < 0))
  (K ((2 : Int), ()) w2)
  (LoadS w2 p0 (.int .i64) fun (x3 : Int) =>
  cond (decide (p1 ≥ x3))
  (K ((2 : Int), ()) w2)
  (K ((0 : Int), ()) w2)))
theorem nand_Chip_may.vc (p0 : Addr) (p1 : Int) (w : World) (K : Int × Unit → World → Prop) (h : nand_Chip_may.P p0 p1 w K) : CallV Try.prog 112 #[.pointer (some p0), .int .i64 p1] w [.one (.int .i64)] K := by
  have e : vcFun Try.prog okf false Try.f112 nand_Chip_may.A #[.pointer (some p0), .int .i64 p1] w [.one (.int .i64)] K = nand_Chip_may.P p0 p1 w K := by kernel_rfl
  exact vcFun.calls okf_ok follows Try.func112 (e.symm ▸ h)

/-! ### (*nepenthe/nand.Chip).Erase: function 80 -/
def nand_Chip_Erase.A : Ann := .two .no (.two .no (.two .no (.two .no (.two .no (.two .no (.two .no (.two (.two .no (.two (.two (.draw (.take 0 (.take 1 (.take 2 (.take 3 (.take 4 (.take 5 (.take 6 (.take 7 (.take 8 (.take 9 (.take 10 (.take 11 (.take 12 (.take 13 (.take 14 (.take 15 (.take 16 (.take 17 (.take 18 (.take 19 (.eff 20 (.done))))))))))))))))))))))) (.draw (.take 0 (.take 1 (.take 2 (.take 4 (.take 5 (.take 6 (.take 7 (.take 9 (.both 3 (.eff 8 (.take 10 (.eff 11 (.take 12 (.eff 13 (.done)))))) 8 (.eff 3 (.take 10 (.eff 11 (.take 12 (.eff 13 (.done))))))))))))))))) .no)) .no)))))))
def nand_Chip_Erase.P (p0 : Addr) (p1 : Int) (w : World) (K : Int × Unit → World → Prop) : Prop :=
  CallV Try.prog 112 #[.pointer (some p0), .int .i64 p1] w [.one (.int .i64)] fun (r1 : Int × Unit) w2 =>
  cond (r1.1 != 0)
  (K (r1.1, ()) w2)
  (CallV Try.prog 113 #[.pointer (some p0), .int .i64 p1] w2 [.one .sl] fun (r3 : SlV × Unit) w4 =>
  NewV #[.slice none 0 0] 28 w4 fun b5 w6 =>
  StoreV w6 ⟨b5, 0, none⟩ [.slice r3.1.a r3.1.n r3.1.c] fun w7 =>
  LoadS w7 (p0.add 11) .sl fun (x8 : SlV) =>
  (0 ≤ p1 ∧ p1 < ((x8.n : Nat) : Int)) ∧ ∃ q9 : Addr, x8.a = some q9 ∧
  LoadS w7 (q9.add (p1.toNat * 1)) (.int .i64) fun (x10 : Int) =>
  Rng .i64 (x10 + 1) ∧
  (0 ≤ p1 ∧ p1 < ((x8.n : Nat) : Int)) ∧ ∃ q11 : Addr, x8.a = some q11 ∧
  StoreV w7 (q11.add (p1.toNat * 1)) [.int .i64 (x10 + 1)] fun w12 =>
  LoadS w12 ⟨b5, 0, none⟩ .sl fun (x13 : SlV) =>
  CallV Try.prog 106 #[.pointer (some p0), .int .i64 2, .agg #[.int .i64 p1, .int .i64 0], .slice none 0 0, .agg #[.func (.func 116) #[] #[.pointer (some ⟨b5, 0, none⟩)], .func (.func 114) #[] #[.pointer (some ⟨b5, 0, none⟩)]], .slice x13.a x13.n x13.c] w12 [.one (.int .i64)] fun (r14 : Int × Unit) w15 =>
  cond (r14.1 == 0)
  (DrawV fun D16 =>
  (D16 (p0.add 8).block ∧ LoadS w15.drew (p0.add 8) .sl fun (x17 : SlV) =>
  (D16 (p0.add 1).block ∧ LoadS w15.drew (p0.add 1) (.int .i64) fun (x18 : Int) =>
  Rng .i64 (p1 * x18) ∧
  Rng .i64 (p1 + 1) ∧
  (D16 (p0.add 1).block ∧ LoadS w15.drew (p0.add 1) (.int .i64) fun (x19 : Int) =>
  Rng .i64 ((p1 + 1) * x19) ∧
  ((0 : Int) ≤ (p1 * x18) ∧ (p1 * x18) ≤ ((p1 + 1) * x19) ∧ ((p1 + 1) * x19) ≤ ((x17.c : Nat) : Int)) ∧
  SubK x17.a ((p1 * x18).toNat) x17.c 1 fun a20 =>
  ClearV w15.drew a20 ((((p1 + 1) * x19).toNat) - ((p1 * x18).toNat)) [.int .i64 0] fun w21 =>
  KeepOn D16 w15.drew w21 ∧
  DrawV fun D22 =>
  ((LoadS w21.drew (p0.add 9) .sl fun (x23 : SlV) =>
  KeepOn D22 w21.drew w21.drew ∧
  LoadS w21.drew (p0.add 10) .sl fun (x24 : SlV) =>
  KeepOn D22 w21.drew w21.drew ∧
  (0 ≤ p1 ∧ p1 < ((x23.n : Nat) : Int)) ∧ ∃ q25 : Addr, x23.a = some q25 ∧
  StoreV w21.drew (q25.add (p1.toNat * 1)) [.int .i64 (-1)] fun w26 =>
  KeepOn D22 w21.drew w26 ∧
  (0 ≤ p1 ∧ p1 < ((x24.n : Nat) : Int)) ∧ ∃ q27 : Addr, x24.a = some q27 ∧
  StoreV w26 (q27.add (p1.toNat * 1)) [.int .i64 0] fun w28 =>
  KeepOn D22 w21.drew w28 ∧
  K (r14.1, ()) w28) ∧
  (LoadS w21.drew (p0.add 10) .sl fun (x29 : SlV) =>
  KeepOn D22 w21.drew w21.drew ∧
  LoadS w21.drew (p0.add 9) .sl fun (x30 : SlV) =>
  KeepOn D22 w21.drew w21.drew ∧
  (0 ≤ p1 ∧ p1 < ((x30.n : Nat) : Int)) ∧ ∃ q31 : Addr, x30.a = some q31 ∧
  StoreV w21.drew (q31.add (p1.toNat * 1)) [.int .i64 (-1)] fun w32 =>
  KeepOn D22 w21.drew w32 ∧
  (0 ≤ p1 ∧ p1 < ((x29.n : Nat) : Int)) ∧ ∃ q33 : Addr, x29.a = some q33 ∧
  StoreV w32 (q33.add (p1.toNat * 1)) [.int .i64 0] fun w34 =>
  KeepOn D22 w21.drew w34 ∧
  K (r14.1, ()) w34))))))
  (K (r14.1, ()) w15))
theorem nand_Chip_Erase.vc (p0 : Addr) (p1 : Int) (w : World) (K : Int × Unit → World → Prop) (h : nand_Chip_Erase.P p0 p1 w K) : CallV Try.prog 80 #[.pointer (some p0), .int .i64 p1] w [.one (.int .i64)] K := by
  have e : vcFun Try.prog okf false Try.f80 nand_Chip_Erase.A #[.pointer (some p0), .int .i64 p1] w [.one (.int .i64)] K = nand_Chip_Erase.P p0 p1 w K := by kernel_rfl
  exact vcFun.calls okf_ok follows Try.func80 (e.symm ▸ h)

/-! ### (*nepenthe/nand.Chip).Erase$1: function 114 -/
def nand_Chip_Erase_1.A : Ann := .no
def nand_Chip_Erase_1.P (p0_0 : Int) (p0_1 : Bool) (a0_2 : Option Addr) (n0_2 c0_2 : Nat) (q0 : Addr) (w : World) (K : SlV × Unit → World → Prop) : Prop :=
  NewV #[.int .i64 p0_0, .bool p0_1, .slice a0_2 n0_2 c0_2] 109 w fun b1 w2 =>
  LoadS w2 q0 .sl fun (x3 : SlV) =>
  LoadS w2 ⟨b1, 2, none⟩ .sl fun (x4 : SlV) =>
  CallV Try.prog 115 #[.slice x3.a x3.n x3.c, .slice x4.a x4.n x4.c] w2 [.one .sl] fun (r5 : SlV × Unit) w6 =>
  K (r5.1, ()) w6
theorem nand_Chip_Erase_1.vc (p0_0 : Int) (p0_1 : Bool) (a0_2 : Option Addr) (n0_2 c0_2 : Nat) (q0 : Addr) (w : World) (K : SlV × Unit → World → Prop) (h : nand_Chip_Erase_1.P p0_0 p0_1 a0_2 n0_2 c0_2 q0 w K) : CallV Try.prog 114 #[.agg #[.int .i64 p0_0, .bool p0_1, .slice a0_2 n0_2 c0_2], .pointer (some q0)] w [.one .sl] K := by
  have e : vcFun Try.prog okf false Try.f114 nand_Chip_Erase_1.A #[.agg #[.int .i64 p0_0, .bool p0_1, .slice a0_2 n0_2 c0_2], .pointer (some q0)] w [.one .sl] K = nand_Chip_Erase_1.P p0_0 p0_1 a0_2 n0_2 c0_2 q0 w K := by kernel_rfl
  exact vcFun.calls okf_ok follows Try.func114 (e.symm ▸ h)

/-! ### (*nepenthe/nand.Chip).Erase$2: function 116 -/
def nand_Chip_Erase_2.A : Ann := .no
def nand_Chip_Erase_2.P (q0 : Addr) (w : World) (K : SlV × Unit → World → Prop) : Prop :=
  LoadS w q0 .sl fun (x1 : SlV) =>
  CallV Try.prog 115 #[.slice x1.a x1.n x1.c, .slice none 0 0] w [.one .sl] fun (r2 : SlV × Unit) w3 =>
  K (r2.1, ()) w3
theorem nand_Chip_Erase_2.vc (q0 : Addr) (w : World) (K : SlV × Unit → World → Prop) (h : nand_Chip_Erase_2.P q0 w K) : CallV Try.prog 116 #[.pointer (some q0)] w [.one .sl] K := by
  have e : vcFun Try.prog okf false Try.f116 nand_Chip_Erase_2.A #[.pointer (some q0)] w [.one .sl] K = nand_Chip_Erase_2.P q0 w K := by kernel_rfl
  exact vcFun.calls okf_ok follows Try.func116 (e.symm ▸ h)

/-! ### (*nepenthe/nand.Chip).Scrub: function 82 -/
def nand_Chip_Scrub.A : Ann := .no
def nand_Chip_Scrub.P (p0 : Addr) (p1 : Int) (w : World) (K : Int × Unit → World → Prop) : Prop :=
  CallV Try.prog 112 #[.pointer (some p0), .int .i64 p1] w [.one (.int .i64)] fun (r1 : Int × Unit) w2 =>
  cond (r1.1 != 0)
  (K (r1.1, ()) w2)
  (CallV Try.prog 113 #[.pointer (some p0), .int .i64 p1] w2 [.one .sl] fun (r3 : SlV × Unit) w4 =>
  NewV #[.slice none 0 0] 28 w4 fun b5 w6 =>
  StoreV w6 ⟨b5, 0, none⟩ [.slice r3.1.a r3.1.n r3.1.c] fun w7 =>
  LoadS w7 (p0.add 10) .sl fun (x8 : SlV) =>
  (0 ≤ p1 ∧ p1 < ((x8.n : Nat) : Int)) ∧ ∃ q9 : Addr, x8.a = some q9 ∧
  StoreV w7 (q9.add (p1.toNat * 1)) [.int .i64 1] fun w10 =>
  LoadS w10 ⟨b5, 0, none⟩ .sl fun (x11 : SlV) =>
  ((0 : Int) ≤ (((x11.n : Nat) : Int) : Int) ∧ (((x11.n : Nat) : Int) : Int) ≤ (((x11.n : Nat) : Int) : Int) ∧ (((x11.n : Nat) : Int) : Int) ≤ 9223372036854775807 ∧ ((1 : Nat) : Int) * (((x11.n : Nat) : Int) : Int) ≤ 140737488355328) ∧
  NewV (List.replicate (((x11.n : Nat) : Int).toNat) [.int .u8 0]).flatten.toArray 5 w10 fun b12 w13 =>
  NewV #[.slice none 0 0] 28 w13 fun b14 w15 =>
  StoreV w15 ⟨b14, 0, none⟩ [.slice (some ⟨b12, 0, none⟩) (((x11.n : Nat) : Int).toNat) (((x11.n : Nat) : Int).toNat)] fun w16 =>
  LoadS w16 ⟨b5, 0, none⟩ .sl fun (x17 : SlV) =>
  CallV Try.prog 106 #[.pointer (some p0), .int .i64 3, .agg #[.int .i64 p1, .int .i64 0], .slice none 0 0, .agg #[.func (.func 117) #[] #[.pointer (some ⟨b14, 0, none⟩)], .func (.func 118) #[] #[.pointer (some ⟨b5, 0, none⟩), .pointer (some ⟨b14, 0, none⟩)]], .slice x17.a x17.n x17.c] w16 [.one (.int .i64)] fun (r18 : Int × Unit) w19 =>
  K (r18.1, ()) w19)
theorem nand_Chip_Scrub.vc (p0 : Addr) (p1 : Int) (w : World) (K : Int × Unit → World → Prop) (h : nand_Chip_Scrub.P p0 p1 w K) : CallV Try.prog 82 #[.pointer (some p0), .int .i64 p1] w [.one (.int .i64)] K := by
  have e : vcFun Try.prog okf false Try.f82 nand_Chip_Scrub.A #[.pointer (some p0), .int .i64 p1] w [.one (.int .i64)] K = nand_Chip_Scrub.P p0 p1 w K := by kernel_rfl
  exact vcFun.calls okf_ok follows Try.func82 (e.symm ▸ h)

/-! ### (*nepenthe/nand.Chip).Scrub$1: function 117 -/
def nand_Chip_Scrub_1.A : Ann := .no
def nand_Chip_Scrub_1.P (q0 : Addr) (w : World) (K : SlV × Unit → World → Prop) : Prop :=
  LoadS w q0 .sl fun (x1 : SlV) =>
  K (x1, ()) w
theorem nand_Chip_Scrub_1.vc (q0 : Addr) (w : World) (K : SlV × Unit → World → Prop) (h : nand_Chip_Scrub_1.P q0 w K) : CallV Try.prog 117 #[.pointer (some q0)] w [.one .sl] K := by
  have e : vcFun Try.prog okf false Try.f117 nand_Chip_Scrub_1.A #[.pointer (some q0)] w [.one .sl] K = nand_Chip_Scrub_1.P q0 w K := by kernel_rfl
  exact vcFun.calls okf_ok follows Try.func117 (e.symm ▸ h)

/-! ### (*nepenthe/nand.Chip).Scrub$2: function 118 -/
def nand_Chip_Scrub_2.A : Ann := .no
def nand_Chip_Scrub_2.P (p0_0 : Int) (p0_1 : Bool) (a0_2 : Option Addr) (n0_2 c0_2 : Nat) (q0 : Addr) (q1 : Addr) (w : World) (K : SlV × Unit → World → Prop) : Prop :=
  NewV #[.int .i64 p0_0, .bool p0_1, .slice a0_2 n0_2 c0_2] 109 w fun b1 w2 =>
  LoadS w2 q0 .sl fun (x3 : SlV) =>
  LoadS w2 q1 .sl fun (x4 : SlV) =>
  LoadS w2 ⟨b1, 2, none⟩ .sl fun (x5 : SlV) =>
  CallV Try.prog 103 #[.slice x3.a x3.n x3.c, .slice x4.a x4.n x4.c, .slice x5.a x5.n x5.c] w2 [.one .sl, .one (.int .i64)] fun (r6 : SlV × Int × Unit) w7 =>
  K (r6.1, ()) w7
theorem nand_Chip_Scrub_2.vc (p0_0 : Int) (p0_1 : Bool) (a0_2 : Option Addr) (n0_2 c0_2 : Nat) (q0 : Addr) (q1 : Addr) (w : World) (K : SlV × Unit → World → Prop) (h : nand_Chip_Scrub_2.P p0_0 p0_1 a0_2 n0_2 c0_2 q0 q1 w K) : CallV Try.prog 118 #[.agg #[.int .i64 p0_0, .bool p0_1, .slice a0_2 n0_2 c0_2], .pointer (some q0), .pointer (some q1)] w [.one .sl] K := by
  have e : vcFun Try.prog okf false Try.f118 nand_Chip_Scrub_2.A #[.agg #[.int .i64 p0_0, .bool p0_1, .slice a0_2 n0_2 c0_2], .pointer (some q0), .pointer (some q1)] w [.one .sl] K = nand_Chip_Scrub_2.P p0_0 p0_1 a0_2 n0_2 c0_2 q0 q1 w K := by kernel_rfl
  exact vcFun.calls okf_ok follows Try.func118 (e.symm ▸ h)

/-! ### (*nepenthe/nand.Chip).Read: function 46 -/
def nand_Chip_Read.A : Ann := .two .no (.two .no (.two (.draw (.take 0 (.take 1 (.take 2 (.take 3 (.take 4 (.eff 5 (.take 6 (.take 7 (.take 8 (.take 9 (.take 10 (.done))))))))))))) .no))
def nand_Chip_Read.P (p0 : Addr) (p1_0 : Int) (p1_1 : Int) (w : World) (K : SlV × Int × Unit → World → Prop) : Prop :=
  NewV #[.int .i64 p1_0, .int .i64 p1_1] 81 w fun b1 w2 =>
  CallV Try.prog 54 #[.pointer (some p0)] w2 [.one .bool] fun (r3 : Bool × Unit) w4 =>
  cond (!r3.1)
  (K ((⟨none, 0, 0⟩ : SlV), (4 : Int), ()) w4)
  (DrawV fun D5 =>
  (D5 p0.block ∧ LoadA w4.drew p0 [.int .i64, .int .i64, .int .i64, .int .i64, .int .i64, .int .i64] fun (x6 : Int × Int × Int × Int × Int × Int × Unit) =>
  (D5 b1 ∧ LoadA w4.drew ⟨b1, 0, none⟩ [.int .i64, .int .i64] fun (x7 : Int × Int × Unit) =>
  CallV Try.prog 86 #[.agg #[.int .i64 x6.1, .int .i64 x6.2.1, .int .i64 x6.2.2.1, .int .i64 x6.2.2.2.1, .int .i64 x6.2.2.2.2.1, .int .i64 x6.2.2.2.2.2.1], .agg #[.int .i64 x7.1, .int .i64 x7.2.1]] w4.drew [.one (.int .i64), .one (.int .i64)] fun (r8 : Int × Int × Unit) w9 =>
  KeepOn D5 w4.drew w9 ∧
  cond (r8.2.1 != 0)
  (K ((⟨none, 0, 0⟩ : SlV), r8.2.1, ()) w9)
  (NewV #[] 5 w9 fun b10 w11 =>
  CallV Try.prog 87 #[.pointer (some p0), .int .i64 r8.1] w11 [.one .sl] fun (r12 : SlV × Unit) w13 =>
  AppS w13 r12.1.a r12.1.n 1 fun ns18 =>
  AppV w13 5 1 1 (some ⟨b10, 0, none⟩) 0 0 ns18 r12.1.n fun a14 n15 c16 w17 =>
  K ((⟨a14, n15, c16⟩ : SlV), (0 : Int), ()) w17))))
theorem nand_Chip_Read.vc (p0 : Addr) (p1_0 : Int) (p1_1 : Int) (w : World) (K : SlV × Int × Unit → World → Prop) (h : nand_Chip_Read.P p0 p1_0 p1_1 w K) : CallV Try.prog 46 #[.pointer (some p0), .agg #[.int .i64 p1_0, .int .i64 p1_1]] w [.one .sl, .one (.int .i64)] K := by
  have e : vcFun Try.prog okf false Try.f46 nand_Chip_Read.A #[.pointer (some p0), .agg #[.int .i64 p1_0, .int .i64 p1_1]] w [.one .sl, .one (.int .i64)] K = nand_Chip_Read.P p0 p1_0 p1_1 w K := by kernel_rfl
  exact vcFun.calls okf_ok follows Try.func46 (e.symm ▸ h)

/-! ### (*nepenthe/nand.Chip).Poke: function 84 -/
def nand_Chip_Poke.A : Ann := .two .no (.two .no (.two (.draw (.take 0 (.take 1 (.take 2 (.take 3 (.take 4 (.eff 5 (.take 6 (.take 7 (.take 8 (.take 9 (.take 10 (.done))))))))))))) .no))
def nand_Chip_Poke.P (p0 : Addr) (p1_0 : Int) (p1_1 : Int) (p2 : Int) (p3 : Int) (w : World) (K : Int × Unit → World → Prop) : Prop :=
  NewV #[.int .i64 p1_0, .int .i64 p1_1] 81 w fun b1 w2 =>
  CallV Try.prog 54 #[.pointer (some p0)] w2 [.one .bool] fun (r3 : Bool × Unit) w4 =>
  cond r3.1
  (K ((4 : Int), ()) w4)
  (DrawV fun D5 =>
  (D5 p0.block ∧ LoadA w4.drew p0 [.int .i64, .int .i64, .int .i64, .int .i64, .int .i64, .int .i64] fun (x6 : Int × Int × Int × Int × Int × Int × Unit) =>
  (D5 b1 ∧ LoadA w4.drew ⟨b1, 0, none⟩ [.int .i64, .int .i64] fun (x7 : Int × Int × Unit) =>
  CallV Try.prog 86 #[.agg #[.int .i64 x6.1, .int .i64 x6.2.1, .int .i64 x6.2.2.1, .int .i64 x6.2.2.2.1, .int .i64 x6.2.2.2.2.1, .int .i64 x6.2.2.2.2.2.1], .agg #[.int .i64 x7.1, .int .i64 x7.2.1]] w4.drew [.one (.int .i64), .one (.int .i64)] fun (r8 : Int × Int × Unit) w9 =>
  KeepOn D5 w4.drew w9 ∧
  cond (r8.2.1 != 0)
  (K ((2 : Int), ()) w9)
  (cond (decide (p2 < 0))
  (K ((2 : Int), ()) w9)
  (LoadS w9 (p0.add 6) (.int .i64) fun (x10 : Int) =>
  cond (decide (p2 ≥ x10))
  (K ((2 : Int), ()) w9)
  (CallV Try.prog 87 #[.pointer (some p0), .int .i64 r8.1] w9 [.one .sl] fun (r11 : SlV × Unit) w12 =>
  (0 ≤ p2 ∧ p2 < ((r11.1.n : Nat) : Int)) ∧ ∃ q13 : Addr, r11.1.a = some q13 ∧
  StoreV w12 (q13.add (p2.toNat * 1)) [.int .u8 p3] fun w14 =>
  K ((0 : Int), ()) w14))))))
theorem nand_Chip_Poke.vc (p0 : Addr) (p1_0 : Int) (p1_1 : Int) (p2 : Int) (p3 : Int) (w : World) (K : Int × Unit → World → Prop) (h : nand_Chip_Poke.P p0 p1_0 p1_1 p2 p3 w K) : CallV Try.prog 84 #[.pointer (some p0), .agg #[.int .i64 p1_0, .int .i64 p1_1], .int .i64 p2, .int .u8 p3] w [.one (.int .i64)] K := by
  have e : vcFun Try.prog okf false Try.f84 nand_Chip_Poke.A #[.pointer (some p0), .agg #[.int .i64 p1_0, .int .i64 p1_1], .int .i64 p2, .int .u8 p3] w [.one (.int .i64)] K = nand_Chip_Poke.P p0 p1_0 p1_1 p2 p3 w K := by kernel_rfl
  exact vcFun.calls okf_ok follows Try.func84 (e.symm ▸ h)

/-! ### (*nepenthe/nand.Chip).Power: function 85 -/
def nand_Chip_Power.A : Ann := .no
def nand_Chip_Power.P (p0 : Addr) (p1 : Bool) (w : World) (K : Unit → World → Prop) : Prop :=
  StoreV w (p0.add 13) [.bool (!p1)] fun w1 =>
  K () w1
set_option maxRecDepth 65536 in
theorem nand_Chip_Power.vc (p0 : Addr) (p1 : Bool) (w : World) (K : Unit → World → Prop) (h : nand_Chip_Power.P p0 p1 w K) : CallV Try.prog 85 #[.pointer (some p0), .bool p1] w [] K := by
  have e : vcFun Try.prog okf false Try.f85 nand_Chip_Power.A #[.pointer (some p0), .bool p1] w [] K = nand_Chip_Power.P p0 p1 w K := by kernel_rfl
  exact vcFun.calls okf_ok follows Try.func85 (e.mpr h)

/-! ### (*nepenthe/nand.Chip).On: function 54 -/
def nand_Chip_On.A : Ann := .no
def nand_Chip_On.P (p0 : Addr) (w : World) (K : Bool × Unit → World → Prop) : Prop :=
  LoadS w (p0.add 6) (.int .i64) fun (x1 : Int) =>
  cond (decide (x1 > 0))
  (LoadS w (p0.add 13) .bool fun (x2 : Bool) =>
  K (!x2, ()) w)
  (K (false, ()) w)
theorem nand_Chip_On.vc (p0 : Addr) (w : World) (K : Bool × Unit → World → Prop) (h : nand_Chip_On.P p0 w K) : CallV Try.prog 54 #[.pointer (some p0)] w [.one .bool] K := by
  have e : vcFun Try.prog okf false Try.f54 nand_Chip_On.A #[.pointer (some p0)] w [.one .bool] K = nand_Chip_On.P p0 w K := by kernel_rfl
  exact vcFun.calls okf_ok follows Try.func54 (e.symm ▸ h)

/-! ### (*nepenthe/nand.Chip).Ops: function 49 -/
def nand_Chip_Ops.A : Ann := .no
def nand_Chip_Ops.P (p0 : Addr) (w : World) (K : Int × Unit → World → Prop) : Prop :=
  LoadS w (p0.add 14) .sl fun (x1 : SlV) =>
  K (((x1.n : Nat) : Int), ()) w
theorem nand_Chip_Ops.vc (p0 : Addr) (w : World) (K : Int × Unit → World → Prop) (h : nand_Chip_Ops.P p0 w K) : CallV Try.prog 49 #[.pointer (some p0)] w [.one (.int .i64)] K := by
  have e : vcFun Try.prog okf false Try.f49 nand_Chip_Ops.A #[.pointer (some p0)] w [.one (.int .i64)] K = nand_Chip_Ops.P p0 w K := by kernel_rfl
  exact vcFun.calls okf_ok follows Try.func49 (e.symm ▸ h)

/-! ### (*nepenthe/nand.Chip).Erases: function 55 -/
def nand_Chip_Erases.A : Ann := .no
def nand_Chip_Erases.P (p0 : Addr) (p1 : Int) (w : World) (K : Int × Unit → World → Prop) : Prop :=
  cond (decide (p1 < 0))
  (K ((0 : Int), ()) w)
  (LoadS w (p0.add 11) .sl fun (x1 : SlV) =>
  cond (decide (p1 ≥ ((x1.n : Nat) : Int)))
  (K ((0 : Int), ()) w)
  (LoadS w (p0.add 11) .sl fun (x2 : SlV) =>
  (0 ≤ p1 ∧ p1 < ((x2.n : Nat) : Int)) ∧ ∃ q3 : Addr, x2.a = some q3 ∧
  LoadS w (q3.add (p1.toNat * 1)) (.int .i64) fun (x4 : Int) =>
  K (x4, ()) w))
theorem nand_Chip_Erases.vc (p0 : Addr) (p1 : Int) (w : World) (K : Int × Unit → World → Prop) (h : nand_Chip_Erases.P p0 p1 w K) : CallV Try.prog 55 #[.pointer (some p0), .int .i64 p1] w [.one (.int .i64)] K := by
  have e : vcFun Try.prog okf false Try.f55 nand_Chip_Erases.A #[.pointer (some p0), .int .i64 p1] w [.one (.int .i64)] K = nand_Chip_Erases.P p0 p1 w K := by kernel_rfl
  exact vcFun.calls okf_ok follows Try.func55 (e.symm ▸ h)

/-! ### (*nepenthe/nand.Chip).Image: function 48 -/
def nand_Chip_Image.A : Ann := .no
def nand_Chip_Image.P (p0 : Addr) (w : World) (K : SlV × Unit → World → Prop) : Prop :=
  NewV #[] 5 w fun b1 w2 =>
  LoadS w2 (p0.add 7) .sl fun (x3 : SlV) =>
  AppS w2 x3.a x3.n 1 fun ns8 =>
  AppV w2 5 1 1 (some ⟨b1, 0, none⟩) 0 0 ns8 x3.n fun a4 n5 c6 w7 =>
  K ((⟨a4, n5, c6⟩ : SlV), ()) w7
theorem nand_Chip_Image.vc (p0 : Addr) (w : World) (K : SlV × Unit → World → Prop) (h : nand_Chip_Image.P p0 w K) : CallV Try.prog 48 #[.pointer (some p0)] w [.one .sl] K := by
  have e : vcFun Try.prog okf false Try.f48 nand_Chip_Image.A #[.pointer (some p0)] w [.one .sl] K = nand_Chip_Image.P p0 w K := by kernel_rfl
  exact vcFun.calls okf_ok follows Try.func48 (e.symm ▸ h)

/-! ### (*nepenthe/nand.Chip).Geometry: function 53 -/
def nand_Chip_Geometry.A : Ann := .no
def nand_Chip_Geometry.P (p0 : Addr) (w : World) (K : (Int × Int × Int × Int × Int × Int × Unit) × Unit → World → Prop) : Prop :=
  NewV #[.int .i64 0, .int .i64 0, .int .i64 0, .int .i64 0, .int .i64 0, .int .i64 0] 23 w fun b1 w2 =>
  LoadA w2 p0 [.int .i64, .int .i64, .int .i64, .int .i64, .int .i64, .int .i64] fun (x3 : Int × Int × Int × Int × Int × Int × Unit) =>
  StoreV w2 ⟨b1, 0, none⟩ [.int .i64 x3.1, .int .i64 x3.2.1, .int .i64 x3.2.2.1, .int .i64 x3.2.2.2.1, .int .i64 x3.2.2.2.2.1, .int .i64 x3.2.2.2.2.2.1] fun w4 =>
  LoadA w4 ⟨b1, 0, none⟩ [.int .i64, .int .i64, .int .i64, .int .i64, .int .i64, .int .i64] fun (x5 : Int × Int × Int × Int × Int × Int × Unit) =>
  K ((x5.1, x5.2.1, x5.2.2.1, x5.2.2.2.1, x5.2.2.2.2.1, x5.2.2.2.2.2.1, ()), ()) w4
theorem nand_Chip_Geometry.vc (p0 : Addr) (w : World) (K : (Int × Int × Int × Int × Int × Int × Unit) × Unit → World → Prop) (h : nand_Chip_Geometry.P p0 w K) : CallV Try.prog 53 #[.pointer (some p0)] w [.agg [.int .i64, .int .i64, .int .i64, .int .i64, .int .i64, .int .i64]] K := by
  have e : vcFun Try.prog okf false Try.f53 nand_Chip_Geometry.A #[.pointer (some p0)] w [.agg [.int .i64, .int .i64, .int .i64, .int .i64, .int .i64, .int .i64]] K = nand_Chip_Geometry.P p0 w K := by kernel_rfl
  exact vcFun.calls okf_ok follows Try.func53 (e.symm ▸ h)

/-! ### (*nepenthe/nand.Chip).Trace: function 52 -/
-- loop 0 carries 3: .one .sl, 13: .one (.int .i64)
def nand_Chip_Trace.A : Ann := .two .no (.two .no (.two .no (.two (.two .no (.one (.loop [3, 5, 13, 14, 15, 16, 17, 18, 19, 20, 21, 22, 23, 24, 25, 26] [(3, .one .sl), (13, .one (.int .i64))] .no))) .no)))
def nand_Chip_Trace.P (p0 : Addr) (w : World) (K : SlV × Unit → World → Prop) : Prop :=
  LoadS w (p0.add 14) .sl fun (x1 : SlV) =>
  LoopV [.one .sl, .one (.int .i64)] ((⟨none, 0, 0⟩ : SlV), (0 : Int), ()) w fun (z2 : SlV × Int × Unit) w3 (K4 : SlV × Int × Unit → World → Prop) =>
  cond (decide (z2.2.1 < ((x1.n : Nat) : Int)))
  ((0 ≤ z2.2.1 ∧ z2.2.1 < ((x1.n : Nat) : Int)) ∧ ∃ q5 : Addr, x1.a = some q5 ∧
  LoadA w3 (q5.add (z2.2.1.toNat * 5)) [.int .i64, .int .i64, .int .i64, .sl, .int .i64] fun (x6 : Int × Int × Int × SlV × Int × Unit) =>
  NewV #[.int .i64 0, .int .i64 0, .int .i64 0, .slice none 0 0, .int .i64 0] 106 w3 fun b7 w8 =>
  StoreV w8 ⟨b7, 0, none⟩ [.int .i64 x6.1, .int .i64 x6.2.1, .int .i64 x6.2.2.1, .slice x6.2.2.2.1.a x6.2.2.2.1.n x6.2.2.2.1.c, .int .i64 x6.2.2.2.2.1] fun w9 =>
  NewV #[] 5 w9 fun b10 w11 =>
  LoadS w11 ⟨b7, 3, none⟩ .sl fun (x12 : SlV) =>
  AppS w11 x12.a x12.n 1 fun ns17 =>
  AppV w11 5 1 1 (some ⟨b10, 0, none⟩) 0 0 ns17 x12.n fun a13 n14 c15 w16 =>
  StoreV w16 ⟨b7, 3, none⟩ [.slice a13 n14 c15] fun w18 =>
  LoadA w18 ⟨b7, 0, none⟩ [.int .i64, .int .i64, .int .i64, .sl, .int .i64] fun (x19 : Int × Int × Int × SlV × Int × Unit) =>
  NewV #[.int .i64 x19.1, .int .i64 x19.2.1, .int .i64 x19.2.2.1, .slice x19.2.2.2.1.a x19.2.2.2.1.n x19.2.2.2.1.c, .int .i64 x19.2.2.2.2.1] 106 w18 fun b20 w21 =>
  AppS w21 (some ⟨b20, 0, none⟩) 1 5 fun ns26 =>
  AppV w21 106 5 56 z2.1.a z2.1.n z2.1.c ns26 1 fun a22 n23 c24 w25 =>
  Rng .i64 (z2.2.1 + 1) ∧
  K4 ((⟨a22, n23, c24⟩ : SlV), z2.2.1 + 1, ()) w25)
  (K (z2.1, ()) w3)
theorem nand_Chip_Trace.vc (p0 : Addr) (w : World) (K : SlV × Unit → World → Prop) (h : nand_Chip_Trace.P p0 w K) : CallV Try.prog 52 #[.pointer (some p0)] w [.one .sl] K := by
  have e : vcFun Try.prog okf false Try.f52 nand_Chip_Trace.A #[.pointer (some p0)] w [.one .sl] K = nand_Chip_Trace.P p0 w K := by kernel_rfl
  exact vcFun.calls okf_ok follows Try.func52 (e.symm ▸ h)

end Go.Proofs.Ytfpkaebmiojicaa.Vc

/-! The contracts of layer 13 (nand): the array's parts, and what only reads it. -/
namespace Go.Proofs.Ytfpkaebmiojicaa.Vc
open Go Go.Eng Go.RowKit
set_option linter.unusedVariables false
set_option linter.unusedSimpArgs false

/-- A value that is read. -/
def RdT (t : Ty) (x : t.T) : Asr := ⟨fun w F => t.rd w F x, fun h k => t.rd_kp (fun i hi _ => k i hi) h⟩
theorem rdT_get {t : Ty} {x : t.T} {E : Nat → Prop} {w0 w : World} {Rs : List Asr} (S : Sep E w0 w Rs) (i : Nat) (hi : Rs[i]? = some (RdT t x)) : t.rd w All x := by
  obtain ⟨F, h, _⟩ := S.get hi
  exact t.rd_mono (fun _ _ _ => trivial) h
structure TOp where
  k : Int
  bl : Int
  pa : Int
  d : SlP Int
  e : Int
abbrev TOp.vs (o : TOp) : List Value := [.int .i64 o.k, .int .i64 o.bl, .int .i64 o.pa, .slice o.d.a o.d.n o.d.c, .int .i64 o.e]
abbrev TOp.dat (o : TOp) : Int × Int × Int × List Int × Int := (o.k, o.bl, o.pa, o.d.l, o.e)
theorem TOp.one (o : TOp) : oneAll o.vs := fun u hu => by
  simp only [List.mem_cons, List.not_mem_nil, or_false] at hu
  rcases hu with rfl | rfl | rfl | rfl | rfl <;> rfl
/-- Where an array lies. -/
structure Lay where
  P : SlV
  U : SlV
  A : SlV
  S : SlV
  E : SlV
  F : SlP TF.T
  T : SlV
def pagesC (C : CD) : List (List Int) := C.bs.flatMap (·.pg)
def imgC (C : CD) : List Int := C.bs.flatMap fun x => x.pg.flatten
def usL (C : CD) : List Int := C.bs.flatMap (·.us)
def laL (C : CD) : List Int := C.bs.map (·.la)
def scI (b : Bool) : Int := if b then 1 else 0
def scL (C : CD) : List Int := C.bs.map fun x => scI x.sc
def erL (C : CD) : List Int := C.bs.map (·.er)
abbrev iv (l : List Int) : List Value := l.map (Value.int .i64)
abbrev bv8 (l : List Int) : List Value := l.map (Value.int .u8)
abbrev chipV (y : Lay) (C : CD) : List Value := [.int .i64 C.g.b, .int .i64 C.g.p, .int .i64 C.g.s, .int .i64 C.g.sp, .int .i64 C.g.wr, .int .i64 C.g.ro, .int .i64 (C.g.s + 88), .slice y.P.a y.P.n y.P.c, .slice y.U.a y.U.n y.U.c, .slice y.A.a y.A.n y.A.c,
  .slice y.S.a y.S.n y.S.c, .slice y.E.a y.E.n y.E.c, .slice y.F.a y.F.n y.F.c, .bool C.off, .slice y.T.a C.ops y.T.c]
/-- An array of one's own. -/
abbrev ChipQ (p : Nat) (y : Lay) (C : CD) (L : List TOp) (Rs : List Asr) : List Asr := BoxA p 131 (chipV y C) :: OwnA 5 1 y.P.a y.P.n y.P.c (bv8 (imgC C)) :: OwnA 3 1 y.U.a y.U.n y.U.c (iv (usL C)) :: OwnA 3 1 y.A.a y.A.n y.A.c (iv (laL C)) ::
  OwnA 3 1 y.S.a y.S.n y.S.c (iv (scL C)) :: OwnA 3 1 y.E.a y.E.n y.E.c (iv (erL C)) :: RdT LF y.F :: OwnA 106 5 y.T.a C.ops y.T.c (L.flatMap TOp.vs) :: RdL (L.map (·.d)) :: Rs
abbrev ChipP (p : Nat) (y : Lay) (C : CD) (L : List TOp) : List Asr := ChipQ p y C L []

/-! ### Numbers -/
theorem COk.num {C : CD} (h : COk C) : (7 ≤ C.g.b ∧ C.g.b ≤ 16) ∧ (4 ≤ C.g.p ∧ C.g.p ≤ 20) ∧ (32 ≤ C.g.s ∧ C.g.s ≤ 128) ∧ szP C.g = C.g.s.toNat + 88 ∧ (szP C.g : Int) = C.g.s + 88 := by
  have h1 := h.g.1
  obtain ⟨h2, h3, h4⟩ := h.lg
  unfold Kept at h1
  refine ⟨by omega, by omega, by omega, ?_, ?_⟩
  · show (C.g.s + 88).toNat = _; omega
  · show (((C.g.s + 88).toNat : Nat) : Int) = _; omega
theorem COk.blk {C : CD} (h : COk C) {bl : Int} (hb : 0 ≤ bl ∧ bl < C.g.b) : C.bs[bl.toNat]? = some (blkC C bl) ∧ BOk C.g C.ops (blkC C bl) := by
  have hl : bl.toNat < C.bs.length := by rw [h.bl]; omega
  have := some_getD (d := default) hl
  exact ⟨this, h.bo _ (List.mem_of_getElem? this)⟩
theorem COk.page {C : CD} (h : COk C) {bl pa : Int} (hi : inC C bl pa) : (blkC C bl).pg[pa.toNat]? = some (pgC13 C bl pa) ∧ (pgC13 C bl pa).length = szP C.g ∧ Byt (pgC13 C bl pa) := by
  obtain ⟨-, hb⟩ := h.blk hi.1
  have hl : pa.toNat < (blkC C bl).pg.length := by rw [hb.pl]; have := hi.2; omega
  have := some_getD (d := []) hl
  exact ⟨this, hb.pb _ (List.mem_of_getElem? this)⟩
theorem COk.us {C : CD} (h : COk C) {bl pa : Int} (hi : inC C bl pa) : (blkC C bl).us[pa.toNat]? = some (usC C bl pa) ∧ (0 ≤ usC C bl pa ∧ usC C bl pa ≤ 2) := by
  obtain ⟨-, hb⟩ := h.blk hi.1
  have hl : pa.toNat < (blkC C bl).us.length := by rw [hb.ul]; have := hi.2; omega
  have := some_getD (d := 0) hl
  exact ⟨this, hb.ub _ (List.mem_of_getElem? this)⟩
/-- A page's number. -/
abbrev ixC (C : CD) (bl pa : Int) : Nat := bl.toNat * C.g.p.toNat + pa.toNat
theorem COk.ix {C : CD} (h : COk C) {bl pa : Int} (hi : inC C bl pa) : ((ixC C bl pa : Nat) : Int) = bl * C.g.p + pa ∧ ixC C bl pa < C.g.b.toNat * C.g.p.toNat ∧ C.g.b.toNat * C.g.p.toNat ≤ 320 := by
  obtain ⟨⟨n1, n2⟩, ⟨n3, n4⟩, -⟩ := h.num
  obtain ⟨⟨b0, b1⟩, ⟨p0, p1⟩⟩ := hi
  have e : (bl.toNat : Int) * (C.g.p.toNat : Int) = bl * C.g.p := by rw [Int.toNat_of_nonneg b0, Int.toNat_of_nonneg (by omega)]
  have m1 : (bl.toNat + 1) * C.g.p.toNat ≤ C.g.b.toNat * C.g.p.toNat := Nat.mul_le_mul_right _ (by omega)
  have m2 : C.g.b.toNat * C.g.p.toNat ≤ 16 * 20 := Nat.mul_le_mul (by omega) (by omega)
  rw [Nat.add_mul] at m1
  refine ⟨by push_cast; omega, by show bl.toNat * C.g.p.toNat + pa.toNat < _; omega, by omega⟩
theorem pagesC_len {C : CD} (h : COk C) : (pagesC C).length = C.g.b.toNat * C.g.p.toNat := by
  unfold pagesC
  rw [fl_len (m := C.g.p.toNat) fun x hx => (h.bo x hx).pl, h.bl]
theorem pagesC_mem {C : CD} (h : COk C) : ∀ q ∈ pagesC C, q.length = szP C.g := fun q hq => by
  obtain ⟨x, hx, hq⟩ := List.mem_flatMap.1 hq
  exact ((h.bo x hx).pb q hq).1
theorem imgC_pages (C : CD) : imgC C = (pagesC C).flatMap id := by
  unfold imgC pagesC
  rw [List.flatMap_assoc]
  congr 1
  funext x
  simp [List.flatMap_id]
theorem imgC_len {C : CD} (h : COk C) : (imgC C).length = C.g.b.toNat * C.g.p.toNat * szP C.g := by
  rw [imgC_pages, fl_len (f := id) (m := szP C.g) (pagesC_mem h), pagesC_len h]
theorem imgC_byt {C : CD} (h : COk C) : Byt (imgC C) := fun v hv => by
  obtain ⟨x, hx, hv⟩ := List.mem_flatMap.1 hv
  obtain ⟨q, hq, hv⟩ := List.mem_flatten.1 hv
  exact ((h.bo x hx).pb q hq).2 v hv
theorem pagesC_get {C : CD} (h : COk C) {bl pa : Int} (hi : inC C bl pa) : (pagesC C)[ixC C bl pa]? = some (pgC13 C bl pa) := by
  unfold pagesC
  rw [fl_get (m := C.g.p.toNat) (fun x hx => (h.bo x hx).pl) (h.blk hi.1).1 (by have := hi.2; omega)]
  exact (h.page hi).1
theorem imgC_split {C : CD} (h : COk C) {bl pa : Int} (hi : inC C bl pa) : ∃ pre post, imgC C = pre ++ (pgC13 C bl pa ++ post) ∧ pre.length = ixC C bl pa * szP C.g ∧
    ∀ q : List Int, ∀ C' : CD, C'.bs = C.bs.set bl.toNat { blkC C bl with pg := (blkC C bl).pg.set pa.toNat q, us := (C'.bs.getD bl.toNat default).us, la := (C'.bs.getD bl.toNat default).la } → imgC C' = pre ++ (q ++ post) := by
  have hs := pagesC_get h hi
  refine ⟨((pagesC C).take (ixC C bl pa)).flatMap id, ((pagesC C).drop (ixC C bl pa + 1)).flatMap id, ?_, ?_, fun q C' hC => ?_⟩
  · rw [imgC_pages]; exact fl_split (f := id) hs
  · exact fl_take (pagesC_mem h) (by rw [pagesC_len h]; exact Nat.le_of_lt (h.ix hi).2.1)
  · rw [imgC_pages, show pagesC C' = (pagesC C).set (ixC C bl pa) q from ?_]
    · exact fl_set (f := id) hs
    · unfold pagesC
      rw [hC]
      exact fl_put (m := C.g.p.toNat) (fun x hx => (h.bo x hx).pl) (h.blk hi.1).1 (by have := hi.2; omega) rfl

/-! ### What only reads it -/
section
variable {E : Nat → Prop} {w0 w : World} {Rs : List Asr} {p : Nat} {y : Lay} {C : CD} {L : List TOp}
theorem On_c (hC : COk C) (S : Sep E w0 w (BoxA p 131 (chipV y C) :: Rs)) : CallV Try.prog 54 #[.pointer (some ⟨p, 0, none⟩)] w [.one .bool] fun r w' => r.1 = (!C.off) ∧ w' = w := by
  apply nand_Chip_On.vc
  unfold nand_Chip_On.P
  simp only [Addr.add_lit, Nat.zero_add]
  have n := hC.num
  refine S.ld0 (j := 6) rfl rfl (cond_d (fun _ => S.ld0 (j := 13) rfl rfl ⟨rfl, trivial⟩) fun h => absurd (by omega) h)
theorem Ops_c (S : Sep E w0 w (BoxA p 131 (chipV y C) :: Rs)) : CallV Try.prog 49 #[.pointer (some ⟨p, 0, none⟩)] w [.one (.int .i64)] fun r w' => r.1 = (C.ops : Int) ∧ w' = w := by
  apply nand_Chip_Ops.vc
  unfold nand_Chip_Ops.P
  simp only [Addr.add_lit, Nat.zero_add]
  exact S.ld0 (j := 14) rfl rfl ⟨rfl, trivial⟩
theorem may_c {n : Int} (hC : COk C) (S : Sep E w0 w (BoxA p 131 (chipV y C) :: Rs)) : CallV Try.prog 112 #[.pointer (some ⟨p, 0, none⟩), .int .i64 n] w [.one (.int .i64)] fun r w' => r.1 = mayC C n ∧ w' = w := by
  apply nand_Chip_may.vc
  unfold nand_Chip_may.P mayC
  refine (On_c hC S).mono ?_
  rintro ⟨(r : Bool), ⟨⟩⟩ w1 ⟨h1, rfl⟩
  dsimp only at h1 ⊢
  subst h1
  by_cases ho : C.off = true
  · rw [if_pos ho, ho]
    exact cond_t rfl ⟨rfl, rfl⟩
  rw [if_neg ho]
  refine cond_f (by simpa using ho) (cond_d (fun h => ⟨by rw [if_pos (by omega)], rfl⟩) fun h => ?_)
  refine S.ld0 (j := 0) rfl rfl (cond_d (fun h => ⟨by rw [if_pos (by omega)], rfl⟩) fun h => ⟨by rw [if_neg (by omega)], rfl⟩)
theorem page_c {k blk : Nat} (hC : COk C) (hk : k < C.g.b.toNat * C.g.p.toNat) (hP : y.P.a = some ⟨blk, 0, none⟩) (hc : C.g.b.toNat * C.g.p.toNat * szP C.g ≤ y.P.c) (S : Sep E w0 w (BoxA p 131 (chipV y C) :: Rs)) :
    CallV Try.prog 87 #[.pointer (some ⟨p, 0, none⟩), .int .i64 (k : Int)] w [.one .sl] fun r w' => r.1 = (⟨some ⟨blk, k * szP C.g, none⟩, szP C.g, szP C.g⟩ : SlV) ∧ Ext w w' := by
  apply nand_Chip_page.vc
  unfold nand_Chip_page.P
  simp only [Addr.add_lit, Nat.zero_add]
  obtain ⟨⟨n1, n2⟩, ⟨n3, n4⟩, ⟨n5, n6⟩, n7, n8⟩ := hC.num
  have m1 : (k + 1) * szP C.g ≤ C.g.b.toNat * C.g.p.toNat * szP C.g := Nat.mul_le_mul_right _ hk
  have m2 : C.g.b.toNat * C.g.p.toNat ≤ 16 * 20 := Nat.mul_le_mul (by omega) (by omega)
  have m3 : C.g.b.toNat * C.g.p.toNat * szP C.g ≤ 320 * 216 := Nat.mul_le_mul (by omega) (by omega)
  have m4 : (k + 1) * szP C.g = k * szP C.g + szP C.g := by rw [Nat.add_mul, Nat.one_mul]
  have e1 : (k : Int) * (C.g.s + 88) = ((k * szP C.g : Nat) : Int) := by rw [← n8]; push_cast; rfl
  have e2 : ((k : Int) + 1) * (C.g.s + 88) = (((k + 1) * szP C.g : Nat) : Int) := by rw [← n8]; push_cast; rfl
  generalize hz : szP C.g = z at *
  refine S.reg fun D hD hkeep S T => ?_
  have hb := hD _ S.bl0
  refine ⟨hb, S.ld0 (j := 7) rfl rfl ⟨hb, S.ld0 (j := 6) rfl rfl ⟨by rw [e1]; exact Rng.i64 (by omega) (by omega), Rng.i64 (by omega) (by omega), hb, S.ld0 (j := 6) rfl rfl ⟨by rw [e2]; exact Rng.i64 (by omega) (by omega), Rng.i64 (by omega) (by omega), hb, S.ld0 (j := 6) rfl rfl
    ⟨by rw [e2]; exact Rng.i64 (by omega) (by omega), ⟨by rw [e1]; omega, by rw [e1, e2]; omega, by omega, by rw [e2]; dsimp only; omega⟩, ?_⟩⟩⟩⟩⟩
  intro a6 ha6
  rw [e1, e2] at ha6 ⊢
  rw [Int.toNat_natCast, Int.toNat_natCast, if_neg (by omega), hP] at ha6
  refine ⟨?_, Ext.drew _⟩
  rw [ha6, Int.toNat_natCast, Int.toNat_natCast]
  have e3 : (⟨blk, 0, none⟩ : Addr).add (k * z * 1) = ⟨blk, k * z, none⟩ := by simp [Addr.add_lit]
  show (⟨some ((⟨blk, 0, none⟩ : Addr).add (k * z * 1)), _, _⟩ : SlV) = _
  rw [e3, show (k + 1) * z - k * z = z by omega]
end

end Go.Proofs.Ytfpkaebmiojicaa.Vc

/-! The contracts of layer 13 (nand): what only reads an array, and a byte changed. -/
namespace Go.Proofs.Ytfpkaebmiojicaa.Vc
open Go Go.Eng Go.RowKit
set_option linter.unusedVariables false
set_option linter.unusedSimpArgs false

theorem usL_len {C : CD} (h : COk C) : (usL C).length = C.g.b.toNat * C.g.p.toNat := by
  unfold usL
  rw [fl_len (m := C.g.p.toNat) fun x hx => (h.bo x hx).ul, h.bl]
theorem usL_get {C : CD} (h : COk C) {bl pa : Int} (hi : inC C bl pa) : (usL C).getD (ixC C bl pa) 0 = usC C bl pa := by
  apply getD_some
  unfold usL
  rw [fl_get (m := C.g.p.toNat) (fun x hx => (h.bo x hx).ul) (h.blk hi.1).1 (by have := hi.2; omega)]
  exact (h.us hi).1
theorem laL_get {C : CD} (h : COk C) {bl : Int} (hb : 0 ≤ bl ∧ bl < C.g.b) : (laL C).getD bl.toNat 0 = (blkC C bl).la := getD_some (by unfold laL; rw [List.getElem?_map, (h.blk hb).1]; rfl)
theorem scL_get {C : CD} (h : COk C) {bl : Int} (hb : 0 ≤ bl ∧ bl < C.g.b) : (scL C).getD bl.toNat 0 = scI (blkC C bl).sc := getD_some (by unfold scL; rw [List.getElem?_map, (h.blk hb).1]; rfl)
theorem erL_get {C : CD} (h : COk C) {bl : Int} (hb : 0 ≤ bl ∧ bl < C.g.b) : (erL C).getD bl.toNat 0 = (blkC C bl).er := getD_some (by unfold erL; rw [List.getElem?_map, (h.blk hb).1]; rfl)

section
variable {E : Nat → Prop} {w0 w : World} {Rs : List Asr} {p : Nat} {y : Lay} {C : CD} {L : List TOp}
/-- The lengths of an array's lists. -/
theorem chip_len (hC : COk C) (S : Sep E w0 w (ChipQ p y C L Rs)) : y.P.n = C.g.b.toNat * C.g.p.toNat * szP C.g ∧ y.P.n ≤ y.P.c ∧ y.U.n = C.g.b.toNat * C.g.p.toNat ∧ y.U.n ≤ y.U.c ∧ y.A.n = C.g.b.toNat ∧ y.S.n = C.g.b.toNat ∧ y.E.n = C.g.b.toNat ∧ L.length = C.ops := by
  have h1 := (S.own 1 rfl).len
  have h2 := (S.own 2 rfl).len
  have h3 := (S.own 3 rfl).len
  have h4 := (S.own 4 rfl).len
  have h5 := (S.own 5 rfl).len
  have h7 := (S.own 7 rfl).len
  have c1 := (S.own 1 rfl).cap
  have c2 := (S.own 2 rfl).cap
  rw [List.length_map, imgC_len hC] at h1
  rw [List.length_map, usL_len hC] at h2
  rw [List.length_map, laL, List.length_map, hC.bl] at h3
  rw [List.length_map, scL, List.length_map, hC.bl] at h4
  rw [List.length_map, erL, List.length_map, hC.bl] at h5
  rw [flatF_len (f := TOp.vs) (m := 5) (fun _ => rfl)] at h7
  refine ⟨by omega, c1, by omega, c2, by omega, by omega, by omega, by omega⟩
theorem chip_adr (hC : COk C) (S : Sep E w0 w (ChipQ p y C L Rs)) : ∃ blk, y.P.a = some ⟨blk, 0, none⟩ := by
  have hl := chip_len hC S
  obtain ⟨⟨n1, n2⟩, ⟨n3, n4⟩, ⟨n5, n6⟩, n7, n8⟩ := hC.num
  have h0 : 0 < C.g.b.toNat * C.g.p.toNat * szP C.g := Nat.mul_pos (Nat.mul_pos (by omega) (by omega)) (by omega)
  rcases (S.own 1 rfl).at_ with ⟨_, _, h⟩ | ⟨b, cs, h, _⟩
  · have := congrArg List.length h
    rw [List.length_map, imgC_len hC, List.length_nil] at this
    omega
  · exact ⟨b, h⟩

theorem refused_c {bl pa : Int} {n : Nat} (hC : COk C) (hi : inC C bl pa) (S0 : Sep E w0 w (ChipQ p y C L Rs)) :
    CallV Try.prog 101 #[.pointer (some ⟨p, 0, none⟩), .agg #[.int .i64 bl, .int .i64 pa], .int .i64 ((ixC C bl pa : Nat) : Int), .int .i64 (n : Int)] w [.one (.int .i64)] fun r w' =>
      r.1 = (if n ≠ szP C.g then 2 else if (blkC C bl).sc = true ∨ 2 ≤ usC C bl pa then 7 else if usC C bl pa = 0 ∧ pa ≤ (blkC C bl).la then 6 else (0 : Int)) ∧ Ext w w' := by
  apply nand_Chip_refused.vc
  unfold nand_Chip_refused.P
  simp only [Addr.add_lit, Nat.zero_add]
  obtain ⟨⟨n1, n2⟩, ⟨n3, n4⟩, ⟨n5, n6⟩, n7, n8⟩ := hC.num
  obtain ⟨l1, l1', l2, l2', l3, l4, l5, -⟩ := chip_len hC S0
  obtain ⟨i1, i2, -⟩ := hC.ix hi
  have T := Sep.start NoB w
  refine T.newB fun b1 w1 T f1 _ => ?_
  have S0 := S0.stepE T.ext
  refine S0.ld0 (j := 6) rfl rfl (cond_ne (fun h => ⟨by rw [if_pos (by omega)], T.ext⟩) fun h => ?_)
  rw [if_neg (by omega)]
  refine T.reg fun D hD hkeep T _ => ?_
  have S1 := S0.drew
  have hs : (0 : Int) ≤ bl ∧ bl < (y.S.n : Int) := by rw [l4]; have := hi.1; omega
  have hu : (0 : Int) ≤ ((ixC C bl pa : Nat) : Int) ∧ ((ixC C bl pa : Nat) : Int) < (y.U.n : Int) := by rw [l2]; omega
  have ha : (0 : Int) ≤ bl ∧ bl < (y.A.n : Int) := by rw [l3]; have := hi.1; omega
  refine ⟨hD _ S0.bl0, S1.ld0 (j := 10) rfl rfl ⟨hD _ T.bl0, T.ld0 (j := 0) rfl rfl ((S0.ints 4 rfl).idxD (Ext.drew _) hs.1 hs.2 hD ?_)⟩⟩
  rw [scL_get hC hi.1]
  refine cond_d (fun hg => ?_) (fun hg => ?_)
  · have hsc : (blkC C bl).sc = true := by
      unfold scI at hg
      by_cases h : (blkC C bl).sc = true
      · exact h
      · rw [if_neg h] at hg; omega
    exact ⟨by rw [if_pos (.inl hsc)], T.ext⟩
  have hsc : ¬ (blkC C bl).sc = true := fun h => hg (by unfold scI; rw [if_pos h]; decide)
  refine ⟨hD _ S0.bl0, S1.ld0 (j := 8) rfl rfl ((S0.ints 2 rfl).idxD (Ext.drew _) hu.1 hu.2 hD ?_)⟩
  rw [Int.toNat_natCast, usL_get hC hi]
  refine cond_d (fun hg => ⟨by rw [if_pos (.inr hg)], T.ext⟩) (fun hg2 => ?_)
  rw [if_neg (fun h => h.elim hsc hg2)]
  refine T.reg fun D2 hD2 hkeep2 T2 _ => ?_
  have S2 := S1.drew
  refine ⟨hD2 _ S1.bl0, S2.ld0 (j := 8) rfl rfl ((S1.ints 2 rfl).idxD (Ext.drew _) hu.1 hu.2 hD2 ?_)⟩
  rw [Int.toNat_natCast, usL_get hC hi]
  refine cond_eq (fun h0 => ?_) (fun h0 => ⟨by rw [if_neg (fun h => h0 h.1)], T2.ext⟩)
  refine ⟨hD2 _ T.bl0, T2.ld0 (j := 1) rfl rfl ⟨hD2 _ S1.bl0, S2.ld0 (j := 9) rfl rfl ⟨hD2 _ T.bl0, T2.ld0 (j := 0) rfl rfl ((S1.ints 3 rfl).idxD (Ext.drew _) ha.1 ha.2 hD2 ?_)⟩⟩⟩
  rw [laL_get hC hi.1]
  exact cond_d (fun h => ⟨by rw [if_pos ⟨h0, h⟩], T2.ext⟩) (fun h => ⟨by rw [if_neg (fun k => h k.2)], T2.ext⟩)
def erasesC (C : CD) (n : Int) : Int := if 0 ≤ n ∧ n < C.g.b then (blkC C n).er else 0
theorem Erases_c {n : Int} (hC : COk C) (S : Sep E w0 w (ChipQ p y C L Rs)) :
    CallV Try.prog 55 #[.pointer (some ⟨p, 0, none⟩), .int .i64 n] w [.one (.int .i64)] fun r w' => r.1 = erasesC C n ∧ Ext w w' := by
  apply nand_Chip_Erases.vc
  unfold nand_Chip_Erases.P erasesC
  simp only [Addr.add_lit, Nat.zero_add]
  obtain ⟨⟨n1, n2⟩, -⟩ := hC.num
  obtain ⟨-, -, -, -, -, -, l5, -⟩ := chip_len hC S
  refine cond_d (fun h => ⟨by rw [if_neg (by omega)], Ext.refl _⟩) fun h => ?_
  refine S.ld0 (j := 11) rfl rfl (cond_d (fun h2 => ⟨by rw [if_neg (by dsimp only at h2; omega)], Ext.refl _⟩) fun h2 => ?_)
  dsimp only at h2
  have hn : 0 ≤ n ∧ n < C.g.b := by omega
  refine S.ld0 (j := 11) rfl rfl ((S.ints 5 rfl).idx hn.1 (by omega) ?_)
  rw [erL_get hC hn, if_pos hn]
  exact ⟨rfl, Ext.refl _⟩
theorem Image_c (hC : COk C) (S : Sep E w0 w (ChipQ p y C L Rs)) :
    CallV Try.prog 48 #[.pointer (some ⟨p, 0, none⟩)] w [.one .sl] fun r w' => Res w w' r.1 (imgC C) := by
  apply nand_Chip_Image.vc
  unfold nand_Chip_Image.P
  simp only [Addr.add_lit, Nat.zero_add]
  have T := Sep.start NoB w
  refine T.newB fun b1 w1 T f1 _ => ?_
  have S := S.stepE T.ext
  have hl := (S.own 1 rfl).len
  have hlim := imgC_len hC
  obtain ⟨⟨n1, n2⟩, ⟨n3, n4⟩, ⟨n5, n6⟩, n7, n8⟩ := hC.num
  have m2 : C.g.b.toNat * C.g.p.toNat ≤ 16 * 20 := Nat.mul_le_mul (by omega) (by omega)
  have m3 : C.g.b.toNat * C.g.p.toNat * szP C.g ≤ 320 * 216 := Nat.mul_le_mul (by omega) (by omega)
  rw [List.length_map, hlim] at hl
  refine S.ld0 (j := 7) rfl rfl ?_
  have T := T.asOwn (sz := 1) (n := 0) rfl (by omega) oneAll.nil
  refine T.ab0 (xs := []) (S.ints 1 rfl) (by omega) fun a' c' w' T f' => ?_
  exact T.out
theorem Geometry_c (S : Sep E w0 w (BoxA p 131 (chipV y C) :: Rs)) :
    CallV Try.prog 53 #[.pointer (some ⟨p, 0, none⟩)] w [.agg [.int .i64, .int .i64, .int .i64, .int .i64, .int .i64, .int .i64]] fun r w' => r.1 = C.g.tup ∧ Ext w w' := by
  apply nand_Chip_Geometry.vc
  unfold nand_Chip_Geometry.P
  have T := Sep.start NoB w
  refine T.newB fun b1 w1 T f1 _ => ?_
  have S := S.stepE T.ext
  refine S.lb0 (o := 0) rfl (T.st0 (by rfl) fun w2 T f2 => T.la0 rfl ?_)
  exact ⟨rfl, T.ext⟩
/-- A page's bytes, as they stand. -/
theorem page_ints {bl pa : Int} {blk : Nat} (hC : COk C) (hi : inC C bl pa) (hP : y.P.a = some ⟨blk, 0, none⟩) (S : Sep E w0 w (ChipQ p y C L Rs)) : Ints w .u8 (some ⟨blk, ixC C bl pa * szP C.g, none⟩) (szP C.g) (szP C.g) (pgC13 C bl pa) := by
  have hI := S.ints 1 rfl
  obtain ⟨l1, l1', -⟩ := chip_len hC S
  obtain ⟨pre, post, h1, h2, -⟩ := imgC_split hC hi
  have hp := (hC.page hi).2.1
  have i2 := (hC.ix hi).2.1
  have m1 : (ixC C bl pa + 1) * szP C.g ≤ C.g.b.toNat * C.g.p.toNat * szP C.g := Nat.mul_le_mul_right _ i2
  rw [Nat.add_mul, Nat.one_mul] at m1
  obtain ⟨-, -, -, n7, -⟩ := hC.num
  have := hI.sub (l := ixC C bl pa * szP C.g) (hh := ixC C bl pa * szP C.g + szP C.g) (m := ixC C bl pa * szP C.g + szP C.g) (by omega) (by omega) (Nat.le_refl _) (a' := some ⟨blk, ixC C bl pa * szP C.g, none⟩) (by
    rw [if_neg (by omega), hP]
    show some _ = some ((⟨blk, 0, none⟩ : Addr).add _)
    simp [Addr.add_lit])
  rw [h1, ← h2, List.drop_append_of_le_length (Nat.le_refl _), List.drop_length, List.nil_append, Nat.add_sub_cancel_left] at this
  rw [← hp, List.take_append_of_le_length (by omega), List.take_length, hp] at this
  rw [h2] at this
  exact this
def readC (C : CD) (bl pa : Int) : Int := if C.off = true then 4 else if inC C bl pa then 0 else 2
theorem Read13_c {bl pa : Int} (hC : COk C) (S : Sep E w0 w (ChipQ p y C L Rs)) :
    CallV Try.prog 46 #[.pointer (some ⟨p, 0, none⟩), .agg #[.int .i64 bl, .int .i64 pa]] w [.one .sl, .one (.int .i64)] fun r w' =>
      r.2.1 = readC C bl pa ∧ (readC C bl pa ≠ 0 → r.1 = (⟨none, 0, 0⟩ : SlV) ∧ Ext w w') ∧ (readC C bl pa = 0 → Res w w' r.1 (pgC13 C bl pa)) := by
  apply nand_Chip_Read.vc
  unfold nand_Chip_Read.P readC
  have T := Sep.start NoB w
  refine T.newB fun b1 w1 T f1 _ => ?_
  have S := S.stepE T.ext
  refine (On_c hC S).mono ?_
  rintro ⟨(r : Bool), ⟨⟩⟩ w2 ⟨h2, rfl⟩
  dsimp only at h2 ⊢
  subst h2
  by_cases ho : C.off = true
  · rw [if_pos ho, ho]
    exact cond_t rfl ⟨rfl, fun _ => ⟨rfl, T.ext⟩, fun h => by cases h⟩
  rw [if_neg ho]
  refine cond_f (by simpa using ho) ?_
  refine T.reg fun D hD hkeep T _ => ?_
  have S1 := S.drew
  refine ⟨hD _ S.bl0, S1.lb0 (o := 0) rfl ⟨hD _ T.bl0, T.la0 rfl ?_⟩⟩
  refine (Index_c (g := C.g) (b := bl) (p := pa)).mono ?_
  rintro ⟨(ix : Int), (e : Int), ⟨⟩⟩ w3 ⟨h3, h3', x3⟩
  dsimp only at h3 h3' ⊢
  have S3 := S1.stepE x3
  have T3 := (Sep.start NoB _).stepE x3
  refine ⟨hkeep _ T3.fr, ?_⟩
  have T := T.stepE x3
  by_cases hi : inC C bl pa
  case neg =>
    rw [if_neg (fun h => hi h.2)] at h3'
    subst h3'
    rw [if_neg hi]
    exact cond_t rfl ⟨rfl, fun _ => ⟨rfl, T.ext⟩, fun h => by cases h⟩
  have hok : plOk C.g bl pa := ⟨hC.g, hi⟩
  rw [if_pos hok] at h3 h3'
  obtain ⟨i1, i2, -⟩ := hC.ix hi
  rw [← i1] at h3
  subst h3; subst h3'
  rw [if_pos hi]
  refine cond_f rfl (T.newB fun b10 w11 T f11 _ => ?_)
  have X : Ext w3 w11 := Fr.ext f11
  have S4 := S3.stepE X
  obtain ⟨blk, hP⟩ := chip_adr hC S4
  obtain ⟨l1, l1', -⟩ := chip_len hC S4
  refine (page_c (k := ixC C bl pa) hC i2 hP (by omega) S4).mono ?_
  rintro ⟨⟨ra, rn, rc⟩, ⟨⟩⟩ w13 ⟨h13, x13⟩
  cases h13
  dsimp only
  have T := (T.stepE x13).asOwn (sz := 1) (n := 0) rfl (by omega) oneAll.nil
  have I := page_ints hC hi hP (S4.stepE x13)
  obtain ⟨-, -, ⟨n5, n6⟩, n7, -⟩ := hC.num
  refine T.ab0 (xs := []) I (by omega) fun a' c' w' T f' => ⟨rfl, fun h => absurd rfl h, fun _ => ?_⟩
  exact T.out
end

end Go.Proofs.Ytfpkaebmiojicaa.Vc

/-! The contracts of layer 13 (nand): the power, and a byte changed. -/
namespace Go.Proofs.Ytfpkaebmiojicaa.Vc
open Go Go.Eng Go.RowKit
set_option linter.unusedVariables false
set_option linter.unusedSimpArgs false

theorem fl_same {α β : Type} {f : α → List β} {l : List α} {i : Nat} {x y : α} (hi : l[i]? = some x) (h : f y = f x) : (l.set i y).flatMap f = l.flatMap f := by
  rw [fl_set hi, fl_split hi, h]
theorem map_set_same {α β : Type} {f : α → β} {l : List α} {i : Nat} {x y : α} (hi : l[i]? = some x) (h : f y = f x) : (l.set i y).map f = l.map f := by
  rw [List.map_set, h]
  refine List.ext_getElem? fun j => ?_
  rw [List.getElem?_set]
  split
  · rename_i e
    subst e
    split
    · rw [List.getElem?_map, hi]; rfl
    · rename_i hh
      rw [List.length_map] at hh
      exact absurd (List.getElem?_eq_some_iff.1 hi).1 hh
  · rfl
theorem BOk.up {g : Geo} {m m' : Nat} {x : BD} (h : BOk g m x) (hm : m ≤ m') : BOk g m' x := ⟨h.pl, h.pb, h.ul, h.ub, h.la, h.er.1, by have := h.er.2; omega⟩
theorem COk.upd {C : CD} (h : COk C) {i : Nat} {y : BD} {off : Bool} {ops : Nat} (ho : C.ops ≤ ops) (ho2 : ops ≤ 1000000) (hy : BOk C.g ops y) : COk { C with bs := C.bs.set i y, off := off, ops := ops } :=
  ⟨h.g, h.lg, by show (C.bs.set i y).length = _; rw [List.length_set]; exact h.bl, fun x hx => by
    rcases List.mem_or_eq_of_mem_set hx with h1 | h1
    · exact (h.bo x h1).up ho
    · rw [h1]; exact hy, h.pm, ho2⟩
theorem pg_set_ok {C : CD} (h : COk C) {bl pa : Int} (hi : inC C bl pa) {q : List Int} (hq : q.length = szP C.g ∧ Byt q) : ((blkC C bl).pg.set pa.toNat q).length = C.g.p.toNat ∧ ∀ z ∈ (blkC C bl).pg.set pa.toNat q, z.length = szP C.g ∧ Byt z := by
  obtain ⟨-, hb⟩ := h.blk hi.1
  refine ⟨by rw [List.length_set]; exact hb.pl, fun z hz => ?_⟩
  rcases List.mem_or_eq_of_mem_set hz with h1 | h1
  · exact hb.pb z h1
  · rw [h1]; exact hq
theorem Byt.set {xs : List Int} (h : Byt xs) {i : Nat} {v : Int} (hv : 0 ≤ v ∧ v < 256) : Byt (xs.set i v) := fun x hx => by
  rcases List.mem_or_eq_of_mem_set hx with h1 | h1
  · exact h x h1
  · rw [h1]; exact hv
theorem pokC_ok {C : CD} (h : COk C) {bl pa at_ x : Int} (hx : 0 ≤ x ∧ x < 256) : COk (pokC C bl pa at_ x).1 := by
  unfold pokC
  split
  · exact h
  split
  · exact h
  · rename_i _ hh
    have hi : inC C bl pa := (Decidable.not_not.1 hh).1
    obtain ⟨-, hb⟩ := h.blk hi.1
    obtain ⟨-, hl, hby⟩ := h.page hi
    have hp := pg_set_ok h hi (q := (pgC13 C bl pa).set at_.toNat x) ⟨by rw [List.length_set]; exact hl, Byt.set hby hx⟩
    exact h.upd (Nat.le_refl _) h.ops ⟨hp.1, hp.2, hb.ul, hb.ub, hb.la, hb.er⟩

theorem chip_mk {E : Nat → Prop} {w0 w : World} {p : Nat} {y : Lay} {C : CD} {L : List TOp} {Rs : List Asr} {i1 i2 i3 i4 i5 : List Int}
    (S : Sep E w0 w (BoxA p 131 (chipV y C) :: OwnA 5 1 y.P.a y.P.n y.P.c (bv8 i1) :: OwnA 3 1 y.U.a y.U.n y.U.c (iv i2) :: OwnA 3 1 y.A.a y.A.n y.A.c (iv i3) ::
      OwnA 3 1 y.S.a y.S.n y.S.c (iv i4) :: OwnA 3 1 y.E.a y.E.n y.E.c (iv i5) :: RdT LF y.F :: OwnA 106 5 y.T.a C.ops y.T.c (L.flatMap TOp.vs) :: RdL (L.map (·.d)) :: Rs))
    (h1 : imgC C = i1) (h2 : usL C = i2) (h3 : laL C = i3) (h4 : scL C = i4) (h5 : erL C = i5) : Sep E w0 w (ChipQ p y C L Rs) := by
  subst h1; subst h2; subst h3; subst h4; subst h5; exact S
section
variable {F : Nat → Prop} {w : World} {p : Nat} {y : Lay} {C : CD} {L : List TOp}
theorem Power_c {on : Bool} (S : Sep F w w (ChipP p y C L)) :
    CallV Try.prog 85 #[.pointer (some ⟨p, 0, none⟩), .bool on] w [] fun _ w' => Sep F w w' (ChipP p y { C with off := !on } L) := by
  apply nand_Chip_Power.vc
  unfold nand_Chip_Power.P
  simp only [Addr.add_lit, Nat.zero_add]
  refine S.su0 (j := 13) (by rfl) fun w1 S f => ?_
  exact S
theorem Poke_c {bl pa at_ x : Int} (hC : COk C) (hx : 0 ≤ x ∧ x < 256) (S : Sep F w w (ChipP p y C L)) :
    CallV Try.prog 84 #[.pointer (some ⟨p, 0, none⟩), .agg #[.int .i64 bl, .int .i64 pa], .int .i64 at_, .int .u8 x] w [.one (.int .i64)] fun r w' =>
      r.1 = (pokC C bl pa at_ x).2 ∧ Sep F w w' (ChipP p y (pokC C bl pa at_ x).1 L) := by
  apply nand_Chip_Poke.vc
  unfold nand_Chip_Poke.P pokC
  refine S.newB fun b1 w1 S f1 _ => ?_
  refine (On_c hC S.tail).mono ?_
  rintro ⟨(r : Bool), ⟨⟩⟩ w2 ⟨h2, rfl⟩
  dsimp only at h2 ⊢
  subst h2
  by_cases ho : C.off = false
  · rw [if_pos ho, ho]
    exact cond_t rfl ⟨rfl, S.tail⟩
  rw [if_neg ho]
  refine cond_f (by simpa using ho) ?_
  refine S.reg fun D hD hkeep S1 T => ?_
  refine ⟨hD _ S.bl1, S1.lb1 (o := 0) rfl ⟨hD _ S.bl0, S1.la0 rfl ?_⟩⟩
  refine (Index_c (g := C.g) (b := bl) (p := pa)).mono ?_
  rintro ⟨(ix : Int), (e : Int), ⟨⟩⟩ w3 ⟨h3, h3', x3⟩
  dsimp only at h3 h3' ⊢
  have T3 := T.stepE x3
  refine ⟨hkeep _ T3.fr, ?_⟩
  have S3 := S1.stepE x3
  by_cases hi : inC C bl pa
  case neg =>
    rw [if_neg (fun h => hi h.2)] at h3'
    subst h3'
    rw [if_pos (fun h => hi h.1)]
    exact cond_t rfl ⟨rfl, S3.tail⟩
  have hok : plOk C.g bl pa := ⟨hC.g, hi⟩
  rw [if_pos hok] at h3 h3'
  obtain ⟨i1, i2, -⟩ := hC.ix hi
  rw [← i1] at h3
  subst h3; subst h3'
  refine cond_f rfl ?_
  simp only [Addr.add_lit, Nat.zero_add]
  refine cond_d (fun h => ?_) (fun h0 => S3.ld1 (j := 6) rfl rfl (cond_d (fun h => ?_) fun h1 => ?_))
  · rw [if_pos (by omega)]; exact ⟨rfl, S3.tail⟩
  · rw [if_pos (by omega)]; exact ⟨rfl, S3.tail⟩
  rw [if_neg (fun k => k ⟨hi, by omega, by omega⟩)]
  have S4 := S3.tail
  obtain ⟨blk, hP⟩ := chip_adr hC S4
  obtain ⟨l1, l1', -⟩ := chip_len hC S4
  refine (page_c (k := ixC C bl pa) hC i2 hP (by omega) S4).mono ?_
  rintro ⟨⟨ra, rn, rc⟩, ⟨⟩⟩ w4 ⟨h4, x4⟩
  cases h4
  dsimp only
  obtain ⟨-, -, ⟨n5, n6⟩, n7, n8⟩ := hC.num
  refine ⟨⟨by omega, by omega⟩, _, rfl, ?_⟩
  have S5 := S4.stepE x4
  have m1 : (ixC C bl pa + 1) * szP C.g ≤ C.g.b.toNat * C.g.p.toNat * szP C.g := Nat.mul_le_mul_right _ i2
  rw [Nat.add_mul, Nat.one_mul] at m1
  have hput := S5.put (i := 1) rfl (j := ((ixC C bl pa * szP C.g + at_.toNat : Nat) : Int)) (by omega) (by rw [l1]; omega) (v := .int .u8 x) rfl (K := fun w' => (0 : Int) = 0 ∧ Sep F w w' (ChipP p y { C with bs := C.bs.set bl.toNat { blkC C bl with pg := (blkC C bl).pg.set pa.toNat ((pgC13 C bl pa).set at_.toNat x) } } L)) fun w' S6 f6 => ⟨rfl, ?_⟩
  · obtain ⟨-, q, hq, hst⟩ := hput
    rw [hP] at hq
    cases hq
    rw [Int.toNat_natCast] at hst
    rw [show (⟨blk, ixC C bl pa * szP C.g, none⟩ : Addr).add (at_.toNat * 1) = (⟨blk, 0, none⟩ : Addr).add ((ixC C bl pa * szP C.g + at_.toNat) * 1) by simp [Addr.add_lit]]
    exact hst
  · rw [Int.toNat_natCast] at S6
    obtain ⟨pre, post, g1, g2, g3⟩ := imgC_split hC hi
    obtain ⟨hb0, hb⟩ := hC.blk hi.1
    have hlp := (hC.page hi).2.1
    have hlt : bl.toNat < C.bs.length := by rw [hC.bl]; have := hi.1; omega
    have e1 : imgC { C with bs := C.bs.set bl.toNat { blkC C bl with pg := (blkC C bl).pg.set pa.toNat ((pgC13 C bl pa).set at_.toNat x) } } = (imgC C).set (ixC C bl pa * szP C.g + at_.toNat) x := by
      rw [g3 ((pgC13 C bl pa).set at_.toNat x) _ (by
        dsimp only
        rw [List.getD_eq_getElem?_getD, List.getElem?_set_self hlt]
        rfl), g1, List.set_append_right _ _ (by omega), List.set_append_left _ _ (by omega)]
      congr 3
      omega
    have e2 : usL { C with bs := C.bs.set bl.toNat { blkC C bl with pg := (blkC C bl).pg.set pa.toNat ((pgC13 C bl pa).set at_.toNat x) } } = usL C := fl_same hb0 rfl
    have e3 : laL { C with bs := C.bs.set bl.toNat { blkC C bl with pg := (blkC C bl).pg.set pa.toNat ((pgC13 C bl pa).set at_.toNat x) } } = laL C := map_set_same hb0 rfl
    have e4 : scL { C with bs := C.bs.set bl.toNat { blkC C bl with pg := (blkC C bl).pg.set pa.toNat ((pgC13 C bl pa).set at_.toNat x) } } = scL C := map_set_same hb0 rfl
    have e5 : erL { C with bs := C.bs.set bl.toNat { blkC C bl with pg := (blkC C bl).pg.set pa.toNat ((pgC13 C bl pa).set at_.toNat x) } } = erL C := map_set_same hb0 rfl
    refine chip_mk (Rs := []) ?_ e1 e2 e3 e4 e5
    rw [bv8, List.map_set]
    exact S6
end

end Go.Proofs.Ytfpkaebmiojicaa.Vc

/-! The contracts of layer 13 (nand): an operation that is done. -/
namespace Go.Proofs.Ytfpkaebmiojicaa.Vc
open Go Go.Eng Go.RowKit
set_option linter.unusedVariables false
set_option linter.unusedSimpArgs false

def newX (C : CD) (whole : List Int) (torn : FD → List Int) : List Int := match atF C.pl (C.ops : Int) with | none => whole | some f => torn f
abbrev upT (y : Lay) (ta : Option Addr) (tc : Nat) : Lay := { y with T := ⟨ta, 0, tc⟩ }
/-- What done leaves. -/
def DoneR (F : Nat → Prop) (w w' : World) (p : Nat) (y : Lay) (C : CD) (L : List TOp) (ds : List (SlP Int)) (dd : SlP Int) (blk : Nat) (eb : TypeId) (pre post : List Value) (xs' : List Int) (op : Int × Int × Int × List Int × Int) : Prop :=
  ∃ (ta : Option Addr) (tc : Nat) (o : TOp), o.dat = op ∧ Sep F w w' [BoxA p 131 (chipV (upT y ta tc) { C with off := (codeC C).2.2, ops := C.ops + 1 }), BoxA blk eb (pre ++ (bv8 xs' ++ post)), RdT LF y.F, OwnA 106 5 ta (C.ops + 1) tc ((L ++ [o]).flatMap TOp.vs), RdL (ds ++ [o.d]), RdL [dd]]

theorem ap56 {n : Nat} (h : n ≤ 1000000) : (2 * (n + 1) + 256) * 56 ≤ 281474976710656 := by omega
theorem ap63' {n : Nat} (h : n ≤ 1000000) : n + 1 ≤ 9223372036854775807 := by omega
theorem done_c {F : Nat → Prop} {w : World} {p : Nat} {y : Lay} {C : CD} {L : List TOp} {ds : List (SlP Int)} {dd : SlP Int} {blk o : Nat} {eb : TypeId} {pre post : List Value} {xs whole : List Int} {torn : FD → List Int} {k bl pa : Int} {n5 c5 : Nat} {f1 f2 : FuncId} {c1 c2 : Array Value}
    (hF : fds y.F = C.pl) (hm : mFit C.pl) (hops : C.ops ≤ 1000000) (hof : C.off = false) (ho : o = pre.length) (hdn : dd.n ≤ 1000000) (hn5 : n5 = xs.length) (hw : whole.length = xs.length) (ht : ∀ f, (torn f).length = xs.length)
    (hf1 : okf f1 = true) (hf2 : okf f2 = true)
    (h1 : ∀ w', Ext w w' → CallV Try.prog f1 ((#[] : Array Value).toList ++ ([] ++ c1.toList)).toArray w' [.one .sl] fun r w2 => Ints w2 .u8 r.1.a r.1.n r.1.c whole ∧ Ext w' w2)
    (h2 : ∀ w' (f : FD) (s : SlV), Ext w w' → atF C.pl (C.ops : Int) = some f → Ints w' .u8 s.a s.n s.c f.2.2.1 → CallV Try.prog f2 ((#[] : Array Value).toList ++ ((([.agg #[.int .i64 f.1, .bool f.2.1, .slice s.a s.n s.c]] : List Value)) ++ c2.toList)).toArray w' [.one .sl] fun r w2 => Ints w2 .u8 r.1.a r.1.n r.1.c (torn f) ∧ Ext w' w2)
    (S : Sep F w w [BoxA p 131 (chipV y C), BoxA blk eb (pre ++ (bv8 xs ++ post)), RdT LF y.F, OwnA 106 5 y.T.a C.ops y.T.c (L.flatMap TOp.vs), RdL ds, RdL [dd]]) :
    CallV Try.prog 106 #[.pointer (some ⟨p, 0, none⟩), .int .i64 k, .agg #[.int .i64 bl, .int .i64 pa], .slice dd.a dd.n dd.c, .agg #[.func (.func f1) #[] c1, .func (.func f2) #[] c2], .slice (some ⟨blk, o, none⟩) n5 c5] w [.one (.int .i64)] fun r w' =>
      r.1 = (codeC C).1 ∧ DoneR F w w' p y C L ds dd blk eb pre post (newX C whole torn) (k, bl, pa, dd.l, (codeC C).1) := by
  apply nand_Chip_done.vc (p4_0 := (f1, #[], c1)) (p4_1 := (f2, #[], c2))
  unfold nand_Chip_done.P
  simp only [Addr.add_lit, Nat.zero_add]
  refine S.newB fun b1 w1 S f1' _ => ?_
  refine S.newB fun b3 w3 S f3' _ => ?_
  have X3 : Ext w w3 := Fr.ext (f1'.trans f3')
  refine ⟨fun (v : Option Addr × Bool × Unit) w' => ∃ (b : Nat) (s : SlV) (f0 : Int) (fb : Bool), v.1 = some ⟨b, 0, none⟩ ∧ Ext w w' ∧ (match atF C.pl (C.ops : Int) with | none => v.2.1 = false | some f => v.2.1 = true ∧ f0 = f.1 ∧ fb = f.2.1 ∧ Ints w' .u8 s.a s.n s.c f.2.2.1) ∧
    Sep F w w' [BoxA b 109 [.int .i64 f0, .bool fb, .slice s.a s.n s.c], BoxA b3 153 [.func (.func f1) #[] c1, .func (.func f2) #[] c2], BoxA b1 81 [.int .i64 bl, .int .i64 pa], BoxA p 131 (chipV y C), BoxA blk eb (pre ++ (bv8 xs ++ post)), RdT LF y.F, OwnA 106 5 y.T.a C.ops y.T.c (L.flatMap TOp.vs), RdL ds, RdL [dd]], ?_, ?_⟩
  case refine_2 =>
    refine S.reg fun D hD hkeep S1 T => ?_
    have X1 : Ext w w3.drew := X3.trans (Ext.drew _)
    have hLF := rdT_get S1 4 rfl
    have hmF : mFit (fds y.F) := by rw [hF]; exact hm
    refine ⟨hD _ S.bl2, S1.ld2 (j := 12) rfl rfl ⟨hD _ S.bl2, S1.ld2 (j := 14) rfl rfl ⟨?_, ?_⟩⟩⟩
    · refine (At_c (n := (C.ops : Int)) hLF hmF).mono ?_
      rintro ⟨⟨(f0 : Int), (fb : Bool), ⟨sa, sn, sc⟩, ⟨⟩⟩, (ok : Bool), ⟨⟩⟩ w5 ⟨x5, h5⟩
      have T := T.stepE x5
      refine ⟨hkeep _ T.fr, T.newB fun b w6 T f6 _ => ⟨hkeep _ T.fr, T.st0 (by rfl) fun w7 T f7 => ⟨hkeep _ T.fr, b, ⟨sa, sn, sc⟩, f0, fb, rfl, X1.trans T.ext, ?_, S1.frame0 T⟩⟩⟩
      rw [hF] at h5
      have e7 : Ext w5 w7 := Fr.ext (f6.trans' f7 fun k hk => .inr (by omega))
      cases hat : atF C.pl (C.ops : Int) with
      | none => rw [hat] at h5; exact h5.1
      | some f => rw [hat] at h5; exact ⟨h5.1, h5.2.1, h5.2.2.1, h5.2.2.2.ints.ext e7⟩
    · refine T.newB fun b w6 T f6 _ => ⟨hkeep _ T.fr, ?_⟩
      refine (At_c (n := (C.ops : Int)) (Ty.rd_ext T.ext _ hLF) hmF).mono ?_
      rintro ⟨⟨(f0 : Int), (fb : Bool), ⟨sa, sn, sc⟩, ⟨⟩⟩, (ok : Bool), ⟨⟩⟩ w5 ⟨x5, h5⟩
      have hbb := T.bl0
      have T := T.stepE x5
      refine ⟨hkeep _ T.fr, T.st0 (by rfl) fun w7 T f7 => ⟨hkeep _ T.fr, b, ⟨sa, sn, sc⟩, f0, fb, rfl, X1.trans T.ext, ?_, S1.frame0 T⟩⟩
      rw [hF] at h5
      cases hat : atF C.pl (C.ops : Int) with
      | none => rw [hat] at h5; exact h5.1
      | some f =>
        rw [hat] at h5
        refine ⟨h5.1, h5.2.1, h5.2.2.1, ?_⟩
        have own := h5.2.2.2.own
        exact (own.other fun q hq => f7.block _ (own.lt q hq) (by have := own.ge q hq; omega)).ints
  rintro ⟨v1, (v2 : Bool), ⟨⟩⟩ w7 ⟨b, s, f0, fb, hv, X7, hat, S⟩
  dsimp only at hv hat ⊢
  subst hv
  have hlx : xs.length ≤ 9223372036854775807 ∨ True := .inr trivial
  have oneB : ∀ l : List Int, oneAll (bv8 l) := fun l => oneAll.ints _ _
  refine ⟨fun (v : Int × Unit) w' => v.1 = (codeC C).1 ∧ Sep F w w' [BoxA b1 81 [.int .i64 bl, .int .i64 pa], BoxA p 131 (chipV y { C with off := (codeC C).2.2 }), BoxA blk eb (pre ++ (bv8 (newX C whole torn) ++ post)), RdT LF y.F, OwnA 106 5 y.T.a C.ops y.T.c (L.flatMap TOp.vs), RdL ds, RdL [dd]], ?_, ?_⟩
  case refine_2 =>
    cases hatc : atF C.pl (C.ops : Int) with
    | none =>
      rw [hatc] at hat
      dsimp only at hat
      have hcode : codeC C = (0, [], false) := by unfold codeC; rw [hatc]
      have hnew : newX C whole torn = whole := by unfold newX; rw [hatc]
      refine cond_t (by rw [hat]; rfl) (S.ld1 (j := 0) rfl rfl (cond_t hf1 ?_))
      refine (h1 w7 X7).mono ?_
      rintro ⟨⟨ra, rn, rc⟩, ⟨⟩⟩ w8 ⟨i8, x8⟩
      dsimp only at i8 ⊢
      have S := S.stepE x8
      have ln := i8.len
      refine S.cpM 4 (news := bv8 whole) rfl ho (by rw [List.length_map]; show min rn n5 = _; omega) (by rw [List.length_map, List.length_map, hw]) i8.rd (oneB _) fun w9 S f9 => ⟨?_, ?_⟩
      · rw [hcode]
      · rw [hnew, hcode, ← hof]
        exact S.sel [2, 2, 2, 2, 2, 2, 2] rfl
    | some f =>
      rw [hatc] at hat
      obtain ⟨k1, k2, k3, k4⟩ := hat
      have hnew : newX C whole torn = torn f := by unfold newX; rw [hatc]
      have hcode : codeC C = (if f.2.1 then 4 else 5, f.2.2.1, f.2.1) := by unfold codeC; rw [hatc]
      subst k2; subst k3
      refine cond_f (by rw [k1]; rfl) (PtrK.of rfl (S.ld0 (j := 1) rfl rfl ?_))
      refine cond_of (fun hfb => ?_) (fun hfb => ?_)
      · refine S.ld1 (j := 1) rfl rfl (PtrK.of rfl (S.la0 rfl (cond_t hf2 ?_)))
        refine (h2 w7 f s X7 hatc k4).mono ?_
        rintro ⟨⟨ra, rn, rc⟩, ⟨⟩⟩ w8 ⟨i8, x8⟩
        dsimp only at i8 ⊢
        have S := S.stepE x8
        have ln := i8.len
        have htf := ht f
        refine S.cpM 4 (news := bv8 (torn f)) rfl ho (by rw [List.length_map]; show min rn n5 = _; omega) (by rw [List.length_map, List.length_map, htf]) i8.rd (oneB _) fun w9 S f9 => ?_
        refine S.su3 (j := 13) (by rfl) fun w10 S f10 => ⟨?_, ?_⟩
        · rw [hcode, hfb]; rfl
        · rw [hnew, hcode, hfb]
          exact S.sel [2, 2, 2, 2, 2, 2, 2] rfl
      · refine S.ld1 (j := 1) rfl rfl (PtrK.of rfl (S.la0 rfl (cond_t hf2 ?_)))
        refine (h2 w7 f s X7 hatc k4).mono ?_
        rintro ⟨⟨ra, rn, rc⟩, ⟨⟩⟩ w8 ⟨i8, x8⟩
        dsimp only at i8 ⊢
        have S := S.stepE x8
        have ln := i8.len
        have htf := ht f
        refine S.cpM 4 (news := bv8 (torn f)) rfl ho (by rw [List.length_map]; show min rn n5 = _; omega) (by rw [List.length_map, List.length_map, htf]) i8.rd (oneB _) fun w9 S f9 => ⟨?_, ?_⟩
        · rw [hcode, hfb]; rfl
        · rw [hnew, hcode, hfb, ← hof]
          exact S.sel [2, 2, 2, 2, 2, 2, 2] rfl
  rintro ⟨e, ⟨⟩⟩ w10 ⟨he, S⟩
  dsimp only at he ⊢
  subst he
  refine ⟨fun (_ : Unit) w' => DoneR F w w' p y C L ds dd blk eb pre post (newX C whole torn) (k, bl, pa, dd.l, (codeC C).1), fun _ w13 h => ⟨rfl, h⟩, ?_⟩
  have hne := S.ne 0 1 (by decide) rfl rfl
  have hnt := S.neO 0 4 (by decide) rfl rfl
  refine S.regX (fun k => k = p ∨ ∃ q : Addr, y.T.a = some q ∧ k = q.block) fun D hD hkeep S T => ?_
  have d1 : dd.n ≤ 1000000 := hdn
  have hid : Ints w10.drew .u8 dd.a dd.n dd.c dd.l ∧ Byt dd.l := by
    obtain ⟨F1, h, _⟩ := S.get (i := 6) rfl
    have := h dd (List.mem_singleton.2 rfl)
    exact ⟨Ty.ints this, Ty.byt this⟩
  have k0 := hkeep _ (Fr.refl _ _)
  refine ⟨hD _ S.bl0 (fun h => h.elim (fun h => hne h) fun ⟨q, hq, h⟩ => hnt q hq h), S.la0 rfl ?_⟩
  dsimp only
  have fin : ∀ {w5 : World} {b24 : Nat} {a : Option Addr} {c : Nat}, Sep NoB w10.drew w5 [BoxA b24 106 [.int .i64 k, .int .i64 bl, .int .i64 pa, .slice a (0 + dd.n) c, .int .i64 (codeC C).1], OwnA 5 1 a (0 + dd.n) c (([] ++ dd.l).map (Value.int .u8))] →
      AppS w5 (some ⟨b24, 0, none⟩) 1 5 fun ns => AppV w5 106 5 56 y.T.a C.ops y.T.c ns 1 fun a26 n27 c28 w29 => KeepOn D w10.drew w29 ∧ StoreV w29 ⟨p, 14, none⟩ [.slice a26 n27 c28] fun w31 => KeepOn D w10.drew w31 ∧ DoneR F w w31 p y C L ds dd blk eb pre post (newX C whole torn) (k, bl, pa, dd.l, (codeC C).1) := by
    intro w5 b24 a c T
    have S := S.frame0 T
    dsimp only [List.cons_append, List.nil_append] at S
    refine AppS.of (news := TOp.vs ⟨k, bl, pa, ⟨a, 0 + dd.n, c, dd.l⟩, (codeC C).1⟩) rfl (.inr ⟨_, rfl, S.cells 0 rfl⟩) ?_
    refine S.ap6 (by rfl) (TOp.one _) (ap56 hops) (ap63' hops) fun a26 c28 w29 S f29 => ?_
    have g29 : Fr (fun k => k = p ∨ ∃ q : Addr, y.T.a = some q ∧ k = q.block) w10.drew w29 := T.fr.any.trans (f29.mono fun k hk => .inr hk)
    refine ⟨hkeep _ g29, S.su3 (j := 14) (by rfl) fun w31 S f31 => ⟨hkeep _ (g29.trans (f31.mono fun k hk => .inl hk)), a26, c28, ⟨k, bl, pa, ⟨a, 0 + dd.n, c, dd.l⟩, (codeC C).1⟩, rfl, ?_⟩⟩
    have S := ((S.sel [1, 6, 2, 2, 2, 2, 2] rfl).addL hid.2).sel [1, 1, 1, 1, 0, 0] rfl
    rw [List.flatMap_append]
    exact S
  have lT : Sep NoB w10.drew w10.drew [] := T
  refine ⟨?_, ?_⟩
  · refine S.ld1 (j := 14) rfl rfl ⟨k0, T.newB fun b17 w18 T f18 _ => ⟨hkeep _ T.fr.any, ?_⟩⟩
    have T := T.asOwn (sz := 1) (n := 0) rfl (by omega) oneAll.nil
    refine T.ab0 (xs := []) (hid.1.ext T.ext) (by omega) fun a c w22 T f22 => ⟨hkeep _ T.fr.any, T.newB fun b24 w25 T f25 _ => ⟨hkeep _ T.fr.any, fin T⟩⟩
  · refine T.newB fun b17 w18 T f18 _ => ⟨hkeep _ T.fr.any, ?_⟩
    have hk18 := hkeep _ T.fr.any
    have T := T.asOwn (sz := 1) (n := 0) rfl (by omega) oneAll.nil
    refine ⟨?_, ?_⟩
    · refine (S.stepE T.ext).ld1 (j := 14) rfl rfl ⟨hk18, ?_⟩
      refine T.ab0 (xs := []) (hid.1.ext T.ext) (by omega) fun a c w22 T f22 => ⟨hkeep _ T.fr.any, T.newB fun b24 w25 T f25 _ => ⟨hkeep _ T.fr.any, fin T⟩⟩
    · refine T.ab0 (xs := []) (hid.1.ext T.ext) (by omega) fun a c w22 T f22 => ⟨hkeep _ T.fr.any, ?_⟩
      have hk22 := hkeep _ T.fr.any
      refine ⟨?_, ?_⟩
      · refine (S.stepE T.ext).ld1 (j := 14) rfl rfl ⟨hk22, ?_⟩
        exact T.newB fun b24 w25 T f25 _ => ⟨hkeep _ T.fr.any, fin T⟩
      · refine T.newB fun b24 w25 T f25 _ => ⟨hkeep _ T.fr.any, ?_⟩
        have hk25 := hkeep _ T.fr.any
        refine (S.stepE T.ext).ld1 (j := 14) rfl rfl ⟨hk25, ?_⟩
        dsimp only
        exact fin T

end Go.Proofs.Ytfpkaebmiojicaa.Vc

/-! The plans of functions as plain statements, printed by wip/tools/vcgen.py; the kernel holds each to the code. -/
namespace Go.Proofs.Ytfpkaebmiojicaa.Vc
open Go Go.Eng
set_option linter.unusedVariables false



end Go.Proofs.Ytfpkaebmiojicaa.Vc

/-! The laws FaultBits, FaultSets, FaultClears and FaultWhole of layer 12: each call gives true, and what it read stays. -/
namespace Go.Proofs.Ytfpkaebmiojicaa.Vc
open Go Go.Eng Go.RowKit
set_option linter.unusedVariables false
set_option linter.unusedSimpArgs false

theorem nilU {w : World} : Ints w .u8 none 0 0 [] := ⟨rfl, Nat.le_refl _, by omega, .inl ⟨rfl, rfl⟩⟩
theorem newOneU {w : World} {x : Int} {K : Nat → World → Prop} (h : ∀ b w1, Ext w w1 → Ints w1 .u8 (some ⟨b, 0, none⟩) 1 1 [x] → K b w1) : NewV #[.int .u8 x] 5 w K := by
  rintro b w1 rfl rfl
  exact h _ _ (Ext.alloc _ _) ⟨rfl, Nat.le_refl _, by omega, .inr ⟨_, rfl, CellsAt.new (cs := [.int .u8 x])⟩⟩

theorem and_was {xs : List Int} (bx : Byt xs) {f : Nat → Bool} {n : Nat} (hl : xs.length = n) (hf : ∀ i, i < 8 * n → f i = true → hasL xs i = true) : andL (turn xs f (8 * n)) xs = turn xs f (8 * n) := by
  refine bits_ext (andL_byt _ _) (turn_byt bx f _) (andL_length _ _) fun i hi => ?_
  rw [andL_length, turn_length] at hi
  rw [hasL_and (turn_byt bx f _) bx (by rw [turn_length]; exact hi), hasL_turn bx f hi (8 * n) (by omega)]
  by_cases h : i < 8 * n ∧ f i = true
  · rw [if_pos h, hf i h.1 h.2]; rfl
  · rw [if_neg h, Bool.and_self]
theorem was_and {xs : List Int} (bx : Byt xs) {f : Nat → Bool} {n : Nat} (hl : xs.length = n) (hf : ∀ i, i < 8 * n → f i = true → hasL xs i = false) : andL (turn xs f (8 * n)) xs = xs := by
  refine bits_ext (andL_byt _ _) bx (by rw [andL_length, turn_length]) fun i hi => ?_
  rw [andL_length, turn_length] at hi
  rw [hasL_and (turn_byt bx f _) bx (by rw [turn_length]; exact hi), hasL_turn bx f hi (8 * n) (by omega)]
  by_cases h : i < 8 * n ∧ f i = true
  · rw [if_pos h, hf i h.1 h.2]; rfl
  · rw [if_neg h, Bool.and_self]
theorem erase_whole {xs : List Int} (bx : Byt xs) {n : Nat} (hl : xs.length = n) : turn xs (erF xs []) (8 * n) = List.replicate n 255 := by
  refine bits_ext (turn_byt bx _ _) (Byt.replicate (by omega) (by omega) _) (by rw [turn_length, List.length_replicate]; exact hl) fun i hi => ?_
  rw [turn_length] at hi
  rw [hasL_turn bx _ hi (8 * n) (by omega)]
  have hr : hasL (List.replicate n 255) i = true := by
    unfold hasL
    rw [getD_get (by rw [List.length_replicate]; omega), List.getElem_replicate]
    exact bit_255 ⟨i % 8, mod8 i⟩
  rw [hr]
  have hm : mBit [] i = true := rfl
  by_cases h : hasL xs i = true
  · rw [if_neg (fun hh => by have := hh.2; unfold erF at this; rw [h] at this; simp at this), h]
  · have h' : hasL xs i = false := by simpa using h
    rw [if_pos ⟨by omega, by unfold erF; rw [h', hm]; rfl⟩, h']; rfl
theorem prF_was {xs ys ms : List Int} {fl : Bool} {n i : Nat} (h : prF xs ys ms fl n i = true) : hasL xs i = true := by
  unfold prF prC at h
  cases hh : hasL xs i
  · rw [hh] at h; simp at h
  · rfl

theorem hasL_whole {xs ys : List Int} (bx : Byt xs) (by' : Byt ys) {n i : Nat} (hl : xs.length = n) (hi : i < 8 * n) : hasL (andL xs ys) i = if prC xs ys i then false else hasL xs i := by
  rw [hasL_and bx by' (by omega)]
  unfold prC
  cases hasL xs i <;> cases hasL ys i <;> rfl
theorem clear_whole {xs ys : List Int} (bx : Byt xs) (by' : Byt ys) {n : Nat} (hl : xs.length = n) : turn xs (prF xs ys [] false n) (8 * n) = andL xs ys := by
  refine bits_ext (turn_byt bx _ _) (andL_byt _ _) (by rw [turn_length, andL_length]) fun i hi => ?_
  rw [turn_length] at hi
  rw [hasL_turn bx _ hi (8 * n) (by omega), hasL_whole bx by' hl (by omega)]
  have hF : prF xs ys [] false n i = prC xs ys i := by
    unfold prF
    have : mBit [] i = true := rfl
    rw [this]
    cases prC xs ys i <;> rfl
  rw [hF]
  by_cases h : prC xs ys i = true
  · rw [if_pos ⟨by omega, h⟩, if_pos h]
    have : hasL xs i = true := by
      unfold prC at h
      cases hh : hasL xs i
      · rw [hh] at h; simp at h
      · rfl
    rw [this]; rfl
  · rw [if_neg (fun hh => h hh.2), if_neg h]
theorem fail_whole {xs ys ms : List Int} (bx : Byt xs) (by' : Byt ys) {n : Nat} (hl : xs.length = n) : turn xs (prF xs ys ms true n) (8 * n) = andL xs ys ↔ xs = andL xs ys := by
  have hbit : ∀ i, i < 8 * n → hasL (turn xs (prF xs ys ms true n) (8 * n)) i = if i < 8 * n ∧ prF xs ys ms true n i = true then !hasL xs i else hasL xs i := fun i hi => hasL_turn bx _ (by omega) (8 * n) (by omega)
  constructor
  · intro h
    refine bits_ext bx (andL_byt _ _) (andL_length _ _).symm fun i hi => ?_
    rw [hasL_whole bx by' hl (by omega)]
    by_cases hc : prC xs ys i = true
    · exfalso
      obtain ⟨m, hm, hml, hmc⟩ := lastOf_some (c := prC xs ys) (k := 8 * n) (i := i) (by omega) hc
      have h1 := hbit m hm
      have h2 := hasL_whole bx by' hl hm
      rw [h] at h1
      rw [h2, if_pos hmc, if_neg (fun hh => by
        have := hh.2
        unfold prF at this
        rw [hml, decide_eq_true rfl] at this
        simp at this)] at h1
      unfold prC at hmc
      rw [← h1] at hmc
      simp at hmc
    · rw [if_neg hc]
  · intro h
    have hc : ∀ i, i < 8 * n → prC xs ys i = false := fun i hi => by
      have h2 := hasL_whole bx by' hl hi
      rw [← h] at h2
      cases hp : prC xs ys i
      · rfl
      · rw [hp, if_pos rfl] at h2
        unfold prC at hp
        rw [h2] at hp
        simp at hp
    rw [← h]
    refine bits_ext (turn_byt bx _ _) bx (turn_length _ _ _) fun i hi => ?_
    rw [turn_length] at hi
    rw [hbit i (by omega), if_neg (fun hh => by
      have := hh.2
      unfold prF at this
      rw [hc i (by omega)] at this
      simp at this)]

end Go.Proofs.Ytfpkaebmiojicaa.Vc

/-! The contracts of layer 13 (nand): a page, programmed. -/
namespace Go.Proofs.Ytfpkaebmiojicaa.Vc
open Go Go.Eng Go.RowKit
set_option linter.unusedVariables false
set_option linter.unusedSimpArgs false

/-- The middle of one's own bytes, as a block's middle. -/
theorem img_focus {E : Nat → Prop} {w0 w : World} {Rs : List Asr} {a : Option Addr} {n c : Nat} {pre mid post : List Int} (S : Sep E w0 w (OwnA 5 1 a n c (bv8 (pre ++ (mid ++ post))) :: Rs)) (hm : mid ≠ []) :
    ∃ blk tl, a = some ⟨blk, 0, none⟩ ∧ Sep E w0 w (BoxA blk 5 (bv8 pre ++ (bv8 mid ++ (bv8 post ++ tl))) :: Rs) ∧
      ∀ (E' : Nat → Prop) (w0' w' : World) (Rs' : List Asr) (mid' : List Int), mid'.length = mid.length → Sep E' w0' w' (BoxA blk 5 (bv8 pre ++ (bv8 mid' ++ (bv8 post ++ tl))) :: Rs') → Sep E' w0' w' (OwnA 5 1 a n c (bv8 (pre ++ (mid' ++ post))) :: Rs') := by
  obtain ⟨blk, tl, ha, q1, q2, q3, q4, q5, S1⟩ := S.focus (by
    intro h
    have := congrArg List.length h
    rw [List.length_map, List.length_append, List.length_append, List.length_nil] at this
    have : mid.length = 0 := by omega
    exact hm (List.eq_nil_of_length_eq_zero this))
  have e : ∀ m : List Int, bv8 pre ++ (bv8 m ++ (bv8 post ++ tl)) = bv8 (pre ++ (m ++ post)) ++ tl := fun m => by simp [bv8, List.append_assoc]
  refine ⟨blk, tl, ha, by rw [e]; exact S1, fun E' w0' w' Rs' mid' hl S' => ?_⟩
  rw [e] at S'
  subst ha
  have hlen : (bv8 (pre ++ (mid' ++ post))).length = (bv8 (pre ++ (mid ++ post))).length := by simp [bv8, hl]
  exact S'.unfocus (n := n) (c := c) (sz := 1) (by rw [hlen]; exact q1) (by rw [List.length_append, hlen, ← List.length_append]; exact q2) q3 q4 (oneAll.ints _ _)

section
variable {E : Nat → Prop} {w0 w : World} {Rs : List Asr} {q0 q1 : Nat} {e0 e1 : TypeId} {s t : SlV} {was b : List Int}
theorem Prog1_c (S : Sep E w0 w (BoxA q0 e0 [.slice s.a s.n s.c] :: BoxA q1 e1 [.slice t.a t.n t.c] :: Rs)) (hs : Ints w .u8 s.a s.n s.c was) (ht : Ints w .u8 t.a t.n t.c b) (bs : Byt was) (bt : Byt b) (hn : t.n = s.n) (hn2 : s.n ≤ 100000) :
    CallV Try.prog 102 #[.pointer (some ⟨q0, 0, none⟩), .pointer (some ⟨q1, 0, none⟩)] w [.one .sl] fun r w' => Ints w' .u8 r.1.a r.1.n r.1.c (andL was b) ∧ Ext w w' := by
  apply nand_Chip_Program_1.vc
  unfold nand_Chip_Program_1.P
  obtain ⟨ta, tn, tc⟩ := t
  dsimp only at hn ht
  subst hn
  refine S.ld0 rfl rfl (S.ld1 rfl rfl ?_)
  refine (Clear_c hs bs ht bt nilU Byt.nil hn2).mono ?_
  rintro ⟨r1, (r2 : Int), ⟨⟩⟩ w' ⟨h1, -⟩
  dsimp only at h1 ⊢
  rw [clear_whole bs bt hs.len] at h1
  exact ⟨h1.ints, h1.ext⟩
theorem Prog2_c {f : FD} {m : SlV} (S : Sep E w0 w (BoxA q0 e0 [.slice s.a s.n s.c] :: BoxA q1 e1 [.slice t.a t.n t.c] :: Rs)) (hs : Ints w .u8 s.a s.n s.c was) (ht : Ints w .u8 t.a t.n t.c b) (hm : Ints w .u8 m.a m.n m.c f.2.2.1) (bs : Byt was) (bt : Byt b) (bm : Byt f.2.2.1) (hn : t.n = s.n) (hn2 : s.n ≤ 100000) :
    CallV Try.prog 104 #[.agg #[.int .i64 f.1, .bool f.2.1, .slice m.a m.n m.c], .pointer (some ⟨q0, 0, none⟩), .pointer (some ⟨q1, 0, none⟩)] w [.one .sl] fun r w' => Ints w' .u8 r.1.a r.1.n r.1.c (progL was b f.2.2.1 (!f.2.1)) ∧ Ext w w' := by
  apply nand_Chip_Program_2.vc
  unfold nand_Chip_Program_2.P
  obtain ⟨ta, tn, tc⟩ := t
  dsimp only at hn ht
  subst hn
  have T := Sep.start NoB w
  refine T.newB fun b1 w1 T f1 _ => ?_
  have X := T.ext
  have S := S.stepE X
  refine S.ld0 rfl rfl (S.ld1 rfl rfl (T.ld0 rfl rfl ?_))
  refine (Clear_c (hs.ext X) bs (ht.ext X) bt (hm.ext X) bm hn2).mono ?_
  rintro ⟨r1, (r2 : Int), ⟨⟩⟩ w2 ⟨h1, -⟩
  dsimp only at h1 ⊢
  have T := T.stepE h1.ext
  have X2 := T.ext
  have S := S.stepE h1.ext
  refine T.ld0 rfl rfl (cond_of (fun hc => ?_) fun hc => ?_)
  · refine S.ld0 rfl rfl (S.ld1 rfl rfl (T.ld0 rfl rfl ?_))
    refine (Fail_c (hs.ext X2) bs (ht.ext X2) bt (hm.ext X2) bm hn2).mono ?_
    rintro ⟨r3, (r4 : Int), ⟨⟩⟩ w3 ⟨h3, -⟩
    dsimp only at h3 ⊢
    refine ⟨?_, X2.trans h3.ext⟩
    have := h3.ints
    unfold progL
    rw [hc, hs.len]
    exact this
  · refine ⟨?_, X2⟩
    have := h1.ints
    unfold progL
    rw [hc, hs.len]
    exact this
end
theorem turn_len (xs : List Int) (f : Nat → Bool) : ∀ n, (turn xs f n).length = xs.length
  | 0 => rfl
  | n + 1 => by
    unfold turn
    split
    · unfold flip1; rw [List.length_set]; exact turn_len xs f n
    · exact turn_len xs f n

end Go.Proofs.Ytfpkaebmiojicaa.Vc

/-! The contracts of layer 13 (nand): a page, programmed. -/
namespace Go.Proofs.Ytfpkaebmiojicaa.Vc
open Go Go.Eng Go.RowKit
set_option linter.unusedVariables false
set_option linter.unusedSimpArgs false

theorem atF_byt {C : CD} (h : COk C) {f : FD} {n : Int} (hf : atF C.pl n = some f) : Byt f.2.2.1 := (h.pm f (List.mem_of_find?_eq_some hf)).1
theorem COk.mfit {C : CD} (h : COk C) : mFit C.pl := fun f hf => (h.pm f hf).2
/-- What an operation leaves of an array. -/
def OpR (F : Nat → Prop) (w w' : World) (p : Nat) (y : Lay) (C' : CD) (L : List TOp) (tr : List (Int × Int × Int × List Int × Int)) (Rs : List Asr) : Prop :=
  ∃ (ta : Option Addr) (tc : Nat) (L' : List TOp), L'.map TOp.dat = L.map TOp.dat ++ tr ∧ Sep F w w' (ChipQ p (upT y ta tc) C' L' Rs)
theorem OpR.none {F : Nat → Prop} {w w' : World} {p : Nat} {y : Lay} {C : CD} {L : List TOp} {Rs : List Asr} (S : Sep F w w' (ChipQ p y C L Rs)) : OpR F w w' p y C L [] Rs := ⟨y.T.a, y.T.c, L, by simp, S⟩

theorem refC_eq {C : CD} {bl pa : Int} {n : Nat} (ho : ¬ C.off = true) (hi : inC C bl pa) : refC C bl pa n = if n ≠ szP C.g then 2 else if (blkC C bl).sc = true ∨ 2 ≤ usC C bl pa then 7 else if usC C bl pa = 0 ∧ pa ≤ (blkC C bl).la then 6 else (0 : Int) := by
  unfold refC
  rw [if_neg ho]
  by_cases hn : n = szP C.g
  · rw [if_neg (show ¬ ¬ (inC C bl pa ∧ n = szP C.g) from fun h => h ⟨hi, hn⟩), if_neg (show ¬ n ≠ szP C.g from fun h => h hn)]
  · rw [if_pos (show ¬ (inC C bl pa ∧ n = szP C.g) from fun h => hn h.2), if_pos hn]

/-- Ahead of the doing. -/
def ProgS (F : Nat → Prop) (w w' : World) (p : Nat) (y : Lay) (C : CD) (L : List TOp) (dd : SlP Int) (bl pa : Int) (blk b18 b3 b1 : Nat) : Prop :=
  Sep F w w' [BoxA b18 28 [.slice (some ⟨blk, ixC C bl pa * szP C.g, none⟩) (szP C.g) (szP C.g)], BoxA b3 28 [.slice dd.a dd.n dd.c], BoxA b1 81 [.int .i64 bl, .int .i64 pa], BoxA p 131 (chipV y C), OwnA 5 1 y.P.a y.P.n y.P.c (bv8 (imgC C)),
    OwnA 3 1 y.U.a y.U.n y.U.c (iv ((usL C).set (ixC C bl pa) (usC C bl pa + 1))), OwnA 3 1 y.A.a y.A.n y.A.c (iv ((laL C).set bl.toNat (max (blkC C bl).la pa))), OwnA 3 1 y.S.a y.S.n y.S.c (iv (scL C)), OwnA 3 1 y.E.a y.E.n y.E.c (iv (erL C)), RdT LF y.F, OwnA 106 5 y.T.a C.ops y.T.c (L.flatMap TOp.vs), RdL (L.map (·.d)), RdL [dd]]
theorem iv_set (l : List Int) (i : Nat) (v : Int) : (iv l).set i (.int .i64 v) = iv (l.set i v) := (List.map_set).symm
theorem Program13_c {F : Nat → Prop} {w : World} {p : Nat} {y : Lay} {C : CD} {L : List TOp} {dd : SlP Int} {bl pa : Int} (hC : COk C) (hF : fds y.F = C.pl) (hdn : dd.n ≤ 100000) (S : Sep F w w (ChipQ p y C L [RdL [dd]])) :
    CallV Try.prog 74 #[.pointer (some ⟨p, 0, none⟩), .agg #[.int .i64 bl, .int .i64 pa], .slice dd.a dd.n dd.c] w [.one (.int .i64)] fun r w' =>
      r.1 = (progC C bl pa dd.l).2 ∧ OpR F w w' p y (progC C bl pa dd.l).1 L (if refC C bl pa dd.l.length = 0 then [(1, bl, pa, dd.l, (codeC C).1)] else []) [RdL [dd]] := by
  have hdl : dd.l.length = dd.n := by
    obtain ⟨F1, h, _⟩ := S.get (i := 9) rfl
    exact (Ty.ints (h dd (List.mem_singleton.2 rfl))).len
  have bdd : Byt dd.l := by
    obtain ⟨F1, h, _⟩ := S.get (i := 9) rfl
    exact Ty.byt (h dd (List.mem_singleton.2 rfl))
  have no : ∀ {w' : World} {e : Int}, refC C bl pa dd.l.length = e → e ≠ 0 → Sep F w w' (ChipQ p y C L [RdL [dd]]) → e = (progC C bl pa dd.l).2 ∧ OpR F w w' p y (progC C bl pa dd.l).1 L (if refC C bl pa dd.l.length = 0 then [(1, bl, pa, dd.l, (codeC C).1)] else []) [RdL [dd]] := fun he h0 S => by
    unfold progC
    rw [he, if_neg h0, if_neg h0]
    exact ⟨rfl, .none S⟩
  apply nand_Chip_Program.vc
  unfold nand_Chip_Program.P
  refine S.newB fun b1 w1 S f1 _ => ?_
  refine S.newB fun b3 w3 S f3 _ => ?_
  refine (On_c hC (S.sel [2] rfl)).mono ?_
  rintro ⟨(r : Bool), ⟨⟩⟩ w4 ⟨h4, rfl⟩
  dsimp only at h4 ⊢
  subst h4
  by_cases ho : C.off = true
  · rw [ho]
    refine cond_t rfl (no (by unfold refC; rw [if_pos ho]) (by decide) (S.sel [2, 2, 2, 2, 2, 2, 2, 2, 2, 2] rfl))
  refine cond_f (by simpa using ho) ?_
  refine S.reg fun D hD hkeep S1 T => ?_
  refine ⟨hD _ S.bl2, S1.lb2 (o := 0) rfl ⟨hD _ S.bl1, S1.la1 rfl ?_⟩⟩
  refine (Index_c (g := C.g) (b := bl) (p := pa)).mono ?_
  rintro ⟨(ix : Int), (e : Int), ⟨⟩⟩ w5 ⟨h5, h5', x5⟩
  dsimp only at h5 h5' ⊢
  have T3 := T.stepE x5
  refine ⟨hkeep _ T3.fr, ?_⟩
  have S := S1.stepE x5
  clear S1 T T3 hkeep hD
  by_cases hi : inC C bl pa
  case neg =>
    rw [if_neg (fun h => hi h.2)] at h5'
    subst h5'
    refine cond_t rfl (no (by unfold refC; rw [if_neg ho, if_pos (fun h => hi h.1)]) (by decide) (S.sel [2, 2, 2, 2, 2, 2, 2, 2, 2, 2] rfl))
  have hok : plOk C.g bl pa := ⟨hC.g, hi⟩
  rw [if_pos hok] at h5 h5'
  obtain ⟨i1, i2, i3⟩ := hC.ix hi
  rw [← i1] at h5
  subst h5; subst h5'
  refine cond_f rfl (S.la1 rfl (S.ld0 rfl rfl ?_))
  refine (refused_c (n := dd.n) hC hi (S.sel [2, 2, 2, 2, 2, 2, 2, 2, 2, 2] rfl)).mono ?_
  rintro ⟨(e : Int), ⟨⟩⟩ w6 ⟨h6, x6⟩
  dsimp only at h6 ⊢
  rw [← refC_eq ho hi, ← hdl] at h6
  subst h6
  have S := S.stepE x6
  refine cond_ne (fun h => no rfl h (S.sel [2, 2, 2, 2, 2, 2, 2, 2, 2, 2] rfl)) fun href => ?_
  have hSC := S.sel [2, 2, 2, 2, 2, 2, 2, 2, 2, 2] rfl
  obtain ⟨blk, hP⟩ := chip_adr hC hSC
  obtain ⟨l1, l1', l2, l2', l3, l4, l5, l6⟩ := chip_len hC hSC
  obtain ⟨⟨n1, n2⟩, ⟨n3, n4⟩, ⟨n5, n6⟩, n7, n8⟩ := hC.num
  have hdz : dd.n = szP C.g := by
    rw [refC_eq ho hi, hdl] at href
    by_cases h : dd.n = szP C.g
    · exact h
    · rw [if_pos h] at href; cases href
  have hu2 : 0 ≤ usC C bl pa ∧ usC C bl pa < 2 := by
    rw [refC_eq ho hi, hdl, if_neg (fun h => h hdz)] at href
    have := (hC.us hi).2
    by_cases h : (blkC C bl).sc = true ∨ 2 ≤ usC C bl pa
    · rw [if_pos h] at href; cases href
    · refine ⟨this.1, ?_⟩
      have : ¬ 2 ≤ usC C bl pa := fun k => h (.inr k)
      omega
  refine (page_c (k := ixC C bl pa) hC i2 hP (by omega) hSC).mono ?_
  rintro ⟨⟨ra, rn, rc⟩, ⟨⟩⟩ w7 ⟨h7, x7⟩
  cases h7
  dsimp only
  have S := S.stepE x7
  refine S.newB fun b18 w8 S f8 _ => ?_
  refine S.st0 (by rfl) fun w9 S f9 => ?_
  simp only [Addr.add_lit, Nat.zero_add]
  have hu : (0 : Int) ≤ ((ixC C bl pa : Nat) : Int) ∧ ((ixC C bl pa : Nat) : Int) < (y.U.n : Int) := by rw [l2]; omega
  have ha : (0 : Int) ≤ bl ∧ bl < (y.A.n : Int) := by rw [l3]; have := hi.1; omega
  refine S.ld3 (j := 8) rfl rfl ((S.ints 5 rfl).idx hu.1 hu.2 ?_)
  have eU : (usL C).getD (((ixC C bl pa : Nat) : Int)).toNat 0 = usC C bl pa := by rw [Int.toNat_natCast]; exact usL_get hC hi
  rw [eU]
  refine ⟨Rng.i64 (by omega) (by omega), ?_⟩
  refine S.put (i := 5) rfl hu.1 hu.2 (v := .int .i64 (usC C bl pa + 1)) rfl fun w10 S f10 => ?_
  rw [Int.toNat_natCast] at S
  dsimp only [List.set_cons_succ, List.set_cons_zero] at S
  rw [iv_set] at S
  refine ⟨fun (_ : Unit) w' => ProgS F w w' p y C L dd bl pa blk b18 b3 b1, ?_, ?_⟩
  case refine_2 =>
    have hnA := S.neO 2 6 (by decide) rfl rfl
    have hnp := S.neO 3 6 (by decide) rfl rfl
    refine S.regX (fun k => ∃ q : Addr, y.A.a = some q ∧ k = q.block) fun D hD hkeep S T => ?_
    have hb1 : D b1 := hD _ S.bl2 (fun ⟨q, hq, h⟩ => hnA q hq h)
    have k0 := hkeep _ (Fr.refl _ _)
    have hI := S.ints 6 rfl
    obtain ⟨q, hq, hqb, hcell⟩ := hI.at ha.1 ha.2
    rw [laL_get hC hi.1] at hcell
    have fin : (0 ≤ bl ∧ bl < (y.A.n : Int)) ∧ ∃ q : Addr, y.A.a = some q ∧ StoreV w10.drew (q.add (bl.toNat * 1)) [.int .i64 (max (blkC C bl).la pa)] fun w44 => KeepOn D w10.drew w44 ∧ ProgS F w w44 p y C L dd bl pa blk b18 b3 b1 := S.put (i := 6) rfl ha.1 ha.2 (v := .int .i64 (max (blkC C bl).la pa)) rfl fun w44 S f44 => ⟨hkeep _ f44, (by
      dsimp only [List.set_cons_succ, List.set_cons_zero] at S
      rw [iv_set] at S
      exact S)⟩
    refine ⟨hb1, S.ld2 (j := 0) rfl rfl ⟨hb1, S.ld2 (j := 0) rfl rfl ⟨hb1, S.ld2 (j := 1) rfl rfl ⟨?_, ?_⟩⟩⟩⟩
    · refine S.ld3 (j := 9) rfl rfl ⟨k0, S.ld3 (j := 9) rfl rfl ⟨k0, ha, q, hq, (blkC C bl).la, hcell, k0, ?_⟩⟩
      intro z hz
      subst hz
      exact fin
    · refine S.ld3 (j := 9) rfl rfl ⟨k0, ha, q, hq, ?_, ?_⟩
      · refine S.ld3 (j := 9) rfl rfl ⟨k0, (blkC C bl).la, hcell, k0, ?_⟩
        intro z hz
        subst hz
        exact fin
      · refine ⟨(blkC C bl).la, hcell, k0, ?_⟩
        intro z hz
        subst hz
        exact S.ld3 (j := 9) rfl rfl ⟨k0, fin⟩
  rintro ⟨⟩ w11 S
  unfold ProgS at S
  refine S.la2 rfl (S.ld1 rfl rfl (S.ld0 rfl rfl ?_))
  dsimp only
  obtain ⟨pre, post, g1, g2, g3⟩ := imgC_split hC hi
  have hlp := (hC.page hi).2.1
  have hbp := (hC.page hi).2.2
  have hbl := hC.blk hi.1
  rw [g1] at S
  have hne : pgC13 C bl pa ≠ [] := fun h => by rw [h] at hlp; simp at hlp; omega
  obtain ⟨blk2, tl, ha2, S2, back⟩ := img_focus (S.sel [4, 3, 7, 7, 7, 7, 0, 0, 0, 0, 0, 0, 0] rfl) hne
  rw [hP] at ha2
  cases ha2
  have hol : ixC C bl pa * szP C.g = (bv8 pre).length := by rw [List.length_map, g2]
  have hI : Ints w11 .u8 (some ⟨blk, ixC C bl pa * szP C.g, none⟩) (szP C.g) (szP C.g) (pgC13 C bl pa) := S2.intsM 0 rfl hol hlp.symm (Nat.le_refl _) (by omega)
  have hdI : Ints w11 .u8 dd.a dd.n dd.c dd.l := by
    obtain ⟨F1, h, _⟩ := S2.get (i := 5) rfl
    exact Ty.ints (h dd (List.mem_singleton.2 rfl))
  have hcap := S2.sel [6, 6] rfl
  have hlA : (andL (pgC13 C bl pa) dd.l).length = (pgC13 C bl pa).length := by simp [andL]
  refine Sep.call [BoxA p 131 (chipV y C), BoxA blk 5 (bv8 pre ++ (bv8 (pgC13 C bl pa) ++ (bv8 post ++ tl))), RdT LF y.F, OwnA 106 5 y.T.a C.ops y.T.c (L.flatMap TOp.vs), RdL (L.map (·.d)), RdL [dd]] (Ts := _) (S2.sel [1, 0, 0, 0, 0, 0, 0, 0, 0, 0, 0, 0, 0] rfl)
    (fun F S => done_c (whole := andL (pgC13 C bl pa) dd.l) (torn := fun f => progL (pgC13 C bl pa) dd.l f.2.2.1 (!f.2.1)) hF hC.mfit hC.ops (by simpa using ho) hol (by omega) hlp.symm hlA (fun f => by unfold progL; rw [turn_len]) (by kernel_rfl) (by kernel_rfl)
      (fun w' x' => Prog1_c (s := ⟨some ⟨blk, ixC C bl pa * szP C.g, none⟩, szP C.g, szP C.g⟩) (t := ⟨dd.a, dd.n, dd.c⟩) (hcap.stepE x') (hI.ext x') (hdI.ext x') hbp bdd hdz (by dsimp only; omega))
      (fun w' f s x' hat hm => Prog2_c (f := f) (m := s) (s := ⟨some ⟨blk, ixC C bl pa * szP C.g, none⟩, szP C.g, szP C.g⟩) (t := ⟨dd.a, dd.n, dd.c⟩) (hcap.stepE x') (hI.ext x') (hdI.ext x') hm hbp bdd (atF_byt hC hat) hdz (by dsimp only; omega)) S) ?_
  rintro F2 bk ⟨(e : Int), ⟨⟩⟩ w12 ⟨h12, ta, tc, oo, hoo, S3⟩
  dsimp only at h12 ⊢
  subst h12
  have S4 := bk _ _ S3
  have hnew : newX C (andL (pgC13 C bl pa) dd.l) (fun f => progL (pgC13 C bl pa) dd.l f.2.2.1 (!f.2.1)) = if (codeC C).1 = 0 then andL (pgC13 C bl pa) dd.l else progL (pgC13 C bl pa) dd.l (codeC C).2.1 (!(codeC C).2.2) := by
    unfold newX codeC
    cases atF C.pl (C.ops : Int) with
    | none => rfl
    | some f =>
      dsimp only
      rw [if_neg]
      split <;> omega
  rw [hnew] at S4
  have hlq : (if (codeC C).1 = 0 then andL (pgC13 C bl pa) dd.l else progL (pgC13 C bl pa) dd.l (codeC C).2.1 (!(codeC C).2.2)).length = (pgC13 C bl pa).length := by
    split
    · exact hlA
    · unfold progL; rw [turn_len]
  have S5 := (back _ _ _ _ _ hlq (S4.sel [1, 0, 0, 0, 0, 0, 3, 3, 3, 3] rfl)).sel [1, 0, 4, 4, 4, 4, 0, 0, 0, 0] rfl
  unfold progC
  rw [if_pos href, if_pos href]
  refine ⟨rfl, ta, tc, L ++ [oo], by rw [List.map_append, List.map_singleton, hoo], ?_⟩
  have hlt : bl.toNat < C.bs.length := by rw [hC.bl]; have := hi.1; omega
  have e1 := g3 (if (codeC C).1 = 0 then andL (pgC13 C bl pa) dd.l else progL (pgC13 C bl pa) dd.l (codeC C).2.1 (!(codeC C).2.2)) (progX C bl pa dd.l) (by
    unfold progX
    dsimp only
    rw [List.getD_eq_getElem?_getD, List.getElem?_set_self hlt]
    rfl)
  have e2 : usL (progX C bl pa dd.l) = (usL C).set (ixC C bl pa) (usC C bl pa + 1) := fl_put (m := C.g.p.toNat) (fun x hx => (hC.bo x hx).ul) hbl.1 (by have := hi.2; omega) rfl
  have e3 : laL (progX C bl pa dd.l) = (laL C).set bl.toNat (max (blkC C bl).la pa) := List.map_set
  have e4 : scL (progX C bl pa dd.l) = scL C := map_set_same hbl.1 rfl
  have e5 : erL (progX C bl pa dd.l) = erL C := map_set_same hbl.1 rfl
  have e6 : (L ++ [oo]).map (·.d) = L.map (·.d) ++ [oo.d] := List.map_append
  refine chip_mk (y := upT y ta tc) (C := progX C bl pa dd.l) (L := L ++ [oo]) (Rs := [RdL [dd]]) ?_ e1 e2 e3 e4 e5
  rw [e6]
  exact S5
theorem progX_ok {C : CD} (hC : COk C) {bl pa : Int} {b : List Int} (hr : refC C bl pa b.length = 0) (bb : Byt b) (ho : C.ops < 1000000) : COk (progX C bl pa b) := by
  have hoff : ¬ C.off = true := fun h => by unfold refC at hr; rw [if_pos h] at hr; cases hr
  have hi : inC C bl pa := by
    unfold refC at hr
    rw [if_neg hoff] at hr
    by_cases h : inC C bl pa ∧ b.length = szP C.g
    · exact h.1
    · rw [if_pos h] at hr; cases hr
  have hb := (hC.blk hi.1).2
  obtain ⟨hp1, hp2, hp3⟩ := hC.page hi
  have hus := (hC.us hi).2
  have hu2 : usC C bl pa < 2 := by
    rw [refC_eq hoff hi] at hr
    by_cases hn : b.length ≠ szP C.g
    · rw [if_pos hn] at hr; cases hr
    rw [if_neg hn] at hr
    by_cases h : (blkC C bl).sc = true ∨ 2 ≤ usC C bl pa
    · rw [if_pos h] at hr; cases hr
    · have : ¬ 2 ≤ usC C bl pa := fun k => h (.inr k)
      omega
  have hnew : ∀ q : List Int, (q = andL (pgC13 C bl pa) b ∨ ∃ ms fl, q = progL (pgC13 C bl pa) b ms fl) → q.length = szP C.g ∧ Byt q := fun q hq => by
    rcases hq with rfl | ⟨ms, fl, rfl⟩
    · exact ⟨by rw [← hp2]; simp [andL], andL_byt _ _⟩
    · exact ⟨by unfold progL; rw [turn_len]; exact hp2, turn_byt hp3 _ _⟩
  have hq := pg_set_ok hC hi (hnew (if (codeC C).1 = 0 then andL (pgC13 C bl pa) b else progL (pgC13 C bl pa) b (codeC C).2.1 (!(codeC C).2.2)) (by
    split
    · exact .inl rfl
    · exact .inr ⟨_, _, rfl⟩))
  have hpa := hi.2
  refine hC.upd (by omega) (by omega) ⟨hq.1, hq.2, by dsimp only; rw [List.length_set]; exact hb.ul, fun u hu => ?_, ?_, hb.er.1, by dsimp only; have := hb.er.2; omega⟩
  · rcases List.mem_or_eq_of_mem_set hu with h | h
    · exact hb.ub u h
    · rw [h]; omega
  · have := hb.la
    dsimp only
    omega

end Go.Proofs.Ytfpkaebmiojicaa.Vc

/-! The contracts of layer 13 (nand): a block's bytes; closures of erase and scrub. -/
namespace Go.Proofs.Ytfpkaebmiojicaa.Vc
open Go Go.Eng Go.RowKit
set_option linter.unusedVariables false
set_option linter.unusedSimpArgs false

/-- The middle of one's own numbers, as a block's middle. -/
theorem int_focus {E : Nat → Prop} {w0 w : World} {Rs : List Asr} {e : TypeId} {k : IntKind} {a : Option Addr} {n c : Nat} {pre mid post : List Int} (S : Sep E w0 w (OwnA e 1 a n c ((pre ++ (mid ++ post)).map (Value.int k)) :: Rs)) (hm : mid ≠ []) :
    ∃ blk tl, a = some ⟨blk, 0, none⟩ ∧ Sep E w0 w (BoxA blk e (pre.map (Value.int k) ++ (mid.map (Value.int k) ++ (post.map (Value.int k) ++ tl))) :: Rs) ∧
      ∀ (E' : Nat → Prop) (w0' w' : World) (Rs' : List Asr) (mid' : List Int), mid'.length = mid.length → Sep E' w0' w' (BoxA blk e (pre.map (Value.int k) ++ (mid'.map (Value.int k) ++ (post.map (Value.int k) ++ tl))) :: Rs') → Sep E' w0' w' (OwnA e 1 a n c ((pre ++ (mid' ++ post)).map (Value.int k)) :: Rs') := by
  obtain ⟨blk, tl, ha, q1, q2, q3, q4, q5, S1⟩ := S.focus (by
    intro h
    have := congrArg List.length h
    rw [List.length_map, List.length_append, List.length_append, List.length_nil] at this
    have : mid.length = 0 := by omega
    exact hm (List.eq_nil_of_length_eq_zero this))
  have ee : ∀ m : List Int, pre.map (Value.int k) ++ (m.map (Value.int k) ++ (post.map (Value.int k) ++ tl)) = (pre ++ (m ++ post)).map (Value.int k) ++ tl := fun m => by simp [List.append_assoc]
  refine ⟨blk, tl, ha, by rw [ee]; exact S1, fun E' w0' w' Rs' mid' hl S' => ?_⟩
  rw [ee] at S'
  subst ha
  have hlen : ((pre ++ (mid' ++ post)).map (Value.int k)).length = ((pre ++ (mid ++ post)).map (Value.int k)).length := by simp [hl]
  exact S'.unfocus (n := n) (c := c) (sz := 1) (by rw [hlen]; exact q1) (by rw [List.length_append, hlen, ← List.length_append]; exact q2) q3 q4 (oneAll.ints _ _)
/-- clear in the middle of a block. -/
theorem _root_.Go.Eng.Sep.clM {E : Nat → Prop} {w0 w : World} {Rs : List Asr} (i : Nat) {b o : Nat} {e : TypeId} {pre xs post : List Value} (S : Sep E w0 w Rs) (hi : Rs[i]? = some (BoxA b e (pre ++ (xs ++ post)))) (ho : o = pre.length) {k : Nat} {z : Value} (hk : k = xs.length) (h1 : z.oneCell' = true) {K : World → Prop}
    (hK : ∀ w', Sep E w0 w' (Rs.set i (BoxA b e (pre ++ (List.replicate k z ++ post)))) → Fr (fun k => k = b) w w' → K w') : ClearV w (some ⟨b, o, none⟩) k [z] K := by
  have e1 : (List.replicate k [z]).flatten = List.replicate k z := by
    clear hK hk
    induction k with
    | zero => rfl
    | succ k ih => rw [List.replicate_succ, List.flatten_cons, ih]; rfl
  refine ⟨fun u hu => by rw [List.mem_singleton.1 hu]; exact h1, .inr ⟨_, rfl, ?_⟩⟩
  rw [e1]
  refine S.stM0 i hi ho (news := List.replicate k z) (by rw [List.length_replicate]; omega) fun w' S' f => hK w' ?_ f
  rw [List.length_replicate, hk, List.drop_length, List.append_nil] at S'
  rw [hk]
  exact S'

/-! ### A block's bytes -/
abbrev bszC (C : CD) : Nat := C.g.p.toNat * szP C.g
abbrev allC (C : CD) (n : Int) : List Int := (blkC C n).pg.flatten
theorem flatten_len {l : List (List Int)} {m : Nat} (h : ∀ x ∈ l, x.length = m) : l.flatten.length = l.length * m := by
  have := fl_len (f := id) h
  rwa [List.flatMap_id] at this
theorem BOk.all {g : Geo} {m : Nat} {x : BD} (h : BOk g m x) : x.pg.flatten.length = g.p.toNat * szP g ∧ Byt x.pg.flatten := by
  refine ⟨by rw [flatten_len fun q hq => (h.pb q hq).1, h.pl], fun v hv => ?_⟩
  obtain ⟨q, hq, hv⟩ := List.mem_flatten.1 hv
  exact (h.pb q hq).2 v hv
theorem imgC_blk {C : CD} (h : COk C) {n : Int} (hn : 0 ≤ n ∧ n < C.g.b) : ∃ pre post, imgC C = pre ++ (allC C n ++ post) ∧ pre.length = n.toNat * bszC C ∧ ∀ (x : BD) (C' : CD), C'.bs = C.bs.set n.toNat x → imgC C' = pre ++ (x.pg.flatten ++ post) := by
  have hb := (h.blk hn).1
  refine ⟨(C.bs.take n.toNat).flatMap (fun x : BD => x.pg.flatten), (C.bs.drop (n.toNat + 1)).flatMap (fun x : BD => x.pg.flatten), fl_split (f := fun x : BD => x.pg.flatten) hb, ?_, fun x C' hC => ?_⟩
  · exact fl_take (fun x hx => (h.bo x hx).all.1) (by rw [h.bl]; omega)
  · unfold imgC
    rw [hC]
    exact fl_set (f := fun x : BD => x.pg.flatten) hb
theorem cutL_flat {all : List Int} {p z : Nat} (hp : 0 < p) (h : all.length = p * z) : (cutL all p).flatten = all ∧ (cutL all p).length = p ∧ ∀ q ∈ cutL all p, q.length = z := by
  have hz : all.length / p = z := by rw [h]; exact Nat.mul_div_cancel_left z hp
  refine ⟨?_, by simp [cutL], fun q hq => ?_⟩
  · unfold cutL
    rw [hz, chunks_join, ← h, List.take_length]
  · obtain ⟨i, hi, rfl⟩ := List.mem_map.1 hq
    have hi := List.mem_range.1 hi
    have : (i + 1) * z ≤ p * z := Nat.mul_le_mul_right _ hi
    rw [Nat.add_mul, Nat.one_mul] at this
    rw [hz, List.length_take, List.length_drop, h]
    omega
theorem cutL_byt {all : List Int} {p : Nat} (h : Byt all) : ∀ q ∈ cutL all p, Byt q := fun q hq => by
  obtain ⟨i, -, rfl⟩ := List.mem_map.1 hq
  exact (h.drop _).take _

section
variable {E : Nat → Prop} {w0 w : World} {Rs : List Asr} {p : Nat} {y : Lay} {C : CD} {L : List TOp}
theorem block_c {n : Int} {blk : Nat} (hC : COk C) (hn : 0 ≤ n ∧ n < C.g.b) (hP : y.P.a = some ⟨blk, 0, none⟩) (hc : C.g.b.toNat * C.g.p.toNat * szP C.g ≤ y.P.c) (S : Sep E w0 w (BoxA p 131 (chipV y C) :: Rs)) :
    CallV Try.prog 113 #[.pointer (some ⟨p, 0, none⟩), .int .i64 n] w [.one .sl] fun r w' => r.1 = (⟨some ⟨blk, n.toNat * bszC C, none⟩, bszC C, bszC C⟩ : SlV) ∧ Ext w w' := by
  apply nand_Chip_block.vc
  unfold nand_Chip_block.P
  simp only [Addr.add_lit, Nat.zero_add]
  obtain ⟨⟨n1, n2⟩, ⟨n3, n4⟩, ⟨n5, n6⟩, n7, n8⟩ := hC.num
  obtain ⟨k, rfl⟩ : ∃ k : Nat, n = (k : Int) := ⟨n.toNat, by omega⟩
  have hk : k < C.g.b.toNat := by omega
  have m0 : C.g.b.toNat * C.g.p.toNat * szP C.g = C.g.b.toNat * bszC C := Nat.mul_assoc _ _ _
  have m1 : (k + 1) * bszC C ≤ C.g.b.toNat * bszC C := Nat.mul_le_mul_right _ hk
  have m2 : bszC C ≤ 20 * 216 := Nat.mul_le_mul (by omega) (by omega)
  have m3 : C.g.b.toNat * bszC C ≤ 16 * (20 * 216) := Nat.mul_le_mul (by omega) m2
  have m4 : (k + 1) * bszC C = k * bszC C + bszC C := by rw [Nat.add_mul, Nat.one_mul]
  have m5 : 0 < bszC C := Nat.mul_pos (by omega) (by omega)
  have e0 : C.g.p * (C.g.s + 88) = ((bszC C : Nat) : Int) := by rw [← n8]; show _ = ((C.g.p.toNat * szP C.g : Nat) : Int); push_cast; rw [Int.toNat_of_nonneg (show 0 ≤ C.g.p by omega)]
  have e1 : (k : Int) * (C.g.p * (C.g.s + 88)) = ((k * bszC C : Nat) : Int) := by rw [e0]; push_cast; rfl
  have e2 : ((k : Int) + 1) * (C.g.p * (C.g.s + 88)) = (((k + 1) * bszC C : Nat) : Int) := by rw [e0]; push_cast; rfl
  rw [Int.toNat_natCast]
  generalize hz : bszC C = z at *
  refine S.reg fun D hD hkeep S T => ?_
  have hb := hD _ S.bl0
  refine ⟨hb, S.ld0 (j := 1) rfl rfl ⟨hb, S.ld0 (j := 6) rfl rfl ⟨by rw [e0]; exact Rng.i64 (by omega) (by omega), S.ld0 (j := 7) rfl rfl ⟨by rw [e1]; exact Rng.i64 (by omega) (by omega), Rng.i64 (by omega) (by omega), by rw [e2]; exact Rng.i64 (by omega) (by omega), Rng.i64 (by omega) (by omega), by rw [e2]; exact Rng.i64 (by omega) (by omega),
    ⟨by rw [e1]; omega, by rw [e1, e2]; omega, by omega, by rw [e2]; dsimp only; omega⟩, ?_⟩⟩⟩⟩
  intro a6 ha6
  rw [e1, e2] at ha6 ⊢
  rw [Int.toNat_natCast, Int.toNat_natCast, if_neg (by omega), hP] at ha6
  refine ⟨?_, Ext.drew _⟩
  rw [ha6, Int.toNat_natCast, Int.toNat_natCast]
  have e3 : (⟨blk, 0, none⟩ : Addr).add (k * z * 1) = ⟨blk, k * z, none⟩ := by simp [Addr.add_lit]
  show (⟨some ((⟨blk, 0, none⟩ : Addr).add (k * z * 1)), _, _⟩ : SlV) = _
  rw [e3, show (k + 1) * z - k * z = z by omega]
variable {q0 q1 : Nat} {e0 e1 : TypeId} {s t : SlV} {was b : List Int}
theorem Erase2_c (S : Sep E w0 w (BoxA q0 e0 [.slice s.a s.n s.c] :: Rs)) (hs : Ints w .u8 s.a s.n s.c was) (bs : Byt was) (hn2 : s.n ≤ 60000) :
    CallV Try.prog 116 #[.pointer (some ⟨q0, 0, none⟩)] w [.one .sl] fun r w' => Ints w' .u8 r.1.a r.1.n r.1.c (List.replicate s.n 255) ∧ Ext w w' := by
  apply nand_Chip_Erase_2.vc
  unfold nand_Chip_Erase_2.P
  refine S.ld0 rfl rfl ?_
  refine (Set_c hs bs nilU Byt.nil hn2).mono ?_
  rintro ⟨r1, ⟨⟩⟩ w' h1
  rw [erase_whole bs hs.len] at h1
  exact ⟨h1.ints, h1.ext⟩
theorem Erase1_c {f : FD} {m : SlV} (S : Sep E w0 w (BoxA q0 e0 [.slice s.a s.n s.c] :: Rs)) (hs : Ints w .u8 s.a s.n s.c was) (hm : Ints w .u8 m.a m.n m.c f.2.2.1) (bs : Byt was) (bm : Byt f.2.2.1) (hn2 : s.n ≤ 60000) :
    CallV Try.prog 114 #[.agg #[.int .i64 f.1, .bool f.2.1, .slice m.a m.n m.c], .pointer (some ⟨q0, 0, none⟩)] w [.one .sl] fun r w' => Ints w' .u8 r.1.a r.1.n r.1.c (eraL was f.2.2.1) ∧ Ext w w' := by
  apply nand_Chip_Erase_1.vc
  unfold nand_Chip_Erase_1.P
  have T := Sep.start NoB w
  refine T.newB fun b1 w1 T f1 _ => ?_
  have X := T.ext
  have S := S.stepE X
  refine S.ld0 rfl rfl (T.ld0 rfl rfl ?_)
  refine (Set_c (hs.ext X) bs (hm.ext X) bm hn2).mono ?_
  rintro ⟨r1, ⟨⟩⟩ w2 h1
  refine ⟨?_, X.trans h1.ext⟩
  have := h1.ints
  unfold eraL
  rw [hs.len]
  exact this
theorem Scrub1_c (S : Sep E w0 w (BoxA q0 e0 [.slice s.a s.n s.c] :: Rs)) (hs : Ints w .u8 s.a s.n s.c was) :
    CallV Try.prog 117 #[.pointer (some ⟨q0, 0, none⟩)] w [.one .sl] fun r w' => Ints w' .u8 r.1.a r.1.n r.1.c was ∧ Ext w w' := by
  apply nand_Chip_Scrub_1.vc
  unfold nand_Chip_Scrub_1.P
  exact S.ld0 rfl rfl ⟨hs, Ext.refl _⟩
theorem Scrub2_c {f : FD} {m : SlV} (S : Sep E w0 w (BoxA q0 e0 [.slice s.a s.n s.c] :: BoxA q1 e1 [.slice t.a t.n t.c] :: Rs)) (hs : Ints w .u8 s.a s.n s.c was) (ht : Ints w .u8 t.a t.n t.c b) (hm : Ints w .u8 m.a m.n m.c f.2.2.1) (bs : Byt was) (bt : Byt b) (bm : Byt f.2.2.1) (hn : t.n = s.n) (hn2 : s.n ≤ 100000) :
    CallV Try.prog 118 #[.agg #[.int .i64 f.1, .bool f.2.1, .slice m.a m.n m.c], .pointer (some ⟨q0, 0, none⟩), .pointer (some ⟨q1, 0, none⟩)] w [.one .sl] fun r w' => Ints w' .u8 r.1.a r.1.n r.1.c (progL was b f.2.2.1 false) ∧ Ext w w' := by
  apply nand_Chip_Scrub_2.vc
  unfold nand_Chip_Scrub_2.P
  obtain ⟨ta, tn, tc⟩ := t
  dsimp only at hn ht
  subst hn
  have T := Sep.start NoB w
  refine T.newB fun b1 w1 T f1 _ => ?_
  have X := T.ext
  have S := S.stepE X
  refine S.ld0 rfl rfl (S.ld1 rfl rfl (T.ld0 rfl rfl ?_))
  refine (Clear_c (hs.ext X) bs (ht.ext X) bt (hm.ext X) bm hn2).mono ?_
  rintro ⟨r1, (r2 : Int), ⟨⟩⟩ w2 ⟨h1, -⟩
  dsimp only at h1 ⊢
  refine ⟨?_, X.trans h1.ext⟩
  have := h1.ints
  unfold progL
  rw [hs.len]
  exact this
end

end Go.Proofs.Ytfpkaebmiojicaa.Vc

/-! The contracts of layer 13 (nand): a block, scrubbed or erased. -/
namespace Go.Proofs.Ytfpkaebmiojicaa.Vc
open Go Go.Eng Go.RowKit
set_option linter.unusedVariables false
set_option linter.unusedSimpArgs false

abbrev noD : SlP Int := ⟨none, 0, 0, []⟩
theorem TB_nil0 {w : World} {F : Nat → Prop} : TB.rd w F noD := ⟨rfl, Nat.le_refl _, Nat.zero_le _, .inl ⟨rfl, rfl⟩, fun y hy => (List.not_mem_nil hy).elim⟩
theorem _root_.Go.Eng.Sep.nilD {E : Nat → Prop} {w0 w : World} {Rs : List Asr} (S : Sep E w0 w Rs) : Sep E w0 w (RdL [noD] :: Rs) :=
  S.push (F := NoB) (Fr.refl _ _) (fun x hx => by rw [List.mem_singleton.1 hx]; exact TB_nil0) fun _ x => x.elim
theorem rep_flat (n : Nat) (v : Value) : (List.replicate n [v]).flatten = List.replicate n v := by
  induction n with
  | zero => rfl
  | succ n ih => rw [List.replicate_succ, List.flatten_cons, ih]; rfl
theorem may_zero {C : CD} {n : Int} (h : mayC C n = 0) : C.off = false ∧ 0 ≤ n ∧ n < C.g.b := by
  unfold mayC at h
  split at h
  · cases h
  · rename_i ho
    split at h
    · cases h
    · rename_i hn
      exact ⟨by simpa using ho, Decidable.not_not.1 hn⟩
theorem scL_len {C : CD} (h : COk C) : (scL C).length = C.g.b.toNat := by rw [scL, List.length_map, h.bl]

theorem Scrub13_c {F : Nat → Prop} {w : World} {p : Nat} {y : Lay} {C : CD} {L : List TOp} {n : Int} (hC : COk C) (hF : fds y.F = C.pl) (S : Sep F w w (ChipP p y C L)) :
    CallV Try.prog 82 #[.pointer (some ⟨p, 0, none⟩), .int .i64 n] w [.one (.int .i64)] fun r w' =>
      r.1 = (scrC C n).2 ∧ OpR F w w' p y (scrC C n).1 L (if mayC C n = 0 then [(3, n, 0, [], (codeC C).1)] else []) [] := by
  apply nand_Chip_Scrub.vc
  unfold nand_Chip_Scrub.P
  refine (may_c (n := n) hC S).mono ?_
  rintro ⟨(e : Int), ⟨⟩⟩ w1 ⟨h1, rfl⟩
  dsimp only at h1 ⊢
  subst h1
  refine cond_ne (fun h => ?_) fun hmay => ?_
  · unfold scrC
    rw [if_neg h, if_neg h]
    exact ⟨rfl, .none S⟩
  obtain ⟨hoff, hn⟩ := may_zero hmay
  obtain ⟨blk, hP⟩ := chip_adr hC S
  obtain ⟨l1, l1', l2, l2', l3, l4, l5, l6⟩ := chip_len hC S
  obtain ⟨⟨n1, n2⟩, ⟨n3, n4⟩, ⟨n5, n6⟩, n7, n8⟩ := hC.num
  have hb := (hC.blk hn).2
  have hbs := (hC.blk hn).1
  have m2 : bszC C ≤ 20 * 216 := Nat.mul_le_mul (by omega) (by omega)
  have m5 : 0 < bszC C := Nat.mul_pos (by omega) (by omega)
  refine (block_c (n := n) hC hn hP (by omega) S).mono ?_
  rintro ⟨⟨ra, rn, rc⟩, ⟨⟩⟩ w2 ⟨h2, x2⟩
  cases h2
  dsimp only
  have S := S.stepE x2
  refine S.newB fun b5 w3 S f3 _ => ?_
  refine S.st0 (by rfl) fun w4 S f4 => ?_
  simp only [Addr.add_lit, Nat.zero_add]
  have hs : (0 : Int) ≤ n ∧ n < (y.S.n : Int) := by rw [l4]; omega
  refine S.ld1 (j := 10) rfl rfl ?_
  refine S.put (i := 5) rfl hs.1 hs.2 (v := .int .i64 1) rfl fun w5 S f5 => ?_
  dsimp only [List.set_cons_succ, List.set_cons_zero] at S
  rw [iv_set] at S
  refine S.ld0 rfl rfl ?_
  dsimp only
  refine ⟨⟨by omega, by omega, by omega, by omega⟩, ?_⟩
  rw [Int.toNat_natCast]
  refine S.newB fun b12 w6 S f6 _ => ?_
  refine S.newB fun b14 w7 S f7 _ => ?_
  refine S.st0 (by rfl) fun w8 S f8 => ?_
  refine S.ld2 rfl rfl ?_
  dsimp only
  obtain ⟨pre, post, g1, g2, g3⟩ := imgC_blk hC hn
  have hall := hb.all
  rw [g1] at S
  have hne : allC C n ≠ [] := fun h => by have := hall.1; rw [show (blkC C n).pg.flatten = allC C n from rfl, h] at this; have : 0 = bszC C := this; omega
  have S := S.nilD
  obtain ⟨blk2, tl, ha2, S2, back⟩ := int_focus (k := .u8) (S.sel [5, 4, 8, 8, 8, 0, 0, 0, 0, 0, 0, 0, 0] rfl) hne
  rw [hP] at ha2
  cases ha2
  have hol : n.toNat * bszC C = (pre.map (Value.int .u8)).length := by rw [List.length_map, g2]
  have hI : Ints w8 .u8 (some ⟨blk, n.toNat * bszC C, none⟩) (bszC C) (bszC C) (allC C n) := S2.intsM 0 rfl hol hall.1.symm (Nat.le_refl _) (by omega)
  have hzl : (List.replicate (bszC C) (0 : Int)).map (Value.int .u8) = (List.replicate (bszC C) [Value.int .u8 0]).flatten := by rw [rep_flat, List.map_replicate]
  have hZ : Ints w8 .u8 (some ⟨b12, 0, none⟩) (bszC C) (bszC C) (List.replicate (bszC C) 0) := ⟨by simp, Nat.le_refl _, by omega, .inr ⟨_, rfl, by rw [hzl]; exact S2.cells 7 rfl⟩⟩
  have bz : Byt (List.replicate (bszC C) (0 : Int)) := Byt.replicate (by decide) (by decide) _
  have hla : (allC C n).length = bszC C := hall.1
  refine Sep.call [BoxA p 131 (chipV y C), BoxA blk 5 (pre.map (Value.int .u8) ++ ((allC C n).map (Value.int .u8) ++ (post.map (Value.int .u8) ++ tl))), RdT LF y.F, OwnA 106 5 y.T.a C.ops y.T.c (L.flatMap TOp.vs), RdL (L.map (·.d)), RdL [noD]] (Ts := _) (S2.sel [1, 0, 0, 0, 0, 0, 0, 0, 0, 0, 0, 0, 0] rfl)
    (fun F S => done_c (dd := noD) (whole := List.replicate (bszC C) 0) (torn := fun f => progL (allC C n) (List.replicate (bszC C) 0) f.2.2.1 false) hF hC.mfit hC.ops hoff hol (by decide) hla.symm (by rw [List.length_replicate, hla]) (fun f => by unfold progL; rw [turn_len]) (by kernel_rfl) (by kernel_rfl)
      (fun w' x' => Scrub1_c (s := ⟨some ⟨b12, 0, none⟩, bszC C, bszC C⟩) ((S2.sel [6] rfl).stepE x') (hZ.ext x'))
      (fun w' f s x' hat hm => Scrub2_c (f := f) (m := s) (s := ⟨some ⟨blk, n.toNat * bszC C, none⟩, bszC C, bszC C⟩) (t := ⟨some ⟨b12, 0, none⟩, bszC C, bszC C⟩) ((S2.sel [8, 6] rfl).stepE x') (hI.ext x') (hZ.ext x') hm hall.2 bz (atF_byt hC hat) rfl (by dsimp only; omega)) S) ?_
  rintro F2 bk ⟨(e : Int), ⟨⟩⟩ w12 ⟨h12, ta, tc, oo, hoo, S3⟩
  dsimp only at h12 ⊢
  subst h12
  have S4 := bk _ _ S3
  have hnew : newX C (List.replicate (bszC C) 0) (fun f => progL (allC C n) (List.replicate (bszC C) 0) f.2.2.1 false) = if (codeC C).1 = 0 then List.replicate (allC C n).length 0 else progL (allC C n) (List.replicate (allC C n).length 0) (codeC C).2.1 false := by
    rw [hla]
    unfold newX codeC
    cases atF C.pl (C.ops : Int) with
    | none => rfl
    | some f =>
      dsimp only
      rw [if_neg]
      split <;> omega
  rw [hnew] at S4
  have hlq : (if (codeC C).1 = 0 then List.replicate (allC C n).length 0 else progL (allC C n) (List.replicate (allC C n).length 0) (codeC C).2.1 false).length = (allC C n).length := by
    split
    · rw [List.length_replicate]
    · unfold progL; rw [turn_len]
  have S5 := (back _ _ _ _ _ hlq (S4.sel [1, 0, 0, 0, 0, 4, 4, 4, 4] rfl)).sel [1, 0, 3, 3, 3, 3, 0, 0, 0] rfl
  unfold scrC
  rw [if_pos hmay, if_pos hmay]
  refine ⟨rfl, ta, tc, L ++ [oo], by rw [List.map_append, List.map_singleton, hoo], ?_⟩
  have e1 : imgC (scrX C n) = pre ++ ((if (codeC C).1 = 0 then List.replicate (allC C n).length 0 else progL (allC C n) (List.replicate (allC C n).length 0) (codeC C).2.1 false) ++ post) := by
    rw [g3 _ (scrX C n) rfl]
    have := (cutL_flat (all := (if (codeC C).1 = 0 then List.replicate (allC C n).length 0 else progL (allC C n) (List.replicate (allC C n).length 0) (codeC C).2.1 false)) (p := C.g.p.toNat) (z := szP C.g) (by omega) (by rw [hlq]; exact hla)).1
    dsimp only
    rw [this]
  have e2 : usL (scrX C n) = usL C := fl_same hbs rfl
  have e3 : laL (scrX C n) = laL C := map_set_same hbs rfl
  have e4 : scL (scrX C n) = (scL C).set n.toNat 1 := List.map_set
  have e5 : erL (scrX C n) = erL C := map_set_same hbs rfl
  have e6 : (L ++ [oo]).map (·.d) = L.map (·.d) ++ [oo.d] := List.map_append
  refine chip_mk (y := upT y ta tc) (C := scrX C n) (L := L ++ [oo]) (Rs := []) ?_ e1 e2 e3 e4 e5
  rw [e6]
  exact S5
theorem scrX_ok {C : CD} (hC : COk C) {n : Int} (hr : mayC C n = 0) (ho : C.ops < 1000000) : COk (scrX C n) := by
  obtain ⟨hoff, hn⟩ := may_zero hr
  obtain ⟨⟨n1, n2⟩, ⟨n3, n4⟩, -⟩ := hC.num
  have hb := (hC.blk hn).2
  have hall := hb.all
  have hq : ∀ Q : List Int, Q.length = C.g.p.toNat * szP C.g → Byt Q → (cutL Q C.g.p.toNat).length = C.g.p.toNat ∧ ∀ q ∈ cutL Q C.g.p.toNat, q.length = szP C.g ∧ Byt q := fun Q h1 h2 =>
    ⟨(cutL_flat (by omega) h1).2.1, fun q hq => ⟨(cutL_flat (by omega) h1).2.2 q hq, cutL_byt h2 q hq⟩⟩
  have h := hq (if (codeC C).1 = 0 then List.replicate (allC C n).length 0 else progL (allC C n) (List.replicate (allC C n).length 0) (codeC C).2.1 false) (by
    split
    · rw [List.length_replicate]; exact hall.1
    · unfold progL; rw [turn_len]; exact hall.1) (by
    split
    · exact Byt.replicate (by decide) (by decide) _
    · exact turn_byt hall.2 _ _)
  exact hC.upd (by omega) (by omega) ⟨h.1, h.2, hb.ul, hb.ub, hb.la, hb.er.1, by dsimp only; have := hb.er.2; omega⟩

end Go.Proofs.Ytfpkaebmiojicaa.Vc
