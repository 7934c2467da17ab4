/- Texts in one: The steps of a plan on a memory of parts, by the part's place (printed by wip/tools/sepgen.py). Calls and single elements in the separate parts. Plain laws of layer 13 (nand): an array of pages, what each operation makes of it. The plans of functions as plain statements, printed by wip/tools/vcgen.py; the kernel holds each to the code. The contracts of layer 14 (head): a head's bytes. The plans of functions as plain statements, printed by wip/tools/vcgen.py; the kernel holds each to the code. The law HeadBytes of layer 14: each call gives true, and what it read stays. The contracts of layer 14 (head): an end's bytes, and is it committed. Plain laws for layer 14 (head): numbers of bytes, back as bytes. Parts of plans, cut out by wip/tools/vccut.py. The contracts of layer 14 (head): what an end tells. The contract of head.Read. Heads are the same where all their numbers are. The plans of functions as plain statements, printed by wip/tools/vcgen.py; the kernel holds each to the code. The law HeadEnds of layer 14: each call gives true, and what it read stays. -/
import Derived.Test.YtfpkaebmiojicaaChecked
import Derived.Tactics
import Derived.Tactics2
import Derived.Laws.Small
import Derived.Laws.StructEq
import Derived.Laws.Tables
import Derived.KernelRfl
import Derived.Test.YtfpkaebmiojicaaZNandReadsb

/-! The steps of a plan on a memory of parts, by the part's place (printed by wip/tools/sepgen.py). -/
namespace Go.Eng
open Go Go.RowKit
set_option linter.unusedVariables false
section
variable {E : Nat → Prop} {w0 w w' : World} {Rs : List Asr} {b : Nat} {e : TypeId} {vs : List Value}
theorem Sep.ldR {i : Nat} (S : Sep E w0 w Rs) (hi : Rs[i]? = some (BoxA b e vs)) {j : Nat} {h : SS} {v : Value} {x : h.T} (hv : vs[j]? = some v) (hr : h.rd v = some x) {K : h.T → Prop} (hk : K x) : LoadS w ⟨b, j, none⟩ h K :=
  S.ld i hi x (by rw [hv, SS.rd_v hr]) hk
theorem Sep.ldaR {i : Nat} (S : Sep E w0 w Rs) (hi : Rs[i]? = some (BoxA b e vs)) {l : List SS} {x : Tup l} (hr : tupR l vs = some x) {K : Tup l → Prop} (hk : K x) : LoadA w ⟨b, 0, none⟩ l K :=
  S.lda i hi x (tupR_v hr).symm hk
theorem Sep.ldaRN {i : Nat} (S : Sep E w0 w Rs) (hi : Rs[i]? = some (BoxA b e vs)) {o : Nat} {l : List SS} {x : Tup l} (hr : tupR l ((vs.drop o).take l.length) = some x) {K : Tup l → Prop} (hk : K x) : LoadA w ⟨b, o, none⟩ l K :=
  S.ldaN i hi o x (tupR_v hr).symm hk
theorem Sep.storeR {i : Nat} (S : Sep E w0 w Rs) (hi : Rs[i]? = some (BoxA b e vs)) {news : List Value} (hl : vs.length = news.length) {K : World → Prop}
    (hk : ∀ w', Sep E w0 w' (Rs.set i (BoxA b e news)) → Fr (fun k => k = b) w w' → K w') : StoreV w ⟨b, 0, none⟩ news K :=
  S.store i hi 0 (by omega) fun w' S' f => hk w' (by rw [show vs.take 0 ++ (news ++ vs.drop (0 + news.length)) = news by rw [List.take_zero, List.drop_eq_nil_of_le (by omega)]; simp] at S'; exact S') f
theorem Sep.storeR1 {i : Nat} (S : Sep E w0 w Rs) (hi : Rs[i]? = some (BoxA b e vs)) {j : Nat} {v : Value} (hl : j < vs.length) {K : World → Prop}
    (hk : ∀ w', Sep E w0 w' (Rs.set i (BoxA b e (vs.set j v))) → Fr (fun k => k = b) w w' → K w') : StoreV w ⟨b, j, none⟩ [v] K :=
  S.store i hi j (by simp; omega) fun w' S' f => hk w' (by
    rw [show vs.take j ++ ([v] ++ vs.drop (j + [v].length)) = vs.set j v by
      rw [List.set_eq_take_append_cons_drop, if_pos hl]; rfl] at S'
    exact S') f

theorem Sep.ld0 (S : Sep E w0 w (BoxA b e vs :: Rs)) {j : Nat} {h : SS} {v : Value} {x : h.T} (hv : vs[j]? = some v) (hr : h.rd v = some x) {K : h.T → Prop} (hk : K x) : LoadS w ⟨b, j, none⟩ h K := S.ldR (i := 0) rfl hv hr hk
theorem Sep.la0 (S : Sep E w0 w (BoxA b e vs :: Rs)) {l : List SS} {x : Tup l} (hr : tupR l vs = some x) {K : Tup l → Prop} (hk : K x) : LoadA w ⟨b, 0, none⟩ l K := S.ldaR (i := 0) rfl hr hk
theorem Sep.lb0 (S : Sep E w0 w (BoxA b e vs :: Rs)) {o : Nat} {l : List SS} {x : Tup l} (hr : tupR l ((vs.drop o).take l.length) = some x) {K : Tup l → Prop} (hk : K x) : LoadA w ⟨b, o, none⟩ l K := S.ldaRN (i := 0) rfl hr hk
theorem Sep.st0 (S : Sep E w0 w (BoxA b e vs :: Rs)) {news : List Value} (hl : vs.length = news.length) {K : World → Prop} (hk : ∀ w', Sep E w0 w' (BoxA b e news :: Rs) → Fr (fun k => k = b) w w' → K w') : StoreV w ⟨b, 0, none⟩ news K := S.storeR (i := 0) rfl hl hk
theorem Sep.su0 (S : Sep E w0 w (BoxA b e vs :: Rs)) {j : Nat} {v : Value} (hl : Nat.blt j vs.length = true) {K : World → Prop} (hk : ∀ w', Sep E w0 w' (BoxA b e (vs.set j v) :: Rs) → Fr (fun k => k = b) w w' → K w') : StoreV w ⟨b, j, none⟩ [v] K := S.storeR1 (i := 0) rfl (by simpa [Nat.blt_eq] using hl) hk
theorem Sep.bl0 (S : Sep E w0 w (BoxA b e vs :: Rs)) : b < w.heap.size := S.lt 0 rfl
theorem Sep.ap0 {sz by' : Nat} {a : Option Addr} {n c m : Nat} {news : List Value} (S : Sep E w0 w (OwnA e sz a n c vs :: Rs)) (hl : news.length = m * sz) (h1 : oneAll news) (hby : (2 * (n + m) + 256) * by' ≤ 281474976710656) (h63 : n + m ≤ 9223372036854775807) {K : Option Addr → Nat → Nat → World → Prop} (hk : ∀ a' c' w', Sep E w0 w' (OwnA e sz a' (n + m) c' (vs ++ news) :: Rs) → Fr (fun k => ∃ q : Addr, a = some q ∧ k = q.block) w w' → K a' (n + m) c' w') : AppV w e sz by' a n c news m K := S.app 0 rfl hl h1 hby h63 hk
theorem Sep.pu0 {a : Option Addr} {n c : Nat} (S : Sep E w0 w (OwnA e 1 a n c vs :: Rs)) {j : Int} (h0 : 0 ≤ j) (h1 : j < (n : Int)) {v : Value} (hv : v.oneCell' = true) {K : World → Prop} (hk : ∀ w', Sep E w0 w' (OwnA e 1 a n c (vs.set j.toNat v) :: Rs) → Fr (fun k => ∃ q : Addr, a = some q ∧ k = q.block) w w' → K w') : (0 ≤ j ∧ j < (n : Int)) ∧ ∃ q, a = some q ∧ StoreV w (q.add (j.toNat * 1)) [v] K := S.put 0 rfl h0 h1 hv hk
theorem Sep.in0 {a : Option Addr} {n c : Nat} {k : IntKind} {xs : List Int} (S : Sep E w0 w (OwnA e 1 a n c (xs.map (Value.int k)) :: Rs)) : Ints w k a n c xs := S.ints 0 rfl
theorem Sep.ab0 {a : Option Addr} {n c m : Nat} {xs ys : List Int} {a2 : Option Addr} {c2 : Nat} (S : Sep E w0 w (OwnA e 1 a n c (xs.map (Value.int .u8)) :: Rs)) (hy : Ints w .u8 a2 m c2 ys) (hn : n + m ≤ 140737488351232) {K : Option Addr → Nat → Nat → World → Prop} (hk : ∀ a' c' w', Sep E w0 w' (OwnA e 1 a' (n + m) c' ((xs ++ ys).map (Value.int .u8)) :: Rs) → Fr (fun k => ∃ q : Addr, a = some q ∧ k = q.block) w w' → K a' (n + m) c' w') : AppS w a2 m 1 fun ns => AppV w e 1 1 a n c ns m K :=
  AppS.of (news := ys.map (Value.int .u8)) (by rw [List.length_map, hy.len]; omega) hy.rd (S.ap0 (by rw [List.length_map, hy.len]; omega) (oneAll.ints _ _) (by omega) (by omega) fun a' c' w' S' f => hk a' c' w' (by rw [List.map_append]; exact S') f)
theorem Sep.ld1 {R0 : Asr} (S : Sep E w0 w (R0 :: BoxA b e vs :: Rs)) {j : Nat} {h : SS} {v : Value} {x : h.T} (hv : vs[j]? = some v) (hr : h.rd v = some x) {K : h.T → Prop} (hk : K x) : LoadS w ⟨b, j, none⟩ h K := S.ldR (i := 1) rfl hv hr hk
theorem Sep.la1 {R0 : Asr} (S : Sep E w0 w (R0 :: BoxA b e vs :: Rs)) {l : List SS} {x : Tup l} (hr : tupR l vs = some x) {K : Tup l → Prop} (hk : K x) : LoadA w ⟨b, 0, none⟩ l K := S.ldaR (i := 1) rfl hr hk
theorem Sep.lb1 {R0 : Asr} (S : Sep E w0 w (R0 :: BoxA b e vs :: Rs)) {o : Nat} {l : List SS} {x : Tup l} (hr : tupR l ((vs.drop o).take l.length) = some x) {K : Tup l → Prop} (hk : K x) : LoadA w ⟨b, o, none⟩ l K := S.ldaRN (i := 1) rfl hr hk
theorem Sep.st1 {R0 : Asr} (S : Sep E w0 w (R0 :: BoxA b e vs :: Rs)) {news : List Value} (hl : vs.length = news.length) {K : World → Prop} (hk : ∀ w', Sep E w0 w' (R0 :: BoxA b e news :: Rs) → Fr (fun k => k = b) w w' → K w') : StoreV w ⟨b, 0, none⟩ news K := S.storeR (i := 1) rfl hl hk
theorem Sep.su1 {R0 : Asr} (S : Sep E w0 w (R0 :: BoxA b e vs :: Rs)) {j : Nat} {v : Value} (hl : Nat.blt j vs.length = true) {K : World → Prop} (hk : ∀ w', Sep E w0 w' (R0 :: BoxA b e (vs.set j v) :: Rs) → Fr (fun k => k = b) w w' → K w') : StoreV w ⟨b, j, none⟩ [v] K := S.storeR1 (i := 1) rfl (by simpa [Nat.blt_eq] using hl) hk
theorem Sep.bl1 {R0 : Asr} (S : Sep E w0 w (R0 :: BoxA b e vs :: Rs)) : b < w.heap.size := S.lt 1 rfl
theorem Sep.ap1 {R0 : Asr} {sz by' : Nat} {a : Option Addr} {n c m : Nat} {news : List Value} (S : Sep E w0 w (R0 :: OwnA e sz a n c vs :: Rs)) (hl : news.length = m * sz) (h1 : oneAll news) (hby : (2 * (n + m) + 256) * by' ≤ 281474976710656) (h63 : n + m ≤ 9223372036854775807) {K : Option Addr → Nat → Nat → World → Prop} (hk : ∀ a' c' w', Sep E w0 w' (R0 :: OwnA e sz a' (n + m) c' (vs ++ news) :: Rs) → Fr (fun k => ∃ q : Addr, a = some q ∧ k = q.block) w w' → K a' (n + m) c' w') : AppV w e sz by' a n c news m K := S.app 1 rfl hl h1 hby h63 hk
theorem Sep.pu1 {R0 : Asr} {a : Option Addr} {n c : Nat} (S : Sep E w0 w (R0 :: OwnA e 1 a n c vs :: Rs)) {j : Int} (h0 : 0 ≤ j) (h1 : j < (n : Int)) {v : Value} (hv : v.oneCell' = true) {K : World → Prop} (hk : ∀ w', Sep E w0 w' (R0 :: OwnA e 1 a n c (vs.set j.toNat v) :: Rs) → Fr (fun k => ∃ q : Addr, a = some q ∧ k = q.block) w w' → K w') : (0 ≤ j ∧ j < (n : Int)) ∧ ∃ q, a = some q ∧ StoreV w (q.add (j.toNat * 1)) [v] K := S.put 1 rfl h0 h1 hv hk
theorem Sep.in1 {R0 : Asr} {a : Option Addr} {n c : Nat} {k : IntKind} {xs : List Int} (S : Sep E w0 w (R0 :: OwnA e 1 a n c (xs.map (Value.int k)) :: Rs)) : Ints w k a n c xs := S.ints 1 rfl
theorem Sep.ab1 {R0 : Asr} {a : Option Addr} {n c m : Nat} {xs ys : List Int} {a2 : Option Addr} {c2 : Nat} (S : Sep E w0 w (R0 :: OwnA e 1 a n c (xs.map (Value.int .u8)) :: Rs)) (hy : Ints w .u8 a2 m c2 ys) (hn : n + m ≤ 140737488351232) {K : Option Addr → Nat → Nat → World → Prop} (hk : ∀ a' c' w', Sep E w0 w' (R0 :: OwnA e 1 a' (n + m) c' ((xs ++ ys).map (Value.int .u8)) :: Rs) → Fr (fun k => ∃ q : Addr, a = some q ∧ k = q.block) w w' → K a' (n + m) c' w') : AppS w a2 m 1 fun ns => AppV w e 1 1 a n c ns m K :=
  AppS.of (news := ys.map (Value.int .u8)) (by rw [List.length_map, hy.len]; omega) hy.rd (S.ap1 (by rw [List.length_map, hy.len]; omega) (oneAll.ints _ _) (by omega) (by omega) fun a' c' w' S' f => hk a' c' w' (by rw [List.map_append]; exact S') f)
theorem Sep.ld2 {R0 R1 : Asr} (S : Sep E w0 w (R0 :: R1 :: BoxA b e vs :: Rs)) {j : Nat} {h : SS} {v : Value} {x : h.T} (hv : vs[j]? = some v) (hr : h.rd v = some x) {K : h.T → Prop} (hk : K x) : LoadS w ⟨b, j, none⟩ h K := S.ldR (i := 2) rfl hv hr hk
theorem Sep.la2 {R0 R1 : Asr} (S : Sep E w0 w (R0 :: R1 :: BoxA b e vs :: Rs)) {l : List SS} {x : Tup l} (hr : tupR l vs = some x) {K : Tup l → Prop} (hk : K x) : LoadA w ⟨b, 0, none⟩ l K := S.ldaR (i := 2) rfl hr hk
theorem Sep.lb2 {R0 R1 : Asr} (S : Sep E w0 w (R0 :: R1 :: BoxA b e vs :: Rs)) {o : Nat} {l : List SS} {x : Tup l} (hr : tupR l ((vs.drop o).take l.length) = some x) {K : Tup l → Prop} (hk : K x) : LoadA w ⟨b, o, none⟩ l K := S.ldaRN (i := 2) rfl hr hk
theorem Sep.st2 {R0 R1 : Asr} (S : Sep E w0 w (R0 :: R1 :: BoxA b e vs :: Rs)) {news : List Value} (hl : vs.length = news.length) {K : World → Prop} (hk : ∀ w', Sep E w0 w' (R0 :: R1 :: BoxA b e news :: Rs) → Fr (fun k => k = b) w w' → K w') : StoreV w ⟨b, 0, none⟩ news K := S.storeR (i := 2) rfl hl hk
theorem Sep.su2 {R0 R1 : Asr} (S : Sep E w0 w (R0 :: R1 :: BoxA b e vs :: Rs)) {j : Nat} {v : Value} (hl : Nat.blt j vs.length = true) {K : World → Prop} (hk : ∀ w', Sep E w0 w' (R0 :: R1 :: BoxA b e (vs.set j v) :: Rs) → Fr (fun k => k = b) w w' → K w') : StoreV w ⟨b, j, none⟩ [v] K := S.storeR1 (i := 2) rfl (by simpa [Nat.blt_eq] using hl) hk
theorem Sep.bl2 {R0 R1 : Asr} (S : Sep E w0 w (R0 :: R1 :: BoxA b e vs :: Rs)) : b < w.heap.size := S.lt 2 rfl
theorem Sep.ap2 {R0 R1 : Asr} {sz by' : Nat} {a : Option Addr} {n c m : Nat} {news : List Value} (S : Sep E w0 w (R0 :: R1 :: OwnA e sz a n c vs :: Rs)) (hl : news.length = m * sz) (h1 : oneAll news) (hby : (2 * (n + m) + 256) * by' ≤ 281474976710656) (h63 : n + m ≤ 9223372036854775807) {K : Option Addr → Nat → Nat → World → Prop} (hk : ∀ a' c' w', Sep E w0 w' (R0 :: R1 :: OwnA e sz a' (n + m) c' (vs ++ news) :: Rs) → Fr (fun k => ∃ q : Addr, a = some q ∧ k = q.block) w w' → K a' (n + m) c' w') : AppV w e sz by' a n c news m K := S.app 2 rfl hl h1 hby h63 hk
theorem Sep.pu2 {R0 R1 : Asr} {a : Option Addr} {n c : Nat} (S : Sep E w0 w (R0 :: R1 :: OwnA e 1 a n c vs :: Rs)) {j : Int} (h0 : 0 ≤ j) (h1 : j < (n : Int)) {v : Value} (hv : v.oneCell' = true) {K : World → Prop} (hk : ∀ w', Sep E w0 w' (R0 :: R1 :: OwnA e 1 a n c (vs.set j.toNat v) :: Rs) → Fr (fun k => ∃ q : Addr, a = some q ∧ k = q.block) w w' → K w') : (0 ≤ j ∧ j < (n : Int)) ∧ ∃ q, a = some q ∧ StoreV w (q.add (j.toNat * 1)) [v] K := S.put 2 rfl h0 h1 hv hk
theorem Sep.in2 {R0 R1 : Asr} {a : Option Addr} {n c : Nat} {k : IntKind} {xs : List Int} (S : Sep E w0 w (R0 :: R1 :: OwnA e 1 a n c (xs.map (Value.int k)) :: Rs)) : Ints w k a n c xs := S.ints 2 rfl
theorem Sep.ab2 {R0 R1 : Asr} {a : Option Addr} {n c m : Nat} {xs ys : List Int} {a2 : Option Addr} {c2 : Nat} (S : Sep E w0 w (R0 :: R1 :: OwnA e 1 a n c (xs.map (Value.int .u8)) :: Rs)) (hy : Ints w .u8 a2 m c2 ys) (hn : n + m ≤ 140737488351232) {K : Option Addr → Nat → Nat → World → Prop} (hk : ∀ a' c' w', Sep E w0 w' (R0 :: R1 :: OwnA e 1 a' (n + m) c' ((xs ++ ys).map (Value.int .u8)) :: Rs) → Fr (fun k => ∃ q : Addr, a = some q ∧ k = q.block) w w' → K a' (n + m) c' w') : AppS w a2 m 1 fun ns => AppV w e 1 1 a n c ns m K :=
  AppS.of (news := ys.map (Value.int .u8)) (by rw [List.length_map, hy.len]; omega) hy.rd (S.ap2 (by rw [List.length_map, hy.len]; omega) (oneAll.ints _ _) (by omega) (by omega) fun a' c' w' S' f => hk a' c' w' (by rw [List.map_append]; exact S') f)
theorem Sep.ld3 {R0 R1 R2 : Asr} (S : Sep E w0 w (R0 :: R1 :: R2 :: BoxA b e vs :: Rs)) {j : Nat} {h : SS} {v : Value} {x : h.T} (hv : vs[j]? = some v) (hr : h.rd v = some x) {K : h.T → Prop} (hk : K x) : LoadS w ⟨b, j, none⟩ h K := S.ldR (i := 3) rfl hv hr hk
theorem Sep.la3 {R0 R1 R2 : Asr} (S : Sep E w0 w (R0 :: R1 :: R2 :: BoxA b e vs :: Rs)) {l : List SS} {x : Tup l} (hr : tupR l vs = some x) {K : Tup l → Prop} (hk : K x) : LoadA w ⟨b, 0, none⟩ l K := S.ldaR (i := 3) rfl hr hk
theorem Sep.lb3 {R0 R1 R2 : Asr} (S : Sep E w0 w (R0 :: R1 :: R2 :: BoxA b e vs :: Rs)) {o : Nat} {l : List SS} {x : Tup l} (hr : tupR l ((vs.drop o).take l.length) = some x) {K : Tup l → Prop} (hk : K x) : LoadA w ⟨b, o, none⟩ l K := S.ldaRN (i := 3) rfl hr hk
theorem Sep.st3 {R0 R1 R2 : Asr} (S : Sep E w0 w (R0 :: R1 :: R2 :: BoxA b e vs :: Rs)) {news : List Value} (hl : vs.length = news.length) {K : World → Prop} (hk : ∀ w', Sep E w0 w' (R0 :: R1 :: R2 :: BoxA b e news :: Rs) → Fr (fun k => k = b) w w' → K w') : StoreV w ⟨b, 0, none⟩ news K := S.storeR (i := 3) rfl hl hk
theorem Sep.su3 {R0 R1 R2 : Asr} (S : Sep E w0 w (R0 :: R1 :: R2 :: BoxA b e vs :: Rs)) {j : Nat} {v : Value} (hl : Nat.blt j vs.length = true) {K : World → Prop} (hk : ∀ w', Sep E w0 w' (R0 :: R1 :: R2 :: BoxA b e (vs.set j v) :: Rs) → Fr (fun k => k = b) w w' → K w') : StoreV w ⟨b, j, none⟩ [v] K := S.storeR1 (i := 3) rfl (by simpa [Nat.blt_eq] using hl) hk
theorem Sep.bl3 {R0 R1 R2 : Asr} (S : Sep E w0 w (R0 :: R1 :: R2 :: BoxA b e vs :: Rs)) : b < w.heap.size := S.lt 3 rfl
theorem Sep.ap3 {R0 R1 R2 : Asr} {sz by' : Nat} {a : Option Addr} {n c m : Nat} {news : List Value} (S : Sep E w0 w (R0 :: R1 :: R2 :: OwnA e sz a n c vs :: Rs)) (hl : news.length = m * sz) (h1 : oneAll news) (hby : (2 * (n + m) + 256) * by' ≤ 281474976710656) (h63 : n + m ≤ 9223372036854775807) {K : Option Addr → Nat → Nat → World → Prop} (hk : ∀ a' c' w', Sep E w0 w' (R0 :: R1 :: R2 :: OwnA e sz a' (n + m) c' (vs ++ news) :: Rs) → Fr (fun k => ∃ q : Addr, a = some q ∧ k = q.block) w w' → K a' (n + m) c' w') : AppV w e sz by' a n c news m K := S.app 3 rfl hl h1 hby h63 hk
theorem Sep.pu3 {R0 R1 R2 : Asr} {a : Option Addr} {n c : Nat} (S : Sep E w0 w (R0 :: R1 :: R2 :: OwnA e 1 a n c vs :: Rs)) {j : Int} (h0 : 0 ≤ j) (h1 : j < (n : Int)) {v : Value} (hv : v.oneCell' = true) {K : World → Prop} (hk : ∀ w', Sep E w0 w' (R0 :: R1 :: R2 :: OwnA e 1 a n c (vs.set j.toNat v) :: Rs) → Fr (fun k => ∃ q : Addr, a = some q ∧ k = q.block) w w' → K w') : (0 ≤ j ∧ j < (n : Int)) ∧ ∃ q, a = some q ∧ StoreV w (q.add (j.toNat * 1)) [v] K := S.put 3 rfl h0 h1 hv hk
theorem Sep.in3 {R0 R1 R2 : Asr} {a : Option Addr} {n c : Nat} {k : IntKind} {xs : List Int} (S : Sep E w0 w (R0 :: R1 :: R2 :: OwnA e 1 a n c (xs.map (Value.int k)) :: Rs)) : Ints w k a n c xs := S.ints 3 rfl
theorem Sep.ab3 {R0 R1 R2 : Asr} {a : Option Addr} {n c m : Nat} {xs ys : List Int} {a2 : Option Addr} {c2 : Nat} (S : Sep E w0 w (R0 :: R1 :: R2 :: OwnA e 1 a n c (xs.map (Value.int .u8)) :: Rs)) (hy : Ints w .u8 a2 m c2 ys) (hn : n + m ≤ 140737488351232) {K : Option Addr → Nat → Nat → World → Prop} (hk : ∀ a' c' w', Sep E w0 w' (R0 :: R1 :: R2 :: OwnA e 1 a' (n + m) c' ((xs ++ ys).map (Value.int .u8)) :: Rs) → Fr (fun k => ∃ q : Addr, a = some q ∧ k = q.block) w w' → K a' (n + m) c' w') : AppS w a2 m 1 fun ns => AppV w e 1 1 a n c ns m K :=
  AppS.of (news := ys.map (Value.int .u8)) (by rw [List.length_map, hy.len]; omega) hy.rd (S.ap3 (by rw [List.length_map, hy.len]; omega) (oneAll.ints _ _) (by omega) (by omega) fun a' c' w' S' f => hk a' c' w' (by rw [List.map_append]; exact S') f)
theorem Sep.ld4 {R0 R1 R2 R3 : Asr} (S : Sep E w0 w (R0 :: R1 :: R2 :: R3 :: BoxA b e vs :: Rs)) {j : Nat} {h : SS} {v : Value} {x : h.T} (hv : vs[j]? = some v) (hr : h.rd v = some x) {K : h.T → Prop} (hk : K x) : LoadS w ⟨b, j, none⟩ h K := S.ldR (i := 4) rfl hv hr hk
theorem Sep.la4 {R0 R1 R2 R3 : Asr} (S : Sep E w0 w (R0 :: R1 :: R2 :: R3 :: BoxA b e vs :: Rs)) {l : List SS} {x : Tup l} (hr : tupR l vs = some x) {K : Tup l → Prop} (hk : K x) : LoadA w ⟨b, 0, none⟩ l K := S.ldaR (i := 4) rfl hr hk
theorem Sep.lb4 {R0 R1 R2 R3 : Asr} (S : Sep E w0 w (R0 :: R1 :: R2 :: R3 :: BoxA b e vs :: Rs)) {o : Nat} {l : List SS} {x : Tup l} (hr : tupR l ((vs.drop o).take l.length) = some x) {K : Tup l → Prop} (hk : K x) : LoadA w ⟨b, o, none⟩ l K := S.ldaRN (i := 4) rfl hr hk
theorem Sep.st4 {R0 R1 R2 R3 : Asr} (S : Sep E w0 w (R0 :: R1 :: R2 :: R3 :: BoxA b e vs :: Rs)) {news : List Value} (hl : vs.length = news.length) {K : World → Prop} (hk : ∀ w', Sep E w0 w' (R0 :: R1 :: R2 :: R3 :: BoxA b e news :: Rs) → Fr (fun k => k = b) w w' → K w') : StoreV w ⟨b, 0, none⟩ news K := S.storeR (i := 4) rfl hl hk
theorem Sep.su4 {R0 R1 R2 R3 : Asr} (S : Sep E w0 w (R0 :: R1 :: R2 :: R3 :: BoxA b e vs :: Rs)) {j : Nat} {v : Value} (hl : Nat.blt j vs.length = true) {K : World → Prop} (hk : ∀ w', Sep E w0 w' (R0 :: R1 :: R2 :: R3 :: BoxA b e (vs.set j v) :: Rs) → Fr (fun k => k = b) w w' → K w') : StoreV w ⟨b, j, none⟩ [v] K := S.storeR1 (i := 4) rfl (by simpa [Nat.blt_eq] using hl) hk
theorem Sep.bl4 {R0 R1 R2 R3 : Asr} (S : Sep E w0 w (R0 :: R1 :: R2 :: R3 :: BoxA b e vs :: Rs)) : b < w.heap.size := S.lt 4 rfl
theorem Sep.ap4 {R0 R1 R2 R3 : Asr} {sz by' : Nat} {a : Option Addr} {n c m : Nat} {news : List Value} (S : Sep E w0 w (R0 :: R1 :: R2 :: R3 :: OwnA e sz a n c vs :: Rs)) (hl : news.length = m * sz) (h1 : oneAll news) (hby : (2 * (n + m) + 256) * by' ≤ 281474976710656) (h63 : n + m ≤ 9223372036854775807) {K : Option Addr → Nat → Nat → World → Prop} (hk : ∀ a' c' w', Sep E w0 w' (R0 :: R1 :: R2 :: R3 :: OwnA e sz a' (n + m) c' (vs ++ news) :: Rs) → Fr (fun k => ∃ q : Addr, a = some q ∧ k = q.block) w w' → K a' (n + m) c' w') : AppV w e sz by' a n c news m K := S.app 4 rfl hl h1 hby h63 hk
theorem Sep.pu4 {R0 R1 R2 R3 : Asr} {a : Option Addr} {n c : Nat} (S : Sep E w0 w (R0 :: R1 :: R2 :: R3 :: OwnA e 1 a n c vs :: Rs)) {j : Int} (h0 : 0 ≤ j) (h1 : j < (n : Int)) {v : Value} (hv : v.oneCell' = true) {K : World → Prop} (hk : ∀ w', Sep E w0 w' (R0 :: R1 :: R2 :: R3 :: OwnA e 1 a n c (vs.set j.toNat v) :: Rs) → Fr (fun k => ∃ q : Addr, a = some q ∧ k = q.block) w w' → K w') : (0 ≤ j ∧ j < (n : Int)) ∧ ∃ q, a = some q ∧ StoreV w (q.add (j.toNat * 1)) [v] K := S.put 4 rfl h0 h1 hv hk
theorem Sep.in4 {R0 R1 R2 R3 : Asr} {a : Option Addr} {n c : Nat} {k : IntKind} {xs : List Int} (S : Sep E w0 w (R0 :: R1 :: R2 :: R3 :: OwnA e 1 a n c (xs.map (Value.int k)) :: Rs)) : Ints w k a n c xs := S.ints 4 rfl
theorem Sep.ab4 {R0 R1 R2 R3 : Asr} {a : Option Addr} {n c m : Nat} {xs ys : List Int} {a2 : Option Addr} {c2 : Nat} (S : Sep E w0 w (R0 :: R1 :: R2 :: R3 :: OwnA e 1 a n c (xs.map (Value.int .u8)) :: Rs)) (hy : Ints w .u8 a2 m c2 ys) (hn : n + m ≤ 140737488351232) {K : Option Addr → Nat → Nat → World → Prop} (hk : ∀ a' c' w', Sep E w0 w' (R0 :: R1 :: R2 :: R3 :: OwnA e 1 a' (n + m) c' ((xs ++ ys).map (Value.int .u8)) :: Rs) → Fr (fun k => ∃ q : Addr, a = some q ∧ k = q.block) w w' → K a' (n + m) c' w') : AppS w a2 m 1 fun ns => AppV w e 1 1 a n c ns m K :=
  AppS.of (news := ys.map (Value.int .u8)) (by rw [List.length_map, hy.len]; omega) hy.rd (S.ap4 (by rw [List.length_map, hy.len]; omega) (oneAll.ints _ _) (by omega) (by omega) fun a' c' w' S' f => hk a' c' w' (by rw [List.map_append]; exact S') f)
theorem Sep.ld5 {R0 R1 R2 R3 R4 : Asr} (S : Sep E w0 w (R0 :: R1 :: R2 :: R3 :: R4 :: BoxA b e vs :: Rs)) {j : Nat} {h : SS} {v : Value} {x : h.T} (hv : vs[j]? = some v) (hr : h.rd v = some x) {K : h.T → Prop} (hk : K x) : LoadS w ⟨b, j, none⟩ h K := S.ldR (i := 5) rfl hv hr hk
theorem Sep.la5 {R0 R1 R2 R3 R4 : Asr} (S : Sep E w0 w (R0 :: R1 :: R2 :: R3 :: R4 :: BoxA b e vs :: Rs)) {l : List SS} {x : Tup l} (hr : tupR l vs = some x) {K : Tup l → Prop} (hk : K x) : LoadA w ⟨b, 0, none⟩ l K := S.ldaR (i := 5) rfl hr hk
theorem Sep.lb5 {R0 R1 R2 R3 R4 : Asr} (S : Sep E w0 w (R0 :: R1 :: R2 :: R3 :: R4 :: BoxA b e vs :: Rs)) {o : Nat} {l : List SS} {x : Tup l} (hr : tupR l ((vs.drop o).take l.length) = some x) {K : Tup l → Prop} (hk : K x) : LoadA w ⟨b, o, none⟩ l K := S.ldaRN (i := 5) rfl hr hk
theorem Sep.st5 {R0 R1 R2 R3 R4 : Asr} (S : Sep E w0 w (R0 :: R1 :: R2 :: R3 :: R4 :: BoxA b e vs :: Rs)) {news : List Value} (hl : vs.length = news.length) {K : World → Prop} (hk : ∀ w', Sep E w0 w' (R0 :: R1 :: R2 :: R3 :: R4 :: BoxA b e news :: Rs) → Fr (fun k => k = b) w w' → K w') : StoreV w ⟨b, 0, none⟩ news K := S.storeR (i := 5) rfl hl hk
theorem Sep.su5 {R0 R1 R2 R3 R4 : Asr} (S : Sep E w0 w (R0 :: R1 :: R2 :: R3 :: R4 :: BoxA b e vs :: Rs)) {j : Nat} {v : Value} (hl : Nat.blt j vs.length = true) {K : World → Prop} (hk : ∀ w', Sep E w0 w' (R0 :: R1 :: R2 :: R3 :: R4 :: BoxA b e (vs.set j v) :: Rs) → Fr (fun k => k = b) w w' → K w') : StoreV w ⟨b, j, none⟩ [v] K := S.storeR1 (i := 5) rfl (by simpa [Nat.blt_eq] using hl) hk
theorem Sep.bl5 {R0 R1 R2 R3 R4 : Asr} (S : Sep E w0 w (R0 :: R1 :: R2 :: R3 :: R4 :: BoxA b e vs :: Rs)) : b < w.heap.size := S.lt 5 rfl
theorem Sep.ap5 {R0 R1 R2 R3 R4 : Asr} {sz by' : Nat} {a : Option Addr} {n c m : Nat} {news : List Value} (S : Sep E w0 w (R0 :: R1 :: R2 :: R3 :: R4 :: OwnA e sz a n c vs :: Rs)) (hl : news.length = m * sz) (h1 : oneAll news) (hby : (2 * (n + m) + 256) * by' ≤ 281474976710656) (h63 : n + m ≤ 9223372036854775807) {K : Option Addr → Nat → Nat → World → Prop} (hk : ∀ a' c' w', Sep E w0 w' (R0 :: R1 :: R2 :: R3 :: R4 :: OwnA e sz a' (n + m) c' (vs ++ news) :: Rs) → Fr (fun k => ∃ q : Addr, a = some q ∧ k = q.block) w w' → K a' (n + m) c' w') : AppV w e sz by' a n c news m K := S.app 5 rfl hl h1 hby h63 hk
theorem Sep.pu5 {R0 R1 R2 R3 R4 : Asr} {a : Option Addr} {n c : Nat} (S : Sep E w0 w (R0 :: R1 :: R2 :: R3 :: R4 :: OwnA e 1 a n c vs :: Rs)) {j : Int} (h0 : 0 ≤ j) (h1 : j < (n : Int)) {v : Value} (hv : v.oneCell' = true) {K : World → Prop} (hk : ∀ w', Sep E w0 w' (R0 :: R1 :: R2 :: R3 :: R4 :: OwnA e 1 a n c (vs.set j.toNat v) :: Rs) → Fr (fun k => ∃ q : Addr, a = some q ∧ k = q.block) w w' → K w') : (0 ≤ j ∧ j < (n : Int)) ∧ ∃ q, a = some q ∧ StoreV w (q.add (j.toNat * 1)) [v] K := S.put 5 rfl h0 h1 hv hk
theorem Sep.in5 {R0 R1 R2 R3 R4 : Asr} {a : Option Addr} {n c : Nat} {k : IntKind} {xs : List Int} (S : Sep E w0 w (R0 :: R1 :: R2 :: R3 :: R4 :: OwnA e 1 a n c (xs.map (Value.int k)) :: Rs)) : Ints w k a n c xs := S.ints 5 rfl
theorem Sep.ab5 {R0 R1 R2 R3 R4 : Asr} {a : Option Addr} {n c m : Nat} {xs ys : List Int} {a2 : Option Addr} {c2 : Nat} (S : Sep E w0 w (R0 :: R1 :: R2 :: R3 :: R4 :: OwnA e 1 a n c (xs.map (Value.int .u8)) :: Rs)) (hy : Ints w .u8 a2 m c2 ys) (hn : n + m ≤ 140737488351232) {K : Option Addr → Nat → Nat → World → Prop} (hk : ∀ a' c' w', Sep E w0 w' (R0 :: R1 :: R2 :: R3 :: R4 :: OwnA e 1 a' (n + m) c' ((xs ++ ys).map (Value.int .u8)) :: Rs) → Fr (fun k => ∃ q : Addr, a = some q ∧ k = q.block) w w' → K a' (n + m) c' w') : AppS w a2 m 1 fun ns => AppV w e 1 1 a n c ns m K :=
  AppS.of (news := ys.map (Value.int .u8)) (by rw [List.length_map, hy.len]; omega) hy.rd (S.ap5 (by rw [List.length_map, hy.len]; omega) (oneAll.ints _ _) (by omega) (by omega) fun a' c' w' S' f => hk a' c' w' (by rw [List.map_append]; exact S') f)
theorem Sep.ld6 {R0 R1 R2 R3 R4 R5 : Asr} (S : Sep E w0 w (R0 :: R1 :: R2 :: R3 :: R4 :: R5 :: BoxA b e vs :: Rs)) {j : Nat} {h : SS} {v : Value} {x : h.T} (hv : vs[j]? = some v) (hr : h.rd v = some x) {K : h.T → Prop} (hk : K x) : LoadS w ⟨b, j, none⟩ h K := S.ldR (i := 6) rfl hv hr hk
theorem Sep.la6 {R0 R1 R2 R3 R4 R5 : Asr} (S : Sep E w0 w (R0 :: R1 :: R2 :: R3 :: R4 :: R5 :: BoxA b e vs :: Rs)) {l : List SS} {x : Tup l} (hr : tupR l vs = some x) {K : Tup l → Prop} (hk : K x) : LoadA w ⟨b, 0, none⟩ l K := S.ldaR (i := 6) rfl hr hk
theorem Sep.lb6 {R0 R1 R2 R3 R4 R5 : Asr} (S : Sep E w0 w (R0 :: R1 :: R2 :: R3 :: R4 :: R5 :: BoxA b e vs :: Rs)) {o : Nat} {l : List SS} {x : Tup l} (hr : tupR l ((vs.drop o).take l.length) = some x) {K : Tup l → Prop} (hk : K x) : LoadA w ⟨b, o, none⟩ l K := S.ldaRN (i := 6) rfl hr hk
theorem Sep.st6 {R0 R1 R2 R3 R4 R5 : Asr} (S : Sep E w0 w (R0 :: R1 :: R2 :: R3 :: R4 :: R5 :: BoxA b e vs :: Rs)) {news : List Value} (hl : vs.length = news.length) {K : World → Prop} (hk : ∀ w', Sep E w0 w' (R0 :: R1 :: R2 :: R3 :: R4 :: R5 :: BoxA b e news :: Rs) → Fr (fun k => k = b) w w' → K w') : StoreV w ⟨b, 0, none⟩ news K := S.storeR (i := 6) rfl hl hk
theorem Sep.su6 {R0 R1 R2 R3 R4 R5 : Asr} (S : Sep E w0 w (R0 :: R1 :: R2 :: R3 :: R4 :: R5 :: BoxA b e vs :: Rs)) {j : Nat} {v : Value} (hl : Nat.blt j vs.length = true) {K : World → Prop} (hk : ∀ w', Sep E w0 w' (R0 :: R1 :: R2 :: R3 :: R4 :: R5 :: BoxA b e (vs.set j v) :: Rs) → Fr (fun k => k = b) w w' → K w') : StoreV w ⟨b, j, none⟩ [v] K := S.storeR1 (i := 6) rfl (by simpa [Nat.blt_eq] using hl) hk
theorem Sep.bl6 {R0 R1 R2 R3 R4 R5 : Asr} (S : Sep E w0 w (R0 :: R1 :: R2 :: R3 :: R4 :: R5 :: BoxA b e vs :: Rs)) : b < w.heap.size := S.lt 6 rfl
theorem Sep.ap6 {R0 R1 R2 R3 R4 R5 : Asr} {sz by' : Nat} {a : Option Addr} {n c m : Nat} {news : List Value} (S : Sep E w0 w (R0 :: R1 :: R2 :: R3 :: R4 :: R5 :: OwnA e sz a n c vs :: Rs)) (hl : news.length = m * sz) (h1 : oneAll news) (hby : (2 * (n + m) + 256) * by' ≤ 281474976710656) (h63 : n + m ≤ 9223372036854775807) {K : Option Addr → Nat → Nat → World → Prop} (hk : ∀ a' c' w', Sep E w0 w' (R0 :: R1 :: R2 :: R3 :: R4 :: R5 :: OwnA e sz a' (n + m) c' (vs ++ news) :: Rs) → Fr (fun k => ∃ q : Addr, a = some q ∧ k = q.block) w w' → K a' (n + m) c' w') : AppV w e sz by' a n c news m K := S.app 6 rfl hl h1 hby h63 hk
theorem Sep.pu6 {R0 R1 R2 R3 R4 R5 : Asr} {a : Option Addr} {n c : Nat} (S : Sep E w0 w (R0 :: R1 :: R2 :: R3 :: R4 :: R5 :: OwnA e 1 a n c vs :: Rs)) {j : Int} (h0 : 0 ≤ j) (h1 : j < (n : Int)) {v : Value} (hv : v.oneCell' = true) {K : World → Prop} (hk : ∀ w', Sep E w0 w' (R0 :: R1 :: R2 :: R3 :: R4 :: R5 :: OwnA e 1 a n c (vs.set j.toNat v) :: Rs) → Fr (fun k => ∃ q : Addr, a = some q ∧ k = q.block) w w' → K w') : (0 ≤ j ∧ j < (n : Int)) ∧ ∃ q, a = some q ∧ StoreV w (q.add (j.toNat * 1)) [v] K := S.put 6 rfl h0 h1 hv hk
theorem Sep.in6 {R0 R1 R2 R3 R4 R5 : Asr} {a : Option Addr} {n c : Nat} {k : IntKind} {xs : List Int} (S : Sep E w0 w (R0 :: R1 :: R2 :: R3 :: R4 :: R5 :: OwnA e 1 a n c (xs.map (Value.int k)) :: Rs)) : Ints w k a n c xs := S.ints 6 rfl
theorem Sep.ab6 {R0 R1 R2 R3 R4 R5 : Asr} {a : Option Addr} {n c m : Nat} {xs ys : List Int} {a2 : Option Addr} {c2 : Nat} (S : Sep E w0 w (R0 :: R1 :: R2 :: R3 :: R4 :: R5 :: OwnA e 1 a n c (xs.map (Value.int .u8)) :: Rs)) (hy : Ints w .u8 a2 m c2 ys) (hn : n + m ≤ 140737488351232) {K : Option Addr → Nat → Nat → World → Prop} (hk : ∀ a' c' w', Sep E w0 w' (R0 :: R1 :: R2 :: R3 :: R4 :: R5 :: OwnA e 1 a' (n + m) c' ((xs ++ ys).map (Value.int .u8)) :: Rs) → Fr (fun k => ∃ q : Addr, a = some q ∧ k = q.block) w w' → K a' (n + m) c' w') : AppS w a2 m 1 fun ns => AppV w e 1 1 a n c ns m K :=
  AppS.of (news := ys.map (Value.int .u8)) (by rw [List.length_map, hy.len]; omega) hy.rd (S.ap6 (by rw [List.length_map, hy.len]; omega) (oneAll.ints _ _) (by omega) (by omega) fun a' c' w' S' f => hk a' c' w' (by rw [List.map_append]; exact S') f)
theorem Sep.ld7 {R0 R1 R2 R3 R4 R5 R6 : Asr} (S : Sep E w0 w (R0 :: R1 :: R2 :: R3 :: R4 :: R5 :: R6 :: BoxA b e vs :: Rs)) {j : Nat} {h : SS} {v : Value} {x : h.T} (hv : vs[j]? = some v) (hr : h.rd v = some x) {K : h.T → Prop} (hk : K x) : LoadS w ⟨b, j, none⟩ h K := S.ldR (i := 7) rfl hv hr hk
theorem Sep.la7 {R0 R1 R2 R3 R4 R5 R6 : Asr} (S : Sep E w0 w (R0 :: R1 :: R2 :: R3 :: R4 :: R5 :: R6 :: BoxA b e vs :: Rs)) {l : List SS} {x : Tup l} (hr : tupR l vs = some x) {K : Tup l → Prop} (hk : K x) : LoadA w ⟨b, 0, none⟩ l K := S.ldaR (i := 7) rfl hr hk
theorem Sep.lb7 {R0 R1 R2 R3 R4 R5 R6 : Asr} (S : Sep E w0 w (R0 :: R1 :: R2 :: R3 :: R4 :: R5 :: R6 :: BoxA b e vs :: Rs)) {o : Nat} {l : List SS} {x : Tup l} (hr : tupR l ((vs.drop o).take l.length) = some x) {K : Tup l → Prop} (hk : K x) : LoadA w ⟨b, o, none⟩ l K := S.ldaRN (i := 7) rfl hr hk
theorem Sep.st7 {R0 R1 R2 R3 R4 R5 R6 : Asr} (S : Sep E w0 w (R0 :: R1 :: R2 :: R3 :: R4 :: R5 :: R6 :: BoxA b e vs :: Rs)) {news : List Value} (hl : vs.length = news.length) {K : World → Prop} (hk : ∀ w', Sep E w0 w' (R0 :: R1 :: R2 :: R3 :: R4 :: R5 :: R6 :: BoxA b e news :: Rs) → Fr (fun k => k = b) w w' → K w') : StoreV w ⟨b, 0, none⟩ news K := S.storeR (i := 7) rfl hl hk
theorem Sep.su7 {R0 R1 R2 R3 R4 R5 R6 : Asr} (S : Sep E w0 w (R0 :: R1 :: R2 :: R3 :: R4 :: R5 :: R6 :: BoxA b e vs :: Rs)) {j : Nat} {v : Value} (hl : Nat.blt j vs.length = true) {K : World → Prop} (hk : ∀ w', Sep E w0 w' (R0 :: R1 :: R2 :: R3 :: R4 :: R5 :: R6 :: BoxA b e (vs.set j v) :: Rs) → Fr (fun k => k = b) w w' → K w') : StoreV w ⟨b, j, none⟩ [v] K := S.storeR1 (i := 7) rfl (by simpa [Nat.blt_eq] using hl) hk
theorem Sep.bl7 {R0 R1 R2 R3 R4 R5 R6 : Asr} (S : Sep E w0 w (R0 :: R1 :: R2 :: R3 :: R4 :: R5 :: R6 :: BoxA b e vs :: Rs)) : b < w.heap.size := S.lt 7 rfl
theorem Sep.ap7 {R0 R1 R2 R3 R4 R5 R6 : Asr} {sz by' : Nat} {a : Option Addr} {n c m : Nat} {news : List Value} (S : Sep E w0 w (R0 :: R1 :: R2 :: R3 :: R4 :: R5 :: R6 :: OwnA e sz a n c vs :: Rs)) (hl : news.length = m * sz) (h1 : oneAll news) (hby : (2 * (n + m) + 256) * by' ≤ 281474976710656) (h63 : n + m ≤ 9223372036854775807) {K : Option Addr → Nat → Nat → World → Prop} (hk : ∀ a' c' w', Sep E w0 w' (R0 :: R1 :: R2 :: R3 :: R4 :: R5 :: R6 :: OwnA e sz a' (n + m) c' (vs ++ news) :: Rs) → Fr (fun k => ∃ q : Addr, a = some q ∧ k = q.block) w w' → K a' (n + m) c' w') : AppV w e sz by' a n c news m K := S.app 7 rfl hl h1 hby h63 hk
theorem Sep.pu7 {R0 R1 R2 R3 R4 R5 R6 : Asr} {a : Option Addr} {n c : Nat} (S : Sep E w0 w (R0 :: R1 :: R2 :: R3 :: R4 :: R5 :: R6 :: OwnA e 1 a n c vs :: Rs)) {j : Int} (h0 : 0 ≤ j) (h1 : j < (n : Int)) {v : Value} (hv : v.oneCell' = true) {K : World → Prop} (hk : ∀ w', Sep E w0 w' (R0 :: R1 :: R2 :: R3 :: R4 :: R5 :: R6 :: OwnA e 1 a n c (vs.set j.toNat v) :: Rs) → Fr (fun k => ∃ q : Addr, a = some q ∧ k = q.block) w w' → K w') : (0 ≤ j ∧ j < (n : Int)) ∧ ∃ q, a = some q ∧ StoreV w (q.add (j.toNat * 1)) [v] K := S.put 7 rfl h0 h1 hv hk
theorem Sep.in7 {R0 R1 R2 R3 R4 R5 R6 : Asr} {a : Option Addr} {n c : Nat} {k : IntKind} {xs : List Int} (S : Sep E w0 w (R0 :: R1 :: R2 :: R3 :: R4 :: R5 :: R6 :: OwnA e 1 a n c (xs.map (Value.int k)) :: Rs)) : Ints w k a n c xs := S.ints 7 rfl
theorem Sep.ab7 {R0 R1 R2 R3 R4 R5 R6 : Asr} {a : Option Addr} {n c m : Nat} {xs ys : List Int} {a2 : Option Addr} {c2 : Nat} (S : Sep E w0 w (R0 :: R1 :: R2 :: R3 :: R4 :: R5 :: R6 :: OwnA e 1 a n c (xs.map (Value.int .u8)) :: Rs)) (hy : Ints w .u8 a2 m c2 ys) (hn : n + m ≤ 140737488351232) {K : Option Addr → Nat → Nat → World → Prop} (hk : ∀ a' c' w', Sep E w0 w' (R0 :: R1 :: R2 :: R3 :: R4 :: R5 :: R6 :: OwnA e 1 a' (n + m) c' ((xs ++ ys).map (Value.int .u8)) :: Rs) → Fr (fun k => ∃ q : Addr, a = some q ∧ k = q.block) w w' → K a' (n + m) c' w') : AppS w a2 m 1 fun ns => AppV w e 1 1 a n c ns m K :=
  AppS.of (news := ys.map (Value.int .u8)) (by rw [List.length_map, hy.len]; omega) hy.rd (S.ap7 (by rw [List.length_map, hy.len]; omega) (oneAll.ints _ _) (by omega) (by omega) fun a' c' w' S' f => hk a' c' w' (by rw [List.map_append]; exact S') f)
theorem Sep.ld8 {R0 R1 R2 R3 R4 R5 R6 R7 : Asr} (S : Sep E w0 w (R0 :: R1 :: R2 :: R3 :: R4 :: R5 :: R6 :: R7 :: BoxA b e vs :: Rs)) {j : Nat} {h : SS} {v : Value} {x : h.T} (hv : vs[j]? = some v) (hr : h.rd v = some x) {K : h.T → Prop} (hk : K x) : LoadS w ⟨b, j, none⟩ h K := S.ldR (i := 8) rfl hv hr hk
theorem Sep.la8 {R0 R1 R2 R3 R4 R5 R6 R7 : Asr} (S : Sep E w0 w (R0 :: R1 :: R2 :: R3 :: R4 :: R5 :: R6 :: R7 :: BoxA b e vs :: Rs)) {l : List SS} {x : Tup l} (hr : tupR l vs = some x) {K : Tup l → Prop} (hk : K x) : LoadA w ⟨b, 0, none⟩ l K := S.ldaR (i := 8) rfl hr hk
theorem Sep.lb8 {R0 R1 R2 R3 R4 R5 R6 R7 : Asr} (S : Sep E w0 w (R0 :: R1 :: R2 :: R3 :: R4 :: R5 :: R6 :: R7 :: BoxA b e vs :: Rs)) {o : Nat} {l : List SS} {x : Tup l} (hr : tupR l ((vs.drop o).take l.length) = some x) {K : Tup l → Prop} (hk : K x) : LoadA w ⟨b, o, none⟩ l K := S.ldaRN (i := 8) rfl hr hk
theorem Sep.st8 {R0 R1 R2 R3 R4 R5 R6 R7 : Asr} (S : Sep E w0 w (R0 :: R1 :: R2 :: R3 :: R4 :: R5 :: R6 :: R7 :: BoxA b e vs :: Rs)) {news : List Value} (hl : vs.length = news.length) {K : World → Prop} (hk : ∀ w', Sep E w0 w' (R0 :: R1 :: R2 :: R3 :: R4 :: R5 :: R6 :: R7 :: BoxA b e news :: Rs) → Fr (fun k => k = b) w w' → K w') : StoreV w ⟨b, 0, none⟩ news K := S.storeR (i := 8) rfl hl hk
theorem Sep.su8 {R0 R1 R2 R3 R4 R5 R6 R7 : Asr} (S : Sep E w0 w (R0 :: R1 :: R2 :: R3 :: R4 :: R5 :: R6 :: R7 :: BoxA b e vs :: Rs)) {j : Nat} {v : Value} (hl : Nat.blt j vs.length = true) {K : World → Prop} (hk : ∀ w', Sep E w0 w' (R0 :: R1 :: R2 :: R3 :: R4 :: R5 :: R6 :: R7 :: BoxA b e (vs.set j v) :: Rs) → Fr (fun k => k = b) w w' → K w') : StoreV w ⟨b, j, none⟩ [v] K := S.storeR1 (i := 8) rfl (by simpa [Nat.blt_eq] using hl) hk
theorem Sep.bl8 {R0 R1 R2 R3 R4 R5 R6 R7 : Asr} (S : Sep E w0 w (R0 :: R1 :: R2 :: R3 :: R4 :: R5 :: R6 :: R7 :: BoxA b e vs :: Rs)) : b < w.heap.size := S.lt 8 rfl
theorem Sep.ap8 {R0 R1 R2 R3 R4 R5 R6 R7 : Asr} {sz by' : Nat} {a : Option Addr} {n c m : Nat} {news : List Value} (S : Sep E w0 w (R0 :: R1 :: R2 :: R3 :: R4 :: R5 :: R6 :: R7 :: OwnA e sz a n c vs :: Rs)) (hl : news.length = m * sz) (h1 : oneAll news) (hby : (2 * (n + m) + 256) * by' ≤ 281474976710656) (h63 : n + m ≤ 9223372036854775807) {K : Option Addr → Nat → Nat → World → Prop} (hk : ∀ a' c' w', Sep E w0 w' (R0 :: R1 :: R2 :: R3 :: R4 :: R5 :: R6 :: R7 :: OwnA e sz a' (n + m) c' (vs ++ news) :: Rs) → Fr (fun k => ∃ q : Addr, a = some q ∧ k = q.block) w w' → K a' (n + m) c' w') : AppV w e sz by' a n c news m K := S.app 8 rfl hl h1 hby h63 hk
theorem Sep.pu8 {R0 R1 R2 R3 R4 R5 R6 R7 : Asr} {a : Option Addr} {n c : Nat} (S : Sep E w0 w (R0 :: R1 :: R2 :: R3 :: R4 :: R5 :: R6 :: R7 :: OwnA e 1 a n c vs :: Rs)) {j : Int} (h0 : 0 ≤ j) (h1 : j < (n : Int)) {v : Value} (hv : v.oneCell' = true) {K : World → Prop} (hk : ∀ w', Sep E w0 w' (R0 :: R1 :: R2 :: R3 :: R4 :: R5 :: R6 :: R7 :: OwnA e 1 a n c (vs.set j.toNat v) :: Rs) → Fr (fun k => ∃ q : Addr, a = some q ∧ k = q.block) w w' → K w') : (0 ≤ j ∧ j < (n : Int)) ∧ ∃ q, a = some q ∧ StoreV w (q.add (j.toNat * 1)) [v] K := S.put 8 rfl h0 h1 hv hk
theorem Sep.in8 {R0 R1 R2 R3 R4 R5 R6 R7 : Asr} {a : Option Addr} {n c : Nat} {k : IntKind} {xs : List Int} (S : Sep E w0 w (R0 :: R1 :: R2 :: R3 :: R4 :: R5 :: R6 :: R7 :: OwnA e 1 a n c (xs.map (Value.int k)) :: Rs)) : Ints w k a n c xs := S.ints 8 rfl
theorem Sep.ab8 {R0 R1 R2 R3 R4 R5 R6 R7 : Asr} {a : Option Addr} {n c m : Nat} {xs ys : List Int} {a2 : Option Addr} {c2 : Nat} (S : Sep E w0 w (R0 :: R1 :: R2 :: R3 :: R4 :: R5 :: R6 :: R7 :: OwnA e 1 a n c (xs.map (Value.int .u8)) :: Rs)) (hy : Ints w .u8 a2 m c2 ys) (hn : n + m ≤ 140737488351232) {K : Option Addr → Nat → Nat → World → Prop} (hk : ∀ a' c' w', Sep E w0 w' (R0 :: R1 :: R2 :: R3 :: R4 :: R5 :: R6 :: R7 :: OwnA e 1 a' (n + m) c' ((xs ++ ys).map (Value.int .u8)) :: Rs) → Fr (fun k => ∃ q : Addr, a = some q ∧ k = q.block) w w' → K a' (n + m) c' w') : AppS w a2 m 1 fun ns => AppV w e 1 1 a n c ns m K :=
  AppS.of (news := ys.map (Value.int .u8)) (by rw [List.length_map, hy.len]; omega) hy.rd (S.ap8 (by rw [List.length_map, hy.len]; omega) (oneAll.ints _ _) (by omega) (by omega) fun a' c' w' S' f => hk a' c' w' (by rw [List.map_append]; exact S') f)
theorem Sep.ld9 {R0 R1 R2 R3 R4 R5 R6 R7 R8 : Asr} (S : Sep E w0 w (R0 :: R1 :: R2 :: R3 :: R4 :: R5 :: R6 :: R7 :: R8 :: BoxA b e vs :: Rs)) {j : Nat} {h : SS} {v : Value} {x : h.T} (hv : vs[j]? = some v) (hr : h.rd v = some x) {K : h.T → Prop} (hk : K x) : LoadS w ⟨b, j, none⟩ h K := S.ldR (i := 9) rfl hv hr hk
theorem Sep.la9 {R0 R1 R2 R3 R4 R5 R6 R7 R8 : Asr} (S : Sep E w0 w (R0 :: R1 :: R2 :: R3 :: R4 :: R5 :: R6 :: R7 :: R8 :: BoxA b e vs :: Rs)) {l : List SS} {x : Tup l} (hr : tupR l vs = some x) {K : Tup l → Prop} (hk : K x) : LoadA w ⟨b, 0, none⟩ l K := S.ldaR (i := 9) rfl hr hk
theorem Sep.lb9 {R0 R1 R2 R3 R4 R5 R6 R7 R8 : Asr} (S : Sep E w0 w (R0 :: R1 :: R2 :: R3 :: R4 :: R5 :: R6 :: R7 :: R8 :: BoxA b e vs :: Rs)) {o : Nat} {l : List SS} {x : Tup l} (hr : tupR l ((vs.drop o).take l.length) = some x) {K : Tup l → Prop} (hk : K x) : LoadA w ⟨b, o, none⟩ l K := S.ldaRN (i := 9) rfl hr hk
theorem Sep.st9 {R0 R1 R2 R3 R4 R5 R6 R7 R8 : Asr} (S : Sep E w0 w (R0 :: R1 :: R2 :: R3 :: R4 :: R5 :: R6 :: R7 :: R8 :: BoxA b e vs :: Rs)) {news : List Value} (hl : vs.length = news.length) {K : World → Prop} (hk : ∀ w', Sep E w0 w' (R0 :: R1 :: R2 :: R3 :: R4 :: R5 :: R6 :: R7 :: R8 :: BoxA b e news :: Rs) → Fr (fun k => k = b) w w' → K w') : StoreV w ⟨b, 0, none⟩ news K := S.storeR (i := 9) rfl hl hk
theorem Sep.su9 {R0 R1 R2 R3 R4 R5 R6 R7 R8 : Asr} (S : Sep E w0 w (R0 :: R1 :: R2 :: R3 :: R4 :: R5 :: R6 :: R7 :: R8 :: BoxA b e vs :: Rs)) {j : Nat} {v : Value} (hl : Nat.blt j vs.length = true) {K : World → Prop} (hk : ∀ w', Sep E w0 w' (R0 :: R1 :: R2 :: R3 :: R4 :: R5 :: R6 :: R7 :: R8 :: BoxA b e (vs.set j v) :: Rs) → Fr (fun k => k = b) w w' → K w') : StoreV w ⟨b, j, none⟩ [v] K := S.storeR1 (i := 9) rfl (by simpa [Nat.blt_eq] using hl) hk
theorem Sep.bl9 {R0 R1 R2 R3 R4 R5 R6 R7 R8 : Asr} (S : Sep E w0 w (R0 :: R1 :: R2 :: R3 :: R4 :: R5 :: R6 :: R7 :: R8 :: BoxA b e vs :: Rs)) : b < w.heap.size := S.lt 9 rfl
theorem Sep.ap9 {R0 R1 R2 R3 R4 R5 R6 R7 R8 : Asr} {sz by' : Nat} {a : Option Addr} {n c m : Nat} {news : List Value} (S : Sep E w0 w (R0 :: R1 :: R2 :: R3 :: R4 :: R5 :: R6 :: R7 :: R8 :: OwnA e sz a n c vs :: Rs)) (hl : news.length = m * sz) (h1 : oneAll news) (hby : (2 * (n + m) + 256) * by' ≤ 281474976710656) (h63 : n + m ≤ 9223372036854775807) {K : Option Addr → Nat → Nat → World → Prop} (hk : ∀ a' c' w', Sep E w0 w' (R0 :: R1 :: R2 :: R3 :: R4 :: R5 :: R6 :: R7 :: R8 :: OwnA e sz a' (n + m) c' (vs ++ news) :: Rs) → Fr (fun k => ∃ q : Addr, a = some q ∧ k = q.block) w w' → K a' (n + m) c' w') : AppV w e sz by' a n c news m K := S.app 9 rfl hl h1 hby h63 hk
theorem Sep.pu9 {R0 R1 R2 R3 R4 R5 R6 R7 R8 : Asr} {a : Option Addr} {n c : Nat} (S : Sep E w0 w (R0 :: R1 :: R2 :: R3 :: R4 :: R5 :: R6 :: R7 :: R8 :: OwnA e 1 a n c vs :: Rs)) {j : Int} (h0 : 0 ≤ j) (h1 : j < (n : Int)) {v : Value} (hv : v.oneCell' = true) {K : World → Prop} (hk : ∀ w', Sep E w0 w' (R0 :: R1 :: R2 :: R3 :: R4 :: R5 :: R6 :: R7 :: R8 :: OwnA e 1 a n c (vs.set j.toNat v) :: Rs) → Fr (fun k => ∃ q : Addr, a = some q ∧ k = q.block) w w' → K w') : (0 ≤ j ∧ j < (n : Int)) ∧ ∃ q, a = some q ∧ StoreV w (q.add (j.toNat * 1)) [v] K := S.put 9 rfl h0 h1 hv hk
theorem Sep.in9 {R0 R1 R2 R3 R4 R5 R6 R7 R8 : Asr} {a : Option Addr} {n c : Nat} {k : IntKind} {xs : List Int} (S : Sep E w0 w (R0 :: R1 :: R2 :: R3 :: R4 :: R5 :: R6 :: R7 :: R8 :: OwnA e 1 a n c (xs.map (Value.int k)) :: Rs)) : Ints w k a n c xs := S.ints 9 rfl
theorem Sep.ab9 {R0 R1 R2 R3 R4 R5 R6 R7 R8 : Asr} {a : Option Addr} {n c m : Nat} {xs ys : List Int} {a2 : Option Addr} {c2 : Nat} (S : Sep E w0 w (R0 :: R1 :: R2 :: R3 :: R4 :: R5 :: R6 :: R7 :: R8 :: OwnA e 1 a n c (xs.map (Value.int .u8)) :: Rs)) (hy : Ints w .u8 a2 m c2 ys) (hn : n + m ≤ 140737488351232) {K : Option Addr → Nat → Nat → World → Prop} (hk : ∀ a' c' w', Sep E w0 w' (R0 :: R1 :: R2 :: R3 :: R4 :: R5 :: R6 :: R7 :: R8 :: OwnA e 1 a' (n + m) c' ((xs ++ ys).map (Value.int .u8)) :: Rs) → Fr (fun k => ∃ q : Addr, a = some q ∧ k = q.block) w w' → K a' (n + m) c' w') : AppS w a2 m 1 fun ns => AppV w e 1 1 a n c ns m K :=
  AppS.of (news := ys.map (Value.int .u8)) (by rw [List.length_map, hy.len]; omega) hy.rd (S.ap9 (by rw [List.length_map, hy.len]; omega) (oneAll.ints _ _) (by omega) (by omega) fun a' c' w' S' f => hk a' c' w' (by rw [List.map_append]; exact S') f)
theorem Sep.ld10 {R0 R1 R2 R3 R4 R5 R6 R7 R8 R9 : Asr} (S : Sep E w0 w (R0 :: R1 :: R2 :: R3 :: R4 :: R5 :: R6 :: R7 :: R8 :: R9 :: BoxA b e vs :: Rs)) {j : Nat} {h : SS} {v : Value} {x : h.T} (hv : vs[j]? = some v) (hr : h.rd v = some x) {K : h.T → Prop} (hk : K x) : LoadS w ⟨b, j, none⟩ h K := S.ldR (i := 10) rfl hv hr hk
theorem Sep.la10 {R0 R1 R2 R3 R4 R5 R6 R7 R8 R9 : Asr} (S : Sep E w0 w (R0 :: R1 :: R2 :: R3 :: R4 :: R5 :: R6 :: R7 :: R8 :: R9 :: BoxA b e vs :: Rs)) {l : List SS} {x : Tup l} (hr : tupR l vs = some x) {K : Tup l → Prop} (hk : K x) : LoadA w ⟨b, 0, none⟩ l K := S.ldaR (i := 10) rfl hr hk
theorem Sep.lb10 {R0 R1 R2 R3 R4 R5 R6 R7 R8 R9 : Asr} (S : Sep E w0 w (R0 :: R1 :: R2 :: R3 :: R4 :: R5 :: R6 :: R7 :: R8 :: R9 :: BoxA b e vs :: Rs)) {o : Nat} {l : List SS} {x : Tup l} (hr : tupR l ((vs.drop o).take l.length) = some x) {K : Tup l → Prop} (hk : K x) : LoadA w ⟨b, o, none⟩ l K := S.ldaRN (i := 10) rfl hr hk
theorem Sep.st10 {R0 R1 R2 R3 R4 R5 R6 R7 R8 R9 : Asr} (S : Sep E w0 w (R0 :: R1 :: R2 :: R3 :: R4 :: R5 :: R6 :: R7 :: R8 :: R9 :: BoxA b e vs :: Rs)) {news : List Value} (hl : vs.length = news.length) {K : World → Prop} (hk : ∀ w', Sep E w0 w' (R0 :: R1 :: R2 :: R3 :: R4 :: R5 :: R6 :: R7 :: R8 :: R9 :: BoxA b e news :: Rs) → Fr (fun k => k = b) w w' → K w') : StoreV w ⟨b, 0, none⟩ news K := S.storeR (i := 10) rfl hl hk
theorem Sep.su10 {R0 R1 R2 R3 R4 R5 R6 R7 R8 R9 : Asr} (S : Sep E w0 w (R0 :: R1 :: R2 :: R3 :: R4 :: R5 :: R6 :: R7 :: R8 :: R9 :: BoxA b e vs :: Rs)) {j : Nat} {v : Value} (hl : Nat.blt j vs.length = true) {K : World → Prop} (hk : ∀ w', Sep E w0 w' (R0 :: R1 :: R2 :: R3 :: R4 :: R5 :: R6 :: R7 :: R8 :: R9 :: BoxA b e (vs.set j v) :: Rs) → Fr (fun k => k = b) w w' → K w') : StoreV w ⟨b, j, none⟩ [v] K := S.storeR1 (i := 10) rfl (by simpa [Nat.blt_eq] using hl) hk
theorem Sep.bl10 {R0 R1 R2 R3 R4 R5 R6 R7 R8 R9 : Asr} (S : Sep E w0 w (R0 :: R1 :: R2 :: R3 :: R4 :: R5 :: R6 :: R7 :: R8 :: R9 :: BoxA b e vs :: Rs)) : b < w.heap.size := S.lt 10 rfl
theorem Sep.ap10 {R0 R1 R2 R3 R4 R5 R6 R7 R8 R9 : Asr} {sz by' : Nat} {a : Option Addr} {n c m : Nat} {news : List Value} (S : Sep E w0 w (R0 :: R1 :: R2 :: R3 :: R4 :: R5 :: R6 :: R7 :: R8 :: R9 :: OwnA e sz a n c vs :: Rs)) (hl : news.length = m * sz) (h1 : oneAll news) (hby : (2 * (n + m) + 256) * by' ≤ 281474976710656) (h63 : n + m ≤ 9223372036854775807) {K : Option Addr → Nat → Nat → World → Prop} (hk : ∀ a' c' w', Sep E w0 w' (R0 :: R1 :: R2 :: R3 :: R4 :: R5 :: R6 :: R7 :: R8 :: R9 :: OwnA e sz a' (n + m) c' (vs ++ news) :: Rs) → Fr (fun k => ∃ q : Addr, a = some q ∧ k = q.block) w w' → K a' (n + m) c' w') : AppV w e sz by' a n c news m K := S.app 10 rfl hl h1 hby h63 hk
theorem Sep.pu10 {R0 R1 R2 R3 R4 R5 R6 R7 R8 R9 : Asr} {a : Option Addr} {n c : Nat} (S : Sep E w0 w (R0 :: R1 :: R2 :: R3 :: R4 :: R5 :: R6 :: R7 :: R8 :: R9 :: OwnA e 1 a n c vs :: Rs)) {j : Int} (h0 : 0 ≤ j) (h1 : j < (n : Int)) {v : Value} (hv : v.oneCell' = true) {K : World → Prop} (hk : ∀ w', Sep E w0 w' (R0 :: R1 :: R2 :: R3 :: R4 :: R5 :: R6 :: R7 :: R8 :: R9 :: OwnA e 1 a n c (vs.set j.toNat v) :: Rs) → Fr (fun k => ∃ q : Addr, a = some q ∧ k = q.block) w w' → K w') : (0 ≤ j ∧ j < (n : Int)) ∧ ∃ q, a = some q ∧ StoreV w (q.add (j.toNat * 1)) [v] K := S.put 10 rfl h0 h1 hv hk
theorem Sep.in10 {R0 R1 R2 R3 R4 R5 R6 R7 R8 R9 : Asr} {a : Option Addr} {n c : Nat} {k : IntKind} {xs : List Int} (S : Sep E w0 w (R0 :: R1 :: R2 :: R3 :: R4 :: R5 :: R6 :: R7 :: R8 :: R9 :: OwnA e 1 a n c (xs.map (Value.int k)) :: Rs)) : Ints w k a n c xs := S.ints 10 rfl
theorem Sep.ab10 {R0 R1 R2 R3 R4 R5 R6 R7 R8 R9 : Asr} {a : Option Addr} {n c m : Nat} {xs ys : List Int} {a2 : Option Addr} {c2 : Nat} (S : Sep E w0 w (R0 :: R1 :: R2 :: R3 :: R4 :: R5 :: R6 :: R7 :: R8 :: R9 :: OwnA e 1 a n c (xs.map (Value.int .u8)) :: Rs)) (hy : Ints w .u8 a2 m c2 ys) (hn : n + m ≤ 140737488351232) {K : Option Addr → Nat → Nat → World → Prop} (hk : ∀ a' c' w', Sep E w0 w' (R0 :: R1 :: R2 :: R3 :: R4 :: R5 :: R6 :: R7 :: R8 :: R9 :: OwnA e 1 a' (n + m) c' ((xs ++ ys).map (Value.int .u8)) :: Rs) → Fr (fun k => ∃ q : Addr, a = some q ∧ k = q.block) w w' → K a' (n + m) c' w') : AppS w a2 m 1 fun ns => AppV w e 1 1 a n c ns m K :=
  AppS.of (news := ys.map (Value.int .u8)) (by rw [List.length_map, hy.len]; omega) hy.rd (S.ap10 (by rw [List.length_map, hy.len]; omega) (oneAll.ints _ _) (by omega) (by omega) fun a' c' w' S' f => hk a' c' w' (by rw [List.map_append]; exact S') f)
theorem Sep.ld11 {R0 R1 R2 R3 R4 R5 R6 R7 R8 R9 R10 : Asr} (S : Sep E w0 w (R0 :: R1 :: R2 :: R3 :: R4 :: R5 :: R6 :: R7 :: R8 :: R9 :: R10 :: BoxA b e vs :: Rs)) {j : Nat} {h : SS} {v : Value} {x : h.T} (hv : vs[j]? = some v) (hr : h.rd v = some x) {K : h.T → Prop} (hk : K x) : LoadS w ⟨b, j, none⟩ h K := S.ldR (i := 11) rfl hv hr hk
theorem Sep.la11 {R0 R1 R2 R3 R4 R5 R6 R7 R8 R9 R10 : Asr} (S : Sep E w0 w (R0 :: R1 :: R2 :: R3 :: R4 :: R5 :: R6 :: R7 :: R8 :: R9 :: R10 :: BoxA b e vs :: Rs)) {l : List SS} {x : Tup l} (hr : tupR l vs = some x) {K : Tup l → Prop} (hk : K x) : LoadA w ⟨b, 0, none⟩ l K := S.ldaR (i := 11) rfl hr hk
theorem Sep.lb11 {R0 R1 R2 R3 R4 R5 R6 R7 R8 R9 R10 : Asr} (S : Sep E w0 w (R0 :: R1 :: R2 :: R3 :: R4 :: R5 :: R6 :: R7 :: R8 :: R9 :: R10 :: BoxA b e vs :: Rs)) {o : Nat} {l : List SS} {x : Tup l} (hr : tupR l ((vs.drop o).take l.length) = some x) {K : Tup l → Prop} (hk : K x) : LoadA w ⟨b, o, none⟩ l K := S.ldaRN (i := 11) rfl hr hk
theorem Sep.st11 {R0 R1 R2 R3 R4 R5 R6 R7 R8 R9 R10 : Asr} (S : Sep E w0 w (R0 :: R1 :: R2 :: R3 :: R4 :: R5 :: R6 :: R7 :: R8 :: R9 :: R10 :: BoxA b e vs :: Rs)) {news : List Value} (hl : vs.length = news.length) {K : World → Prop} (hk : ∀ w', Sep E w0 w' (R0 :: R1 :: R2 :: R3 :: R4 :: R5 :: R6 :: R7 :: R8 :: R9 :: R10 :: BoxA b e news :: Rs) → Fr (fun k => k = b) w w' → K w') : StoreV w ⟨b, 0, none⟩ news K := S.storeR (i := 11) rfl hl hk
theorem Sep.su11 {R0 R1 R2 R3 R4 R5 R6 R7 R8 R9 R10 : Asr} (S : Sep E w0 w (R0 :: R1 :: R2 :: R3 :: R4 :: R5 :: R6 :: R7 :: R8 :: R9 :: R10 :: BoxA b e vs :: Rs)) {j : Nat} {v : Value} (hl : Nat.blt j vs.length = true) {K : World → Prop} (hk : ∀ w', Sep E w0 w' (R0 :: R1 :: R2 :: R3 :: R4 :: R5 :: R6 :: R7 :: R8 :: R9 :: R10 :: BoxA b e (vs.set j v) :: Rs) → Fr (fun k => k = b) w w' → K w') : StoreV w ⟨b, j, none⟩ [v] K := S.storeR1 (i := 11) rfl (by simpa [Nat.blt_eq] using hl) hk
theorem Sep.bl11 {R0 R1 R2 R3 R4 R5 R6 R7 R8 R9 R10 : Asr} (S : Sep E w0 w (R0 :: R1 :: R2 :: R3 :: R4 :: R5 :: R6 :: R7 :: R8 :: R9 :: R10 :: BoxA b e vs :: Rs)) : b < w.heap.size := S.lt 11 rfl
theorem Sep.ap11 {R0 R1 R2 R3 R4 R5 R6 R7 R8 R9 R10 : Asr} {sz by' : Nat} {a : Option Addr} {n c m : Nat} {news : List Value} (S : Sep E w0 w (R0 :: R1 :: R2 :: R3 :: R4 :: R5 :: R6 :: R7 :: R8 :: R9 :: R10 :: OwnA e sz a n c vs :: Rs)) (hl : news.length = m * sz) (h1 : oneAll news) (hby : (2 * (n + m) + 256) * by' ≤ 281474976710656) (h63 : n + m ≤ 9223372036854775807) {K : Option Addr → Nat → Nat → World → Prop} (hk : ∀ a' c' w', Sep E w0 w' (R0 :: R1 :: R2 :: R3 :: R4 :: R5 :: R6 :: R7 :: R8 :: R9 :: R10 :: OwnA e sz a' (n + m) c' (vs ++ news) :: Rs) → Fr (fun k => ∃ q : Addr, a = some q ∧ k = q.block) w w' → K a' (n + m) c' w') : AppV w e sz by' a n c news m K := S.app 11 rfl hl h1 hby h63 hk
theorem Sep.pu11 {R0 R1 R2 R3 R4 R5 R6 R7 R8 R9 R10 : Asr} {a : Option Addr} {n c : Nat} (S : Sep E w0 w (R0 :: R1 :: R2 :: R3 :: R4 :: R5 :: R6 :: R7 :: R8 :: R9 :: R10 :: OwnA e 1 a n c vs :: Rs)) {j : Int} (h0 : 0 ≤ j) (h1 : j < (n : Int)) {v : Value} (hv : v.oneCell' = true) {K : World → Prop} (hk : ∀ w', Sep E w0 w' (R0 :: R1 :: R2 :: R3 :: R4 :: R5 :: R6 :: R7 :: R8 :: R9 :: R10 :: OwnA e 1 a n c (vs.set j.toNat v) :: Rs) → Fr (fun k => ∃ q : Addr, a = some q ∧ k = q.block) w w' → K w') : (0 ≤ j ∧ j < (n : Int)) ∧ ∃ q, a = some q ∧ StoreV w (q.add (j.toNat * 1)) [v] K := S.put 11 rfl h0 h1 hv hk
theorem Sep.in11 {R0 R1 R2 R3 R4 R5 R6 R7 R8 R9 R10 : Asr} {a : Option Addr} {n c : Nat} {k : IntKind} {xs : List Int} (S : Sep E w0 w (R0 :: R1 :: R2 :: R3 :: R4 :: R5 :: R6 :: R7 :: R8 :: R9 :: R10 :: OwnA e 1 a n c (xs.map (Value.int k)) :: Rs)) : Ints w k a n c xs := S.ints 11 rfl
theorem Sep.ab11 {R0 R1 R2 R3 R4 R5 R6 R7 R8 R9 R10 : Asr} {a : Option Addr} {n c m : Nat} {xs ys : List Int} {a2 : Option Addr} {c2 : Nat} (S : Sep E w0 w (R0 :: R1 :: R2 :: R3 :: R4 :: R5 :: R6 :: R7 :: R8 :: R9 :: R10 :: OwnA e 1 a n c (xs.map (Value.int .u8)) :: Rs)) (hy : Ints w .u8 a2 m c2 ys) (hn : n + m ≤ 140737488351232) {K : Option Addr → Nat → Nat → World → Prop} (hk : ∀ a' c' w', Sep E w0 w' (R0 :: R1 :: R2 :: R3 :: R4 :: R5 :: R6 :: R7 :: R8 :: R9 :: R10 :: OwnA e 1 a' (n + m) c' ((xs ++ ys).map (Value.int .u8)) :: Rs) → Fr (fun k => ∃ q : Addr, a = some q ∧ k = q.block) w w' → K a' (n + m) c' w') : AppS w a2 m 1 fun ns => AppV w e 1 1 a n c ns m K :=
  AppS.of (news := ys.map (Value.int .u8)) (by rw [List.length_map, hy.len]; omega) hy.rd (S.ap11 (by rw [List.length_map, hy.len]; omega) (oneAll.ints _ _) (by omega) (by omega) fun a' c' w' S' f => hk a' c' w' (by rw [List.map_append]; exact S') f)
end
end Go.Eng

/-! Calls and single elements in the separate parts. -/
namespace Go.Eng
open Go
set_option linter.unusedVariables false
set_option linter.unusedSimpArgs false

/-- Nothing. -/
def emp : Asr := ⟨fun _ _ => True, fun _ _ => trivial⟩
section
variable {E : Nat → Prop} {w0 w w' : World} {Rs Ts : List Asr}
theorem Sep.emp (S : Sep E w0 w Rs) : Sep E w0 w (Go.Eng.emp :: Rs) := S.push (F := NoB) (Fr.refl _ _) trivial fun _ x => x.elim
/-- A call that owns the first parts. -/
theorem Sep.call {P : Program} {g : FuncId} {args : Array Value} {l : List Sh} (Rs : List Asr) {Ts : List Asr} (S : Sep E w0 w (Rs ++ Ts)) {C : (Nat → Prop) → RT l → World → Prop}
    (hc : ∀ F, Sep F w w Rs → CallV P g args w l fun r w' => C F r w') {K : RT l → World → Prop}
    (hk : ∀ F, (∀ w' Ls, Sep F w w' Ls → Sep E w0 w' (Ls ++ Ts)) → ∀ r w', C F r w' → K r w') : CallV P g args w l K := by
  obtain ⟨F, h1, h2, h3⟩ := S.frame
  exact (hc F (Sep.begin h1 h2)).mono fun r w' h => hk F h3 r w' h
/-- A slice of one's own is a block. -/
theorem Sep.focus {e : TypeId} {sz : Nat} {a : Option Addr} {n c : Nat} {vs : List Value} (S : Sep E w0 w (OwnA e sz a n c vs :: Rs)) (hn : vs ≠ []) :
    ∃ b tl, a = some ⟨b, 0, none⟩ ∧ vs.length = n * sz ∧ (vs ++ tl).length = c * sz ∧ n ≤ c ∧ n ≤ 9223372036854775807 ∧ oneAll vs ∧ Sep E w0 w (BoxA b e (vs ++ tl) :: Rs) := by
  have ho := S.own 0 rfl
  rcases ho.at_ with ⟨_, _, h⟩ | ⟨b, cs, h1, h2, h3, h4, h5⟩
  · exact absurd h hn
  · have he : vs ++ cs.toList.drop vs.length = cs.toList := by conv => rhs; rw [← List.take_append_drop vs.length cs.toList, h5]
    refine ⟨b, cs.toList.drop vs.length, h1, ho.len, by rw [he]; exact h4, ho.cap, ho.lim, ho.one, S.conv fun F h _ => ⟨h.2 _ h1, ?_⟩⟩
    rw [he, Array.toArray_toList]
    exact h3
theorem Sep.unfocus {e : TypeId} {sz : Nat} {n c b : Nat} {vs tl : List Value} (S : Sep E w0 w (BoxA b e (vs ++ tl) :: Rs)) (h1 : vs.length = n * sz) (h2 : (vs ++ tl).length = c * sz) (h3 : n ≤ c) (h4 : n ≤ 9223372036854775807) (h5 : oneAll vs) : Sep E w0 w (OwnA e sz (some ⟨b, 0, none⟩) n c vs :: Rs) :=
  S.conv fun F ⟨hF, h⟩ _ => ⟨⟨h1, h3, h4, h5, .inr ⟨b, (vs ++ tl).toArray, rfl, Nat.zero_le _, h, by simpa using h2, by simp⟩⟩, fun q hq => by cases hq; exact hF⟩
theorem splice_mid {pre xs post news : List Value} {o j : Nat} (ho : o = pre.length) (h : j + news.length ≤ xs.length) :
    (pre ++ (xs ++ post)).take (o + j) ++ (news ++ (pre ++ (xs ++ post)).drop (o + j + news.length)) = pre ++ ((xs.take j ++ (news ++ xs.drop (j + news.length))) ++ post) := by
  subst ho
  rw [List.take_append, List.take_of_length_le (by omega), show pre.length + j - pre.length = j by omega, List.take_append_of_le_length (by omega), show pre.length + j + news.length = pre.length + (j + news.length) by omega,
    ← List.drop_drop, List.drop_append_of_le_length (Nat.le_refl _), List.drop_length, List.nil_append, List.drop_append_of_le_length h]
  simp
variable {b o : Nat} {e : TypeId} {pre xs post : List Value}
theorem Sep.stM (i : Nat) (j : Nat) (S : Sep E w0 w Rs) (hi : Rs[i]? = some (BoxA b e (pre ++ (xs ++ post)))) (ho : o = pre.length) {news : List Value} (hl : j + news.length ≤ xs.length) {K : World → Prop}
    (hk : ∀ w', Sep E w0 w' (Rs.set i (BoxA b e (pre ++ ((xs.take j ++ (news ++ xs.drop (j + news.length))) ++ post)))) → Fr (fun k => k = b) w w' → K w') : StoreV w ((⟨b, o, none⟩ : Addr).add j) news K := by
  rw [show (⟨b, o, none⟩ : Addr).add j = ⟨b, o + j, none⟩ by simp [Addr.add_lit]]
  refine S.store i hi (o + j) (by subst ho; simp only [List.length_append]; omega) fun w' S f => hk w' ?_ f
  rw [← splice_mid ho hl]
  exact S
theorem Sep.stM0 (i : Nat) (S : Sep E w0 w Rs) (hi : Rs[i]? = some (BoxA b e (pre ++ (xs ++ post)))) (ho : o = pre.length) {news : List Value} (hl : news.length ≤ xs.length) {K : World → Prop}
    (hk : ∀ w', Sep E w0 w' (Rs.set i (BoxA b e (pre ++ ((news ++ xs.drop news.length) ++ post)))) → Fr (fun k => k = b) w w' → K w') : StoreV w (⟨b, o, none⟩ : Addr) news K := by
  have := S.stM i 0 hi ho (news := news) (by omega) (K := K) (by simpa using hk)
  rwa [show (⟨b, o, none⟩ : Addr).add 0 = ⟨b, o, none⟩ by simp [Addr.add_lit]] at this
theorem Sep.cellsM (i : Nat) (S : Sep E w0 w Rs) (hi : Rs[i]? = some (BoxA b e (pre ++ (xs ++ post)))) (ho : o = pre.length) : CellsAt w ⟨b, o, none⟩ xs := by
  have h := (S.cells i hi)
  intro j v hv
  have hj : j < xs.length := (List.getElem?_eq_some_iff.1 hv).1
  have := h (pre.length + j) v (by rw [List.getElem?_append_right (by omega), show pre.length + j - pre.length = j by omega, List.getElem?_append_left hj]; exact hv)
  rw [show (⟨b, 0, none⟩ : Addr).add (pre.length + j) = (⟨b, o, none⟩ : Addr).add j by subst ho; simp [Addr.add_lit]] at this
  exact this
theorem Sep.ldM (i : Nat) (j : Nat) (S : Sep E w0 w Rs) (hi : Rs[i]? = some (BoxA b e (pre ++ (xs ++ post)))) (ho : o = pre.length) {h : SS} {v : Value} {x : h.T} (hv : xs[j]? = some v) (hr : h.rd v = some x) {K : h.T → Prop} (hk : K x) : LoadS w ((⟨b, o, none⟩ : Addr).add j) h K :=
  ⟨x, by rw [← SS.rd_v hr]; exact S.cellsM i hi ho j v hv, hk⟩
theorem Sep.ldM0 (i : Nat) (S : Sep E w0 w Rs) (hi : Rs[i]? = some (BoxA b e (pre ++ (xs ++ post)))) (ho : o = pre.length) {h : SS} {v : Value} {x : h.T} (hv : xs[0]? = some v) (hr : h.rd v = some x) {K : h.T → Prop} (hk : K x) : LoadS w (⟨b, o, none⟩ : Addr) h K := by
  have := S.ldM i 0 hi ho hv hr hk
  rwa [show (⟨b, o, none⟩ : Addr).add 0 = ⟨b, o, none⟩ by simp [Addr.add_lit]] at this
end
/-- A variable read from cells. -/
theorem ldc {w : World} {p : Addr} {vs : List Value} (hc : CellsAt w p vs) (j : Nat) {h : SS} {x : h.T} (hv : vs[j]? = some (h.v x)) {K : h.T → Prop} (hk : K x) : LoadS w (p.add j) h K := ⟨x, hc j _ hv, hk⟩
theorem flat_mid {α β : Type} {f : α → List β} {L : List α} {i : Nat} {y z : α} (hy : L[i]? = some y) : L.flatMap f = (L.take i).flatMap f ++ (f y ++ (L.drop (i + 1)).flatMap f) ∧ (L.set i z).flatMap f = (L.take i).flatMap f ++ (f z ++ (L.drop (i + 1)).flatMap f) := by
  have hi : i < L.length := (List.getElem?_eq_some_iff.1 hy).1
  have he : L[i] = y := (List.getElem?_eq_some_iff.1 hy).2
  constructor
  · conv => lhs; rw [← List.take_append_drop i L, List.drop_eq_getElem_cons hi, he]
    rw [List.flatMap_append, List.flatMap_cons]
  · rw [List.set_eq_take_append_cons_drop, if_pos hi, List.flatMap_append, List.flatMap_cons]

section
variable {E : Nat → Prop} {w0 w w' : World} {Rs Ts : List Asr} {α : Type} {f : α → List Value} {m : Nat} {e : TypeId} {a : Option Addr} {n c : Nat} {L : List α}
theorem flatF_len (hm : ∀ x, (f x).length = m) (L : List α) : (L.flatMap f).length = L.length * m := by
  induction L with
  | nil => simp
  | cons x L ih => rw [List.flatMap_cons, List.length_append, hm, ih, List.length_cons, Nat.add_mul]; omega
theorem flatF_one (h1 : ∀ x, oneAll (f x)) (L : List α) : oneAll (L.flatMap f) := fun u hu => by
  obtain ⟨x, -, hx⟩ := List.mem_flatMap.1 hu
  exact h1 x u hx
/-- An element of one's own slice is read. -/
theorem Sep.nthF (i : Nat) (S : Sep E w0 w Rs) (hi : Rs[i]? = some (OwnA e m a n c (L.flatMap f))) (hm : ∀ x, (f x).length = m) (hp : 0 < m) {j : Int} (h0 : 0 ≤ j) (h1 : j < (n : Int)) :
    ∃ q x, a = some q ∧ L[j.toNat]? = some x ∧ CellsAt w (q.add (j.toNat * m)) (f x) := by
  have ho := S.own i hi
  have hl := ho.len
  rw [flatF_len hm] at hl
  have hl : L.length = n := Nat.eq_of_mul_eq_mul_right hp hl
  have hj : j.toNat < L.length := by omega
  rcases ho.rd with ⟨_, h2⟩ | ⟨q, h2, h3⟩
  · have := congrArg List.length h2
    rw [flatF_len hm, List.length_nil] at this
    rcases Nat.mul_eq_zero.1 this with h | h <;> omega
  · refine ⟨q, L[j.toNat], h2, List.getElem?_eq_getElem hj, ?_⟩
    obtain ⟨m1, -⟩ := flat_mid (f := f) (z := L[j.toNat]) (List.getElem?_eq_getElem hj)
    rw [m1] at h3
    have h4 := (h3.drop (j.toNat * m)).take m
    rw [List.drop_append_of_le_length (by rw [flatF_len hm, List.length_take, Nat.min_eq_left (by omega)]; exact Nat.le_refl _), List.drop_eq_nil_of_le (by rw [flatF_len hm, List.length_take, Nat.min_eq_left (by omega)]; exact Nat.le_refl _), List.nil_append, List.take_append_of_le_length (by rw [hm]; exact Nat.le_refl _), List.take_of_length_le (by rw [hm]; exact Nat.le_refl _)] at h4
    exact h4
/-- An element of one's own slice is written. -/
theorem Sep.putF (S : Sep E w0 w (OwnA e m a n c (L.flatMap f) :: Rs)) (hm : ∀ x, (f x).length = m) (h1 : ∀ x, oneAll (f x)) (hp : 0 < m) {j : Int} (hj : 0 ≤ j ∧ j < (n : Int)) (y : α) {K : World → Prop}
    (hk : ∀ w', Sep E w0 w' (OwnA e m a n c ((L.set j.toNat y).flatMap f) :: Rs) → Fr (fun k => ∃ q : Addr, a = some q ∧ k = q.block) w w' → K w') : ∃ q, a = some q ∧ StoreV w (q.add (j.toNat * m)) (f y) K := by
  have hl := (S.own 0 rfl).len
  rw [flatF_len hm] at hl
  have hl : L.length = n := Nat.eq_of_mul_eq_mul_right hp hl
  have hj' : j.toNat < L.length := by omega
  obtain ⟨m1, m2⟩ := flat_mid (f := f) (z := y) (List.getElem?_eq_getElem hj')
  obtain ⟨b, tl, ha, q1, q2, q3, q4, q5, S1⟩ := S.focus (by
    intro h
    have := congrArg List.length h
    rw [flatF_len hm, List.length_nil] at this
    rcases Nat.mul_eq_zero.1 this with h | h <;> omega)
  subst ha
  refine ⟨_, rfl, ?_⟩
  rw [show (⟨b, 0, none⟩ : Addr).add (j.toNat * m) = ⟨b, j.toNat * m, none⟩ by simp [Addr.add_lit]]
  rw [m1, List.append_assoc, List.append_assoc] at S1
  refine S1.stM0 0 rfl (by rw [flatF_len hm, List.length_take, Nat.min_eq_left (by omega)]) (by rw [hm, hm]; exact Nat.le_refl _) fun w' S2 f2 => hk w' ?_ (f2.mono fun k hk => ⟨_, rfl, hk⟩)
  have S2 : Sep E w0 w' (BoxA b e (((L.set j.toNat y).flatMap f) ++ tl) :: Rs) := by
    rw [m2, List.append_assoc, List.append_assoc]
    have hd : (f L[j.toNat]).drop (f y).length = [] := List.drop_eq_nil_of_le (by rw [hm, hm]; exact Nat.le_refl _)
    rw [hd, List.append_nil] at S2
    exact S2
  have hl2 : ((L.set j.toNat y).flatMap f).length = n * m := by rw [flatF_len hm, List.length_set, hl]
  exact S2.unfocus (n := n) (c := c) (sz := m) hl2 (by rw [List.length_append, hl2, ← q2, List.length_append, q1]) q3 q4 (flatF_one h1 _)
end

section
variable {E : Nat → Prop} {w0 w w' : World} {Rs : List Asr}
/-- A box lies elsewhere than a slice of one's own. -/
theorem Sep.neO (S : Sep E w0 w Rs) (i j : Nat) {b : Nat} {e e2 : TypeId} {vs us : List Value} {sz n c : Nat} {a : Option Addr} (hij : i ≠ j) (hi : Rs[i]? = some (BoxA b e vs)) (hj : Rs[j]? = some (OwnA e2 sz a n c us)) (q : Addr) (hq : a = some q) : b ≠ q.block := by
  obtain ⟨F, h, _⟩ := S.ex
  obtain ⟨F1, F2, h1, h2, h3, _⟩ := StarP.perm (perm_front hi) h
  have : (Rs.eraseIdx i)[if j < i then j else j - 1]? = some (OwnA e2 sz a n c us) := by
    split
    · rw [List.getElem?_eraseIdx_of_lt (by omega)]; exact hj
    · rw [List.getElem?_eraseIdx_of_ge (by omega), show j - 1 + 1 = j by omega]; exact hj
  obtain ⟨G, g1, g2⟩ := StarP.get this h2
  intro e
  exact h3 b h1.1 (g2 b (by rw [e]; exact g1.2 q hq))
/-- copy into the middle of a block. -/
theorem Sep.cpM (i : Nat) {b o : Nat} {e : TypeId} {pre xs post news : List Value} (S : Sep E w0 w Rs) (hi : Rs[i]? = some (BoxA b e (pre ++ (xs ++ post)))) (ho : o = pre.length) {src : Option Addr} {k : Nat} (hk : k = xs.length) (hl : news.length = xs.length) (hr : RdC w src news) (h1 : oneAll news) {K : World → Prop}
    (hK : ∀ w', Sep E w0 w' (Rs.set i (BoxA b e (pre ++ (news ++ post)))) → Fr (fun k => k = b) w w' → K w') : CopyV w (some ⟨b, o, none⟩) src k 1 K := by
  refine ⟨news, by omega, hr, h1, .inr ⟨_, rfl, ?_⟩⟩
  refine S.stM0 i hi ho (news := news) (by omega) fun w' S' f => hK w' ?_ f
  rw [hl, List.drop_length, List.append_nil] at S'
  exact S'
theorem Sep.intsM (i : Nat) {b o : Nat} {e : TypeId} {k : IntKind} {pre post : List Value} {xs : List Int} (S : Sep E w0 w Rs) (hi : Rs[i]? = some (BoxA b e (pre ++ (xs.map (Value.int k) ++ post)))) (ho : o = pre.length) {n c : Nat} (hn : n = xs.length) (hc : n ≤ c) (hlim : n ≤ 9223372036854775807) : Ints w k (some ⟨b, o, none⟩) n c xs :=
  ⟨hn.symm, hc, hlim, .inr ⟨_, rfl, S.cellsM i hi ho⟩⟩
end

end Go.Eng

/-! Plain laws of layer 13 (nand): an array of pages, what each operation makes of it. -/
namespace Go.Proofs.Ytfpkaebmiojicaa.Vc
open Go Go.Eng Go.RowKit
set_option linter.unusedVariables false
set_option linter.unusedSimpArgs false

/-! ### Lists of lists of one length -/
section
variable {α β : Type} {f : α → List β} {m : Nat}
theorem fl_len : ∀ {l : List α}, (∀ x ∈ l, (f x).length = m) → (l.flatMap f).length = l.length * m
  | [], _ => by simp
  | x :: l, h => by rw [List.flatMap_cons, List.length_append, h x List.mem_cons_self, fl_len fun y hy => h y (List.mem_cons_of_mem _ hy), List.length_cons, Nat.add_mul]; omega
theorem fl_split {l : List α} {i : Nat} {x : α} (hi : l[i]? = some x) : l.flatMap f = (l.take i).flatMap f ++ (f x ++ (l.drop (i + 1)).flatMap f) := (flat_mid (z := x) hi).1
theorem fl_set {l : List α} {i : Nat} {x y : α} (hi : l[i]? = some x) : (l.set i y).flatMap f = (l.take i).flatMap f ++ (f y ++ (l.drop (i + 1)).flatMap f) := (flat_mid (z := y) hi).2
theorem fl_take {l : List α} (h : ∀ x ∈ l, (f x).length = m) {i : Nat} (hi : i ≤ l.length) : ((l.take i).flatMap f).length = i * m := by
  rw [fl_len fun x hx => h x (List.mem_of_mem_take hx), List.length_take, Nat.min_eq_left hi]
theorem fl_get {l : List α} (h : ∀ x ∈ l, (f x).length = m) {i j : Nat} {x : α} (hi : l[i]? = some x) (hj : j < m) : (l.flatMap f)[i * m + j]? = (f x)[j]? := by
  have hl : i < l.length := (List.getElem?_eq_some_iff.1 hi).1
  have hx := h x (List.mem_of_getElem? hi)
  rw [fl_split hi, List.getElem?_append_right (by rw [fl_take h (by omega)]; omega), fl_take h (by omega), List.getElem?_append_left (by omega)]
  congr 1
  omega
theorem fl_put {l : List α} (h : ∀ x ∈ l, (f x).length = m) {i j : Nat} {x y : α} {v : β} (hi : l[i]? = some x) (hj : j < m) (hy : f y = (f x).set j v) : (l.set i y).flatMap f = (l.flatMap f).set (i * m + j) v := by
  have hl : i < l.length := (List.getElem?_eq_some_iff.1 hi).1
  have hx := h x (List.mem_of_getElem? hi)
  rw [fl_set hi, fl_split hi, List.set_append_right _ _ (by rw [fl_take h (by omega)]; omega), fl_take h (by omega), List.set_append_left _ _ (by omega), hy]
  congr 3
  omega
end
theorem getD_some {α : Type} {l : List α} {i : Nat} {d x : α} (h : l[i]? = some x) : l.getD i d = x := by rw [List.getD_eq_getElem?_getD, h]; rfl
theorem some_getD {α : Type} {l : List α} {i : Nat} {d : α} (h : i < l.length) : l[i]? = some (l.getD i d) := by rw [List.getD_eq_getElem?_getD, List.getElem?_eq_getElem h]; rfl

/-! ### An array -/
structure BD where
  pg : List (List Int)
  us : List Int
  la : Int
  sc : Bool
  er : Int
instance : Inhabited BD := ⟨⟨[], [], 0, false, 0⟩⟩
structure CD where
  g : Geo
  bs : List BD
  pl : List FD
  off : Bool
  ops : Nat
abbrev szP (g : Geo) : Nat := (g.s + 88).toNat
def LG (g : Geo) : Prop := g.b ≤ 16 ∧ g.p ≤ 20 ∧ g.s ≤ 128
instance (g : Geo) : Decidable (LG g) := by unfold LG; infer_instance
structure BOk (g : Geo) (m : Nat) (x : BD) : Prop where
  pl : x.pg.length = g.p.toNat
  pb : ∀ q ∈ x.pg, q.length = szP g ∧ Byt q
  ul : x.us.length = g.p.toNat
  ub : ∀ u ∈ x.us, 0 ≤ u ∧ u ≤ 2
  la : -1 ≤ x.la ∧ x.la < g.p
  er : 0 ≤ x.er ∧ x.er ≤ m
structure COk (C : CD) : Prop where
  g : Right C.g
  lg : LG C.g
  bl : C.bs.length = C.g.b.toNat
  bo : ∀ x ∈ C.bs, BOk C.g C.ops x
  pm : ∀ f ∈ C.pl, Byt f.2.2.1 ∧ f.2.2.1.length ≤ 140737488351232
  ops : C.ops ≤ 1000000
def blankB (g : Geo) : BD := ⟨List.replicate g.p.toNat (List.replicate (szP g) 255), List.replicate g.p.toNat 0, -1, false, 0⟩
def newC (g : Geo) (pl : List FD) : CD := ⟨g, List.replicate g.b.toNat (blankB g), pl, false, 0⟩
theorem blankB_ok (g : Geo) (h : Right g) (m : Nat) : BOk g m (blankB g) := by
  have h1 := h.1.2.1
  refine ⟨by simp [blankB], fun q hq => ?_, by simp [blankB], fun u hu => ?_, ⟨by show (-1 : Int) ≤ -1; omega, by show (-1 : Int) < g.p; omega⟩, ⟨by show (0 : Int) ≤ 0; omega, by show (0 : Int) ≤ _; omega⟩⟩
  · rw [(List.mem_replicate.1 hq).2]
    exact ⟨by simp, Byt.replicate (by decide) (by decide) _⟩
  · rw [(List.mem_replicate.1 hu).2]; decide
theorem newC_ok {g : Geo} {pl : List FD} (h : Right g) (hl : LG g) (hp : ∀ f ∈ pl, Byt f.2.2.1 ∧ f.2.2.1.length ≤ 140737488351232) : COk (newC g pl) :=
  ⟨h, hl, by simp [newC], fun x hx => by rw [(List.mem_replicate.1 hx).2]; exact blankB_ok g h _, hp, by show 0 ≤ 1000000; omega⟩

/-- What an operation comes to: its answer, the fault's mask, does the power go? -/
def codeC (C : CD) : Int × List Int × Bool := match atF C.pl (C.ops : Int) with | none => (0, [], false) | some f => (if f.2.1 then 4 else 5, f.2.2.1, f.2.1)
def progL (was b ms : List Int) (fails : Bool) : List Int := turn was (prF was b ms fails was.length) (8 * was.length)
def eraL (xs ms : List Int) : List Int := turn xs (erF xs ms) (8 * xs.length)
def cutL (all : List Int) (p : Nat) : List (List Int) := (List.range p).map fun i => (all.drop (i * (all.length / p))).take (all.length / p)
def inC (C : CD) (bl pa : Int) : Prop := (0 ≤ bl ∧ bl < C.g.b) ∧ (0 ≤ pa ∧ pa < C.g.p)
instance (C : CD) (bl pa : Int) : Decidable (inC C bl pa) := by unfold inC; infer_instance
abbrev blkC (C : CD) (bl : Int) : BD := C.bs.getD bl.toNat default
abbrev usC (C : CD) (bl pa : Int) : Int := (blkC C bl).us.getD pa.toNat 0
abbrev pgC13 (C : CD) (bl pa : Int) : List Int := (blkC C bl).pg.getD pa.toNat []
/-- Why a page may not be programmed; nought: it may. -/
def refC (C : CD) (bl pa : Int) (n : Nat) : Int :=
  if C.off = true then 4 else if ¬ (inC C bl pa ∧ n = szP C.g) then 2 else if (blkC C bl).sc = true ∨ 2 ≤ usC C bl pa then 7 else if usC C bl pa = 0 ∧ pa ≤ (blkC C bl).la then 6 else 0
def progX (C : CD) (bl pa : Int) (b : List Int) : CD :=
  { C with bs := C.bs.set bl.toNat { blkC C bl with pg := (blkC C bl).pg.set pa.toNat (if (codeC C).1 = 0 then andL (pgC13 C bl pa) b else progL (pgC13 C bl pa) b (codeC C).2.1 (!(codeC C).2.2)), us := (blkC C bl).us.set pa.toNat (usC C bl pa + 1), la := max (blkC C bl).la pa },
           off := (codeC C).2.2, ops := C.ops + 1 }
def progC (C : CD) (bl pa : Int) (b : List Int) : CD × Int := if refC C bl pa b.length = 0 then (progX C bl pa b, (codeC C).1) else (C, refC C bl pa b.length)
def mayC (C : CD) (n : Int) : Int := if C.off = true then 4 else if ¬ (0 ≤ n ∧ n < C.g.b) then 2 else 0
def eraX (C : CD) (n : Int) : CD :=
  { C with bs := C.bs.set n.toNat (if (codeC C).1 = 0 then { blankB C.g with er := (blkC C n).er + 1 } else { blkC C n with pg := cutL (eraL (blkC C n).pg.flatten (codeC C).2.1) C.g.p.toNat, er := (blkC C n).er + 1 }),
           off := (codeC C).2.2, ops := C.ops + 1 }
def eraC (C : CD) (n : Int) : CD × Int := if mayC C n = 0 then (eraX C n, (codeC C).1) else (C, mayC C n)
def scrX (C : CD) (n : Int) : CD :=
  let all := (blkC C n).pg.flatten
  { C with bs := C.bs.set n.toNat { blkC C n with sc := true, pg := cutL (if (codeC C).1 = 0 then List.replicate all.length 0 else progL all (List.replicate all.length 0) (codeC C).2.1 false) C.g.p.toNat },
           off := (codeC C).2.2, ops := C.ops + 1 }
def scrC (C : CD) (n : Int) : CD × Int := if mayC C n = 0 then (scrX C n, (codeC C).1) else (C, mayC C n)
def pokC (C : CD) (bl pa at_ x : Int) : CD × Int :=
  if C.off = false then (C, 4) else if ¬ (inC C bl pa ∧ 0 ≤ at_ ∧ at_ < C.g.s + 88) then (C, 2) else
  ({ C with bs := C.bs.set bl.toNat { blkC C bl with pg := (blkC C bl).pg.set pa.toNat ((pgC13 C bl pa).set at_.toNat x) } }, 0)

theorem code_off (C : CD) : ((codeC C).1 = 0 → (codeC C).2.2 = false ∧ (codeC C).2.1 = []) ∧ ((codeC C).2.2 = true → (codeC C).1 = 4) := by
  unfold codeC
  split
  · exact ⟨fun _ => ⟨rfl, rfl⟩, fun h => by cases h⟩
  · rename_i f _
    refine ⟨fun h => ?_, fun h => ?_⟩
    · dsimp only at h; split at h <;> omega
    · dsimp only at h ⊢; rw [if_pos h]

end Go.Proofs.Ytfpkaebmiojicaa.Vc

/-! The plans of functions as plain statements, printed by wip/tools/vcgen.py; the kernel holds each to the code. -/
namespace Go.Proofs.Ytfpkaebmiojicaa.Vc
open Go Go.Eng
set_option linter.unusedVariables false

/-! ### nepenthe/head.Bytes: function 91 -/
-- loop 0 carries 14: .one (.int .i64)
def head_Bytes.A : Ann := .two .no (.two (.two .no (.one (.loop [2, 3, 5, 14, 15, 16, 17, 18, 19, 20, 21, 22, 23] [(14, .one (.int .i64))] .no))) .no)
def head_Bytes.P (p0_0 : Int) (p0_1 : Int) (p0_2 : Int) (p0_3 : Int) (p0_4 : Int) (p0_5 : Int) (w : World) (K : SlV × Int × Unit → World → Prop) : Prop :=
  NewV #[.int .i64 p0_0, .int .i64 p0_1, .int .i64 p0_2, .int .u32 p0_3, .int .u64 p0_4, .int .u64 p0_5] 27 w fun b1 w2 =>
  LoadS w2 ⟨b1, 0, none⟩ (.int .i64) fun (x3 : Int) =>
  LoadS w2 ⟨b1, 1, none⟩ (.int .i64) fun (x4 : Int) =>
  LoadS w2 ⟨b1, 2, none⟩ (.int .i64) fun (x5 : Int) =>
  LoopV [.one (.int .i64)] ((0 : Int), ()) w2 fun (z6 : Int × Unit) w7 (K8 : Int × Unit → World → Prop) =>
  cond (decide (z6.1 < 3))
  ((0 ≤ z6.1 ∧ z6.1 < (3 : Int)) ∧ ∃ y9 : Int, ([.int .i64 x3, .int .i64 x4, .int .i64 x5] : List Value)[z6.1.toNat * 1]? = some (.int .i64 y9) ∧
  cond (decide (y9 < 0))
  (K ((⟨none, 0, 0⟩ : SlV), (2 : Int), ()) w7)
  (cond (decide (y9 > 255))
  (K ((⟨none, 0, 0⟩ : SlV), (2 : Int), ()) w7)
  (Rng .i64 (z6.1 + 1) ∧
  K8 (z6.1 + 1, ()) w7)))
  (LoadS w7 ⟨b1, 0, none⟩ (.int .i64) fun (x10 : Int) =>
  cond (decide (x10 < 1))
  (K ((⟨none, 0, 0⟩ : SlV), (2 : Int), ()) w7)
  (LoadS w7 ⟨b1, 0, none⟩ (.int .i64) fun (x11 : Int) =>
  cond (decide (x11 > 4))
  (K ((⟨none, 0, 0⟩ : SlV), (2 : Int), ()) w7)
  (LoadS w7 ⟨b1, 0, none⟩ (.int .i64) fun (x12 : Int) =>
  LoadS w7 ⟨b1, 1, none⟩ (.int .i64) fun (x13 : Int) =>
  LoadS w7 ⟨b1, 2, none⟩ (.int .i64) fun (x14 : Int) =>
  NewV #[.int .u8 (IntKind.u8.wrap x12), .int .u8 (IntKind.u8.wrap x13), .int .u8 (IntKind.u8.wrap x14), .int .u8 0] 5 w7 fun b15 w16 =>
  LoadS w16 ⟨b1, 3, none⟩ (.int .u32) fun (x17 : Int) =>
  CallV Try.prog 119 #[.int .u64 (IntKind.u64.wrap x17), .int .i64 4] w16 [.one .sl] fun (r18 : SlV × Unit) w19 =>
  AppS w19 r18.1.a r18.1.n 1 fun ns24 =>
  AppV w19 5 1 1 (some ⟨b15, 0, none⟩) 4 4 ns24 r18.1.n fun a20 n21 c22 w23 =>
  LoadS w23 ⟨b1, 4, none⟩ (.int .u64) fun (x25 : Int) =>
  CallV Try.prog 119 #[.int .u64 x25, .int .i64 8] w23 [.one .sl] fun (r26 : SlV × Unit) w27 =>
  AppS w27 r26.1.a r26.1.n 1 fun ns32 =>
  AppV w27 5 1 1 a20 n21 c22 ns32 r26.1.n fun a28 n29 c30 w31 =>
  LoadS w31 ⟨b1, 5, none⟩ (.int .u64) fun (x33 : Int) =>
  CallV Try.prog 119 #[.int .u64 x33, .int .i64 8] w31 [.one .sl] fun (r34 : SlV × Unit) w35 =>
  AppS w35 r34.1.a r34.1.n 1 fun ns40 =>
  AppV w35 5 1 1 a28 n29 c30 ns40 r34.1.n fun a36 n37 c38 w39 =>
  K ((⟨a36, n37, c38⟩ : SlV), (0 : Int), ()) w39)))
theorem head_Bytes.vc (p0_0 : Int) (p0_1 : Int) (p0_2 : Int) (p0_3 : Int) (p0_4 : Int) (p0_5 : Int) (w : World) (K : SlV × Int × Unit → World → Prop) (h : head_Bytes.P p0_0 p0_1 p0_2 p0_3 p0_4 p0_5 w K) : CallV Try.prog 91 #[.agg #[.int .i64 p0_0, .int .i64 p0_1, .int .i64 p0_2, .int .u32 p0_3, .int .u64 p0_4, .int .u64 p0_5]] w [.one .sl, .one (.int .i64)] K := by
  have e : vcFun Try.prog okf false Try.f91 head_Bytes.A #[.agg #[.int .i64 p0_0, .int .i64 p0_1, .int .i64 p0_2, .int .u32 p0_3, .int .u64 p0_4, .int .u64 p0_5]] w [.one .sl, .one (.int .i64)] K = head_Bytes.P p0_0 p0_1 p0_2 p0_3 p0_4 p0_5 w K := by kernel_rfl
  exact vcFun.calls okf_ok follows Try.func91 (e.symm ▸ h)

/-! ### nepenthe/nepentheref14.Right: function 64 -/
def ref14_Right.A : Ann := .no
def ref14_Right.P (p0_0 : Int) (p0_1 : Int) (p0_2 : Int) (p0_3 : Int) (p0_4 : Int) (p0_5 : Int) (w : World) (K : Bool × Unit → World → Prop) : Prop :=
  NewV #[.int .i64 p0_0, .int .i64 p0_1, .int .i64 p0_2, .int .u32 p0_3, .int .u64 p0_4, .int .u64 p0_5] 27 w fun b1 w2 =>
  LoadS w2 ⟨b1, 0, none⟩ (.int .i64) fun (x3 : Int) =>
  cond (decide (x3 ≥ 1))
  (LoadS w2 ⟨b1, 0, none⟩ (.int .i64) fun (x4 : Int) =>
  cond (decide (x4 ≤ 4))
  (LoadS w2 ⟨b1, 1, none⟩ (.int .i64) fun (x5 : Int) =>
  cond (decide (x5 ≥ 0))
  (LoadS w2 ⟨b1, 1, none⟩ (.int .i64) fun (x6 : Int) =>
  cond (decide (x6 ≤ 255))
  (LoadS w2 ⟨b1, 2, none⟩ (.int .i64) fun (x7 : Int) =>
  cond (decide (x7 ≥ 0))
  (LoadS w2 ⟨b1, 2, none⟩ (.int .i64) fun (x8 : Int) =>
  K (decide (x8 ≤ 255), ()) w2)
  (K (false, ()) w2))
  (K (false, ()) w2))
  (K (false, ()) w2))
  (K (false, ()) w2))
  (K (false, ()) w2)
theorem ref14_Right.vc (p0_0 : Int) (p0_1 : Int) (p0_2 : Int) (p0_3 : Int) (p0_4 : Int) (p0_5 : Int) (w : World) (K : Bool × Unit → World → Prop) (h : ref14_Right.P p0_0 p0_1 p0_2 p0_3 p0_4 p0_5 w K) : CallV Try.prog 64 #[.agg #[.int .i64 p0_0, .int .i64 p0_1, .int .i64 p0_2, .int .u32 p0_3, .int .u64 p0_4, .int .u64 p0_5]] w [.one .bool] K := by
  have e : vcFun Try.prog okf false Try.f64 ref14_Right.A #[.agg #[.int .i64 p0_0, .int .i64 p0_1, .int .i64 p0_2, .int .u32 p0_3, .int .u64 p0_4, .int .u64 p0_5]] w [.one .bool] K = ref14_Right.P p0_0 p0_1 p0_2 p0_3 p0_4 p0_5 w K := by kernel_rfl
  exact vcFun.calls okf_ok follows Try.func64 (e.symm ▸ h)

/-! ### nepenthe/nepentheref14.Bytes: function 95 -/
def ref14_Bytes.A : Ann := .two .no (.two (.draw (.take 0 (.take 1 (.take 2 (.take 3 (.take 4 (.take 5 (.take 6 (.take 7 (.take 8 (.take 10 (.take 11 (.take 12 (.both 9 (.eff 13 (.eff 14 (.take 15 (.done)))) 13 (.eff 9 (.eff 14 (.take 15 (.done)))))))))))))))))) .no)
def ref14_Bytes.P (p0_0 : Int) (p0_1 : Int) (p0_2 : Int) (p0_3 : Int) (p0_4 : Int) (p0_5 : Int) (w : World) (K : SlV × Unit → World → Prop) : Prop :=
  NewV #[.int .i64 p0_0, .int .i64 p0_1, .int .i64 p0_2, .int .u32 p0_3, .int .u64 p0_4, .int .u64 p0_5] 27 w fun b1 w2 =>
  DrawV fun D3 =>
  (D3 b1 ∧ LoadS w2.drew ⟨b1, 0, none⟩ (.int .i64) fun (x4 : Int) =>
  (D3 b1 ∧ LoadS w2.drew ⟨b1, 1, none⟩ (.int .i64) fun (x5 : Int) =>
  (D3 b1 ∧ LoadS w2.drew ⟨b1, 2, none⟩ (.int .i64) fun (x6 : Int) =>
  (D3 b1 ∧ LoadS w2.drew ⟨b1, 3, none⟩ (.int .u32) fun (x7 : Int) =>
  ((NewV #[.int .u8 (IntKind.u8.wrap x4), .int .u8 (IntKind.u8.wrap x5), .int .u8 (IntKind.u8.wrap x6), .int .u8 0] 5 w2.drew fun b8 w9 =>
  KeepOn D3 w2.drew w9 ∧
  CallV Try.prog 120 #[.int .u64 (IntKind.u64.wrap x7), .int .i64 4] w9 [.one .sl] fun (r10 : SlV × Unit) w11 =>
  KeepOn D3 w2.drew w11 ∧
  AppS w11 r10.1.a r10.1.n 1 fun ns16 =>
  AppV w11 5 1 1 (some ⟨b8, 0, none⟩) 4 4 ns16 r10.1.n fun a12 n13 c14 w15 =>
  KeepOn D3 w2.drew w15 ∧
  LoadS w15 ⟨b1, 4, none⟩ (.int .u64) fun (x17 : Int) =>
  CallV Try.prog 120 #[.int .u64 x17, .int .i64 8] w15 [.one .sl] fun (r18 : SlV × Unit) w19 =>
  AppS w19 r18.1.a r18.1.n 1 fun ns24 =>
  AppV w19 5 1 1 a12 n13 c14 ns24 r18.1.n fun a20 n21 c22 w23 =>
  LoadS w23 ⟨b1, 5, none⟩ (.int .u64) fun (x25 : Int) =>
  CallV Try.prog 120 #[.int .u64 x25, .int .i64 8] w23 [.one .sl] fun (r26 : SlV × Unit) w27 =>
  AppS w27 r26.1.a r26.1.n 1 fun ns32 =>
  AppV w27 5 1 1 a20 n21 c22 ns32 r26.1.n fun a28 n29 c30 w31 =>
  K ((⟨a28, n29, c30⟩ : SlV), ()) w31) ∧
  (CallV Try.prog 120 #[.int .u64 (IntKind.u64.wrap x7), .int .i64 4] w2.drew [.one .sl] fun (r33 : SlV × Unit) w34 =>
  KeepOn D3 w2.drew w34 ∧
  NewV #[.int .u8 (IntKind.u8.wrap x4), .int .u8 (IntKind.u8.wrap x5), .int .u8 (IntKind.u8.wrap x6), .int .u8 0] 5 w34 fun b35 w36 =>
  KeepOn D3 w2.drew w36 ∧
  AppS w36 r33.1.a r33.1.n 1 fun ns41 =>
  AppV w36 5 1 1 (some ⟨b35, 0, none⟩) 4 4 ns41 r33.1.n fun a37 n38 c39 w40 =>
  KeepOn D3 w2.drew w40 ∧
  LoadS w40 ⟨b1, 4, none⟩ (.int .u64) fun (x42 : Int) =>
  CallV Try.prog 120 #[.int .u64 x42, .int .i64 8] w40 [.one .sl] fun (r43 : SlV × Unit) w44 =>
  AppS w44 r43.1.a r43.1.n 1 fun ns49 =>
  AppV w44 5 1 1 a37 n38 c39 ns49 r43.1.n fun a45 n46 c47 w48 =>
  LoadS w48 ⟨b1, 5, none⟩ (.int .u64) fun (x50 : Int) =>
  CallV Try.prog 120 #[.int .u64 x50, .int .i64 8] w48 [.one .sl] fun (r51 : SlV × Unit) w52 =>
  AppS w52 r51.1.a r51.1.n 1 fun ns57 =>
  AppV w52 5 1 1 a45 n46 c47 ns57 r51.1.n fun a53 n54 c55 w56 =>
  K ((⟨a53, n54, c55⟩ : SlV), ()) w56))))))
theorem ref14_Bytes.vc (p0_0 : Int) (p0_1 : Int) (p0_2 : Int) (p0_3 : Int) (p0_4 : Int) (p0_5 : Int) (w : World) (K : SlV × Unit → World → Prop) (h : ref14_Bytes.P p0_0 p0_1 p0_2 p0_3 p0_4 p0_5 w K) : CallV Try.prog 95 #[.agg #[.int .i64 p0_0, .int .i64 p0_1, .int .i64 p0_2, .int .u32 p0_3, .int .u64 p0_4, .int .u64 p0_5]] w [.one .sl] K := by
  have e : vcFun Try.prog okf false Try.f95 ref14_Bytes.A #[.agg #[.int .i64 p0_0, .int .i64 p0_1, .int .i64 p0_2, .int .u32 p0_3, .int .u64 p0_4, .int .u64 p0_5]] w [.one .sl] K = ref14_Bytes.P p0_0 p0_1 p0_2 p0_3 p0_4 p0_5 w K := by kernel_rfl
  exact vcFun.calls okf_ok follows Try.func95 (e.symm ▸ h)

/-! ### nepenthe/head.Mark: function 60 -/
def head_Mark.A : Ann := .no
def head_Mark.P (p0 : Int) (w : World) (K : SlV × Unit → World → Prop) : Prop :=
  cond (decide (p0 < 88))
  (K ((⟨none, 0, 0⟩ : SlV), ()) w)
  (cond (decide (p0 > 4184))
  (K ((⟨none, 0, 0⟩ : SlV), ()) w)
  (Rng .i64 (p0 - 8) ∧
  CallV Try.prog 58 #[.int .u8 255, .int .i64 (p0 - 8)] w [.one .sl] fun (r1 : SlV × Unit) w2 =>
  CallV Try.prog 58 #[.int .u8 0, .int .i64 8] w2 [.one .sl] fun (r3 : SlV × Unit) w4 =>
  AppS w4 r3.1.a r3.1.n 1 fun ns9 =>
  AppV w4 5 1 1 r1.1.a r1.1.n r1.1.c ns9 r3.1.n fun a5 n6 c7 w8 =>
  K ((⟨a5, n6, c7⟩ : SlV), ()) w8))
theorem head_Mark.vc (p0 : Int) (w : World) (K : SlV × Unit → World → Prop) (h : head_Mark.P p0 w K) : CallV Try.prog 60 #[.int .i64 p0] w [.one .sl] K := by
  have e : vcFun Try.prog okf false Try.f60 head_Mark.A #[.int .i64 p0] w [.one .sl] K = head_Mark.P p0 w K := by kernel_rfl
  exact vcFun.calls okf_ok follows Try.func60 (e.symm ▸ h)

/-! ### nepenthe/head.Read: function 67 -/
def head_Read.A : Ann := .two .no (.two .no (.two (.draw (.take 0 (.take 1 (.take 2 (.take 3 (.take 4 (.take 5 (.done)))))))) (.two (.draw (.take 0 (.take 1 (.take 2 (.take 3 (.take 4 (.take 5 (.take 6 (.take 7 (.take 8 (.take 9 (.take 10 (.take 11 (.take 12 (.take 13 (.take 16 (.take 17 (.take 19 (.take 20 (.both 14 (.take 15 (.both 18 (.both 21 (.take 22 (.eff 23 (.eff 24 (.done)))) 23 (.eff 21 (.take 22 (.eff 24 (.done))))) 23 (.eff 18 (.eff 21 (.take 22 (.eff 24 (.done))))))) 23 (.eff 14 (.take 15 (.eff 18 (.eff 21 (.take 22 (.eff 24 (.done))))))))))))))))))))))))))) (.two (.two (.draw (.take 0 (.take 2 (.take 3 (.eff 1 (.eff 4 (.take 5 (.take 6 (.take 7 (.take 8 (.take 9 (.take 10 (.take 11 (.take 12 (.take 13 (.take 14 (.take 15 (.take 16 (.take 17 (.take 18 (.take 19 (.take 20 (.take 21 (.done)))))))))))))))))))))))) .no) (.two (.draw (.take 0 (.take 2 (.eff 1 (.eff 3 (.eff 4 (.take 5 (.take 6 (.done))))))))) .no)))))
def head_Read.P (a0 : Option Addr) (n0 c0 : Nat) (w : World) (K : (Int × Int × Int × Int × Int × Int × Unit) × SlV × Int × Unit → World → Prop) : Prop :=
  NewV #[.int .i64 0, .int .i64 0, .int .i64 0, .int .u32 0, .int .u64 0, .int .u64 0] 27 w fun b1 w2 =>
  cond (((n0 : Nat) : Int) != 88)
  (StoreV w2 ⟨b1, 0, none⟩ [.int .i64 0, .int .i64 0, .int .i64 0, .int .u32 0, .int .u64 0, .int .u64 0] fun w3 =>
  LoadA w3 ⟨b1, 0, none⟩ [.int .i64, .int .i64, .int .i64, .int .u32, .int .u64, .int .u64] fun (x4 : Int × Int × Int × Int × Int × Int × Unit) =>
  K ((x4.1, x4.2.1, x4.2.2.1, x4.2.2.2.1, x4.2.2.2.2.1, x4.2.2.2.2.2.1, ()), (⟨none, 0, 0⟩ : SlV), (2 : Int), ()) w3)
  (DrawV fun D5 =>
  ((0 : Int) ≤ (24 : Int) ∧ (24 : Int) ≤ ((c0 : Nat) : Int)) ∧
  SubK a0 0 c0 1 fun a6 =>
  ((0 : Int) ≤ (48 : Int) ∧ (48 : Int) ≤ (80 : Int) ∧ (80 : Int) ≤ ((c0 : Nat) : Int)) ∧
  SubK a0 48 c0 1 fun a7 =>
  DrawV fun D8 =>
  (0 ≤ (0 : Int) ∧ 0 < ((24 - 0 : Nat) : Int)) ∧ ∃ q9 : Addr, a6 = some q9 ∧
  (D8 (q9.add (0 * 1)).block ∧ LoadS w2.drew.drew (q9.add (0 * 1)) (.int .u8) fun (x10 : Int) =>
  (0 ≤ (1 : Int) ∧ 1 < ((24 - 0 : Nat) : Int)) ∧ ∃ q11 : Addr, a6 = some q11 ∧
  (D8 (q11.add (1 * 1)).block ∧ LoadS w2.drew.drew (q11.add (1 * 1)) (.int .u8) fun (x12 : Int) =>
  (0 ≤ (2 : Int) ∧ 2 < ((24 - 0 : Nat) : Int)) ∧ ∃ q13 : Addr, a6 = some q13 ∧
  (D8 (q13.add (2 * 1)).block ∧ LoadS w2.drew.drew (q13.add (2 * 1)) (.int .u8) fun (x14 : Int) =>
  ((0 : Int) ≤ (4 : Int) ∧ (4 : Int) ≤ (8 : Int) ∧ (8 : Int) ≤ ((c0 - 0 : Nat) : Int)) ∧
  SubK a6 4 (c0 - 0) 1 fun a15 =>
  ((0 : Int) ≤ (8 : Int) ∧ (8 : Int) ≤ (16 : Int) ∧ (16 : Int) ≤ ((c0 - 0 : Nat) : Int)) ∧
  SubK a6 8 (c0 - 0) 1 fun a16 =>
  ((0 : Int) ≤ (16 : Int) ∧ (16 : Int) ≤ (24 : Int) ∧ (24 : Int) ≤ ((c0 - 0 : Nat) : Int)) ∧
  SubK a6 16 (c0 - 0) 1 fun a17 =>
  ((CallV Try.prog 97 #[.slice a15 (8 - 4) ((c0 - 0) - 4)] w2.drew.drew [.one (.int .u64)] fun (r18 : Int × Unit) w19 =>
  KeepOn D8 w2.drew.drew w19 ∧
  ((CallV Try.prog 97 #[.slice a16 (16 - 8) ((c0 - 0) - 8)] w19 [.one (.int .u64)] fun (r20 : Int × Unit) w21 =>
  KeepOn D8 w2.drew.drew w21 ∧
  ((CallV Try.prog 97 #[.slice a17 (24 - 16) ((c0 - 0) - 16)] w21 [.one (.int .u64)] fun (r22 : Int × Unit) w23 =>
  KeepOn D8 w2.drew.drew w23 ∧
  NewV #[.int .i64 0, .int .i64 0, .int .i64 0, .int .u32 0, .int .u64 0, .int .u64 0] 27 w23 fun b24 w25 =>
  KeepOn D8 w2.drew.drew w25 ∧
  StoreV w25 ⟨b24, 0, none⟩ [.int .i64 (IntKind.i64.wrap x10), .int .i64 (IntKind.i64.wrap x12), .int .i64 (IntKind.i64.wrap x14), .int .u32 (IntKind.u32.wrap r18.1), .int .u64 r20.1, .int .u64 r22.1] fun w26 =>
  KeepOn D8 w2.drew.drew w26 ∧
  DrawV fun D27 =>
  ((0 : Int) ≤ (24 : Int) ∧ (24 : Int) ≤ (48 : Int) ∧ (48 : Int) ≤ ((c0 : Nat) : Int)) ∧
  SubK a0 24 c0 1 fun a28 =>
  CallV Try.prog 92 #[.slice a6 (24 - 0) (c0 - 0)] w26.drew [.one .sl] fun (r29 : SlV × Unit) w30 =>
  KeepOn D27 w26.drew w30 ∧
  CallV Try.prog 98 #[.slice r29.1.a r29.1.n r29.1.c, .slice a28 (48 - 24) (c0 - 24)] w30 [.one .bool] fun (r31 : Bool × Unit) w32 =>
  KeepOn D27 w26.drew w32 ∧
  cond (!r31.1)
  (StoreV w32 ⟨b1, 0, none⟩ [.int .i64 0, .int .i64 0, .int .i64 0, .int .u32 0, .int .u64 0, .int .u64 0] fun w33 =>
  LoadA w33 ⟨b1, 0, none⟩ [.int .i64, .int .i64, .int .i64, .int .u32, .int .u64, .int .u64] fun (x34 : Int × Int × Int × Int × Int × Int × Unit) =>
  K ((x34.1, x34.2.1, x34.2.2.1, x34.2.2.2.1, x34.2.2.2.2.1, x34.2.2.2.2.2.1, ()), (⟨none, 0, 0⟩ : SlV), (1 : Int), ()) w33)
  ((0 ≤ (3 : Int) ∧ 3 < ((24 - 0 : Nat) : Int)) ∧ ∃ q35 : Addr, a6 = some q35 ∧
  (D27 (q35.add (3 * 1)).block ∧ LoadS w26.drew (q35.add (3 * 1)) (.int .u8) fun (x36 : Int) =>
  cond (x36 != 0)
  (StoreV w32 ⟨b1, 0, none⟩ [.int .i64 0, .int .i64 0, .int .i64 0, .int .u32 0, .int .u64 0, .int .u64 0] fun w37 =>
  LoadA w37 ⟨b1, 0, none⟩ [.int .i64, .int .i64, .int .i64, .int .u32, .int .u64, .int .u64] fun (x38 : Int × Int × Int × Int × Int × Int × Unit) =>
  K ((x38.1, x38.2.1, x38.2.2.1, x38.2.2.2.1, x38.2.2.2.2.1, x38.2.2.2.2.2.1, ()), (⟨none, 0, 0⟩ : SlV), (1 : Int), ()) w37)
  ((D27 b24 ∧ LoadS w26.drew ⟨b24, 0, none⟩ (.int .i64) fun (x39 : Int) =>
  cond (decide (x39 < 1))
  (StoreV w32 ⟨b1, 0, none⟩ [.int .i64 0, .int .i64 0, .int .i64 0, .int .u32 0, .int .u64 0, .int .u64 0] fun w40 =>
  LoadA w40 ⟨b1, 0, none⟩ [.int .i64, .int .i64, .int .i64, .int .u32, .int .u64, .int .u64] fun (x41 : Int × Int × Int × Int × Int × Int × Unit) =>
  K ((x41.1, x41.2.1, x41.2.2.1, x41.2.2.2.1, x41.2.2.2.2.1, x41.2.2.2.2.2.1, ()), (⟨none, 0, 0⟩ : SlV), (1 : Int), ()) w40)
  ((D27 b24 ∧ LoadS w26.drew ⟨b24, 0, none⟩ (.int .i64) fun (x42 : Int) =>
  cond (decide (x42 > 4))
  (StoreV w32 ⟨b1, 0, none⟩ [.int .i64 0, .int .i64 0, .int .i64 0, .int .u32 0, .int .u64 0, .int .u64 0] fun w43 =>
  LoadA w43 ⟨b1, 0, none⟩ [.int .i64, .int .i64, .int .i64, .int .u32, .int .u64, .int .u64] fun (x44 : Int × Int × Int × Int × Int × Int × Unit) =>
  K ((x44.1, x44.2.1, x44.2.2.1, x44.2.2.2.1, x44.2.2.2.2.1, x44.2.2.2.2.2.1, ()), (⟨none, 0, 0⟩ : SlV), (1 : Int), ()) w43)
  (DrawV fun D45 =>
  (D45 b24 ∧ LoadA w32.drew ⟨b24, 0, none⟩ [.int .i64, .int .i64, .int .i64, .int .u32, .int .u64, .int .u64] fun (x46 : Int × Int × Int × Int × Int × Int × Unit) =>
  NewV #[] 5 w32.drew fun b47 w48 =>
  KeepOn D45 w32.drew w48 ∧
  AppS w48 a7 (80 - 48) 1 fun ns53 =>
  AppV w48 5 1 1 (some ⟨b47, 0, none⟩) 0 0 ns53 (80 - 48) fun a49 n50 c51 w52 =>
  KeepOn D45 w32.drew w52 ∧
  StoreV w52 ⟨b1, 0, none⟩ [.int .i64 x46.1, .int .i64 x46.2.1, .int .i64 x46.2.2.1, .int .u32 x46.2.2.2.1, .int .u64 x46.2.2.2.2.1, .int .u64 x46.2.2.2.2.2.1] fun w54 =>
  KeepOn D45 w32.drew w54 ∧
  LoadA w54 ⟨b1, 0, none⟩ [.int .i64, .int .i64, .int .i64, .int .u32, .int .u64, .int .u64] fun (x55 : Int × Int × Int × Int × Int × Int × Unit) =>
  K ((x55.1, x55.2.1, x55.2.2.1, x55.2.2.2.1, x55.2.2.2.2.1, x55.2.2.2.2.2.1, ()), (⟨a49, n50, c51⟩ : SlV), (0 : Int), ()) w54))))))))) ∧
  (NewV #[.int .i64 0, .int .i64 0, .int .i64 0, .int .u32 0, .int .u64 0, .int .u64 0] 27 w21 fun b56 w57 =>
  KeepOn D8 w2.drew.drew w57 ∧
  CallV Try.prog 97 #[.slice a17 (24 - 16) ((c0 - 0) - 16)] w57 [.one (.int .u64)] fun (r58 : Int × Unit) w59 =>
  KeepOn D8 w2.drew.drew w59 ∧
  StoreV w59 ⟨b56, 0, none⟩ [.int .i64 (IntKind.i64.wrap x10), .int .i64 (IntKind.i64.wrap x12), .int .i64 (IntKind.i64.wrap x14), .int .u32 (IntKind.u32.wrap r18.1), .int .u64 r20.1, .int .u64 r58.1] fun w60 =>
  KeepOn D8 w2.drew.drew w60 ∧
  DrawV fun D61 =>
  ((0 : Int) ≤ (24 : Int) ∧ (24 : Int) ≤ (48 : Int) ∧ (48 : Int) ≤ ((c0 : Nat) : Int)) ∧
  SubK a0 24 c0 1 fun a62 =>
  CallV Try.prog 92 #[.slice a6 (24 - 0) (c0 - 0)] w60.drew [.one .sl] fun (r63 : SlV × Unit) w64 =>
  KeepOn D61 w60.drew w64 ∧
  CallV Try.prog 98 #[.slice r63.1.a r63.1.n r63.1.c, .slice a62 (48 - 24) (c0 - 24)] w64 [.one .bool] fun (r65 : Bool × Unit) w66 =>
  KeepOn D61 w60.drew w66 ∧
  cond (!r65.1)
  (StoreV w66 ⟨b1, 0, none⟩ [.int .i64 0, .int .i64 0, .int .i64 0, .int .u32 0, .int .u64 0, .int .u64 0] fun w67 =>
  LoadA w67 ⟨b1, 0, none⟩ [.int .i64, .int .i64, .int .i64, .int .u32, .int .u64, .int .u64] fun (x68 : Int × Int × Int × Int × Int × Int × Unit) =>
  K ((x68.1, x68.2.1, x68.2.2.1, x68.2.2.2.1, x68.2.2.2.2.1, x68.2.2.2.2.2.1, ()), (⟨none, 0, 0⟩ : SlV), (1 : Int), ()) w67)
  ((0 ≤ (3 : Int) ∧ 3 < ((24 - 0 : Nat) : Int)) ∧ ∃ q69 : Addr, a6 = some q69 ∧
  (D61 (q69.add (3 * 1)).block ∧ LoadS w60.drew (q69.add (3 * 1)) (.int .u8) fun (x70 : Int) =>
  cond (x70 != 0)
  (StoreV w66 ⟨b1, 0, none⟩ [.int .i64 0, .int .i64 0, .int .i64 0, .int .u32 0, .int .u64 0, .int .u64 0] fun w71 =>
  LoadA w71 ⟨b1, 0, none⟩ [.int .i64, .int .i64, .int .i64, .int .u32, .int .u64, .int .u64] fun (x72 : Int × Int × Int × Int × Int × Int × Unit) =>
  K ((x72.1, x72.2.1, x72.2.2.1, x72.2.2.2.1, x72.2.2.2.2.1, x72.2.2.2.2.2.1, ()), (⟨none, 0, 0⟩ : SlV), (1 : Int), ()) w71)
  ((D61 b56 ∧ LoadS w60.drew ⟨b56, 0, none⟩ (.int .i64) fun (x73 : Int) =>
  cond (decide (x73 < 1))
  (StoreV w66 ⟨b1, 0, none⟩ [.int .i64 0, .int .i64 0, .int .i64 0, .int .u32 0, .int .u64 0, .int .u64 0] fun w74 =>
  LoadA w74 ⟨b1, 0, none⟩ [.int .i64, .int .i64, .int .i64, .int .u32, .int .u64, .int .u64] fun (x75 : Int × Int × Int × Int × Int × Int × Unit) =>
  K ((x75.1, x75.2.1, x75.2.2.1, x75.2.2.2.1, x75.2.2.2.2.1, x75.2.2.2.2.2.1, ()), (⟨none, 0, 0⟩ : SlV), (1 : Int), ()) w74)
  ((D61 b56 ∧ LoadS w60.drew ⟨b56, 0, none⟩ (.int .i64) fun (x76 : Int) =>
  cond (decide (x76 > 4))
  (StoreV w66 ⟨b1, 0, none⟩ [.int .i64 0, .int .i64 0, .int .i64 0, .int .u32 0, .int .u64 0, .int .u64 0] fun w77 =>
  LoadA w77 ⟨b1, 0, none⟩ [.int .i64, .int .i64, .int .i64, .int .u32, .int .u64, .int .u64] fun (x78 : Int × Int × Int × Int × Int × Int × Unit) =>
  K ((x78.1, x78.2.1, x78.2.2.1, x78.2.2.2.1, x78.2.2.2.2.1, x78.2.2.2.2.2.1, ()), (⟨none, 0, 0⟩ : SlV), (1 : Int), ()) w77)
  (DrawV fun D79 =>
  (D79 b56 ∧ LoadA w66.drew ⟨b56, 0, none⟩ [.int .i64, .int .i64, .int .i64, .int .u32, .int .u64, .int .u64] fun (x80 : Int × Int × Int × Int × Int × Int × Unit) =>
  NewV #[] 5 w66.drew fun b81 w82 =>
  KeepOn D79 w66.drew w82 ∧
  AppS w82 a7 (80 - 48) 1 fun ns87 =>
  AppV w82 5 1 1 (some ⟨b81, 0, none⟩) 0 0 ns87 (80 - 48) fun a83 n84 c85 w86 =>
  KeepOn D79 w66.drew w86 ∧
  StoreV w86 ⟨b1, 0, none⟩ [.int .i64 x80.1, .int .i64 x80.2.1, .int .i64 x80.2.2.1, .int .u32 x80.2.2.2.1, .int .u64 x80.2.2.2.2.1, .int .u64 x80.2.2.2.2.2.1] fun w88 =>
  KeepOn D79 w66.drew w88 ∧
  LoadA w88 ⟨b1, 0, none⟩ [.int .i64, .int .i64, .int .i64, .int .u32, .int .u64, .int .u64] fun (x89 : Int × Int × Int × Int × Int × Int × Unit) =>
  K ((x89.1, x89.2.1, x89.2.2.1, x89.2.2.2.1, x89.2.2.2.2.1, x89.2.2.2.2.2.1, ()), (⟨a83, n84, c85⟩ : SlV), (0 : Int), ()) w88))))))))))) ∧
  (NewV #[.int .i64 0, .int .i64 0, .int .i64 0, .int .u32 0, .int .u64 0, .int .u64 0] 27 w19 fun b90 w91 =>
  KeepOn D8 w2.drew.drew w91 ∧
  CallV Try.prog 97 #[.slice a16 (16 - 8) ((c0 - 0) - 8)] w91 [.one (.int .u64)] fun (r92 : Int × Unit) w93 =>
  KeepOn D8 w2.drew.drew w93 ∧
  CallV Try.prog 97 #[.slice a17 (24 - 16) ((c0 - 0) - 16)] w93 [.one (.int .u64)] fun (r94 : Int × Unit) w95 =>
  KeepOn D8 w2.drew.drew w95 ∧
  StoreV w95 ⟨b90, 0, none⟩ [.int .i64 (IntKind.i64.wrap x10), .int .i64 (IntKind.i64.wrap x12), .int .i64 (IntKind.i64.wrap x14), .int .u32 (IntKind.u32.wrap r18.1), .int .u64 r92.1, .int .u64 r94.1] fun w96 =>
  KeepOn D8 w2.drew.drew w96 ∧
  DrawV fun D97 =>
  ((0 : Int) ≤ (24 : Int) ∧ (24 : Int) ≤ (48 : Int) ∧ (48 : Int) ≤ ((c0 : Nat) : Int)) ∧
  SubK a0 24 c0 1 fun a98 =>
  CallV Try.prog 92 #[.slice a6 (24 - 0) (c0 - 0)] w96.drew [.one .sl] fun (r99 : SlV × Unit) w100 =>
  KeepOn D97 w96.drew w100 ∧
  CallV Try.prog 98 #[.slice r99.1.a r99.1.n r99.1.c, .slice a98 (48 - 24) (c0 - 24)] w100 [.one .bool] fun (r101 : Bool × Unit) w102 =>
  KeepOn D97 w96.drew w102 ∧
  cond (!r101.1)
  (StoreV w102 ⟨b1, 0, none⟩ [.int .i64 0, .int .i64 0, .int .i64 0, .int .u32 0, .int .u64 0, .int .u64 0] fun w103 =>
  LoadA w103 ⟨b1, 0, none⟩ [.int .i64, .int .i64, .int .i64, .int .u32, .int .u64, .int .u64] fun (x104 : Int × Int × Int × Int × Int × Int × Unit) =>
  K ((x104.1, x104.2.1, x104.2.2.1, x104.2.2.2.1, x104.2.2.2.2.1, x104.2.2.2.2.2.1, ()), (⟨none, 0, 0⟩ : SlV), (1 : Int), ()) w103)
  ((0 ≤ (3 : Int) ∧ 3 < ((24 - 0 : Nat) : Int)) ∧ ∃ q105 : Addr, a6 = some q105 ∧
  (D97 (q105.add (3 * 1)).block ∧ LoadS w96.drew (q105.add (3 * 1)) (.int .u8) fun (x106 : Int) =>
  cond (x106 != 0)
  (StoreV w102 ⟨b1, 0, none⟩ [.int .i64 0, .int .i64 0, .int .i64 0, .int .u32 0, .int .u64 0, .int .u64 0] fun w107 =>
  LoadA w107 ⟨b1, 0, none⟩ [.int .i64, .int .i64, .int .i64, .int .u32, .int .u64, .int .u64] fun (x108 : Int × Int × Int × Int × Int × Int × Unit) =>
  K ((x108.1, x108.2.1, x108.2.2.1, x108.2.2.2.1, x108.2.2.2.2.1, x108.2.2.2.2.2.1, ()), (⟨none, 0, 0⟩ : SlV), (1 : Int), ()) w107)
  ((D97 b90 ∧ LoadS w96.drew ⟨b90, 0, none⟩ (.int .i64) fun (x109 : Int) =>
  cond (decide (x109 < 1))
  (StoreV w102 ⟨b1, 0, none⟩ [.int .i64 0, .int .i64 0, .int .i64 0, .int .u32 0, .int .u64 0, .int .u64 0] fun w110 =>
  LoadA w110 ⟨b1, 0, none⟩ [.int .i64, .int .i64, .int .i64, .int .u32, .int .u64, .int .u64] fun (x111 : Int × Int × Int × Int × Int × Int × Unit) =>
  K ((x111.1, x111.2.1, x111.2.2.1, x111.2.2.2.1, x111.2.2.2.2.1, x111.2.2.2.2.2.1, ()), (⟨none, 0, 0⟩ : SlV), (1 : Int), ()) w110)
  ((D97 b90 ∧ LoadS w96.drew ⟨b90, 0, none⟩ (.int .i64) fun (x112 : Int) =>
  cond (decide (x112 > 4))
  (StoreV w102 ⟨b1, 0, none⟩ [.int .i64 0, .int .i64 0, .int .i64 0, .int .u32 0, .int .u64 0, .int .u64 0] fun w113 =>
  LoadA w113 ⟨b1, 0, none⟩ [.int .i64, .int .i64, .int .i64, .int .u32, .int .u64, .int .u64] fun (x114 : Int × Int × Int × Int × Int × Int × Unit) =>
  K ((x114.1, x114.2.1, x114.2.2.1, x114.2.2.2.1, x114.2.2.2.2.1, x114.2.2.2.2.2.1, ()), (⟨none, 0, 0⟩ : SlV), (1 : Int), ()) w113)
  (DrawV fun D115 =>
  (D115 b90 ∧ LoadA w102.drew ⟨b90, 0, none⟩ [.int .i64, .int .i64, .int .i64, .int .u32, .int .u64, .int .u64] fun (x116 : Int × Int × Int × Int × Int × Int × Unit) =>
  NewV #[] 5 w102.drew fun b117 w118 =>
  KeepOn D115 w102.drew w118 ∧
  AppS w118 a7 (80 - 48) 1 fun ns123 =>
  AppV w118 5 1 1 (some ⟨b117, 0, none⟩) 0 0 ns123 (80 - 48) fun a119 n120 c121 w122 =>
  KeepOn D115 w102.drew w122 ∧
  StoreV w122 ⟨b1, 0, none⟩ [.int .i64 x116.1, .int .i64 x116.2.1, .int .i64 x116.2.2.1, .int .u32 x116.2.2.2.1, .int .u64 x116.2.2.2.2.1, .int .u64 x116.2.2.2.2.2.1] fun w124 =>
  KeepOn D115 w102.drew w124 ∧
  LoadA w124 ⟨b1, 0, none⟩ [.int .i64, .int .i64, .int .i64, .int .u32, .int .u64, .int .u64] fun (x125 : Int × Int × Int × Int × Int × Int × Unit) =>
  K ((x125.1, x125.2.1, x125.2.2.1, x125.2.2.2.1, x125.2.2.2.2.1, x125.2.2.2.2.2.1, ()), (⟨a119, n120, c121⟩ : SlV), (0 : Int), ()) w124))))))))))) ∧
  (NewV #[.int .i64 0, .int .i64 0, .int .i64 0, .int .u32 0, .int .u64 0, .int .u64 0] 27 w2.drew.drew fun b126 w127 =>
  KeepOn D8 w2.drew.drew w127 ∧
  CallV Try.prog 97 #[.slice a15 (8 - 4) ((c0 - 0) - 4)] w127 [.one (.int .u64)] fun (r128 : Int × Unit) w129 =>
  KeepOn D8 w2.drew.drew w129 ∧
  CallV Try.prog 97 #[.slice a16 (16 - 8) ((c0 - 0) - 8)] w129 [.one (.int .u64)] fun (r130 : Int × Unit) w131 =>
  KeepOn D8 w2.drew.drew w131 ∧
  CallV Try.prog 97 #[.slice a17 (24 - 16) ((c0 - 0) - 16)] w131 [.one (.int .u64)] fun (r132 : Int × Unit) w133 =>
  KeepOn D8 w2.drew.drew w133 ∧
  StoreV w133 ⟨b126, 0, none⟩ [.int .i64 (IntKind.i64.wrap x10), .int .i64 (IntKind.i64.wrap x12), .int .i64 (IntKind.i64.wrap x14), .int .u32 (IntKind.u32.wrap r128.1), .int .u64 r130.1, .int .u64 r132.1] fun w134 =>
  KeepOn D8 w2.drew.drew w134 ∧
  DrawV fun D135 =>
  ((0 : Int) ≤ (24 : Int) ∧ (24 : Int) ≤ (48 : Int) ∧ (48 : Int) ≤ ((c0 : Nat) : Int)) ∧
  SubK a0 24 c0 1 fun a136 =>
  CallV Try.prog 92 #[.slice a6 (24 - 0) (c0 - 0)] w134.drew [.one .sl] fun (r137 : SlV × Unit) w138 =>
  KeepOn D135 w134.drew w138 ∧
  CallV Try.prog 98 #[.slice r137.1.a r137.1.n r137.1.c, .slice a136 (48 - 24) (c0 - 24)] w138 [.one .bool] fun (r139 : Bool × Unit) w140 =>
  KeepOn D135 w134.drew w140 ∧
  cond (!r139.1)
  (StoreV w140 ⟨b1, 0, none⟩ [.int .i64 0, .int .i64 0, .int .i64 0, .int .u32 0, .int .u64 0, .int .u64 0] fun w141 =>
  LoadA w141 ⟨b1, 0, none⟩ [.int .i64, .int .i64, .int .i64, .int .u32, .int .u64, .int .u64] fun (x142 : Int × Int × Int × Int × Int × Int × Unit) =>
  K ((x142.1, x142.2.1, x142.2.2.1, x142.2.2.2.1, x142.2.2.2.2.1, x142.2.2.2.2.2.1, ()), (⟨none, 0, 0⟩ : SlV), (1 : Int), ()) w141)
  ((0 ≤ (3 : Int) ∧ 3 < ((24 - 0 : Nat) : Int)) ∧ ∃ q143 : Addr, a6 = some q143 ∧
  (D135 (q143.add (3 * 1)).block ∧ LoadS w134.drew (q143.add (3 * 1)) (.int .u8) fun (x144 : Int) =>
  cond (x144 != 0)
  (StoreV w140 ⟨b1, 0, none⟩ [.int .i64 0, .int .i64 0, .int .i64 0, .int .u32 0, .int .u64 0, .int .u64 0] fun w145 =>
  LoadA w145 ⟨b1, 0, none⟩ [.int .i64, .int .i64, .int .i64, .int .u32, .int .u64, .int .u64] fun (x146 : Int × Int × Int × Int × Int × Int × Unit) =>
  K ((x146.1, x146.2.1, x146.2.2.1, x146.2.2.2.1, x146.2.2.2.2.1, x146.2.2.2.2.2.1, ()), (⟨none, 0, 0⟩ : SlV), (1 : Int), ()) w145)
  ((D135 b126 ∧ LoadS w134.drew ⟨b126, 0, none⟩ (.int .i64) fun (x147 : Int) =>
  cond (decide (x147 < 1))
  (StoreV w140 ⟨b1, 0, none⟩ [.int .i64 0, .int .i64 0, .int .i64 0, .int .u32 0, .int .u64 0, .int .u64 0] fun w148 =>
  LoadA w148 ⟨b1, 0, none⟩ [.int .i64, .int .i64, .int .i64, .int .u32, .int .u64, .int .u64] fun (x149 : Int × Int × Int × Int × Int × Int × Unit) =>
  K ((x149.1, x149.2.1, x149.2.2.1, x149.2.2.2.1, x149.2.2.2.2.1, x149.2.2.2.2.2.1, ()), (⟨none, 0, 0⟩ : SlV), (1 : Int), ()) w148)
  ((D135 b126 ∧ LoadS w134.drew ⟨b126, 0, none⟩ (.int .i64) fun (x150 : Int) =>
  cond (decide (x150 > 4))
  (StoreV w140 ⟨b1, 0, none⟩ [.int .i64 0, .int .i64 0, .int .i64 0, .int .u32 0, .int .u64 0, .int .u64 0] fun w151 =>
  LoadA w151 ⟨b1, 0, none⟩ [.int .i64, .int .i64, .int .i64, .int .u32, .int .u64, .int .u64] fun (x152 : Int × Int × Int × Int × Int × Int × Unit) =>
  K ((x152.1, x152.2.1, x152.2.2.1, x152.2.2.2.1, x152.2.2.2.2.1, x152.2.2.2.2.2.1, ()), (⟨none, 0, 0⟩ : SlV), (1 : Int), ()) w151)
  (DrawV fun D153 =>
  (D153 b126 ∧ LoadA w140.drew ⟨b126, 0, none⟩ [.int .i64, .int .i64, .int .i64, .int .u32, .int .u64, .int .u64] fun (x154 : Int × Int × Int × Int × Int × Int × Unit) =>
  NewV #[] 5 w140.drew fun b155 w156 =>
  KeepOn D153 w140.drew w156 ∧
  AppS w156 a7 (80 - 48) 1 fun ns161 =>
  AppV w156 5 1 1 (some ⟨b155, 0, none⟩) 0 0 ns161 (80 - 48) fun a157 n158 c159 w160 =>
  KeepOn D153 w140.drew w160 ∧
  StoreV w160 ⟨b1, 0, none⟩ [.int .i64 x154.1, .int .i64 x154.2.1, .int .i64 x154.2.2.1, .int .u32 x154.2.2.2.1, .int .u64 x154.2.2.2.2.1, .int .u64 x154.2.2.2.2.2.1] fun w162 =>
  KeepOn D153 w140.drew w162 ∧
  LoadA w162 ⟨b1, 0, none⟩ [.int .i64, .int .i64, .int .i64, .int .u32, .int .u64, .int .u64] fun (x163 : Int × Int × Int × Int × Int × Int × Unit) =>
  K ((x163.1, x163.2.1, x163.2.2.1, x163.2.2.2.1, x163.2.2.2.2.1, x163.2.2.2.2.2.1, ()), (⟨a157, n158, c159⟩ : SlV), (0 : Int), ()) w162))))))))))))))
theorem head_Read.vc (a0 : Option Addr) (n0 c0 : Nat) (w : World) (K : (Int × Int × Int × Int × Int × Int × Unit) × SlV × Int × Unit → World → Prop) (h : head_Read.P a0 n0 c0 w K) : CallV Try.prog 67 #[.slice a0 n0 c0] w [.agg [.int .i64, .int .i64, .int .i64, .int .u32, .int .u64, .int .u64], .one .sl, .one (.int .i64)] K := by
  have e : vcFun Try.prog okf false Try.f67 head_Read.A #[.slice a0 n0 c0] w [.agg [.int .i64, .int .i64, .int .i64, .int .u32, .int .u64, .int .u64], .one .sl, .one (.int .i64)] K = head_Read.P a0 n0 c0 w K := by kernel_rfl
  exact vcFun.calls okf_ok follows Try.func67 (e.symm ▸ h)

/-! ### nepenthe/head.Committed: function 68 -/
def head_Committed.A : Ann := .two .no (.two (.draw (.take 0 (.take 1 (.take 2 (.take 3 (.take 4 (.take 5 (.eff 6 (.eff 7 (.take 8 (.take 9 (.done)))))))))))) .no)
def head_Committed.P (a0 : Option Addr) (n0 c0 : Nat) (w : World) (K : Bool × Unit → World → Prop) : Prop :=
  DrawV fun D1 =>
  cond (((n0 : Nat) : Int) == 88)
  (((0 : Int) ≤ (80 : Int) ∧ (80 : Int) ≤ ((n0 : Nat) : Int)) ∧
  SubK a0 80 c0 1 fun a2 =>
  CallV Try.prog 58 #[.int .u8 0, .int .i64 8] w.drew [.one .sl] fun (r3 : SlV × Unit) w4 =>
  KeepOn D1 w.drew w4 ∧
  CallV Try.prog 98 #[.slice a2 (n0 - 80) (c0 - 80), .slice r3.1.a r3.1.n r3.1.c] w4 [.one .bool] fun (r5 : Bool × Unit) w6 =>
  KeepOn D1 w.drew w6 ∧
  K (r5.1, ()) w6)
  (K (false, ()) w.drew)
theorem head_Committed.vc (a0 : Option Addr) (n0 c0 : Nat) (w : World) (K : Bool × Unit → World → Prop) (h : head_Committed.P a0 n0 c0 w K) : CallV Try.prog 68 #[.slice a0 n0 c0] w [.one .bool] K := by
  have e : vcFun Try.prog okf false Try.f68 head_Committed.A #[.slice a0 n0 c0] w [.one .bool] K = head_Committed.P a0 n0 c0 w K := by kernel_rfl
  exact vcFun.calls okf_ok follows Try.func68 (e.symm ▸ h)

/-! ### nepenthe/nepentheref14.Committed: function 70 -/
def ref14_Committed.A : Ann := .two .no (.two (.draw (.take 0 (.take 1 (.eff 2 (.eff 3 (.take 4 (.done))))))) .no)
def ref14_Committed.P (a0 : Option Addr) (n0 c0 : Nat) (w : World) (K : Bool × Unit → World → Prop) : Prop :=
  DrawV fun D1 =>
  ((0 : Int) ≤ (80 : Int) ∧ (80 : Int) ≤ ((n0 : Nat) : Int)) ∧
  SubK a0 80 c0 1 fun a2 =>
  CallV Try.prog 26 #[.int .u8 0, .int .i64 8] w.drew [.one .sl] fun (r3 : SlV × Unit) w4 =>
  KeepOn D1 w.drew w4 ∧
  CallV Try.prog 19 #[.slice a2 (n0 - 80) (c0 - 80), .slice r3.1.a r3.1.n r3.1.c] w4 [.one .bool] fun (r5 : Bool × Unit) w6 =>
  KeepOn D1 w.drew w6 ∧
  K (r5.1, ()) w6
theorem ref14_Committed.vc (a0 : Option Addr) (n0 c0 : Nat) (w : World) (K : Bool × Unit → World → Prop) (h : ref14_Committed.P a0 n0 c0 w K) : CallV Try.prog 70 #[.slice a0 n0 c0] w [.one .bool] K := by
  have e : vcFun Try.prog okf false Try.f70 ref14_Committed.A #[.slice a0 n0 c0] w [.one .bool] K = ref14_Committed.P a0 n0 c0 w K := by kernel_rfl
  exact vcFun.calls okf_ok follows Try.func70 (e.symm ▸ h)

/-! ### nepenthe/nepentheref14.Read: function 69 -/
def ref14_Read.A : Ann := .two .no (.two (.draw (.take 0 (.take 1 (.take 2 (.take 3 (.take 4 (.take 5 (.take 6 (.take 7 (.take 8 (.take 9 (.take 10 (.take 11 (.take 12 (.take 13 (.take 16 (.take 17 (.take 19 (.take 20 (.both 14 (.take 15 (.both 18 (.both 21 (.take 22 (.eff 23 (.eff 24 (.done)))) 23 (.eff 21 (.take 22 (.eff 24 (.done))))) 23 (.eff 18 (.eff 21 (.take 22 (.eff 24 (.done))))))) 23 (.eff 14 (.take 15 (.eff 18 (.eff 21 (.take 22 (.eff 24 (.done))))))))))))))))))))))))))) (.two .no (.two (.two (.draw (.take 0 (.take 2 (.take 6 (.take 7 (.eff 1 (.eff 3 (.eff 4 (.eff 5 (.eff 8 (.take 9 (.done)))))))))))) .no) .no)))
def ref14_Read.P (a0 : Option Addr) (n0 c0 : Nat) (w : World) (K : (Int × Int × Int × Int × Int × Int × Unit) × Bool × Unit → World → Prop) : Prop :=
  NewV #[.int .i64 0, .int .i64 0, .int .i64 0, .int .u32 0, .int .u64 0, .int .u64 0] 27 w fun b1 w2 =>
  DrawV fun D3 =>
  (0 ≤ (0 : Int) ∧ 0 < ((n0 : Nat) : Int)) ∧ ∃ q4 : Addr, a0 = some q4 ∧
  (D3 (q4.add (0 * 1)).block ∧ LoadS w2.drew (q4.add (0 * 1)) (.int .u8) fun (x5 : Int) =>
  (0 ≤ (1 : Int) ∧ 1 < ((n0 : Nat) : Int)) ∧ ∃ q6 : Addr, a0 = some q6 ∧
  (D3 (q6.add (1 * 1)).block ∧ LoadS w2.drew (q6.add (1 * 1)) (.int .u8) fun (x7 : Int) =>
  (0 ≤ (2 : Int) ∧ 2 < ((n0 : Nat) : Int)) ∧ ∃ q8 : Addr, a0 = some q8 ∧
  (D3 (q8.add (2 * 1)).block ∧ LoadS w2.drew (q8.add (2 * 1)) (.int .u8) fun (x9 : Int) =>
  ((0 : Int) ≤ (4 : Int) ∧ (4 : Int) ≤ (8 : Int) ∧ (8 : Int) ≤ ((c0 : Nat) : Int)) ∧
  SubK a0 4 c0 1 fun a10 =>
  ((0 : Int) ≤ (8 : Int) ∧ (8 : Int) ≤ (16 : Int) ∧ (16 : Int) ≤ ((c0 : Nat) : Int)) ∧
  SubK a0 8 c0 1 fun a11 =>
  ((0 : Int) ≤ (16 : Int) ∧ (16 : Int) ≤ (24 : Int) ∧ (24 : Int) ≤ ((c0 : Nat) : Int)) ∧
  SubK a0 16 c0 1 fun a12 =>
  ((CallV Try.prog 99 #[.slice a10 (8 - 4) (c0 - 4)] w2.drew [.one (.int .u64)] fun (r13 : Int × Unit) w14 =>
  KeepOn D3 w2.drew w14 ∧
  ((CallV Try.prog 99 #[.slice a11 (16 - 8) (c0 - 8)] w14 [.one (.int .u64)] fun (r15 : Int × Unit) w16 =>
  KeepOn D3 w2.drew w16 ∧
  ((CallV Try.prog 99 #[.slice a12 (24 - 16) (c0 - 16)] w16 [.one (.int .u64)] fun (r17 : Int × Unit) w18 =>
  KeepOn D3 w2.drew w18 ∧
  NewV #[.int .i64 0, .int .i64 0, .int .i64 0, .int .u32 0, .int .u64 0, .int .u64 0] 27 w18 fun b19 w20 =>
  KeepOn D3 w2.drew w20 ∧
  StoreV w20 ⟨b19, 0, none⟩ [.int .i64 (IntKind.i64.wrap x5), .int .i64 (IntKind.i64.wrap x7), .int .i64 (IntKind.i64.wrap x9), .int .u32 (IntKind.u32.wrap r13.1), .int .u64 r15.1, .int .u64 r17.1] fun w21 =>
  KeepOn D3 w2.drew w21 ∧
  LoadA w21 ⟨b19, 0, none⟩ [.int .i64, .int .i64, .int .i64, .int .u32, .int .u64, .int .u64] fun (x22 : Int × Int × Int × Int × Int × Int × Unit) =>
  CallV Try.prog 64 #[.agg #[.int .i64 x22.1, .int .i64 x22.2.1, .int .i64 x22.2.2.1, .int .u32 x22.2.2.2.1, .int .u64 x22.2.2.2.2.1, .int .u64 x22.2.2.2.2.2.1]] w21 [.one .bool] fun (r23 : Bool × Unit) w24 =>
  cond (!r23.1)
  (StoreV w24 ⟨b1, 0, none⟩ [.int .i64 0, .int .i64 0, .int .i64 0, .int .u32 0, .int .u64 0, .int .u64 0] fun w25 =>
  LoadA w25 ⟨b1, 0, none⟩ [.int .i64, .int .i64, .int .i64, .int .u32, .int .u64, .int .u64] fun (x26 : Int × Int × Int × Int × Int × Int × Unit) =>
  K ((x26.1, x26.2.1, x26.2.2.1, x26.2.2.2.1, x26.2.2.2.2.1, x26.2.2.2.2.2.1, ()), false, ()) w25)
  (DrawV fun D27 =>
  (D27 b19 ∧ LoadA w24.drew ⟨b19, 0, none⟩ [.int .i64, .int .i64, .int .i64, .int .u32, .int .u64, .int .u64] fun (x28 : Int × Int × Int × Int × Int × Int × Unit) =>
  (D27 b19 ∧ LoadA w24.drew ⟨b19, 0, none⟩ [.int .i64, .int .i64, .int .i64, .int .u32, .int .u64, .int .u64] fun (x29 : Int × Int × Int × Int × Int × Int × Unit) =>
  ((0 : Int) ≤ (48 : Int) ∧ (48 : Int) ≤ ((c0 : Nat) : Int)) ∧
  SubK a0 0 c0 1 fun a30 =>
  CallV Try.prog 95 #[.agg #[.int .i64 x28.1, .int .i64 x28.2.1, .int .i64 x28.2.2.1, .int .u32 x28.2.2.2.1, .int .u64 x28.2.2.2.2.1, .int .u64 x28.2.2.2.2.2.1]] w24.drew [.one .sl] fun (r31 : SlV × Unit) w32 =>
  KeepOn D27 w24.drew w32 ∧
  CallV Try.prog 95 #[.agg #[.int .i64 x29.1, .int .i64 x29.2.1, .int .i64 x29.2.2.1, .int .u32 x29.2.2.2.1, .int .u64 x29.2.2.2.2.1, .int .u64 x29.2.2.2.2.2.1]] w32 [.one .sl] fun (r33 : SlV × Unit) w34 =>
  KeepOn D27 w24.drew w34 ∧
  CallV Try.prog 96 #[.slice r33.1.a r33.1.n r33.1.c] w34 [.one .sl] fun (r35 : SlV × Unit) w36 =>
  KeepOn D27 w24.drew w36 ∧
  AppS w36 r35.1.a r35.1.n 1 fun ns41 =>
  AppV w36 5 1 1 r31.1.a r31.1.n r31.1.c ns41 r35.1.n fun a37 n38 c39 w40 =>
  KeepOn D27 w24.drew w40 ∧
  CallV Try.prog 19 #[.slice a37 n38 c39, .slice a30 (48 - 0) (c0 - 0)] w40 [.one .bool] fun (r42 : Bool × Unit) w43 =>
  KeepOn D27 w24.drew w43 ∧
  cond (!r42.1)
  (StoreV w43 ⟨b1, 0, none⟩ [.int .i64 0, .int .i64 0, .int .i64 0, .int .u32 0, .int .u64 0, .int .u64 0] fun w44 =>
  LoadA w44 ⟨b1, 0, none⟩ [.int .i64, .int .i64, .int .i64, .int .u32, .int .u64, .int .u64] fun (x45 : Int × Int × Int × Int × Int × Int × Unit) =>
  K ((x45.1, x45.2.1, x45.2.2.1, x45.2.2.2.1, x45.2.2.2.2.1, x45.2.2.2.2.2.1, ()), false, ()) w44)
  (LoadA w43 ⟨b19, 0, none⟩ [.int .i64, .int .i64, .int .i64, .int .u32, .int .u64, .int .u64] fun (x46 : Int × Int × Int × Int × Int × Int × Unit) =>
  StoreV w43 ⟨b1, 0, none⟩ [.int .i64 x46.1, .int .i64 x46.2.1, .int .i64 x46.2.2.1, .int .u32 x46.2.2.2.1, .int .u64 x46.2.2.2.2.1, .int .u64 x46.2.2.2.2.2.1] fun w47 =>
  LoadA w47 ⟨b1, 0, none⟩ [.int .i64, .int .i64, .int .i64, .int .u32, .int .u64, .int .u64] fun (x48 : Int × Int × Int × Int × Int × Int × Unit) =>
  K ((x48.1, x48.2.1, x48.2.2.1, x48.2.2.2.1, x48.2.2.2.2.1, x48.2.2.2.2.2.1, ()), true, ()) w47))))) ∧
  (NewV #[.int .i64 0, .int .i64 0, .int .i64 0, .int .u32 0, .int .u64 0, .int .u64 0] 27 w16 fun b49 w50 =>
  KeepOn D3 w2.drew w50 ∧
  CallV Try.prog 99 #[.slice a12 (24 - 16) (c0 - 16)] w50 [.one (.int .u64)] fun (r51 : Int × Unit) w52 =>
  KeepOn D3 w2.drew w52 ∧
  StoreV w52 ⟨b49, 0, none⟩ [.int .i64 (IntKind.i64.wrap x5), .int .i64 (IntKind.i64.wrap x7), .int .i64 (IntKind.i64.wrap x9), .int .u32 (IntKind.u32.wrap r13.1), .int .u64 r15.1, .int .u64 r51.1] fun w53 =>
  KeepOn D3 w2.drew w53 ∧
  LoadA w53 ⟨b49, 0, none⟩ [.int .i64, .int .i64, .int .i64, .int .u32, .int .u64, .int .u64] fun (x54 : Int × Int × Int × Int × Int × Int × Unit) =>
  CallV Try.prog 64 #[.agg #[.int .i64 x54.1, .int .i64 x54.2.1, .int .i64 x54.2.2.1, .int .u32 x54.2.2.2.1, .int .u64 x54.2.2.2.2.1, .int .u64 x54.2.2.2.2.2.1]] w53 [.one .bool] fun (r55 : Bool × Unit) w56 =>
  cond (!r55.1)
  (StoreV w56 ⟨b1, 0, none⟩ [.int .i64 0, .int .i64 0, .int .i64 0, .int .u32 0, .int .u64 0, .int .u64 0] fun w57 =>
  LoadA w57 ⟨b1, 0, none⟩ [.int .i64, .int .i64, .int .i64, .int .u32, .int .u64, .int .u64] fun (x58 : Int × Int × Int × Int × Int × Int × Unit) =>
  K ((x58.1, x58.2.1, x58.2.2.1, x58.2.2.2.1, x58.2.2.2.2.1, x58.2.2.2.2.2.1, ()), false, ()) w57)
  (DrawV fun D59 =>
  (D59 b49 ∧ LoadA w56.drew ⟨b49, 0, none⟩ [.int .i64, .int .i64, .int .i64, .int .u32, .int .u64, .int .u64] fun (x60 : Int × Int × Int × Int × Int × Int × Unit) =>
  (D59 b49 ∧ LoadA w56.drew ⟨b49, 0, none⟩ [.int .i64, .int .i64, .int .i64, .int .u32, .int .u64, .int .u64] fun (x61 : Int × Int × Int × Int × Int × Int × Unit) =>
  ((0 : Int) ≤ (48 : Int) ∧ (48 : Int) ≤ ((c0 : Nat) : Int)) ∧
  SubK a0 0 c0 1 fun a62 =>
  CallV Try.prog 95 #[.agg #[.int .i64 x60.1, .int .i64 x60.2.1, .int .i64 x60.2.2.1, .int .u32 x60.2.2.2.1, .int .u64 x60.2.2.2.2.1, .int .u64 x60.2.2.2.2.2.1]] w56.drew [.one .sl] fun (r63 : SlV × Unit) w64 =>
  KeepOn D59 w56.drew w64 ∧
  CallV Try.prog 95 #[.agg #[.int .i64 x61.1, .int .i64 x61.2.1, .int .i64 x61.2.2.1, .int .u32 x61.2.2.2.1, .int .u64 x61.2.2.2.2.1, .int .u64 x61.2.2.2.2.2.1]] w64 [.one .sl] fun (r65 : SlV × Unit) w66 =>
  KeepOn D59 w56.drew w66 ∧
  CallV Try.prog 96 #[.slice r65.1.a r65.1.n r65.1.c] w66 [.one .sl] fun (r67 : SlV × Unit) w68 =>
  KeepOn D59 w56.drew w68 ∧
  AppS w68 r67.1.a r67.1.n 1 fun ns73 =>
  AppV w68 5 1 1 r63.1.a r63.1.n r63.1.c ns73 r67.1.n fun a69 n70 c71 w72 =>
  KeepOn D59 w56.drew w72 ∧
  CallV Try.prog 19 #[.slice a69 n70 c71, .slice a62 (48 - 0) (c0 - 0)] w72 [.one .bool] fun (r74 : Bool × Unit) w75 =>
  KeepOn D59 w56.drew w75 ∧
  cond (!r74.1)
  (StoreV w75 ⟨b1, 0, none⟩ [.int .i64 0, .int .i64 0, .int .i64 0, .int .u32 0, .int .u64 0, .int .u64 0] fun w76 =>
  LoadA w76 ⟨b1, 0, none⟩ [.int .i64, .int .i64, .int .i64, .int .u32, .int .u64, .int .u64] fun (x77 : Int × Int × Int × Int × Int × Int × Unit) =>
  K ((x77.1, x77.2.1, x77.2.2.1, x77.2.2.2.1, x77.2.2.2.2.1, x77.2.2.2.2.2.1, ()), false, ()) w76)
  (LoadA w75 ⟨b49, 0, none⟩ [.int .i64, .int .i64, .int .i64, .int .u32, .int .u64, .int .u64] fun (x78 : Int × Int × Int × Int × Int × Int × Unit) =>
  StoreV w75 ⟨b1, 0, none⟩ [.int .i64 x78.1, .int .i64 x78.2.1, .int .i64 x78.2.2.1, .int .u32 x78.2.2.2.1, .int .u64 x78.2.2.2.2.1, .int .u64 x78.2.2.2.2.2.1] fun w79 =>
  LoadA w79 ⟨b1, 0, none⟩ [.int .i64, .int .i64, .int .i64, .int .u32, .int .u64, .int .u64] fun (x80 : Int × Int × Int × Int × Int × Int × Unit) =>
  K ((x80.1, x80.2.1, x80.2.2.1, x80.2.2.2.1, x80.2.2.2.2.1, x80.2.2.2.2.2.1, ()), true, ()) w79))))))) ∧
  (NewV #[.int .i64 0, .int .i64 0, .int .i64 0, .int .u32 0, .int .u64 0, .int .u64 0] 27 w14 fun b81 w82 =>
  KeepOn D3 w2.drew w82 ∧
  CallV Try.prog 99 #[.slice a11 (16 - 8) (c0 - 8)] w82 [.one (.int .u64)] fun (r83 : Int × Unit) w84 =>
  KeepOn D3 w2.drew w84 ∧
  CallV Try.prog 99 #[.slice a12 (24 - 16) (c0 - 16)] w84 [.one (.int .u64)] fun (r85 : Int × Unit) w86 =>
  KeepOn D3 w2.drew w86 ∧
  StoreV w86 ⟨b81, 0, none⟩ [.int .i64 (IntKind.i64.wrap x5), .int .i64 (IntKind.i64.wrap x7), .int .i64 (IntKind.i64.wrap x9), .int .u32 (IntKind.u32.wrap r13.1), .int .u64 r83.1, .int .u64 r85.1] fun w87 =>
  KeepOn D3 w2.drew w87 ∧
  LoadA w87 ⟨b81, 0, none⟩ [.int .i64, .int .i64, .int .i64, .int .u32, .int .u64, .int .u64] fun (x88 : Int × Int × Int × Int × Int × Int × Unit) =>
  CallV Try.prog 64 #[.agg #[.int .i64 x88.1, .int .i64 x88.2.1, .int .i64 x88.2.2.1, .int .u32 x88.2.2.2.1, .int .u64 x88.2.2.2.2.1, .int .u64 x88.2.2.2.2.2.1]] w87 [.one .bool] fun (r89 : Bool × Unit) w90 =>
  cond (!r89.1)
  (StoreV w90 ⟨b1, 0, none⟩ [.int .i64 0, .int .i64 0, .int .i64 0, .int .u32 0, .int .u64 0, .int .u64 0] fun w91 =>
  LoadA w91 ⟨b1, 0, none⟩ [.int .i64, .int .i64, .int .i64, .int .u32, .int .u64, .int .u64] fun (x92 : Int × Int × Int × Int × Int × Int × Unit) =>
  K ((x92.1, x92.2.1, x92.2.2.1, x92.2.2.2.1, x92.2.2.2.2.1, x92.2.2.2.2.2.1, ()), false, ()) w91)
  (DrawV fun D93 =>
  (D93 b81 ∧ LoadA w90.drew ⟨b81, 0, none⟩ [.int .i64, .int .i64, .int .i64, .int .u32, .int .u64, .int .u64] fun (x94 : Int × Int × Int × Int × Int × Int × Unit) =>
  (D93 b81 ∧ LoadA w90.drew ⟨b81, 0, none⟩ [.int .i64, .int .i64, .int .i64, .int .u32, .int .u64, .int .u64] fun (x95 : Int × Int × Int × Int × Int × Int × Unit) =>
  ((0 : Int) ≤ (48 : Int) ∧ (48 : Int) ≤ ((c0 : Nat) : Int)) ∧
  SubK a0 0 c0 1 fun a96 =>
  CallV Try.prog 95 #[.agg #[.int .i64 x94.1, .int .i64 x94.2.1, .int .i64 x94.2.2.1, .int .u32 x94.2.2.2.1, .int .u64 x94.2.2.2.2.1, .int .u64 x94.2.2.2.2.2.1]] w90.drew [.one .sl] fun (r97 : SlV × Unit) w98 =>
  KeepOn D93 w90.drew w98 ∧
  CallV Try.prog 95 #[.agg #[.int .i64 x95.1, .int .i64 x95.2.1, .int .i64 x95.2.2.1, .int .u32 x95.2.2.2.1, .int .u64 x95.2.2.2.2.1, .int .u64 x95.2.2.2.2.2.1]] w98 [.one .sl] fun (r99 : SlV × Unit) w100 =>
  KeepOn D93 w90.drew w100 ∧
  CallV Try.prog 96 #[.slice r99.1.a r99.1.n r99.1.c] w100 [.one .sl] fun (r101 : SlV × Unit) w102 =>
  KeepOn D93 w90.drew w102 ∧
  AppS w102 r101.1.a r101.1.n 1 fun ns107 =>
  AppV w102 5 1 1 r97.1.a r97.1.n r97.1.c ns107 r101.1.n fun a103 n104 c105 w106 =>
  KeepOn D93 w90.drew w106 ∧
  CallV Try.prog 19 #[.slice a103 n104 c105, .slice a96 (48 - 0) (c0 - 0)] w106 [.one .bool] fun (r108 : Bool × Unit) w109 =>
  KeepOn D93 w90.drew w109 ∧
  cond (!r108.1)
  (StoreV w109 ⟨b1, 0, none⟩ [.int .i64 0, .int .i64 0, .int .i64 0, .int .u32 0, .int .u64 0, .int .u64 0] fun w110 =>
  LoadA w110 ⟨b1, 0, none⟩ [.int .i64, .int .i64, .int .i64, .int .u32, .int .u64, .int .u64] fun (x111 : Int × Int × Int × Int × Int × Int × Unit) =>
  K ((x111.1, x111.2.1, x111.2.2.1, x111.2.2.2.1, x111.2.2.2.2.1, x111.2.2.2.2.2.1, ()), false, ()) w110)
  (LoadA w109 ⟨b81, 0, none⟩ [.int .i64, .int .i64, .int .i64, .int .u32, .int .u64, .int .u64] fun (x112 : Int × Int × Int × Int × Int × Int × Unit) =>
  StoreV w109 ⟨b1, 0, none⟩ [.int .i64 x112.1, .int .i64 x112.2.1, .int .i64 x112.2.2.1, .int .u32 x112.2.2.2.1, .int .u64 x112.2.2.2.2.1, .int .u64 x112.2.2.2.2.2.1] fun w113 =>
  LoadA w113 ⟨b1, 0, none⟩ [.int .i64, .int .i64, .int .i64, .int .u32, .int .u64, .int .u64] fun (x114 : Int × Int × Int × Int × Int × Int × Unit) =>
  K ((x114.1, x114.2.1, x114.2.2.1, x114.2.2.2.1, x114.2.2.2.2.1, x114.2.2.2.2.2.1, ()), true, ()) w113))))))) ∧
  (NewV #[.int .i64 0, .int .i64 0, .int .i64 0, .int .u32 0, .int .u64 0, .int .u64 0] 27 w2.drew fun b115 w116 =>
  KeepOn D3 w2.drew w116 ∧
  CallV Try.prog 99 #[.slice a10 (8 - 4) (c0 - 4)] w116 [.one (.int .u64)] fun (r117 : Int × Unit) w118 =>
  KeepOn D3 w2.drew w118 ∧
  CallV Try.prog 99 #[.slice a11 (16 - 8) (c0 - 8)] w118 [.one (.int .u64)] fun (r119 : Int × Unit) w120 =>
  KeepOn D3 w2.drew w120 ∧
  CallV Try.prog 99 #[.slice a12 (24 - 16) (c0 - 16)] w120 [.one (.int .u64)] fun (r121 : Int × Unit) w122 =>
  KeepOn D3 w2.drew w122 ∧
  StoreV w122 ⟨b115, 0, none⟩ [.int .i64 (IntKind.i64.wrap x5), .int .i64 (IntKind.i64.wrap x7), .int .i64 (IntKind.i64.wrap x9), .int .u32 (IntKind.u32.wrap r117.1), .int .u64 r119.1, .int .u64 r121.1] fun w123 =>
  KeepOn D3 w2.drew w123 ∧
  LoadA w123 ⟨b115, 0, none⟩ [.int .i64, .int .i64, .int .i64, .int .u32, .int .u64, .int .u64] fun (x124 : Int × Int × Int × Int × Int × Int × Unit) =>
  CallV Try.prog 64 #[.agg #[.int .i64 x124.1, .int .i64 x124.2.1, .int .i64 x124.2.2.1, .int .u32 x124.2.2.2.1, .int .u64 x124.2.2.2.2.1, .int .u64 x124.2.2.2.2.2.1]] w123 [.one .bool] fun (r125 : Bool × Unit) w126 =>
  cond (!r125.1)
  (StoreV w126 ⟨b1, 0, none⟩ [.int .i64 0, .int .i64 0, .int .i64 0, .int .u32 0, .int .u64 0, .int .u64 0] fun w127 =>
  LoadA w127 ⟨b1, 0, none⟩ [.int .i64, .int .i64, .int .i64, .int .u32, .int .u64, .int .u64] fun (x128 : Int × Int × Int × Int × Int × Int × Unit) =>
  K ((x128.1, x128.2.1, x128.2.2.1, x128.2.2.2.1, x128.2.2.2.2.1, x128.2.2.2.2.2.1, ()), false, ()) w127)
  (DrawV fun D129 =>
  (D129 b115 ∧ LoadA w126.drew ⟨b115, 0, none⟩ [.int .i64, .int .i64, .int .i64, .int .u32, .int .u64, .int .u64] fun (x130 : Int × Int × Int × Int × Int × Int × Unit) =>
  (D129 b115 ∧ LoadA w126.drew ⟨b115, 0, none⟩ [.int .i64, .int .i64, .int .i64, .int .u32, .int .u64, .int .u64] fun (x131 : Int × Int × Int × Int × Int × Int × Unit) =>
  ((0 : Int) ≤ (48 : Int) ∧ (48 : Int) ≤ ((c0 : Nat) : Int)) ∧
  SubK a0 0 c0 1 fun a132 =>
  CallV Try.prog 95 #[.agg #[.int .i64 x130.1, .int .i64 x130.2.1, .int .i64 x130.2.2.1, .int .u32 x130.2.2.2.1, .int .u64 x130.2.2.2.2.1, .int .u64 x130.2.2.2.2.2.1]] w126.drew [.one .sl] fun (r133 : SlV × Unit) w134 =>
  KeepOn D129 w126.drew w134 ∧
  CallV Try.prog 95 #[.agg #[.int .i64 x131.1, .int .i64 x131.2.1, .int .i64 x131.2.2.1, .int .u32 x131.2.2.2.1, .int .u64 x131.2.2.2.2.1, .int .u64 x131.2.2.2.2.2.1]] w134 [.one .sl] fun (r135 : SlV × Unit) w136 =>
  KeepOn D129 w126.drew w136 ∧
  CallV Try.prog 96 #[.slice r135.1.a r135.1.n r135.1.c] w136 [.one .sl] fun (r137 : SlV × Unit) w138 =>
  KeepOn D129 w126.drew w138 ∧
  AppS w138 r137.1.a r137.1.n 1 fun ns143 =>
  AppV w138 5 1 1 r133.1.a r133.1.n r133.1.c ns143 r137.1.n fun a139 n140 c141 w142 =>
  KeepOn D129 w126.drew w142 ∧
  CallV Try.prog 19 #[.slice a139 n140 c141, .slice a132 (48 - 0) (c0 - 0)] w142 [.one .bool] fun (r144 : Bool × Unit) w145 =>
  KeepOn D129 w126.drew w145 ∧
  cond (!r144.1)
  (StoreV w145 ⟨b1, 0, none⟩ [.int .i64 0, .int .i64 0, .int .i64 0, .int .u32 0, .int .u64 0, .int .u64 0] fun w146 =>
  LoadA w146 ⟨b1, 0, none⟩ [.int .i64, .int .i64, .int .i64, .int .u32, .int .u64, .int .u64] fun (x147 : Int × Int × Int × Int × Int × Int × Unit) =>
  K ((x147.1, x147.2.1, x147.2.2.1, x147.2.2.2.1, x147.2.2.2.2.1, x147.2.2.2.2.2.1, ()), false, ()) w146)
  (LoadA w145 ⟨b115, 0, none⟩ [.int .i64, .int .i64, .int .i64, .int .u32, .int .u64, .int .u64] fun (x148 : Int × Int × Int × Int × Int × Int × Unit) =>
  StoreV w145 ⟨b1, 0, none⟩ [.int .i64 x148.1, .int .i64 x148.2.1, .int .i64 x148.2.2.1, .int .u32 x148.2.2.2.1, .int .u64 x148.2.2.2.2.1, .int .u64 x148.2.2.2.2.2.1] fun w149 =>
  LoadA w149 ⟨b1, 0, none⟩ [.int .i64, .int .i64, .int .i64, .int .u32, .int .u64, .int .u64] fun (x150 : Int × Int × Int × Int × Int × Int × Unit) =>
  K ((x150.1, x150.2.1, x150.2.2.1, x150.2.2.2.1, x150.2.2.2.2.1, x150.2.2.2.2.2.1, ()), true, ()) w149)))))))))
theorem ref14_Read.vc (a0 : Option Addr) (n0 c0 : Nat) (w : World) (K : (Int × Int × Int × Int × Int × Int × Unit) × Bool × Unit → World → Prop) (h : ref14_Read.P a0 n0 c0 w K) : CallV Try.prog 69 #[.slice a0 n0 c0] w [.agg [.int .i64, .int .i64, .int .i64, .int .u32, .int .u64, .int .u64], .one .bool] K := by
  have e : vcFun Try.prog okf false Try.f69 ref14_Read.A #[.slice a0 n0 c0] w [.agg [.int .i64, .int .i64, .int .i64, .int .u32, .int .u64, .int .u64], .one .bool] K = ref14_Read.P a0 n0 c0 w K := by kernel_rfl
  exact vcFun.calls okf_ok follows Try.func69 (e.symm ▸ h)

/-! ### nepenthe/head.End: function 59 -/
def head_End.A : Ann := .no
def head_End.P (p0_0 : Int) (p0_1 : Int) (p0_2 : Int) (p0_3 : Int) (p0_4 : Int) (p0_5 : Int) (a1 : Option Addr) (n1 c1 : Nat) (w : World) (K : SlV × Int × Unit → World → Prop) : Prop :=
  NewV #[.int .i64 p0_0, .int .i64 p0_1, .int .i64 p0_2, .int .u32 p0_3, .int .u64 p0_4, .int .u64 p0_5] 27 w fun b1 w2 =>
  LoadA w2 ⟨b1, 0, none⟩ [.int .i64, .int .i64, .int .i64, .int .u32, .int .u64, .int .u64] fun (x3 : Int × Int × Int × Int × Int × Int × Unit) =>
  CallV Try.prog 91 #[.agg #[.int .i64 x3.1, .int .i64 x3.2.1, .int .i64 x3.2.2.1, .int .u32 x3.2.2.2.1, .int .u64 x3.2.2.2.2.1, .int .u64 x3.2.2.2.2.2.1]] w2 [.one .sl, .one (.int .i64)] fun (r4 : SlV × Int × Unit) w5 =>
  cond (r4.2.1 != 0)
  (K ((⟨none, 0, 0⟩ : SlV), r4.2.1, ()) w5)
  (cond (((n1 : Nat) : Int) == 0)
  (CallV Try.prog 58 #[.int .u8 255, .int .i64 32] w5 [.one .sl] fun (r6 : SlV × Unit) w7 =>
  cond (((r6.1.n : Nat) : Int) != 32)
  (K ((⟨none, 0, 0⟩ : SlV), (2 : Int), ()) w7)
  (CallV Try.prog 92 #[.slice r4.1.a r4.1.n r4.1.c] w7 [.one .sl] fun (r8 : SlV × Unit) w9 =>
  AppS w9 r8.1.a r8.1.n 1 fun ns14 =>
  AppV w9 5 1 1 r4.1.a r4.1.n r4.1.c ns14 r8.1.n fun a10 n11 c12 w13 =>
  AppS w13 r6.1.a r6.1.n 1 fun ns19 =>
  AppV w13 5 1 1 a10 n11 c12 ns19 r6.1.n fun a15 n16 c17 w18 =>
  CallV Try.prog 58 #[.int .u8 255, .int .i64 8] w18 [.one .sl] fun (r20 : SlV × Unit) w21 =>
  AppS w21 r20.1.a r20.1.n 1 fun ns26 =>
  AppV w21 5 1 1 a15 n16 c17 ns26 r20.1.n fun a22 n23 c24 w25 =>
  K ((⟨a22, n23, c24⟩ : SlV), (0 : Int), ()) w25))
  (cond (((n1 : Nat) : Int) != 32)
  (K ((⟨none, 0, 0⟩ : SlV), (2 : Int), ()) w5)
  (CallV Try.prog 92 #[.slice r4.1.a r4.1.n r4.1.c] w5 [.one .sl] fun (r27 : SlV × Unit) w28 =>
  AppS w28 r27.1.a r27.1.n 1 fun ns33 =>
  AppV w28 5 1 1 r4.1.a r4.1.n r4.1.c ns33 r27.1.n fun a29 n30 c31 w32 =>
  AppS w32 a1 n1 1 fun ns38 =>
  AppV w32 5 1 1 a29 n30 c31 ns38 n1 fun a34 n35 c36 w37 =>
  CallV Try.prog 58 #[.int .u8 255, .int .i64 8] w37 [.one .sl] fun (r39 : SlV × Unit) w40 =>
  AppS w40 r39.1.a r39.1.n 1 fun ns45 =>
  AppV w40 5 1 1 a34 n35 c36 ns45 r39.1.n fun a41 n42 c43 w44 =>
  K ((⟨a41, n42, c43⟩ : SlV), (0 : Int), ()) w44)))
theorem head_End.vc (p0_0 : Int) (p0_1 : Int) (p0_2 : Int) (p0_3 : Int) (p0_4 : Int) (p0_5 : Int) (a1 : Option Addr) (n1 c1 : Nat) (w : World) (K : SlV × Int × Unit → World → Prop) (h : head_End.P p0_0 p0_1 p0_2 p0_3 p0_4 p0_5 a1 n1 c1 w K) : CallV Try.prog 59 #[.agg #[.int .i64 p0_0, .int .i64 p0_1, .int .i64 p0_2, .int .u32 p0_3, .int .u64 p0_4, .int .u64 p0_5], .slice a1 n1 c1] w [.one .sl, .one (.int .i64)] K := by
  have e : vcFun Try.prog okf false Try.f59 head_End.A #[.agg #[.int .i64 p0_0, .int .i64 p0_1, .int .i64 p0_2, .int .u32 p0_3, .int .u64 p0_4, .int .u64 p0_5], .slice a1 n1 c1] w [.one .sl, .one (.int .i64)] K = head_End.P p0_0 p0_1 p0_2 p0_3 p0_4 p0_5 a1 n1 c1 w K := by kernel_rfl
  exact vcFun.calls okf_ok follows Try.func59 (e.symm ▸ h)

/-! ### nepenthe/nepentheref14.End: function 65 -/
def ref14_End.A : Ann := .two .no (.two (.draw (.take 0 (.take 2 (.eff 1 (.eff 3 (.eff 4 (.eff 5 (.take 6 (.done))))))))) .no)
def ref14_End.P (p0_0 : Int) (p0_1 : Int) (p0_2 : Int) (p0_3 : Int) (p0_4 : Int) (p0_5 : Int) (a1 : Option Addr) (n1 c1 : Nat) (w : World) (K : SlV × Unit → World → Prop) : Prop :=
  NewV #[.int .i64 p0_0, .int .i64 p0_1, .int .i64 p0_2, .int .u32 p0_3, .int .u64 p0_4, .int .u64 p0_5] 27 w fun b1 w2 =>
  DrawV fun D3 =>
  (D3 b1 ∧ LoadA w2.drew ⟨b1, 0, none⟩ [.int .i64, .int .i64, .int .i64, .int .u32, .int .u64, .int .u64] fun (x4 : Int × Int × Int × Int × Int × Int × Unit) =>
  (D3 b1 ∧ LoadA w2.drew ⟨b1, 0, none⟩ [.int .i64, .int .i64, .int .i64, .int .u32, .int .u64, .int .u64] fun (x5 : Int × Int × Int × Int × Int × Int × Unit) =>
  CallV Try.prog 95 #[.agg #[.int .i64 x4.1, .int .i64 x4.2.1, .int .i64 x4.2.2.1, .int .u32 x4.2.2.2.1, .int .u64 x4.2.2.2.2.1, .int .u64 x4.2.2.2.2.2.1]] w2.drew [.one .sl] fun (r6 : SlV × Unit) w7 =>
  KeepOn D3 w2.drew w7 ∧
  CallV Try.prog 95 #[.agg #[.int .i64 x5.1, .int .i64 x5.2.1, .int .i64 x5.2.2.1, .int .u32 x5.2.2.2.1, .int .u64 x5.2.2.2.2.1, .int .u64 x5.2.2.2.2.2.1]] w7 [.one .sl] fun (r8 : SlV × Unit) w9 =>
  KeepOn D3 w2.drew w9 ∧
  CallV Try.prog 96 #[.slice r8.1.a r8.1.n r8.1.c] w9 [.one .sl] fun (r10 : SlV × Unit) w11 =>
  KeepOn D3 w2.drew w11 ∧
  AppS w11 r10.1.a r10.1.n 1 fun ns16 =>
  AppV w11 5 1 1 r6.1.a r6.1.n r6.1.c ns16 r10.1.n fun a12 n13 c14 w15 =>
  KeepOn D3 w2.drew w15 ∧
  cond (((n1 : Nat) : Int) == 0)
  (CallV Try.prog 26 #[.int .u8 255, .int .i64 32] w15 [.one .sl] fun (r17 : SlV × Unit) w18 =>
  AppS w18 r17.1.a r17.1.n 1 fun ns23 =>
  AppV w18 5 1 1 a12 n13 c14 ns23 r17.1.n fun a19 n20 c21 w22 =>
  CallV Try.prog 26 #[.int .u8 255, .int .i64 8] w22 [.one .sl] fun (r24 : SlV × Unit) w25 =>
  AppS w25 r24.1.a r24.1.n 1 fun ns30 =>
  AppV w25 5 1 1 a19 n20 c21 ns30 r24.1.n fun a26 n27 c28 w29 =>
  K ((⟨a26, n27, c28⟩ : SlV), ()) w29)
  (AppS w15 a1 n1 1 fun ns35 =>
  AppV w15 5 1 1 a12 n13 c14 ns35 n1 fun a31 n32 c33 w34 =>
  CallV Try.prog 26 #[.int .u8 255, .int .i64 8] w34 [.one .sl] fun (r36 : SlV × Unit) w37 =>
  AppS w37 r36.1.a r36.1.n 1 fun ns42 =>
  AppV w37 5 1 1 a31 n32 c33 ns42 r36.1.n fun a38 n39 c40 w41 =>
  K ((⟨a38, n39, c40⟩ : SlV), ()) w41)))
theorem ref14_End.vc (p0_0 : Int) (p0_1 : Int) (p0_2 : Int) (p0_3 : Int) (p0_4 : Int) (p0_5 : Int) (a1 : Option Addr) (n1 c1 : Nat) (w : World) (K : SlV × Unit → World → Prop) (h : ref14_End.P p0_0 p0_1 p0_2 p0_3 p0_4 p0_5 a1 n1 c1 w K) : CallV Try.prog 65 #[.agg #[.int .i64 p0_0, .int .i64 p0_1, .int .i64 p0_2, .int .u32 p0_3, .int .u64 p0_4, .int .u64 p0_5], .slice a1 n1 c1] w [.one .sl] K := by
  have e : vcFun Try.prog okf false Try.f65 ref14_End.A #[.agg #[.int .i64 p0_0, .int .i64 p0_1, .int .i64 p0_2, .int .u32 p0_3, .int .u64 p0_4, .int .u64 p0_5], .slice a1 n1 c1] w [.one .sl] K = ref14_End.P p0_0 p0_1 p0_2 p0_3 p0_4 p0_5 a1 n1 c1 w K := by kernel_rfl
  exact vcFun.calls okf_ok follows Try.func65 (e.symm ▸ h)

end Go.Proofs.Ytfpkaebmiojicaa.Vc

/-! The contracts of layer 14 (head): a head's bytes. -/
namespace Go.Proofs.Ytfpkaebmiojicaa.Vc
open Go Go.Eng Go.RowKit
set_option linter.unusedVariables false
set_option linter.unusedSimpArgs false

/-- Bytes behind bytes of one's own. -/
theorem appL {w : World} {a a2 : Option Addr} {n c m c2 : Nat} {xs ys : List Int} {B : Nat} {K : Option Addr → Nat → Nat → World → Prop} (ho : Own w B 5 1 a n c (xs.map (Value.int .u8))) (hy : Ints w .u8 a2 m c2 ys) (hB : B ≤ w.heap.size) (hn : n + m ≤ 100000000)
    (hk : ∀ a' c' w', Own w' B 5 1 a' (n + m) c' ((xs ++ ys).map (Value.int .u8)) → Below B w w' → K a' (n + m) c' w') :
    AppS w a2 m 1 fun ns => AppV w 5 1 1 a n c ns m K := by
  refine AppS.of (news := ys.map (Value.int .u8)) (by rw [List.length_map, hy.len]; omega) hy.rd ?_
  refine AppV.own ho hB (by rw [List.length_map, hy.len]; omega) (oneAll.ints _ _) (by omega) (by omega) fun a' c' w' h1 h2 _ _ => ?_
  refine hk a' c' w' ?_ h2
  rw [List.map_append]
  exact h1
theorem Box.keep {w w' : World} {B B' b : Nat} {e : TypeId} {vs : List Value} (h : Box w B b e vs) (x : Below B' w w') (hb : b < B') : Box w' B b e vs := ⟨h.base, by rw [x.block b hb]; exact h.heap⟩

/-- A head's numbers. -/
structure Hd where
  k : Int
  n : Int
  c : Int
  l : Int
  e : Int
  t : Int
abbrev Hd.vs (h : Hd) : List Value := [.int .i64 h.k, .int .i64 h.n, .int .i64 h.c, .int .u32 h.l, .int .u64 h.e, .int .u64 h.t]
abbrev Hd.val (h : Hd) : Value := .agg #[.int .i64 h.k, .int .i64 h.n, .int .i64 h.c, .int .u32 h.l, .int .u64 h.e, .int .u64 h.t]
abbrev Hd.tup (h : Hd) : Int × Int × Int × Int × Int × Int × Unit := (h.k, h.n, h.c, h.l, h.e, h.t, ())
def Hd.rng (h : Hd) : Prop := (0 ≤ h.l ∧ h.l < 4294967296) ∧ (0 ≤ h.e ∧ h.e < 18446744073709551616) ∧ (0 ≤ h.t ∧ h.t < 18446744073709551616)
def HRight (h : Hd) : Prop := (1 ≤ h.k ∧ h.k ≤ 4) ∧ (0 ≤ h.n ∧ h.n ≤ 255) ∧ (0 ≤ h.c ∧ h.c ≤ 255)
instance (h : Hd) : Decidable (HRight h) := by unfold HRight; infer_instance
def big (n : Int) (k : Nat) : List Int := (leL n k).reverse
def hdL (h : Hd) : List Int := [h.k, h.n, h.c, 0] ++ big h.l 4 ++ big h.e 8 ++ big h.t 8
theorem big_length (n : Int) (k : Nat) : (big n k).length = k := by simp [big, leL_length]
theorem hdL_length (h : Hd) : (hdL h).length = 24 := by simp [hdL, big_length]

theorem newH {w : World} {h : Hd} {K : Nat → World → Prop} (hk : ∀ b w1, Ext w w1 → Box w1 w.heap.size b 27 h.vs → K b w1) : NewV #[.int .i64 h.k, .int .i64 h.n, .int .i64 h.c, .int .u32 h.l, .int .u64 h.e, .int .u64 h.t] 27 w K := newBox hk
theorem ldH {w : World} {h : Hd} {B b : Nat} {e : TypeId} (hb : Box w B b e h.vs) {K : Int × Int × Int × Int × Int × Int × Unit → Prop} (hk : K h.tup) : LoadA w ⟨b, 0, none⟩ [.int .i64, .int .i64, .int .i64, .int .u32, .int .u64, .int .u64] K := hb.lda (l := [.int .i64, .int .i64, .int .i64, .int .u32, .int .u64, .int .u64]) h.tup rfl hk
theorem Own.list {w : World} {xs : List Int} {n : Nat} (hn : n = xs.length) (h9 : n ≤ 9223372036854775807) : Own (w.alloc (.cells (xs.map (Value.int .u8)).toArray 5)) w.heap.size 5 1 (some ⟨w.heap.size, 0, none⟩) n n (xs.map (Value.int .u8)) := by
  have := Own.new (w := w) (B := w.heap.size) (e := 5) (sz := 1) (n := n) (c := n) (cs := xs.map (Value.int .u8)) (Nat.le_refl _) (by simp [hn]) (Nat.le_refl _) h9 (oneAll.ints _ _)
  rwa [List.take_of_length_le (by simp [hn])] at this

theorem wrap_u8 {x : Int} (h : 0 ≤ x ∧ x ≤ 255) : IntKind.u8.wrap x = x := by rw [u8_wrap]; omega

theorem HRight_c {w : World} {h : Hd} : CallV Try.prog 64 #[h.val] w [.one .bool] fun r w' => r.1 = decide (HRight h) ∧ Ext w w' := by
  refine ref14_Right.vc _ _ _ _ _ _ _ _ ?_
  unfold ref14_Right.P
  refine newH fun b1 w1 e1 hb => ?_
  have no : ¬ HRight h → (false = decide (HRight h) ∧ Ext w w1) := fun hr => ⟨(decide_eq_false hr).symm, e1⟩
  refine hb.ld (i := 0) (h := .int .i64) (x := h.k) rfl (cond_d (fun c1 => ?_) (fun hc => no (fun hr => by unfold HRight at hr; omega)))
  refine hb.ld (i := 0) (h := .int .i64) (x := h.k) rfl (cond_d (fun c2 => ?_) (fun hc => no (fun hr => by unfold HRight at hr; omega)))
  refine hb.ld (i := 1) (h := .int .i64) (x := h.n) rfl (cond_d (fun c3 => ?_) (fun hc => no (fun hr => by unfold HRight at hr; omega)))
  refine hb.ld (i := 1) (h := .int .i64) (x := h.n) rfl (cond_d (fun c4 => ?_) (fun hc => no (fun hr => by unfold HRight at hr; omega)))
  refine hb.ld (i := 2) (h := .int .i64) (x := h.c) rfl (cond_d (fun c5 => ?_) (fun hc => no (fun hr => by unfold HRight at hr; omega)))
  refine hb.ld (i := 2) (h := .int .i64) (x := h.c) rfl ?_
  refine ⟨?_, e1⟩
  apply decide_eq_decide.2
  unfold HRight
  omega

theorem c4 : cl8 4 = 4 := by decide
theorem c8 : cl8 8 = 8 := by decide

theorem Bytes_c {w : World} {h : Hd} (hg : h.rng) : CallV Try.prog 91 #[h.val] w [.one .sl, .one (.int .i64)] fun r w' => Ext w w' ∧ (HRight h → Res w w' r.1 (hdL h) ∧ r.2.1 = (0 : Int)) ∧ (¬ HRight h → r.1 = (⟨none, 0, 0⟩ : SlV) ∧ r.2.1 = (2 : Int)) := by
  unfold Hd.rng at hg
  refine head_Bytes.vc _ _ _ _ _ _ _ _ ?_
  unfold head_Bytes.P
  refine newH fun b1 w1 e1 hb => ?_
  have no : ∀ {w' : World}, ¬ HRight h → Ext w w' → (Ext w w' ∧ (HRight h → Res w w' (⟨none, 0, 0⟩ : SlV) (hdL h) ∧ (2 : Int) = (0 : Int)) ∧ (¬ HRight h → (⟨none, 0, 0⟩ : SlV) = (⟨none, 0, 0⟩ : SlV) ∧ (2 : Int) = (2 : Int))) := fun hr he => ⟨he, fun h => absurd h hr, fun _ => ⟨rfl, rfl⟩⟩
  refine hb.ld (i := 0) (h := .int .i64) (x := h.k) rfl ?_
  refine hb.ld (i := 1) (h := .int .i64) (x := h.n) rfl ?_
  refine hb.ld (i := 2) (h := .int .i64) (x := h.c) rfl ?_
  refine Loop1 (fun (y : Int × Unit) w' => ∃ i : Nat, y.1 = (i : Int) ∧ i ≤ 3 ∧ (∀ j, j < i → 0 ≤ [h.k, h.n, h.c].getD j 0 ∧ [h.k, h.n, h.c].getD j 0 ≤ 255) ∧ w' = w1) (fun (y : Int × Unit) _ => (3 - y.1).toNat) ⟨0, rfl, by omega, fun j hj => absurd hj (by omega), rfl⟩ ?_
  rintro ⟨(z : Int), ⟨⟩⟩ w' ⟨i, hz, h3, hr, rfl⟩
  dsimp only at hz ⊢
  subst hz
  refine cond_d (fun hlt => ?_) (fun hge => ?_)
  · refine ⟨⟨by omega, hlt⟩, [h.k, h.n, h.c].getD i 0, ?_, ?_⟩
    · rw [Int.toNat_natCast]
      match i, hlt with
      | 0, _ => rfl
      | 1, _ => rfl
      | 2, _ => rfl
      | n + 3, hh => exact absurd hh (by omega)
    · have bad : ¬ (0 ≤ [h.k, h.n, h.c].getD i 0 ∧ [h.k, h.n, h.c].getD i 0 ≤ 255) → ¬ HRight h := fun hb hrr => hb (by
        unfold HRight at hrr
        match i, hlt with
        | 0, _ => show 0 ≤ h.k ∧ h.k ≤ 255; omega
        | 1, _ => exact hrr.2.1
        | 2, _ => exact hrr.2.2
        | n + 3, hh => exact absurd hh (by omega))
      refine cond_d (fun hc => no (bad (by omega)) e1) (fun hc => cond_d (fun hc' => no (bad (by omega)) e1) (fun hc' => ?_))
      refine ⟨Rng.i64 (by omega) (by omega), ⟨i + 1, by push_cast; rfl, by omega, fun j hj => ?_, rfl⟩, by omega⟩
      by_cases hji : j = i
      · subst hji; omega
      · exact hr j (by omega)
  · have : i = 3 := by omega
    subst this
    have k0 : 0 ≤ h.k ∧ h.k ≤ 255 := hr 0 (by omega)
    have k1 : 0 ≤ h.n ∧ h.n ≤ 255 := hr 1 (by omega)
    have k2 : 0 ≤ h.c ∧ h.c ≤ 255 := hr 2 (by omega)
    refine hb.ld (i := 0) (h := .int .i64) (x := h.k) rfl (cond_d (fun hc => no (fun hr => by unfold HRight at hr; omega) e1) (fun c1 => ?_))
    refine hb.ld (i := 0) (h := .int .i64) (x := h.k) rfl (cond_d (fun hc => no (fun hr => by unfold HRight at hr; omega) e1) (fun c2 => ?_))
    have hR : HRight h := ⟨by omega, k1, k2⟩
    refine hb.ld (i := 0) (h := .int .i64) (x := h.k) rfl ?_
    refine hb.ld (i := 1) (h := .int .i64) (x := h.n) rfl ?_
    refine hb.ld (i := 2) (h := .int .i64) (x := h.c) rfl ?_
    rw [wrap_u8 k0, wrap_u8 k1, wrap_u8 k2]
    rintro b2 w2 rfl rfl
    have ho := Own.list (w := w') (xs := [h.k, h.n, h.c, 0]) (n := 4) rfl (by omega)
    have x2 : Ext w' (w'.alloc (.cells #[.int .u8 h.k, .int .u8 h.n, .int .u8 h.c, .int .u8 0] 5)) := Ext.alloc _ _
    generalize hw2 : w'.alloc (.cells #[.int .u8 h.k, .int .u8 h.n, .int .u8 h.c, .int .u8 0] 5) = w2 at x2 ⊢
    have ho2 : Own w2 w'.heap.size 5 1 (some ⟨w'.heap.size, 0, none⟩) 4 4 ([h.k, h.n, h.c, 0].map (Value.int .u8)) := by rw [← hw2]; exact ho
    refine (hb.ext x2).ld (i := 3) (h := .int .u32) (x := h.l) rfl ?_
    rw [show IntKind.u64.wrap h.l = h.l from u64_id (by omega) (by omega)]
    refine (Big_c (by omega)).mono ?_
    rintro ⟨(s3 : SlV), ⟨⟩⟩ w3 h3
    dsimp only at h3 ⊢
    rw [c4] at h3
    have l3 := h3.ints.len
    rw [List.length_reverse, leL_length] at l3
    have x3 := x2.trans h3.ext
    refine appL (ho2.ext h3.ext) h3.ints x3.size (by omega) fun a4 c4' w4 o4 b4 => ?_
    have x4 : Ext w' w4 := Below.trans x3 b4
    refine (hb.ext x4).ld (i := 4) (h := .int .u64) (x := h.e) rfl ?_
    refine (Big_c (by omega)).mono ?_
    rintro ⟨(s5 : SlV), ⟨⟩⟩ w5 h5
    dsimp only at h5 ⊢
    rw [c8] at h5
    have l5 := h5.ints.len
    rw [List.length_reverse, leL_length] at l5
    have x5 := x4.trans h5.ext
    refine appL (o4.ext h5.ext) h5.ints x5.size (by omega) fun a6 c6' w6 o6 b6 => ?_
    have x6 : Ext w' w6 := Below.trans x5 b6
    refine (hb.ext x6).ld (i := 5) (h := .int .u64) (x := h.t) rfl ?_
    refine (Big_c (by omega)).mono ?_
    rintro ⟨(s7 : SlV), ⟨⟩⟩ w7 h7
    dsimp only at h7 ⊢
    rw [c8] at h7
    have l7 := h7.ints.len
    rw [List.length_reverse, leL_length] at l7
    have x7 := x6.trans h7.ext
    refine appL (o6.ext h7.ext) h7.ints x7.size (by omega) fun a8 c8' w8 o8 b8 => ?_
    have x8 : Ext w' w8 := Below.trans x7 b8
    exact ⟨e1.trans x8, fun _ => ⟨⟨e1.trans x8, o8.mono e1.size⟩, rfl⟩, fun hn => absurd hR hn⟩

theorem rBytes_c {w : World} {h : Hd} (hg : h.rng) (hR : HRight h) : CallV Try.prog 95 #[h.val] w [.one .sl] fun r w' => Res w w' r.1 (hdL h) := by
  unfold Hd.rng at hg
  have hR' := hR
  unfold HRight at hR'
  refine ref14_Bytes.vc _ _ _ _ _ _ _ _ ?_
  unfold ref14_Bytes.P
  refine newH fun b1 w1 e1 hb => ?_
  refine DrawV.old w1 fun D hD hkeep => ?_
  have hD1 := hD _ hb.lt
  have hd := hb.ext (Ext.drew w1)
  refine ⟨hD1, hd.ld (i := 0) (h := .int .i64) (x := h.k) rfl ⟨hD1, hd.ld (i := 1) (h := .int .i64) (x := h.n) rfl ⟨hD1, hd.ld (i := 2) (h := .int .i64) (x := h.c) rfl ⟨hD1, hd.ld (i := 3) (h := .int .u32) (x := h.l) rfl ?_⟩⟩⟩⟩
  rw [show IntKind.u64.wrap h.l = h.l from u64_id (by omega) (by omega), wrap_u8 (by omega : 0 ≤ h.k ∧ h.k ≤ 255), wrap_u8 hR'.2.1, wrap_u8 hR'.2.2]
  have tail : ∀ (a : Option Addr) (c : Nat) (w4 : World), Ext w1 w4 → Own w4 w1.heap.size 5 1 a (4 + 4) c (([h.k, h.n, h.c, 0] ++ big h.l 4).map (Value.int .u8)) → LoadS w4 ⟨b1, 4, none⟩ (.int .u64) fun (x17 : Int) =>
      CallV Try.prog 120 #[.int .u64 x17, .int .i64 8] w4 [.one .sl] fun (r18 : SlV × Unit) w19 =>
      AppS w19 r18.1.a r18.1.n 1 fun ns24 =>
      AppV w19 5 1 1 a (4 + 4) c ns24 r18.1.n fun a20 n21 c22 w23 =>
      LoadS w23 ⟨b1, 5, none⟩ (.int .u64) fun (x25 : Int) =>
      CallV Try.prog 120 #[.int .u64 x25, .int .i64 8] w23 [.one .sl] fun (r26 : SlV × Unit) w27 =>
      AppS w27 r26.1.a r26.1.n 1 fun ns32 =>
      AppV w27 5 1 1 a20 n21 c22 ns32 r26.1.n fun a28 n29 c30 w31 => Res w w31 (⟨a28, n29, c30⟩ : SlV) (hdL h) := by
    intro a c w4 x4 o4
    refine (hb.ext x4).ld (i := 4) (h := .int .u64) (x := h.e) rfl ?_
    refine (rBig_c (by omega) (by omega)).mono ?_
    rintro ⟨(s5 : SlV), ⟨⟩⟩ w5 h5
    dsimp only at h5 ⊢
    rw [c8] at h5
    have l5 := h5.ints.len
    rw [List.length_reverse, leL_length] at l5
    have x5 := x4.trans h5.ext
    refine appL (o4.ext h5.ext) h5.ints x5.size (by omega) fun a6 c6' w6 o6 b6 => ?_
    have x6 : Ext w1 w6 := Below.trans x5 b6
    refine (hb.ext x6).ld (i := 5) (h := .int .u64) (x := h.t) rfl ?_
    refine (rBig_c (by omega) (by omega)).mono ?_
    rintro ⟨(s7 : SlV), ⟨⟩⟩ w7 h7
    dsimp only at h7 ⊢
    rw [c8] at h7
    have l7 := h7.ints.len
    rw [List.length_reverse, leL_length] at l7
    have x7 := x6.trans h7.ext
    refine appL (o6.ext h7.ext) h7.ints x7.size (by omega) fun a8 c8' w8 o8 b8 => ?_
    have x8 : Ext w1 w8 := Below.trans x7 b8
    exact ⟨e1.trans x8, o8.mono e1.size⟩
  constructor
  · rintro b2 w2 rfl rfl
    have ho := Own.list (w := w1.drew) (xs := [h.k, h.n, h.c, 0]) (n := 4) rfl (by omega)
    have x2 : Ext w1 (w1.drew.alloc (.cells #[.int .u8 h.k, .int .u8 h.n, .int .u8 h.c, .int .u8 0] 5)) := (Ext.drew w1).trans (Ext.alloc _ _)
    refine ⟨hkeep _ x2, ?_⟩
    refine (rBig_c (by omega) (by omega)).mono ?_
    rintro ⟨⟨sa, sn, sc⟩, ⟨⟩⟩ w3 h3
    dsimp only at h3 ⊢
    rw [c4] at h3
    have l3 := h3.ints.len
    rw [List.length_reverse, leL_length] at l3
    dsimp only at l3
    subst l3
    have x3 := x2.trans h3.ext
    refine ⟨hkeep _ x3, ?_⟩
    refine appL (ho.ext h3.ext) h3.ints x3.size (by omega) fun a4 c4' w4 o4 b4 => ?_
    have x4 : Ext w1 w4 := Below.trans x3 b4
    refine ⟨hkeep _ x4, ?_⟩
    exact tail a4 c4' w4 x4 o4
  · refine (rBig_c (by omega) (by omega)).mono ?_
    rintro ⟨⟨sa, sn, sc⟩, ⟨⟩⟩ w3 h3
    dsimp only at h3 ⊢
    rw [c4] at h3
    have l3 := h3.ints.len
    rw [List.length_reverse, leL_length] at l3
    dsimp only at l3
    subst l3
    have x3 := (Ext.drew w1).trans h3.ext
    refine ⟨hkeep _ x3, ?_⟩
    rintro b2 w2 rfl rfl
    have ho := Own.list (w := w3) (xs := [h.k, h.n, h.c, 0]) (n := 4) rfl (by omega)
    have x2 : Ext w3 (w3.alloc (.cells #[.int .u8 h.k, .int .u8 h.n, .int .u8 h.c, .int .u8 0] 5)) := Ext.alloc _ _
    refine ⟨hkeep _ (x3.trans x2), ?_⟩
    refine appL ho (h3.ints.ext x2) x2.size (by omega) fun a4 c4' w4 o4 b4 => ?_
    have x4 : Ext w1 w4 := x3.trans (Below.trans x2 b4)
    refine ⟨hkeep _ x4, ?_⟩
    exact tail a4 c4' w4 x4 (o4.mono x3.size)

end Go.Proofs.Ytfpkaebmiojicaa.Vc

/-! The plans of functions as plain statements, printed by wip/tools/vcgen.py; the kernel holds each to the code. -/
namespace Go.Proofs.Ytfpkaebmiojicaa.Vc
open Go Go.Eng
set_option linter.unusedVariables false



end Go.Proofs.Ytfpkaebmiojicaa.Vc

/-! The law HeadBytes of layer 14: each call gives true, and what it read stays. -/
namespace Go.Proofs.Ytfpkaebmiojicaa.Vc
open Go Go.Eng Go.RowKit
set_option linter.unusedVariables false
set_option linter.unusedSimpArgs false

theorem MarkLen_c {w : World} {n : Int} (h : 88 ≤ n ∧ n ≤ 4184) : CallV Try.prog 60 #[.int .i64 n] w [.one .sl] fun r w' => Res w w' r.1 (List.replicate (n - 8).toNat 255 ++ List.replicate 8 0) := by
  refine head_Mark.vc _ _ _ ?_
  unfold head_Mark.P
  refine cond_d (fun h => by omega) (fun _ => cond_d (fun h => by omega) (fun _ => ⟨Rng.i64 (by omega) (by omega), ?_⟩))
  refine Fill_c.mono ?_
  rintro ⟨(s1 : SlV), ⟨⟩⟩ w1 h1
  refine Fill_c.mono ?_
  rintro ⟨(s2 : SlV), ⟨⟩⟩ w2 h2
  dsimp only at h1 h2 ⊢
  generalize hL : (65536 : Int) = L at h1 h2
  rw [show max 0 (min L (n - 8)) = n - 8 by omega] at h1
  rw [show (max 0 (min L 8)).toNat = 8 by omega] at h2
  have l1 := h1.ints.len
  have l2 := h2.ints.len
  rw [List.length_replicate] at l1 l2
  refine appL (h1.own.ext h2.ext) h2.ints (Nat.le_trans h1.ext.size h2.ext.size) (by omega) fun a' c' w' o b => ?_
  exact ⟨Below.trans (h1.ext.trans h2.ext) b, o⟩

abbrev THd : Ty := .cons (.int .i64) (.cons (.int .i64) (.cons (.int .i64) (.cons (.int .u32) (.cons (.int .u64) (.cons (.int .u64) .nil)))))
def hdT (x : THd.T) : Hd := ⟨x.1, x.2.1, x.2.2.1, x.2.2.2.1, x.2.2.2.2.1, x.2.2.2.2.2.1⟩
theorem hdT_val (x : THd.T) : (.agg (THd.vs x).toArray : Value) = (hdT x).val := rfl
theorem rng_u32 {x : Int} (h : Rng .u32 x) : 0 ≤ x ∧ x < 4294967296 := by
  unfold Rng at h
  have e1 : IntKind.u32.min = 0 := by decide
  have e2 : IntKind.u32.max = 4294967295 := by decide
  omega
theorem hdT_rng {w : World} {x : THd.T} (g : THd.ok w x) : (hdT x).rng :=
  ⟨rng_u32 g.2.2.2.1, rng_u64 g.2.2.2.2.1, rng_u64 g.2.2.2.2.2.1⟩
end Go.Proofs.Ytfpkaebmiojicaa.Vc

/-! The contracts of layer 14 (head): an end's bytes, and is it committed. -/
namespace Go.Proofs.Ytfpkaebmiojicaa.Vc
open Go Go.Eng Go.RowKit
set_option linter.unusedVariables false
set_option linter.unusedSimpArgs false

theorem appLB {w : World} {a a2 : Option Addr} {n c m c2 : Nat} {xs ys : List Int} {B : Nat} {K : Option Addr → Nat → Nat → World → Prop} (ho : Own w B 5 1 a n c (xs.map (Value.int .u8))) (hy : Ints w .u8 a2 m c2 ys) (hB : B ≤ w.heap.size) (hn : n + m ≤ 100000000)
    (hk : ∀ a' c' w', Own w' B 5 1 a' (n + m) c' ((xs ++ ys).map (Value.int .u8)) → Below B w w' → But a w w' → K a' (n + m) c' w') :
    AppS w a2 m 1 fun ns => AppV w 5 1 1 a n c ns m K := by
  refine AppS.of (news := ys.map (Value.int .u8)) (by rw [List.length_map, hy.len]; omega) hy.rd ?_
  refine AppV.own ho hB (by rw [List.length_map, hy.len]; omega) (oneAll.ints _ _) (by omega) (by omega) fun a' c' w' h1 h2 h3 _ => ?_
  refine hk a' c' w' ?_ h2 h3
  rw [List.map_append]
  exact h1
theorem intsU_but {w w' : World} {a a2 : Option Addr} {n c : Nat} {xs : List Int} (h : Ints w .u8 a n c xs) (x : But a2 w w') (hne : ∀ p q, a = some p → a2 = some q → p.block ≠ q.block) : Ints w' .u8 a n c xs := by
  refine ⟨h.len, h.cap, h.lim, ?_⟩
  rcases h.rd with h1 | ⟨p, h1, h2⟩
  · exact .inl h1
  · refine .inr ⟨p, h1, ?_⟩
    cases hx : xs.map (Value.int .u8) with
    | nil => intro j v hv; simp at hv
    | cons v vs =>
      rw [hx] at h2
      exact cells_same (x _ (cells_lt h2) (fun q hq => hne p q h1 hq)) h2
theorem Res.apart {w0 w1 w2 : World} {s t : SlV} {xs ys : List Int} (h : Res w0 w1 s xs) (k : Res w1 w2 t ys) : ∀ p q, t.a = some p → s.a = some q → p.block ≠ q.block := by
  intro p q hp hq
  rcases h.own.at_ with ⟨h1, _⟩ | ⟨b, cs, h1, _, h3, _⟩
  · rw [h1] at hq; cases hq
  · rcases k.own.at_ with ⟨k1, _⟩ | ⟨b', cs', k1, k2, _⟩
    · rw [k1] at hp; cases hp
    · rw [k1] at hp; rw [h1] at hq
      have e1 := Option.some.inj hp
      have e2 := Option.some.inj hq
      subst e1; subst e2
      have hlt : b < w1.heap.size := (Array.getElem?_eq_some_iff.1 h3).1
      show b' ≠ b
      omega

def tagL (tg : List Int) : List Int := if tg.length = 0 then List.replicate 32 255 else tg
def endL (h : Hd) (tg : List Int) : List Int := ((hdL h ++ invL (hdL h)) ++ tagL tg) ++ List.replicate 8 255
def ERight (h : Hd) (n : Nat) : Prop := HRight h ∧ (n = 0 ∨ n = 32)
instance (h : Hd) (n : Nat) : Decidable (ERight h n) := by unfold ERight; infer_instance
theorem invL_length (xs : List Int) : (invL xs).length = xs.length := by simp [invL]
theorem fill32 : (max 0 (min (65536 : Int) 32)).toNat = 32 := by generalize hL : (65536 : Int) = L; omega
theorem fill8 : (max 0 (min (65536 : Int) 8)).toNat = 8 := by generalize hL : (65536 : Int) = L; omega

theorem End_c {w : World} {h : Hd} {a : Option Addr} {n c : Nat} {tg : List Int} (hg : h.rng) (ht : Ints w .u8 a n c tg) :
    CallV Try.prog 59 #[h.val, .slice a n c] w [.one .sl, .one (.int .i64)] fun r w' => Ext w w' ∧ (ERight h n → Res w w' r.1 (endL h tg) ∧ r.2.1 = (0 : Int)) ∧ (¬ ERight h n → r.1 = (⟨none, 0, 0⟩ : SlV) ∧ r.2.1 = (2 : Int)) := by
  refine head_End.vc _ _ _ _ _ _ _ _ _ _ _ ?_
  unfold head_End.P
  have lt := ht.len
  refine newH fun b1 w1 e1 hb => ?_
  refine ldH hb ?_
  refine (Bytes_c (h := h) hg).mono ?_
  rintro ⟨⟨sa, sn, sc⟩, (e2 : Int), ⟨⟩⟩ w2 ⟨x2, h2, h2'⟩
  dsimp only at h2 h2' ⊢
  have E2 := e1.trans x2
  have no : ∀ {w' : World}, ¬ ERight h n → Ext w w' → (Ext w w' ∧ (ERight h n → Res w w' (⟨none, 0, 0⟩ : SlV) (endL h tg) ∧ (2 : Int) = (0 : Int)) ∧ (¬ ERight h n → (⟨none, 0, 0⟩ : SlV) = (⟨none, 0, 0⟩ : SlV) ∧ (2 : Int) = (2 : Int))) := fun hr he => ⟨he, fun h => absurd h hr, fun _ => ⟨rfl, rfl⟩⟩
  by_cases hR : ¬ HRight h
  · obtain ⟨_, k2⟩ := h2' hR
    refine cond_t (by rw [k2]; rfl) ?_
    have := no (w' := w2) (fun hh => hR hh.1) E2
    rw [k2]
    exact this
  have hR := Decidable.not_not.1 hR
  obtain ⟨k1, k2⟩ := h2 hR
  have l1 := k1.ints.len
  rw [hdL_length] at l1
  dsimp only at l1
  subst l1
  refine cond_f (by rw [k2]; rfl) ?_
  have fin : ∀ {w' : World} {a' : Option Addr} {m c' : Nat}, Ext w w' → Own w' w1.heap.size 5 1 a' m c' ((endL h tg).map (Value.int .u8)) → ERight h n →
      (Ext w w' ∧ (ERight h n → Res w w' (⟨a', m, c'⟩ : SlV) (endL h tg) ∧ (0 : Int) = (0 : Int)) ∧ (¬ ERight h n → (⟨a', m, c'⟩ : SlV) = (⟨none, 0, 0⟩ : SlV) ∧ (0 : Int) = (2 : Int))) := fun e o hr =>
    ⟨e, fun _ => ⟨⟨e, o.mono e1.size⟩, rfl⟩, fun hn => absurd hr hn⟩
  refine cond_eq (fun h0 => ?_) (fun h0 => ?_)
  · refine Fill_c.mono ?_
    rintro ⟨⟨ta, tn, tc⟩, ⟨⟩⟩ w3 h3
    dsimp only at h3 ⊢
    rw [fill32] at h3
    have l3 := h3.ints.len
    rw [List.length_replicate] at l3
    dsimp only at l3
    subst l3
    refine cond_ne (fun hh => absurd rfl hh) (fun _ => ?_)
    refine (Invert_c (k1.ints.ext h3.ext) (by dsimp only; omega)).mono ?_
    rintro ⟨⟨va, vn, vc⟩, ⟨⟩⟩ w4 h4
    dsimp only at h4 ⊢
    have l4 := h4.ints.len
    rw [invL_length, hdL_length] at l4
    dsimp only at l4
    subst l4
    have x4 := h3.ext.trans h4.ext
    have X4 : Ext w1 w4 := x2.trans x4
    refine appLB (k1.own.ext x4) h4.ints X4.size (by omega) fun a5 c5 w5 o5 b5 but5 => ?_
    have X5 : Ext w1 w5 := Below.trans X4 b5
    have i5 := intsU_but (h3.ints.ext h4.ext) but5 (Res.apart k1 h3)
    refine appL o5 i5 X5.size (by omega) fun a6 c6 w6 o6 b6 => ?_
    have X6 : Ext w1 w6 := Below.trans X5 b6
    refine Fill_c.mono ?_
    rintro ⟨⟨ua, un, uc⟩, ⟨⟩⟩ w7 h7
    dsimp only at h7 ⊢
    rw [fill8] at h7
    have l7 := h7.ints.len
    rw [List.length_replicate] at l7
    dsimp only at l7
    subst l7
    have X7 := X6.trans h7.ext
    refine appL (o6.ext h7.ext) h7.ints X7.size (by omega) fun a8 c8 w8 o8 b8 => ?_
    have X8 : Ext w1 w8 := Below.trans X7 b8
    have ht0 : tagL tg = List.replicate 32 255 := by unfold tagL; rw [if_pos (by omega)]
    refine fin (e1.trans X8) ?_ ⟨hR, .inl (by omega)⟩
    unfold endL
    rw [ht0]
    exact o8
  · refine cond_ne (fun hh => no (fun hr => by unfold ERight at hr; omega) E2) (fun h32 => ?_)
    refine (Invert_c k1.ints (by dsimp only; omega)).mono ?_
    rintro ⟨⟨va, vn, vc⟩, ⟨⟩⟩ w4 h4
    dsimp only at h4 ⊢
    have l4 := h4.ints.len
    rw [invL_length, hdL_length] at l4
    dsimp only at l4
    subst l4
    have X4 : Ext w1 w4 := x2.trans h4.ext
    refine appL (k1.own.ext h4.ext) h4.ints X4.size (by omega) fun a5 c5 w5 o5 b5 => ?_
    have X5 : Ext w1 w5 := Below.trans X4 b5
    refine appL o5 (ht.ext (e1.trans X5)) X5.size (by omega) fun a6 c6 w6 o6 b6 => ?_
    have X6 : Ext w1 w6 := Below.trans X5 b6
    refine Fill_c.mono ?_
    rintro ⟨⟨ua, un, uc⟩, ⟨⟩⟩ w7 h7
    dsimp only at h7 ⊢
    rw [fill8] at h7
    have l7 := h7.ints.len
    rw [List.length_replicate] at l7
    dsimp only at l7
    subst l7
    have X7 := X6.trans h7.ext
    refine appL (o6.ext h7.ext) h7.ints X7.size (by omega) fun a8 c8 w8 o8 b8 => ?_
    have X8 : Ext w1 w8 := Below.trans X7 b8
    have ht0 : tagL tg = tg := by unfold tagL; rw [if_neg (by omega)]
    refine fin (e1.trans X8) ?_ ⟨hR, .inr (by omega)⟩
    unfold endL
    rw [ht0]
    exact o8

theorem rEnd_c {w : World} {h : Hd} {a : Option Addr} {n c : Nat} {tg : List Int} (hg : h.rng) (ht : Ints w .u8 a n c tg) (hE : ERight h n) :
    CallV Try.prog 65 #[h.val, .slice a n c] w [.one .sl] fun r w' => Res w w' r.1 (endL h tg) := by
  have hR := hE.1
  have hE' := hE.2
  refine ref14_End.vc _ _ _ _ _ _ _ _ _ _ _ ?_
  unfold ref14_End.P
  have lt := ht.len
  refine newH fun b1 w1 e1 hb => ?_
  refine DrawV.old w1 fun D hD hkeep => ?_
  have hD1 := hD _ hb.lt
  have hd := hb.ext (Ext.drew w1)
  refine ⟨hD1, ldH hd ⟨hD1, ldH hd ?_⟩⟩
  refine (rBytes_c (h := h) hg hR).mono ?_
  rintro ⟨⟨sa, sn, sc⟩, ⟨⟩⟩ w2 h2
  have x2 := (Ext.drew w1).trans h2.ext
  refine ⟨hkeep _ x2, ?_⟩
  refine (rBytes_c (h := h) hg hR).mono ?_
  rintro ⟨(s3 : SlV), ⟨⟩⟩ w3 h3
  dsimp only at h2 h3 ⊢
  have l2 := h2.ints.len
  rw [hdL_length] at l2
  dsimp only at l2
  subst l2
  have l3 := h3.ints.len
  rw [hdL_length] at l3
  have x3 := x2.trans h3.ext
  refine ⟨hkeep _ x3, ?_⟩
  refine (rInvert_c h3.ints (by omega)).mono ?_
  rintro ⟨⟨va, vn, vc⟩, ⟨⟩⟩ w4 h4
  dsimp only at h4 ⊢
  have l4 := h4.ints.len
  rw [invL_length, hdL_length] at l4
  dsimp only at l4
  subst l4
  have x4 := x3.trans h4.ext
  refine ⟨hkeep _ x4, ?_⟩
  have o4 := (h2.own.ext (h3.ext.trans h4.ext)).mono (Ext.drew w1).size
  refine appL o4 h4.ints x4.size (by omega) fun a5 c5 w5 o5 b5 => ?_
  have X5 : Ext w1 w5 := Below.trans x4 b5
  refine ⟨hkeep _ X5, ?_⟩
  refine cond_eq (fun h0 => ?_) (fun h0 => ?_)
  · refine rFill_c.mono ?_
    rintro ⟨⟨ta, tn, tc⟩, ⟨⟩⟩ w6 h6
    dsimp only at h6 ⊢
    rw [fill32] at h6
    have l6 := h6.ints.len
    rw [List.length_replicate] at l6
    dsimp only at l6
    subst l6
    have X6 := X5.trans h6.ext
    refine appL (o5.ext h6.ext) h6.ints X6.size (by omega) fun a7 c7 w7 o7 b7 => ?_
    have X7 : Ext w1 w7 := Below.trans X6 b7
    refine rFill_c.mono ?_
    rintro ⟨⟨ua, un, uc⟩, ⟨⟩⟩ w8 h8
    dsimp only at h8 ⊢
    rw [fill8] at h8
    have l8 := h8.ints.len
    rw [List.length_replicate] at l8
    dsimp only at l8
    subst l8
    have X8 := X7.trans h8.ext
    refine appL (o7.ext h8.ext) h8.ints X8.size (by omega) fun a9 c9 w9 o9 b9 => ?_
    have ht0 : tagL tg = List.replicate 32 255 := by unfold tagL; rw [if_pos (by omega)]
    refine ⟨e1.trans (Below.trans X8 b9), ?_⟩
    unfold endL
    rw [ht0]
    exact o9.mono e1.size
  · refine appL o5 (ht.ext (e1.trans X5)) X5.size (by omega) fun a7 c7 w7 o7 b7 => ?_
    have X7 : Ext w1 w7 := Below.trans X5 b7
    refine rFill_c.mono ?_
    rintro ⟨⟨ua, un, uc⟩, ⟨⟩⟩ w8 h8
    dsimp only at h8 ⊢
    rw [fill8] at h8
    have l8 := h8.ints.len
    rw [List.length_replicate] at l8
    dsimp only at l8
    subst l8
    have X8 := X7.trans h8.ext
    refine appL (o7.ext h8.ext) h8.ints X8.size (by omega) fun a9 c9 w9 o9 b9 => ?_
    have ht0 : tagL tg = tg := by unfold tagL; rw [if_neg (by omega)]
    refine ⟨e1.trans (Below.trans X8 b9), ?_⟩
    unfold endL
    rw [ht0]
    exact o9.mono e1.size

def comm (xs : List Int) : Bool := decide (xs.length = 88 ∧ xs.drop 80 = List.replicate 8 0)
theorem Committed_c {w : World} {a : Option Addr} {n c : Nat} {xs : List Int} (hx : Ints w .u8 a n c xs) (bx : Byt xs) :
    CallV Try.prog 68 #[.slice a n c] w [.one .bool] fun r w' => r.1 = comm xs ∧ Ext w w' := by
  refine head_Committed.vc _ _ _ _ _ ?_
  unfold head_Committed.P
  have lx := hx.len
  refine DrawV.old w fun D hD hkeep => ?_
  refine cond_eq (fun h88 => ?_) (fun h88 => ⟨(decide_eq_false (fun hh => h88 (by omega))).symm, Ext.drew w⟩)
  refine ⟨by omega, ?_⟩
  intro a2 ha2
  have hs := (hx.ext (Ext.drew w)).sub (l := 80) (hh := n) (m := c) (by omega) (Nat.le_refl _) hx.cap ha2
  rw [List.take_of_length_le (by rw [List.length_drop]; omega)] at hs
  refine Fill_c.mono ?_
  rintro ⟨(s3 : SlV), ⟨⟩⟩ w3 h3
  dsimp only at h3 ⊢
  rw [fill8] at h3
  have x3 := (Ext.drew w).trans h3.ext
  refine ⟨hkeep _ x3, ?_⟩
  refine (Same_c (hs.ext h3.ext) h3.ints (bx.drop 80) (Byt.replicate (by omega) (by omega) _)).mono ?_
  rintro ⟨(r4 : Bool), ⟨⟩⟩ w4 ⟨h4, e4⟩
  refine ⟨hkeep _ (x3.trans e4), ?_, x3.trans e4⟩
  dsimp only at h4 ⊢
  rw [h4]
  unfold comm
  exact decide_eq_decide.2 ⟨fun h => ⟨by omega, h⟩, fun h => h.2⟩
theorem rCommitted_c {w : World} {a : Option Addr} {n c : Nat} {xs : List Int} (hx : Ints w .u8 a n c xs) (hn : n = 88) :
    CallV Try.prog 70 #[.slice a n c] w [.one .bool] fun r w' => r.1 = comm xs ∧ Ext w w' := by
  refine ref14_Committed.vc _ _ _ _ _ ?_
  unfold ref14_Committed.P
  have lx := hx.len
  refine DrawV.old w fun D hD hkeep => ?_
  refine ⟨by omega, ?_⟩
  intro a2 ha2
  have hs := (hx.ext (Ext.drew w)).sub (l := 80) (hh := n) (m := c) (by omega) (Nat.le_refl _) hx.cap ha2
  rw [List.take_of_length_le (by rw [List.length_drop]; omega)] at hs
  refine rFill_c.mono ?_
  rintro ⟨(s3 : SlV), ⟨⟩⟩ w3 h3
  dsimp only at h3 ⊢
  rw [fill8] at h3
  have x3 := (Ext.drew w).trans h3.ext
  refine ⟨hkeep _ x3, ?_⟩
  refine (SameBytes_c (hs.ext h3.ext) h3.ints).mono ?_
  rintro ⟨(r4 : Bool), ⟨⟩⟩ w4 ⟨h4, e4⟩
  refine ⟨hkeep _ (x3.trans e4), ?_, x3.trans e4⟩
  dsimp only at h4 ⊢
  rw [h4]
  unfold comm
  exact decide_eq_decide.2 ⟨fun h => ⟨by omega, h⟩, fun h => h.2⟩

end Go.Proofs.Ytfpkaebmiojicaa.Vc

/-! Plain laws for layer 14 (head): numbers of bytes, back as bytes. -/
namespace Go.Proofs.Ytfpkaebmiojicaa.Vc
open Go Go.Eng Go.RowKit
set_option linter.unusedVariables false
set_option linter.unusedSimpArgs false

theorem leL_cons (n : Int) (h : 0 ≤ n) (k : Nat) : leL n (k + 1) = n % 256 :: leL (n / 256) k := by
  refine List.ext_getElem (by simp [leL_length]) fun i h1 h2 => ?_
  rw [leL_get]
  cases i with
  | zero => simp
  | succ i =>
    rw [List.getElem_cons_succ, leL_get, Int.pow_succ, Int.mul_comm, ← Int.ediv_ediv_of_nonneg (by omega)]
theorem leL_leN : ∀ {xs : List Int}, Byt xs → leL (leN xs) xs.length = xs
  | [], _ => rfl
  | x :: xs, hb => by
    have hx := hb x (List.mem_cons_self ..)
    have hb' : Byt xs := fun y hy => hb y (List.mem_cons_of_mem _ hy)
    have bd := leN_bd hb'
    have bd2 := leN_bd hb
    have e : leN (x :: xs) = x + 256 * leN xs := rfl
    rw [List.length_cons, leL_cons _ bd2.1, e, show (x + 256 * leN xs) % 256 = x by omega, show (x + 256 * leN xs) / 256 = leN xs by omega, leL_leN hb']
theorem big_numB {xs : List Int} (hb : Byt xs) (h8 : xs.length ≤ 8) : big (numB xs) xs.length = xs := by
  unfold big numB
  rw [List.take_of_length_le (by rw [List.length_reverse]; exact h8)]
  have := leL_leN hb.reverse
  rw [List.length_reverse] at this
  rw [this, List.reverse_reverse]
theorem numB_bd {xs : List Int} (hb : Byt xs) {k : Nat} (h : xs.length = k) (h8 : k ≤ 8) : 0 ≤ numB xs ∧ numB xs < 256 ^ k := by
  unfold numB
  rw [List.take_of_length_le (by rw [List.length_reverse]; omega)]
  have := leN_bd hb.reverse
  rw [List.length_reverse, h] at this
  exact this

/-- What an end's first bytes say. -/
def part (xs : List Int) (i j : Nat) : List Int := (xs.drop i).take (j - i)
theorem part_length {xs : List Int} {i j : Nat} (h : j ≤ xs.length) (hi : i ≤ j) : (part xs i j).length = j - i := by unfold part; simp; omega
theorem part_byt {xs : List Int} (hb : Byt xs) (i j : Nat) : Byt (part xs i j) := (hb.drop i).take _
def hdOf (xs : List Int) : Hd := ⟨xs.getD 0 0, xs.getD 1 0, xs.getD 2 0, numB (part xs 4 8), numB (part xs 8 16), numB (part xs 16 24)⟩
def okR (xs : List Int) : Prop := (1 ≤ xs.getD 0 0 ∧ xs.getD 0 0 ≤ 4) ∧ xs.getD 3 0 = 0 ∧ invL (part xs 0 24) = part xs 24 48
instance (xs : List Int) : Decidable (okR xs) := by unfold okR; infer_instance
theorem part_split (xs : List Int) {i j k : Nat} (h1 : i ≤ j) (h2 : j ≤ k) : part xs i j ++ part xs j k = part xs i k := by
  unfold part
  rw [show k - i = (j - i) + (k - j) by omega, List.take_add, List.drop_drop, show i + (j - i) = j by omega]
theorem part4 {xs : List Int} (h : 4 ≤ xs.length) : part xs 0 4 = [xs.getD 0 0, xs.getD 1 0, xs.getD 2 0, xs.getD 3 0] := by
  unfold part
  match xs, h with
  | a :: b :: c :: d :: t, _ => rfl
theorem hdL_of {xs : List Int} (hb : Byt xs) (hl : 24 ≤ xs.length) : hdL (hdOf xs) = [xs.getD 0 0, xs.getD 1 0, xs.getD 2 0, 0] ++ part xs 4 8 ++ part xs 8 16 ++ part xs 16 24 := by
  unfold hdL hdOf
  have a := big_numB (part_byt hb 4 8) (by rw [part_length (by omega) (by omega)]; omega)
  have b := big_numB (part_byt hb 8 16) (by rw [part_length (by omega) (by omega)]; omega)
  have c := big_numB (part_byt hb 16 24) (by rw [part_length (by omega) (by omega)]; omega)
  rw [part_length (by omega) (by omega)] at a b c
  dsimp only
  rw [show (4 : Nat) = 8 - 4 from rfl, a, show (8 : Nat) = 16 - 8 from rfl, b]
  rw [show (16 - 8 : Nat) = 24 - 16 from rfl, c]
theorem hdL_eq {xs : List Int} (hb : Byt xs) (hl : 24 ≤ xs.length) : hdL (hdOf xs) = part xs 0 24 ↔ xs.getD 3 0 = 0 := by
  rw [hdL_of hb hl, ← part_split xs (show 0 ≤ 16 by omega) (show 16 ≤ 24 by omega), ← part_split xs (show 0 ≤ 8 by omega) (show 8 ≤ 16 by omega), ← part_split xs (show 0 ≤ 4 by omega) (show 4 ≤ 8 by omega), part4 (by omega)]
  constructor
  · intro h
    have := congrArg (fun l => l.getD 3 0) h
    simpa using this.symm
  · intro h
    rw [h]
theorem hdOf_rng {xs : List Int} (hb : Byt xs) (hl : 24 ≤ xs.length) : (hdOf xs).rng := by
  have a := numB_bd (part_byt hb 4 8) (part_length (by omega) (by omega)) (by omega)
  have b := numB_bd (part_byt hb 8 16) (part_length (by omega) (by omega)) (by omega)
  have c := numB_bd (part_byt hb 16 24) (part_length (by omega) (by omega)) (by omega)
  exact ⟨a, b, c⟩
theorem hdOf_right {xs : List Int} (hb : Byt xs) : HRight (hdOf xs) ↔ 1 ≤ xs.getD 0 0 ∧ xs.getD 0 0 ≤ 4 := by
  have h1 := hb.getD 1
  have h2 := hb.getD 2
  unfold HRight hdOf
  dsimp only
  omega
/-- What the document asks of an end is what the program asks. -/
theorem okR_iff {xs : List Int} (hb : Byt xs) (hl : xs.length = 88) : okR xs ↔ HRight (hdOf xs) ∧ hdL (hdOf xs) ++ invL (hdL (hdOf xs)) = part xs 0 48 := by
  rw [hdOf_right hb, ← part_split xs (show 0 ≤ 24 by omega) (show 24 ≤ 48 by omega)]
  have e := hdL_eq hb (by omega)
  constructor
  · rintro ⟨h1, h2, h3⟩
    have := e.2 h2
    exact ⟨h1, by rw [this, h3]⟩
  · rintro ⟨h1, h2⟩
    have hlen : (hdL (hdOf xs)).length = (part xs 0 24).length := by rw [hdL_length, part_length (by omega) (by omega)]
    obtain ⟨a, b⟩ := List.append_inj h2 hlen
    exact ⟨h1, e.1 a, by rw [← a]; exact b⟩
/-- An end reads as it was made. -/
theorem part_hdL (h : Hd) (hg : h.rng) (rest : List Int) : hdOf (hdL h ++ rest) = h := by
  unfold Hd.rng at hg
  have p1 : part (hdL h ++ rest) 4 8 = big h.l 4 := by
    unfold part hdL
    rw [List.append_assoc, List.append_assoc, List.append_assoc, List.drop_left' (by rfl), List.take_left' (by rw [big_length])]
  have p2 : part (hdL h ++ rest) 8 16 = big h.e 8 := by
    unfold part hdL
    rw [List.append_assoc, List.append_assoc, List.drop_left' (by rw [List.length_append, big_length]; rfl), List.take_left' (by rw [big_length])]
  have p3 : part (hdL h ++ rest) 16 24 = big h.t 8 := by
    unfold part hdL
    rw [List.append_assoc, List.drop_left' (by rw [List.length_append, List.length_append, big_length, big_length]; rfl), List.take_left' (by rw [big_length])]
  have nb : ∀ (n : Int) (k : Nat), 0 ≤ n → n < 256 ^ k → k ≤ 8 → numB (big n k) = n := fun n k h0 h1 h8 => by
    unfold numB big
    rw [List.reverse_reverse, List.take_of_length_le (by rw [leL_length]; exact h8), leN_leL n h0]
    exact Int.emod_eq_of_lt h0 h1
  unfold hdOf
  rw [p1, p2, p3, nb _ _ hg.1.1 hg.1.2 (by omega), nb _ _ hg.2.1.1 hg.2.1.2 (by omega), nb _ _ hg.2.2.1 hg.2.2.2 (by omega)]
  rfl

end Go.Proofs.Ytfpkaebmiojicaa.Vc

/-! Parts of plans, cut out by wip/tools/vccut.py. -/
namespace Go.Proofs.Ytfpkaebmiojicaa.Vc
open Go Go.Eng
set_option linter.unusedVariables false

def head_Read.T (c0 : Nat) (a0 : Option Addr) (a6 : Option Addr) (w26 : World) (b1 : Nat) (K : (Int × Int × Int × Int × Int × Int × Unit) × SlV × Int × Unit → World → Prop) (b24 : Nat) (a7 : Option Addr) : Prop :=
DrawV fun D27 =>
  ((0 : Int) ≤ (24 : Int) ∧ (24 : Int) ≤ (48 : Int) ∧ (48 : Int) ≤ ((c0 : Nat) : Int)) ∧
  SubK a0 24 c0 1 fun a28 =>
  CallV Try.prog 92 #[.slice a6 (24 - 0) (c0 - 0)] w26.drew [.one .sl] fun (r29 : SlV × Unit) w30 =>
  KeepOn D27 w26.drew w30 ∧
  CallV Try.prog 98 #[.slice r29.1.a r29.1.n r29.1.c, .slice a28 (48 - 24) (c0 - 24)] w30 [.one .bool] fun (r31 : Bool × Unit) w32 =>
  KeepOn D27 w26.drew w32 ∧
  cond (!r31.1)
  (StoreV w32 ⟨b1, 0, none⟩ [.int .i64 0, .int .i64 0, .int .i64 0, .int .u32 0, .int .u64 0, .int .u64 0] fun w33 =>
  LoadA w33 ⟨b1, 0, none⟩ [.int .i64, .int .i64, .int .i64, .int .u32, .int .u64, .int .u64] fun (x34 : Int × Int × Int × Int × Int × Int × Unit) =>
  K ((x34.1, x34.2.1, x34.2.2.1, x34.2.2.2.1, x34.2.2.2.2.1, x34.2.2.2.2.2.1, ()), (⟨none, 0, 0⟩ : SlV), (1 : Int), ()) w33)
  ((0 ≤ (3 : Int) ∧ 3 < ((24 - 0 : Nat) : Int)) ∧ ∃ q35 : Addr, a6 = some q35 ∧
  (D27 (q35.add (3 * 1)).block ∧ LoadS w26.drew (q35.add (3 * 1)) (.int .u8) fun (x36 : Int) =>
  cond (x36 != 0)
  (StoreV w32 ⟨b1, 0, none⟩ [.int .i64 0, .int .i64 0, .int .i64 0, .int .u32 0, .int .u64 0, .int .u64 0] fun w37 =>
  LoadA w37 ⟨b1, 0, none⟩ [.int .i64, .int .i64, .int .i64, .int .u32, .int .u64, .int .u64] fun (x38 : Int × Int × Int × Int × Int × Int × Unit) =>
  K ((x38.1, x38.2.1, x38.2.2.1, x38.2.2.2.1, x38.2.2.2.2.1, x38.2.2.2.2.2.1, ()), (⟨none, 0, 0⟩ : SlV), (1 : Int), ()) w37)
  ((D27 b24 ∧ LoadS w26.drew ⟨b24, 0, none⟩ (.int .i64) fun (x39 : Int) =>
  cond (decide (x39 < 1))
  (StoreV w32 ⟨b1, 0, none⟩ [.int .i64 0, .int .i64 0, .int .i64 0, .int .u32 0, .int .u64 0, .int .u64 0] fun w40 =>
  LoadA w40 ⟨b1, 0, none⟩ [.int .i64, .int .i64, .int .i64, .int .u32, .int .u64, .int .u64] fun (x41 : Int × Int × Int × Int × Int × Int × Unit) =>
  K ((x41.1, x41.2.1, x41.2.2.1, x41.2.2.2.1, x41.2.2.2.2.1, x41.2.2.2.2.2.1, ()), (⟨none, 0, 0⟩ : SlV), (1 : Int), ()) w40)
  ((D27 b24 ∧ LoadS w26.drew ⟨b24, 0, none⟩ (.int .i64) fun (x42 : Int) =>
  cond (decide (x42 > 4))
  (StoreV w32 ⟨b1, 0, none⟩ [.int .i64 0, .int .i64 0, .int .i64 0, .int .u32 0, .int .u64 0, .int .u64 0] fun w43 =>
  LoadA w43 ⟨b1, 0, none⟩ [.int .i64, .int .i64, .int .i64, .int .u32, .int .u64, .int .u64] fun (x44 : Int × Int × Int × Int × Int × Int × Unit) =>
  K ((x44.1, x44.2.1, x44.2.2.1, x44.2.2.2.1, x44.2.2.2.2.1, x44.2.2.2.2.2.1, ()), (⟨none, 0, 0⟩ : SlV), (1 : Int), ()) w43)
  (DrawV fun D45 =>
  (D45 b24 ∧ LoadA w32.drew ⟨b24, 0, none⟩ [.int .i64, .int .i64, .int .i64, .int .u32, .int .u64, .int .u64] fun (x46 : Int × Int × Int × Int × Int × Int × Unit) =>
  NewV #[] 5 w32.drew fun b47 w48 =>
  KeepOn D45 w32.drew w48 ∧
  AppS w48 a7 (80 - 48) 1 fun ns53 =>
  AppV w48 5 1 1 (some ⟨b47, 0, none⟩) 0 0 ns53 (80 - 48) fun a49 n50 c51 w52 =>
  KeepOn D45 w32.drew w52 ∧
  StoreV w52 ⟨b1, 0, none⟩ [.int .i64 x46.1, .int .i64 x46.2.1, .int .i64 x46.2.2.1, .int .u32 x46.2.2.2.1, .int .u64 x46.2.2.2.2.1, .int .u64 x46.2.2.2.2.2.1] fun w54 =>
  KeepOn D45 w32.drew w54 ∧
  LoadA w54 ⟨b1, 0, none⟩ [.int .i64, .int .i64, .int .i64, .int .u32, .int .u64, .int .u64] fun (x55 : Int × Int × Int × Int × Int × Int × Unit) =>
  K ((x55.1, x55.2.1, x55.2.2.1, x55.2.2.2.1, x55.2.2.2.2.1, x55.2.2.2.2.2.1, ()), (⟨a49, n50, c51⟩ : SlV), (0 : Int), ()) w54))))))))

end Go.Proofs.Ytfpkaebmiojicaa.Vc

/-! The contracts of layer 14 (head): what an end tells. -/
namespace Go.Proofs.Ytfpkaebmiojicaa.Vc
open Go Go.Eng Go.RowKit
set_option linter.unusedVariables false
set_option linter.unusedSimpArgs false

theorem DrawV.but {body : (Nat → Prop) → Prop} (w : World) (b : Nat) (h : ∀ D : Nat → Prop, (∀ k, k < w.heap.size → k ≠ b → D k) → (∀ w', (∀ k, k < w.heap.size → k ≠ b → w'.heap[k]? = w.heap[k]?) → KeepOn D w.drew w') → body D) : DrawV body :=
  ⟨fun k => k < w.heap.size ∧ k ≠ b, h _ (fun _ h h' => ⟨h, h'⟩) fun w' e k hk => e k hk.1 hk.2⟩

theorem newU' {w : World} {K : Nat → World → Prop} (h : ∀ b w1, Ext w w1 → Own w1 w.heap.size 5 1 (some ⟨b, 0, none⟩) 0 0 [] → K b w1) : NewV #[] 5 w K := by
  rintro b w1 rfl rfl
  exact h _ _ (Ext.alloc _ _) (Own.zeros (w := w) (B := w.heap.size) (e := 5) (n := 0) (c := 0) (z := .int .u8 0) (Nat.le_refl _) (Nat.zero_le _) (by omega) rfl)

abbrev zeroH : Hd := ⟨0, 0, 0, 0, 0, 0⟩
def RPost (w : World) (xs : List Int) (r : (Int × Int × Int × Int × Int × Int × Unit) × SlV × Int × Unit) (w' : World) : Prop :=
  Ext w w' ∧ (xs.length ≠ 88 → r.1 = zeroH.tup ∧ r.2.1 = (⟨none, 0, 0⟩ : SlV) ∧ r.2.2.1 = 2) ∧ (xs.length = 88 → okR xs → r.1 = (hdOf xs).tup ∧ Res w w' r.2.1 (part xs 48 80) ∧ r.2.2.1 = 0) ∧
    (xs.length = 88 → ¬ okR xs → r.1 = zeroH.tup ∧ r.2.1 = (⟨none, 0, 0⟩ : SlV) ∧ r.2.2.1 = 1)

theorem readTail {w w26 : World} {xs : List Int} {a0 a6 a7 : Option Addr} {c0 b1 b24 : Nat} {c6 c7 : Nat} (x26 : Ext w w26) (hb1 : Box w26 w.heap.size b1 27 zeroH.vs) (hb24 : Box w26 w.heap.size b24 27 (hdOf xs).vs) (hne : b1 ≠ b24)
    (hx : Ints w .u8 a0 88 c0 xs) (bx : Byt xs) (h6 : Ints w .u8 a6 24 (c0 - 0) (part xs 0 24)) (h7 : Ints w .u8 a7 (80 - 48) c7 (part xs 48 80)) : head_Read.T c0 a0 a6 w26 b1 (RPost w xs) b24 a7 := by
  have hl := hx.len
  have hcap := hx.cap
  unfold head_Read.T
  refine DrawV.old w26 fun D hD hkeep => ?_
  have x26' := x26.trans (Ext.drew w26)
  refine ⟨by omega, ?_⟩
  intro a28 ha28
  have h28 := (hx.ext x26').sub (l := 24) (hh := 48) (m := c0) (by omega) (by omega) (by omega) ha28
  refine (Invert_c (h6.ext x26') (by omega)).mono ?_
  rintro ⟨(s1 : SlV), ⟨⟩⟩ w1 h1
  dsimp only at h1 ⊢
  have x1 := (Ext.drew w26).trans h1.ext
  refine ⟨hkeep _ x1, ?_⟩
  refine (Same_c h1.ints (h28.ext h1.ext) (invL_byt _) ((bx.drop 24).take _)).mono ?_
  rintro ⟨(r2 : Bool), ⟨⟩⟩ w2 ⟨h2, e2⟩
  dsimp only at h2 ⊢
  have x2 := x1.trans e2
  have X2 := x26.trans x2
  refine ⟨hkeep _ x2, ?_⟩
  have b1' := hb1.ext x2
  have fail : ¬ okR xs → StoreV w2 ⟨b1, 0, none⟩ [.int .i64 0, .int .i64 0, .int .i64 0, .int .u32 0, .int .u64 0, .int .u64 0] fun w33 =>
      LoadA w33 ⟨b1, 0, none⟩ [.int .i64, .int .i64, .int .i64, .int .u32, .int .u64, .int .u64] fun (x34 : Int × Int × Int × Int × Int × Int × Unit) =>
      RPost w xs ((x34.1, x34.2.1, x34.2.2.1, x34.2.2.2.1, x34.2.2.2.2.1, x34.2.2.2.2.2.1, ()), (⟨none, 0, 0⟩ : SlV), (1 : Int), ()) w33 := fun hno => by
    refine b1'.store 0 (by simp) fun w3 hb3 bel3 _ _ => ?_
    refine ldH (h := zeroH) hb3 ?_
    exact ⟨Below.trans X2 bel3, fun h => absurd hl h, fun _ h => absurd h hno, fun _ _ => ⟨rfl, rfl, rfl⟩⟩
  refine cond_of (fun hc => fail (fun hok => by
    have := hok.2.2
    unfold part at this
    simp at hc
    rw [h2] at hc
    simp at hc
    exact hc this)) (fun hc => ?_)
  have hsame : invL (part xs 0 24) = part xs 24 48 := by simp at hc; rw [h2] at hc; simpa [part] using hc
  have h3 : (part xs 0 24).getD 3 0 = xs.getD 3 0 := by
    unfold part
    rw [List.drop_zero, List.getD_eq_getElem?_getD, List.getElem?_take, if_pos (by omega), ← List.getD_eq_getElem?_getD]
  refine (h6.ext x26).idxD (Ext.drew w26) (i := 3) (by omega) (by omega) hD ?_
  rw [show (3 : Int).toNat = 3 from rfl, h3]
  refine cond_ne (fun hz => fail (fun hok => hz hok.2.1)) (fun hz => ?_)
  have hD24 := hD _ hb24.lt
  have d24 := hb24.ext (Ext.drew w26)
  refine ⟨hD24, d24.ld (i := 0) (h := .int .i64) (x := xs.getD 0 0) rfl ?_⟩
  refine cond_d (fun h1 => fail (fun hok => by have := hok.1; omega)) (fun k1 => ?_)
  refine ⟨hD24, d24.ld (i := 0) (h := .int .i64) (x := xs.getD 0 0) rfl ?_⟩
  refine cond_d (fun h1 => fail (fun hok => by have := hok.1; omega)) (fun k2 => ?_)
  have hok : okR xs := ⟨by omega, hz, hsame⟩
  refine DrawV.but w2 b1 fun D2 hD2 hkeep2 => ?_
  have e24 := hb24.ext x2
  refine ⟨hD2 _ e24.lt (fun h => hne h.symm), ldH (h := hdOf xs) (e24.ext (Ext.drew w2)) ?_⟩
  refine newU' fun b5 w5 e5 o5 => ?_
  have keepB : ∀ {w' : World}, Ext w2 w' → KeepOn D2 w2.drew w' := fun e => hkeep2 _ fun k hk _ => e.block k hk
  have x5 := (Ext.drew w2).trans e5
  refine ⟨keepB x5, ?_⟩
  refine appL (xs := []) (o5.mono (Ext.drew w2).size) (h7.ext (X2.trans x5)) x5.size (by omega) fun a6' c6' w6 o6 b6 => ?_
  have x6 : Ext w2 w6 := Below.trans x5 b6
  refine ⟨keepB x6, ?_⟩
  have b1'' := b1'.ext x6
  refine b1''.store 0 (by simp) fun w7 hb7 bel7 oth7 _ => ?_
  refine ⟨hkeep2 _ fun k hk hkb => by rw [oth7 k hkb]; exact x6.block k hk, ?_⟩
  refine ldH (h := hdOf xs) hb7 ?_
  refine ⟨Below.trans (X2.trans x6) bel7, fun h => absurd hl h, fun _ _ => ⟨rfl, ⟨Below.trans (X2.trans x6) bel7, ?_⟩, rfl⟩, fun _ h => absurd hok h⟩
  rw [Nat.zero_add, List.nil_append] at *
  refine (o6.other fun p hp => oth7 _ ?_).mono X2.size
  rcases o6.at_ with ⟨h1, _⟩ | ⟨b, cs, h1, h2, _⟩
  · rw [h1] at hp; cases hp
  · rw [h1] at hp
    have := Option.some.inj hp
    subst this
    have := b1'.lt
    show b ≠ b1
    omega

end Go.Proofs.Ytfpkaebmiojicaa.Vc

/-! The contract of head.Read. -/
namespace Go.Proofs.Ytfpkaebmiojicaa.Vc
open Go Go.Eng Go.RowKit
set_option linter.unusedVariables false
set_option linter.unusedSimpArgs false

theorem sub_part {w : World} {a : Option Addr} {n c : Nat} {xs : List Int} (h : Ints w .u8 a n c xs) {i j m : Nat} (h1 : i ≤ j) (h2 : j ≤ n) (h3 : j ≤ m) {a' : Option Addr} (ha : a' = if m = i then a else a.map (·.add (i * 1))) : Ints w .u8 a' (j - i) (m - i) (part xs i j) := h.sub h1 h2 h3 ha
theorem part_part {xs : List Int} {i j k : Nat} (h : j ≤ k) : part (part xs 0 k) i j = part xs i j := by
  unfold part
  rw [List.drop_zero, Nat.sub_zero, List.drop_take, List.take_take, Nat.min_eq_left (by omega)]

theorem Read_c {w : World} {a0 : Option Addr} {n0 c0 : Nat} {xs : List Int} (hx : Ints w .u8 a0 n0 c0 xs) (bx : Byt xs) :
    CallV Try.prog 67 #[.slice a0 n0 c0] w [.agg [.int .i64, .int .i64, .int .i64, .int .u32, .int .u64, .int .u64], .one .sl, .one (.int .i64)] fun r w' => RPost w xs r w' := by
  refine head_Read.vc _ _ _ _ _ ?_
  unfold head_Read.P
  have lx := hx.len
  have hcap := hx.cap
  refine newH (h := zeroH) fun b1 w2 e2 hb1 => ?_
  refine cond_ne (fun hne => ?_) (fun heq => ?_)
  · refine hb1.store 0 (by simp) fun w3 hb3 bel3 _ _ => ?_
    refine ldH (h := zeroH) hb3 ?_
    exact ⟨Below.trans e2 bel3, fun _ => ⟨rfl, rfl, rfl⟩, fun h => absurd (by omega) hne, fun h => absurd (by omega) hne⟩
  have h88 : n0 = 88 := by omega
  subst h88
  refine DrawV.old w2 fun D5 hD5 hkeep5 => ?_
  have x5 := e2.trans (Ext.drew w2)
  refine ⟨by omega, ?_⟩
  intro a6 ha6
  refine ⟨by omega, ?_⟩
  intro a7 ha7
  have h6 := sub_part hx (i := 0) (j := 24) (m := c0) (by omega) (by omega) (by omega) ha6
  have h7 := sub_part hx (i := 48) (j := 80) (m := c0) (by omega) (by omega) (by omega) ha7
  refine DrawV.old w2.drew fun D hD hkeep => ?_
  have x8 := x5.trans (Ext.drew w2.drew)
  have b0 := bx.getD 0
  have b1' := bx.getD 1
  have b2 := bx.getD 2
  have g : ∀ k, k < 24 → (part xs 0 24).getD k 0 = xs.getD k 0 := fun k hk => by
    unfold part
    rw [List.drop_zero, List.getD_eq_getElem?_getD, List.getElem?_take, if_pos (by omega), ← List.getD_eq_getElem?_getD]
  refine (h6.ext x5).idxD (Ext.drew w2.drew) (i := 0) (by omega) (by omega) hD ?_
  refine (h6.ext x5).idxD (Ext.drew w2.drew) (i := 1) (by omega) (by omega) hD ?_
  refine (h6.ext x5).idxD (Ext.drew w2.drew) (i := 2) (by omega) (by omega) hD ?_
  rw [show (0 : Int).toNat = 0 from rfl, show (1 : Int).toNat = 1 from rfl, show (2 : Int).toNat = 2 from rfl, g 0 (by omega), g 1 (by omega), g 2 (by omega)]
  rw [i64_id (by omega : -9223372036854775808 ≤ xs.getD 0 0) (by omega), i64_id (by omega : -9223372036854775808 ≤ xs.getD 1 0) (by omega), i64_id (by omega : -9223372036854775808 ≤ xs.getD 2 0) (by omega)]
  refine ⟨by omega, ?_⟩
  intro a15 ha15
  refine ⟨by omega, ?_⟩
  intro a16 ha16
  refine ⟨by omega, ?_⟩
  intro a17 ha17
  have h15 := sub_part h6 (i := 4) (j := 8) (m := c0 - 0) (by omega) (by omega) (by omega) ha15
  have h16 := sub_part h6 (i := 8) (j := 16) (m := c0 - 0) (by omega) (by omega) (by omega) ha16
  have h17 := sub_part h6 (i := 16) (j := 24) (m := c0 - 0) (by omega) (by omega) (by omega) ha17
  rw [part_part (by omega)] at h15 h16 h17
  generalize hW : w2.drew.drew = W at *
  have keepW : ∀ {w' : World}, Ext W w' → KeepOn D W w' := fun e => by
    have := hkeep _ ((Ext.drew w2.drew).trans (by rw [hW]; exact e))
    exact this
  have nbl := numB_bd (part_byt bx 4 8) (part_length (by omega) (by omega)) (by omega)
  have hu : IntKind.u32.wrap (numB (part xs 4 8)) = numB (part xs 4 8) := by rw [u32_wrap]; exact Int.emod_eq_of_lt nbl.1 (by have := nbl.2; simpa using this)
  have hb1W := hb1.ext ((Ext.drew w2).trans (by rw [← hW]; exact Ext.drew w2.drew) : Ext w2 W)
  have done : ∀ {w25 : World} {b24 : Nat}, Ext W w25 → Box w25 W.heap.size b24 27 zeroH.vs → StoreV w25 ⟨b24, 0, none⟩ (hdOf xs).vs fun w26 => KeepOn D W w26 ∧ head_Read.T c0 a0 a6 w26 b1 (RPost w xs) b24 a7 := fun {w25 b24} e25 hb24 => by
    refine hb24.store 0 (by simp) fun w26 hb26 bel26 _ _ => ?_
    have X26 : Ext W w26 := Below.trans e25 bel26
    refine ⟨keepW X26, ?_⟩
    refine readTail (c6 := 0) (x8.trans X26) (hb1W.ext X26) ⟨Nat.le_trans x8.size hb26.base, hb26.heap⟩ (fun h => ?_) hx bx h6 h7
    have := hb1W.lt
    have := hb24.base
    omega
  have N15 : ∀ {w' : World}, Ext W w' → CallV Try.prog 97 #[.slice a15 (8 - 4) (c0 - 0 - 4)] w' [.one (.int .u64)] fun r w2 => r.1 = numB (part xs 4 8) ∧ w2 = w' := fun e => Num_c (h15.ext (x8.trans e)) (part_byt bx 4 8)
  have N16 : ∀ {w' : World}, Ext W w' → CallV Try.prog 97 #[.slice a16 (16 - 8) (c0 - 0 - 8)] w' [.one (.int .u64)] fun r w2 => r.1 = numB (part xs 8 16) ∧ w2 = w' := fun e => Num_c (h16.ext (x8.trans e)) (part_byt bx 8 16)
  have N17 : ∀ {w' : World}, Ext W w' → CallV Try.prog 97 #[.slice a17 (24 - 16) (c0 - 0 - 16)] w' [.one (.int .u64)] fun r w2 => r.1 = numB (part xs 16 24) ∧ w2 = w' := fun e => Num_c (h17.ext (x8.trans e)) (part_byt bx 16 24)
  have kW := keepW (Ext.refl W)
  refine ⟨?_, ?_⟩
  · refine (N15 (Ext.refl _)).mono ?_
    rintro ⟨(r1 : Int), ⟨⟩⟩ w' ⟨q1, rfl⟩
    dsimp only at q1 ⊢
    subst q1
    rw [hu]
    refine ⟨kW, ?_, ?_⟩
    · refine (N16 (Ext.refl _)).mono ?_
      rintro ⟨(r2 : Int), ⟨⟩⟩ w' ⟨q2, rfl⟩
      dsimp only at q2 ⊢
      subst q2
      refine ⟨kW, ?_, ?_⟩
      · refine (N17 (Ext.refl _)).mono ?_
        rintro ⟨(r3 : Int), ⟨⟩⟩ w' ⟨q3, rfl⟩
        dsimp only at q3 ⊢
        subst q3
        exact ⟨kW, newH (h := zeroH) fun b24 w25 e25 hb24 => ⟨keepW e25, done e25 hb24⟩⟩
      · refine newH (h := zeroH) fun b24 w25 e25 hb24 => ⟨keepW e25, ?_⟩
        refine (N17 e25).mono ?_
        rintro ⟨(r3 : Int), ⟨⟩⟩ w' ⟨q3, rfl⟩
        dsimp only at q3 ⊢
        subst q3
        exact ⟨keepW e25, done e25 hb24⟩
    · refine newH (h := zeroH) fun b24 w25 e25 hb24 => ⟨keepW e25, ?_⟩
      refine (N16 e25).mono ?_
      rintro ⟨(r2 : Int), ⟨⟩⟩ w' ⟨q2, rfl⟩
      dsimp only at q2 ⊢
      subst q2
      refine ⟨keepW e25, ?_⟩
      refine (N17 e25).mono ?_
      rintro ⟨(r3 : Int), ⟨⟩⟩ w' ⟨q3, rfl⟩
      dsimp only at q3 ⊢
      subst q3
      exact ⟨keepW e25, done e25 hb24⟩
  · refine newH (h := zeroH) fun b24 w25 e25 hb24 => ⟨keepW e25, ?_⟩
    refine (N15 e25).mono ?_
    rintro ⟨(r1 : Int), ⟨⟩⟩ w' ⟨q1, rfl⟩
    dsimp only at q1 ⊢
    subst q1
    rw [hu]
    refine ⟨keepW e25, ?_⟩
    refine (N16 e25).mono ?_
    rintro ⟨(r2 : Int), ⟨⟩⟩ w' ⟨q2, rfl⟩
    dsimp only at q2 ⊢
    subst q2
    refine ⟨keepW e25, ?_⟩
    refine (N17 e25).mono ?_
    rintro ⟨(r3 : Int), ⟨⟩⟩ w' ⟨q3, rfl⟩
    dsimp only at q3 ⊢
    subst q3
    exact ⟨keepW e25, done e25 hb24⟩

end Go.Proofs.Ytfpkaebmiojicaa.Vc

/-! Heads are the same where all their numbers are. -/
namespace Go.Proofs.Ytfpkaebmiojicaa.Vc
open Go Go.Eng Go.RowKit
set_option linter.unusedVariables false
set_option linter.unusedSimpArgs false

set_option maxRecDepth 100000 in
theorem eqH (a1 a2 a3 a4 a5 a6 b1 b2 b3 b4 b5 b6 : Int) (w : World) : (Op.equalIn 10000 27 (.agg #[.int .i64 a1, .int .i64 a2, .int .i64 a3, .int .u32 a4, .int .u64 a5, .int .u64 a6]) (.agg #[.int .i64 b1, .int .i64 b2, .int .i64 b3, .int .u32 b4, .int .u64 b5, .int .u64 b6])).run Try.prog w =
    .ok (a1 == b1 && (a2 == b2 && (a3 == b3 && (a4 == b4 && (a5 == b5 && a6 == b6))))) w := by
  have u1 := Try.underlying3
  have u2 := Try.underlying24
  have u3 := Try.underlying25
  have v1 := Try.isAgg3
  have v2 := Try.isAgg24
  have v3 := Try.isAgg25
  have z1 := Try.sizeOf3
  have z2 := Try.sizeOf24
  have z3 := Try.sizeOf25
  have hS : Try.prog.underlying 27 = some (.struct (Try.prog.fieldsOf 27)) := by kernel_rfl
  rw [show (10000 : Nat) = 9999 + 1 from rfl, run_equalIn_agg w 9999 27 _ _ hS (by kernel_rfl)]
  simp only [Program.fieldsOf, Try.underlying27]
  go_simp
  repeat' split
  all_goals simp_all

open Classical in
theorem eqHd {g h : Hd} {K : Bool → Prop} (hk : K (decide (g = h))) : AggEq Try.prog 27 #[.int .i64 g.k, .int .i64 g.n, .int .i64 g.c, .int .u32 g.l, .int .u64 g.e, .int .u64 g.t] #[.int .i64 h.k, .int .i64 h.n, .int .i64 h.c, .int .u32 h.l, .int .u64 h.e, .int .u64 h.t] K := by
  refine ⟨_, fun w => eqH _ _ _ _ _ _ _ _ _ _ _ _ w, by kernel_rfl, ?_⟩
  have : (g.k == h.k && (g.n == h.n && (g.c == h.c && (g.l == h.l && (g.e == h.e && g.t == h.t))))) = decide (g = h) := by
    obtain ⟨a1, a2, a3, a4, a5, a6⟩ := g
    obtain ⟨b1, b2, b3, b4, b5, b6⟩ := h
    apply Bool.eq_iff_iff.2
    simp
  rw [this]
  exact hk

end Go.Proofs.Ytfpkaebmiojicaa.Vc

/-! The plans of functions as plain statements, printed by wip/tools/vcgen.py; the kernel holds each to the code. -/
namespace Go.Proofs.Ytfpkaebmiojicaa.Vc
open Go Go.Eng
set_option linter.unusedVariables false



end Go.Proofs.Ytfpkaebmiojicaa.Vc

/-! The law HeadEnds of layer 14: each call gives true, and what it read stays. -/
namespace Go.Proofs.Ytfpkaebmiojicaa.Vc
open Go Go.Eng Go.RowKit
set_option linter.unusedVariables false
set_option linter.unusedSimpArgs false

theorem tagL_length {tg : List Int} (hl : tg.length = 0 ∨ tg.length = 32) : (tagL tg).length = 32 := by
  unfold tagL
  split
  · simp
  · omega
theorem endL_length (h : Hd) {tg : List Int} (hl : tg.length = 0 ∨ tg.length = 32) : (endL h tg).length = 88 := by
  unfold endL
  rw [List.length_append, List.length_append, List.length_append, invL_length, hdL_length, tagL_length hl, List.length_replicate]
theorem big_byt (n : Int) (k : Nat) : Byt (big n k) := (leL_byt n k).reverse
theorem hdL_byt {h : Hd} (hR : HRight h) : Byt (hdL h) := by
  unfold HRight at hR
  unfold hdL
  refine (((Byt.cons (by omega) (Byt.cons (by omega) (Byt.cons (by omega) (Byt.cons (by omega) Byt.nil)))).append (big_byt _ _)).append (big_byt _ _)).append (big_byt _ _)
theorem endL_byt {h : Hd} (hg : h.rng) (hR : HRight h) {tg : List Int} (bt : Byt tg) : Byt (endL h tg) := by
  unfold endL
  refine (((hdL_byt hR).append (invL_byt _)).append ?_).append (Byt.replicate (by omega) (by omega) _)
  unfold tagL
  split
  · exact Byt.replicate (by omega) (by omega) _
  · exact bt
theorem endL_hd (h : Hd) (hg : h.rng) (tg : List Int) : hdOf (endL h tg) = h := by
  unfold endL
  rw [List.append_assoc, List.append_assoc]
  exact part_hdL h hg _
theorem endL_ok (h : Hd) {tg : List Int} (hl : tg.length = 0 ∨ tg.length = 32) (hg : h.rng) (hR : HRight h) : okR (endL h tg) := by
  refine ⟨hR.1, rfl, ?_⟩
  have p1 : part (endL h tg) 0 24 = hdL h := by
    unfold part endL
    rw [List.drop_zero, List.append_assoc, List.append_assoc, List.take_left' (by rw [hdL_length])]
  have p2 : part (endL h tg) 24 48 = invL (hdL h) := by
    unfold part endL
    rw [List.append_assoc, List.append_assoc, List.drop_left' (by rw [hdL_length]), List.take_left' (by rw [invL_length, hdL_length])]
  rw [p1, p2]
theorem endL_comm {h : Hd} {tg : List Int} (hl : tg.length = 0 ∨ tg.length = 32) : comm (endL h tg) = false := by
  refine decide_eq_false fun hh => ?_
  have h2 := hh.2
  unfold endL at h2
  rw [List.drop_left' (by rw [List.length_append, List.length_append, invL_length, hdL_length, tagL_length hl])] at h2
  exact absurd h2 (by decide)

end Go.Proofs.Ytfpkaebmiojicaa.Vc
