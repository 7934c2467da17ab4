/- Texts in one: The contracts of layer 11 (geometry), second part. Plain laws of bits of bytes, for layer 12 (fault). The plans of functions as plain statements, printed by wip/tools/vcgen.py; the kernel holds each to the code. The contracts of layer 12 (fault): bits, and what is there behind torn programs and erases. Values that are read, of any shape: where they lie (in which blocks), what data they are, and that they stay while their blocks stay. The contracts of layer 12 (fault): plans. The plans of functions as plain statements, printed by wip/tools/vcgen.py; the kernel holds each to the code. The contracts of layer 15 (page): pages that are made. Parts of plans, cut out by wip/tools/vccut.py. The contract of the document's Read (layer 14). The plans of functions as plain statements, printed by wip/tools/vcgen.py; the kernel holds each to the code. The laws GeometryChecks, GeometryIndexes and GeometryQuotas of layer 11: each call gives true, and what it read stays. The contracts of layer 15 (page): what commits a page, and what a page tells. The contracts of layer 15 (page): what bytes tell. The contracts of layer 15 (page): the document's, and small ones. -/
import Derived.Test.YtfpkaebmiojicaaZChunkBackb

/-! The contracts of layer 11 (geometry), second part. -/
namespace Go.Proofs.Ytfpkaebmiojicaa.Vc
open Go Go.Eng Go.RowKit
set_option linter.unusedVariables false
set_option linter.unusedSimpArgs false

theorem newG {w : World} {g : Geo} {K : Nat → World → Prop} (h : ∀ b w1, Ext w w1 → Box w1 w.heap.size b 23 g.vs → K b w1) : NewV #[.int .i64 g.b, .int .i64 g.p, .int .i64 g.s, .int .i64 g.sp, .int .i64 g.wr, .int .i64 g.ro] 23 w K := newBox h
theorem ldG {w : World} {g : Geo} {B b : Nat} {e : TypeId} (hb : Box w B b e g.vs) {K : Int × Int × Int × Int × Int × Int × Unit → Prop} (hk : K g.tup) : LoadA w ⟨b, 0, none⟩ [.int .i64, .int .i64, .int .i64, .int .i64, .int .i64, .int .i64] K := hb.lda (l := [.int .i64, .int .i64, .int .i64, .int .i64, .int .i64, .int .i64]) g.tup rfl hk
def chkE (g : Geo) : Int := if Right g then 0 else 2

theorem Check_c {w : World} {g : Geo} : CallV Try.prog 57 #[g.val] w [.one (.int .i64)] fun r w' => r.1 = chkE g ∧ Ext w w' := by
  refine geometry_Check.vc _ _ _ _ _ _ _ _ ?_
  unfold geometry_Check.P
  refine newG fun b1 w1 e1 hb => ?_
  refine DrawV.old w1 fun D hD hkeep => ?_
  have hD1 := hD _ hb.lt
  have hd := hb.ext (Ext.drew _)
  have no : ∀ {w' : World}, ¬ Right g → Ext w w' → ((2 : Int) = chkE g ∧ Ext w w') := fun hr he => ⟨by unfold chkE; rw [if_neg hr], he⟩
  refine ⟨hD1, ldG hd ?_⟩
  dsimp only
  refine (kept_c (g := g)).mono ?_
  rintro ⟨(r1 : Bool), ⟨⟩⟩ w2 ⟨h1, e2⟩
  have E2 := (Ext.drew _).trans e2
  refine ⟨hkeep _ E2, ?_⟩
  dsimp only at h1 ⊢
  subst h1
  have F2 := e1.trans E2
  by_cases hk : Kept g
  · refine cond_f (by rw [decide_eq_true hk]; rfl) ?_
    refine ⟨hD1, hd.ld (i := 2) (h := .int .i64) (x := g.s) rfl ?_⟩
    refine ⟨hD1, hd.ld (i := 1) (h := .int .i64) (x := g.p) rfl ?_⟩
    have hk' := hk
    unfold Kept at hk'
    refine (chunks_c (by omega)).mono ?_
    rintro ⟨(r2 : Int), ⟨⟩⟩ w3 ⟨h2, rfl⟩
    refine ⟨hkeep _ E2, ?_⟩
    dsimp only at h2 ⊢
    subst h2
    refine cond_d (fun hc => no (fun hr => by unfold Right at hr; omega) F2) (fun hc => ?_)
    refine ⟨hD1, hd.ld (i := 0) (h := .int .i64) (x := g.b) rfl ?_⟩
    refine ⟨Rng.i64 (by omega) (by omega), ?_⟩
    refine ⟨hD1, hd.ld (i := 3) (h := .int .i64) (x := g.sp) rfl ?_⟩
    refine ⟨Rng.i64 (by omega) (by omega), ?_⟩
    refine cond_d (fun hc2 => no (fun hr => by unfold Right at hr; omega) F2) (fun hc2 => ?_)
    have hr : Right g := ⟨hk, by omega, by omega⟩
    exact ⟨by unfold chkE; rw [if_pos hr], F2⟩
  · refine cond_t (by rw [decide_eq_false hk]; rfl) (no (fun hr => hk hr.1) F2)

theorem told_c {w : World} {g : Geo} {f : FuncId} {cap : Array Value} {v : Int} (hf : okf f = true) (h : Right g → ∀ w', Ext w w' → CallV Try.prog f cap w' [.one (.int .i64)] fun r w2 => r.1 = v ∧ Ext w' w2) :
    CallV Try.prog 93 #[g.val, .func (.func f) #[] cap] w [.one (.int .i64)] fun r w' => r.1 = (if Right g then v else (0 : Int)) ∧ Ext w w' := by
  refine geometry_told.vc _ _ _ _ _ _ _ _ _ _ ?_
  unfold geometry_told.P
  refine newG fun b1 w1 e1 hb => ?_
  refine ldG hb ?_
  refine (Check_c (g := g)).mono ?_
  rintro ⟨(r1 : Int), ⟨⟩⟩ w2 ⟨h1, e2⟩
  have E2 := e1.trans e2
  dsimp only at h1 ⊢
  subst h1
  by_cases hr : Right g
  · refine cond_f (by unfold chkE; rw [if_pos hr]; rfl) (cond_t hf ?_)
    have hcap : (([] : List Value) ++ (([] : List Value) ++ cap.toList)).toArray = cap := by simp
    have := h hr w2 E2
    rw [← hcap] at this
    refine this.mono ?_
    rintro ⟨(r2 : Int), ⟨⟩⟩ w3 ⟨h2, e3⟩
    exact ⟨by rw [if_pos hr]; exact h2, E2.trans e3⟩
  · refine cond_t (by unfold chkE; rw [if_neg hr]; rfl) ⟨by rw [if_neg hr], E2⟩

theorem PageSize_c {w : World} {g : Geo} : CallV Try.prog 61 #[g.val] w [.one (.int .i64)] fun r w' => r.1 = (if Right g then g.s + 88 else (0 : Int)) ∧ Ext w w' := by
  refine geometry_PageSize.vc _ _ _ _ _ _ _ _ ?_
  unfold geometry_PageSize.P
  refine newG fun b1 w1 e1 hb => ?_
  refine ldG hb ?_
  refine (told_c (g := g) (v := g.s + 88) (by kernel_rfl) fun hr w' e => ?_).mono ?_
  · refine geometry_PageSize_1.vc _ _ _ ?_
    unfold geometry_PageSize_1.P
    unfold Right Kept at hr
    refine ldp (hb.ext e).cells 2 (h := .int .i64) (x := g.s) rfl ?_
    exact ⟨Rng.i64 (by omega) (by omega), rfl, Ext.refl _⟩
  · rintro ⟨(r2 : Int), ⟨⟩⟩ w3 ⟨h2, e3⟩
    exact ⟨h2, e1.trans e3⟩
theorem Chunks_c {w : World} {g : Geo} : CallV Try.prog 71 #[g.val] w [.one (.int .i64)] fun r w' => r.1 = (if Right g then cei 624 g.s else (0 : Int)) ∧ Ext w w' := by
  refine geometry_Chunks.vc _ _ _ _ _ _ _ _ ?_
  unfold geometry_Chunks.P
  refine newG fun b1 w1 e1 hb => ?_
  refine ldG hb ?_
  refine (told_c (g := g) (v := cei 624 g.s) (by kernel_rfl) fun hr w' e => ?_).mono ?_
  · refine geometry_Chunks_1.vc _ _ _ ?_
    unfold geometry_Chunks_1.P
    unfold Right Kept at hr
    refine ldp (hb.ext e).cells 2 (h := .int .i64) (x := g.s) rfl ?_
    refine (chunks_c (by omega)).mono ?_
    rintro ⟨(r2 : Int), ⟨⟩⟩ w3 ⟨h2, rfl⟩
    exact ⟨h2, Ext.refl _⟩
  · rintro ⟨(r2 : Int), ⟨⟩⟩ w3 ⟨h2, e3⟩
    exact ⟨h2, e1.trans e3⟩
def bnd (g : Geo) : Int := 40 * g.b * g.b * g.p * g.p
theorem bnd_rng {g : Geo} (hr : Right g) : (0 ≤ 40 * g.b ∧ 40 * g.b ≤ 2560) ∧ (0 ≤ 40 * g.b * g.b ∧ 40 * g.b * g.b ≤ 163840) ∧ (0 ≤ 40 * g.b * g.b * g.p ∧ 40 * g.b * g.b * g.p ≤ 5242880) ∧ (0 ≤ 40 * g.b * g.b * g.p * g.p ∧ 40 * g.b * g.b * g.p * g.p ≤ 167772160) := by
  unfold Right Kept at hr
  have a1 := mul_bd (a := 40) (A := 40) (b := g.b) (B := 64) (by omega) (by omega) (by omega) (by omega)
  have a2 := mul_bd a1.1 a1.2 (show (0 : Int) ≤ g.b by omega) (show g.b ≤ 64 by omega)
  have a3 := mul_bd a2.1 a2.2 (show (0 : Int) ≤ g.p by omega) (show g.p ≤ 32 by omega)
  have a4 := mul_bd a3.1 a3.2 (show (0 : Int) ≤ g.p by omega) (show g.p ≤ 32 by omega)
  refine ⟨⟨a1.1, by omega⟩, ⟨a2.1, by omega⟩, ⟨a3.1, by omega⟩, ⟨a4.1, by omega⟩⟩
def plOk (g : Geo) (b p : Int) : Prop := Right g ∧ (0 ≤ b ∧ b < g.b) ∧ (0 ≤ p ∧ p < g.p)
instance (g : Geo) (b p : Int) : Decidable (plOk g b p) := by unfold plOk; infer_instance
theorem Index_c {w : World} {g : Geo} {b p : Int} : CallV Try.prog 86 #[g.val, .agg #[.int .i64 b, .int .i64 p]] w [.one (.int .i64), .one (.int .i64)] fun r w' =>
    r.1 = (if plOk g b p then b * g.p + p else (0 : Int)) ∧ r.2.1 = (if plOk g b p then (0 : Int) else 2) ∧ Ext w w' := by
  refine geometry_Index.vc _ _ _ _ _ _ _ _ _ _ ?_
  unfold geometry_Index.P
  refine newG fun b1 w1 e1 hb => ?_
  refine newBox (vs := [.int .i64 b, .int .i64 p]) fun b2 w1' e1' hb2 => ?_
  have hb' := hb.ext e1'
  refine ldG hb' ?_
  refine (Check_c (g := g)).mono ?_
  rintro ⟨(r1 : Int), ⟨⟩⟩ w2 ⟨h1, e2⟩
  dsimp only at h1 ⊢
  subst h1
  have E2 : Ext w w2 := e1.trans (e1'.trans e2)
  have i1 := hb'.ext e2
  have i2 := hb2.ext e2
  have no : ¬ plOk g b p → ((0 : Int) = (if plOk g b p then b * g.p + p else 0) ∧ (2 : Int) = (if plOk g b p then 0 else 2) ∧ Ext w w2) := fun hr => by rw [if_neg hr, if_neg hr]; exact ⟨rfl, rfl, E2⟩
  by_cases hr : Right g
  · refine cond_f (by unfold chkE; rw [if_pos hr]; rfl) ?_
    refine i2.ld (i := 0) (h := .int .i64) (x := b) rfl ?_
    refine cond_d (fun hc => no (fun h => by unfold plOk at h; omega)) (fun h3 => ?_)
    refine i2.ld (i := 0) (h := .int .i64) (x := b) rfl ?_
    refine i1.ld (i := 0) (h := .int .i64) (x := g.b) rfl ?_
    refine cond_d (fun hc => no (fun h => by unfold plOk at h; omega)) (fun h4 => ?_)
    refine i2.ld (i := 1) (h := .int .i64) (x := p) rfl ?_
    refine cond_d (fun hc => no (fun h => by unfold plOk at h; omega)) (fun h5 => ?_)
    refine i2.ld (i := 1) (h := .int .i64) (x := p) rfl ?_
    refine i1.ld (i := 1) (h := .int .i64) (x := g.p) rfl ?_
    refine cond_d (fun hc => no (fun h => by unfold plOk at h; omega)) (fun h6 => ?_)
    refine i2.ld (i := 0) (h := .int .i64) (x := b) rfl ?_
    refine i1.ld (i := 1) (h := .int .i64) (x := g.p) rfl ?_
    have hok : plOk g b p := ⟨hr, by omega, by omega⟩
    unfold Right Kept at hr
    have hm := mul_bd (show (0 : Int) ≤ b by omega) (show b ≤ 64 by omega) (show (0 : Int) ≤ g.p by omega) (show g.p ≤ 32 by omega)
    refine ⟨Rng.i64 (by omega) (by omega), ?_⟩
    refine i2.ld (i := 1) (h := .int .i64) (x := p) rfl ?_
    refine ⟨Rng.i64 (by omega) (by omega), ?_⟩
    rw [if_pos hok, if_pos hok]
    exact ⟨rfl, rfl, E2⟩
  · exact cond_t (by unfold chkE; rw [if_neg hr]; rfl) (no (fun h => hr h.1))

def quo (g : Geo) (m : Int) : Int := cei m (g.p - 1) + 2
def quoE (g : Geo) (m : Int) : Int := if Right g then (if 1 ≤ m ∧ m ≤ 65535 then 0 else 13) else 2
theorem quo_bd {g : Geo} (hr : Right g) {m : Int} (hm : 1 ≤ m ∧ m ≤ 65535) : 3 ≤ quo g m ∧ quo g m ≤ 65537 := by
  unfold Right Kept at hr
  have := cei_bd (u := g.p - 1) (m := m) (by omega) (by omega)
  unfold quo
  omega
end Go.Proofs.Ytfpkaebmiojicaa.Vc

/-! Plain laws of bits of bytes, for layer 12 (fault). -/
namespace Go.Proofs.Ytfpkaebmiojicaa.Vc
open Go Go.Eng Go.RowKit
set_option linter.unusedVariables false
set_option linter.unusedSimpArgs false

def bitB (x : Int) (j : Nat) : Bool := x / 2 ^ j % 2 == 1
def bv (x : Int) : BitVec 8 := BitVec.ofInt 8 x
theorem bit_bv0 : ∀ x : Fin 256, ∀ j : Fin 8, bitB ((x.val : Nat) : Int) j.val = (bv ((x.val : Nat) : Int)).getLsbD j.val := by decide +kernel
theorem bit_bv {x : Int} (hx : 0 ≤ x ∧ x < 256) {j : Nat} (hj : j < 8) : bitB x j = (bv x).getLsbD j := by
  obtain ⟨y, rfl⟩ := byte_nat hx
  exact bit_bv0 y ⟨j, hj⟩
theorem bv_wrap (v : BitVec 8) : bv (IntKind.u8.wrap (v.toNat : Int)) = v := by
  have := v.isLt
  rw [u8_wrap, show ((v.toNat : Nat) : Int) % 256 = ((v.toNat : Nat) : Int) by omega]
  unfold bv
  rw [BitVec.ofInt_natCast]
  simp
theorem byte_ext {x y : Int} (hx : 0 ≤ x ∧ x < 256) (hy : 0 ≤ y ∧ y < 256) (h : ∀ j, j < 8 → bitB x j = bitB y j) : x = y := by
  have : bv x = bv y := BitVec.eq_of_getLsbD_eq fun j hj => by rw [← bit_bv hx hj, ← bit_bv hy hj]; exact h j hj
  obtain ⟨a, rfl⟩ := byte_nat hx
  obtain ⟨b, rfl⟩ := byte_nat hy
  unfold bv at this
  rw [BitVec.ofInt_natCast, BitVec.ofInt_natCast] at this
  have e := congrArg BitVec.toNat this
  rw [BitVec.toNat_ofNat, BitVec.toNat_ofNat, Nat.mod_eq_of_lt a.isLt, Nat.mod_eq_of_lt b.isLt] at e
  rw [e]
theorem bit_and (a b : Int) {j : Nat} (hj : j < 8) (ha : 0 ≤ a ∧ a < 256) (hb : 0 ≤ b ∧ b < 256) : bitB (Go.bits .and .u8 a b) j = (bitB a j && bitB b j) := by
  rw [bit_bv (bits8_byt .and a b) hj, bit_bv ha hj, bit_bv hb hj]
  rw [show bv (Go.bits .and .u8 a b) = bv a &&& bv b from bv_wrap _, BitVec.getLsbD_and]
theorem bit_andNot (a b : Int) {j : Nat} (hj : j < 8) (ha : 0 ≤ a ∧ a < 256) (hb : 0 ≤ b ∧ b < 256) : bitB (Go.bits .andNot .u8 a b) j = (bitB a j && !bitB b j) := by
  rw [bit_bv (bits8_byt .andNot a b) hj, bit_bv ha hj, bit_bv hb hj]
  rw [show bv (Go.bits .andNot .u8 a b) = bv a &&& ~~~(bv b) from bv_wrap _, BitVec.getLsbD_and, BitVec.getLsbD_not]
  simp [hj]
theorem bit_xor {a b : Int} {j : Nat} (hj : j < 8) (ha : 0 ≤ a ∧ a < 256) (hb : 0 ≤ b ∧ b < 256) : bitB (xor8 a b) j = (bitB a j ^^ bitB b j) := by
  unfold xor8
  rw [bit_bv (bits8_byt .xor a b) hj, bit_bv ha hj, bit_bv hb hj]
  rw [show bv (Go.bits .xor .u8 a b) = bv a ^^^ bv b from bv_wrap _, BitVec.getLsbD_xor]
theorem bit_pow0 : ∀ i j : Fin 8, bitB ((2 : Int) ^ i.val) j.val = decide (i.val = j.val) := by decide +kernel
theorem pow_byt0 : ∀ i : Fin 8, 0 ≤ (2 : Int) ^ i.val ∧ (2 : Int) ^ i.val < 256 := by decide +kernel
theorem bit_255 : ∀ j : Fin 8, bitB 255 j.val = true := by decide +kernel
theorem bit_inv {x : Int} (hx : 0 ≤ x ∧ x < 256) {j : Nat} (hj : j < 8) : bitB (xor8 255 x) j = !bitB x j := by
  rw [bit_xor hj (by omega) hx, bit_255 ⟨j, hj⟩, Bool.true_xor]
theorem f1_0 : ∀ x : Fin 256, ∀ j : Fin 8, (Go.bits .and .u8 (Int.fdiv ((x.val : Nat) : Int) (2 ^ (Nat.min j.val 8))) 1 == 1) = bitB ((x.val : Nat) : Int) j.val := by decide +kernel
theorem f1 {x : Int} (hx : 0 ≤ x ∧ x < 256) {j : Nat} (hj : j < 8) : (Go.bits .and .u8 (Int.fdiv x (2 ^ (Nat.min j 8))) 1 == 1) = bitB x j := by
  obtain ⟨y, rfl⟩ := byte_nat hx
  exact f1_0 y ⟨j, hj⟩
theorem f2_0 : ∀ j : Fin 8, IntKind.u8.wrap ((1 : Int) * (2 ^ (Nat.min j.val 8))) = 2 ^ j.val := by decide +kernel
theorem f3_0 : ∀ x : Fin 256, ∀ j : Fin 8, bitB ((x.val : Nat) : Int) j.val = true → IntKind.u8.wrap (((x.val : Nat) : Int) - IntKind.u8.wrap (2 ^ j.val)) = xor8 ((x.val : Nat) : Int) (2 ^ j.val) := by decide +kernel
theorem f4_0 : ∀ x : Fin 256, ∀ j : Fin 8, bitB ((x.val : Nat) : Int) j.val = false → IntKind.u8.wrap (((x.val : Nat) : Int) + IntKind.u8.wrap (2 ^ j.val)) = xor8 ((x.val : Nat) : Int) (2 ^ j.val) := by decide +kernel
theorem f3 {x : Int} (hx : 0 ≤ x ∧ x < 256) {j : Nat} (hj : j < 8) (h : bitB x j = true) : IntKind.u8.wrap (x - IntKind.u8.wrap (2 ^ j)) = xor8 x (2 ^ j) := by
  obtain ⟨y, rfl⟩ := byte_nat hx
  exact f3_0 y ⟨j, hj⟩ h
theorem f4 {x : Int} (hx : 0 ≤ x ∧ x < 256) {j : Nat} (hj : j < 8) (h : bitB x j = false) : IntKind.u8.wrap (x + IntKind.u8.wrap (2 ^ j)) = xor8 x (2 ^ j) := by
  obtain ⟨y, rfl⟩ := byte_nat hx
  exact f4_0 y ⟨j, hj⟩ h
theorem f6 {x : Int} (hx : 0 ≤ x ∧ x < 256) (j : Nat) : (Int.tmod (Int.tdiv (IntKind.i64.wrap x) (2 ^ j)) 2 == 1) = bitB x j := by
  rw [i64_id (by omega) (by omega), Int.tdiv_eq_ediv_of_nonneg hx.1, Int.tmod_eq_emod_of_nonneg (Int.ediv_nonneg hx.1 (Int.le_of_lt (Int.pow_pos (by omega))))]
  rfl

/-! ### Bits of a list of bytes -/
def hasL (xs : List Int) (i : Nat) : Bool := bitB (xs.getD (i / 8) 0) (i % 8)
def mBit (ms : List Int) (i : Nat) : Bool := if ms.length = 0 then true else bitB (ms.getD (i / 8 % ms.length) 0) (i % 8)
def flip1 (xs : List Int) (i : Nat) : List Int := xs.set (i / 8) (xor8 (xs.getD (i / 8) 0) (2 ^ (i % 8)))
def turn (xs : List Int) (f : Nat → Bool) : Nat → List Int
  | 0 => xs
  | k + 1 => if f k then flip1 (turn xs f k) k else turn xs f k
theorem flip1_length (xs : List Int) (i : Nat) : (flip1 xs i).length = xs.length := by simp [flip1]
theorem turn_length (xs : List Int) (f : Nat → Bool) : ∀ k, (turn xs f k).length = xs.length
  | 0 => rfl
  | k + 1 => by
    unfold turn
    split
    · rw [flip1_length, turn_length xs f k]
    · exact turn_length xs f k
theorem flip1_byt {xs : List Int} (h : Byt xs) (i : Nat) : Byt (flip1 xs i) := by
  intro y hy
  rcases List.mem_or_eq_of_mem_set hy with h1 | h1
  · exact h y h1
  · rw [h1]; exact bits8_byt .xor _ _
theorem turn_byt {xs : List Int} (h : Byt xs) (f : Nat → Bool) : ∀ k, Byt (turn xs f k)
  | 0 => h
  | k + 1 => by
    unfold turn
    split
    · exact flip1_byt (turn_byt h f k) k
    · exact turn_byt h f k
theorem turn_congr {xs : List Int} {f f' : Nat → Bool} : ∀ {k : Nat}, (∀ i, i < k → f i = f' i) → turn xs f k = turn xs f' k
  | 0, _ => rfl
  | k + 1, h => by
    unfold turn
    rw [turn_congr (fun i hi => h i (by omega)), h k (by omega)]
theorem hasL_flip {xs : List Int} (h : Byt xs) {i k : Nat} (hi : i < 8 * xs.length) (hk : k < 8 * xs.length) : hasL (flip1 xs k) i = if i = k then !hasL xs i else hasL xs i := by
  unfold hasL flip1
  have hj : i % 8 < 8 := Nat.mod_lt _ (by omega)
  have hj' : k % 8 < 8 := Nat.mod_lt _ (by omega)
  by_cases e : i / 8 = k / 8
  · have hset : (xs.set (k / 8) (xor8 (xs.getD (k / 8) 0) (2 ^ (k % 8)))).getD (i / 8) 0 = xor8 (xs.getD (k / 8) 0) (2 ^ (k % 8)) := by
      rw [getD_get (by simp; omega)]
      simp [e]
    rw [hset, bit_xor hj (h.getD _) (pow_byt0 ⟨_, hj'⟩), bit_pow0 ⟨_, hj'⟩ ⟨_, hj⟩, e]
    by_cases e2 : i = k
    · subst e2; rw [if_pos rfl, decide_eq_true rfl, Bool.xor_true]
    · rw [if_neg e2, decide_eq_false (by dsimp only; omega), Bool.xor_false]
  · have hset : (xs.set (k / 8) (xor8 (xs.getD (k / 8) 0) (2 ^ (k % 8)))).getD (i / 8) 0 = xs.getD (i / 8) 0 := by
      rw [List.getD_eq_getElem?_getD, List.getElem?_set_ne (fun h => e h.symm), ← List.getD_eq_getElem?_getD]
    rw [hset, if_neg (fun e2 => e (by rw [e2]))]
theorem hasL_turn {xs : List Int} (h : Byt xs) (f : Nat → Bool) {i : Nat} (hi : i < 8 * xs.length) : ∀ k, k ≤ 8 * xs.length → hasL (turn xs f k) i = if i < k ∧ f i = true then !hasL xs i else hasL xs i
  | 0, _ => by rw [if_neg (by omega)]; rfl
  | k + 1, hk => by
    have ih := hasL_turn h f hi k (by omega)
    unfold turn
    by_cases hf : f k = true
    · rw [if_pos hf, hasL_flip (turn_byt h f k) (by rw [turn_length]; exact hi) (by rw [turn_length]; omega), ih]
      by_cases e : i = k
      · subst e
        rw [if_pos rfl, if_neg (by omega), if_pos ⟨by omega, hf⟩]
      · rw [if_neg e]
        by_cases e2 : i < k ∧ f i = true
        · rw [if_pos e2, if_pos ⟨by omega, e2.2⟩]
        · rw [if_neg e2, if_neg (fun h => e2 ⟨by omega, h.2⟩)]
    · rw [if_neg hf, ih]
      by_cases e2 : i < k ∧ f i = true
      · rw [if_pos e2, if_pos ⟨by omega, e2.2⟩]
      · rw [if_neg e2, if_neg (fun h => e2 ⟨by by_cases e : i = k; exact absurd (e ▸ h.2) hf; omega, h.2⟩)]
theorem bits_ext {xs ys : List Int} (hx : Byt xs) (hy : Byt ys) (hl : xs.length = ys.length) (h : ∀ i, i < 8 * xs.length → hasL xs i = hasL ys i) : xs = ys := by
  refine List.ext_getElem hl fun m h1 h2 => ?_
  rw [← getD_get h1, ← getD_get h2]
  refine byte_ext (hx.getD m) (hy.getD m) fun j hj => ?_
  have := h (8 * m + j) (by omega)
  unfold hasL at this
  rwa [show (8 * m + j) / 8 = m by omega, show (8 * m + j) % 8 = j by omega] at this
def andL (xs ys : List Int) : List Int := (List.range xs.length).map fun i => Go.bits .and .u8 (xs.getD i 0) (ys.getD i 0)
theorem andL_length (xs ys : List Int) : (andL xs ys).length = xs.length := by simp [andL]
theorem andL_byt (xs ys : List Int) : Byt (andL xs ys) := by
  intro y hy
  obtain ⟨i, _, rfl⟩ := List.mem_map.1 hy
  exact bits8_byt .and _ _
theorem hasL_and {xs ys : List Int} (hx : Byt xs) (hy : Byt ys) {i : Nat} (hi : i < 8 * xs.length) : hasL (andL xs ys) i = (hasL xs i && hasL ys i) := by
  unfold hasL
  have hj : i % 8 < 8 := Nat.mod_lt _ (by omega)
  have hb : (andL xs ys).getD (i / 8) 0 = Go.bits .and .u8 (xs.getD (i / 8) 0) (ys.getD (i / 8) 0) := by
    rw [getD_get (by rw [andL_length]; omega)]
    simp [andL]
  rw [hb, bit_and _ _ hj (hx.getD _) (hy.getD _)]
def clrL (xs ys : List Int) : List Int := (List.range xs.length).map fun i => Go.bits .andNot .u8 (xs.getD i 0) (ys.getD i 0)
theorem clrL_length (xs ys : List Int) : (clrL xs ys).length = xs.length := by simp [clrL]
theorem clrL_byt (xs ys : List Int) : Byt (clrL xs ys) := by
  intro y hy
  obtain ⟨i, _, rfl⟩ := List.mem_map.1 hy
  exact bits8_byt .andNot _ _
theorem hasL_clr {xs ys : List Int} (hx : Byt xs) (hy : Byt ys) {i : Nat} (hi : i < 8 * xs.length) : hasL (clrL xs ys) i = (hasL xs i && !hasL ys i) := by
  unfold hasL
  have hj : i % 8 < 8 := Nat.mod_lt _ (by omega)
  have hb : (clrL xs ys).getD (i / 8) 0 = Go.bits .andNot .u8 (xs.getD (i / 8) 0) (ys.getD (i / 8) 0) := by
    rw [getD_get (by rw [clrL_length]; omega)]
    simp [clrL]
  rw [hb, bit_andNot _ _ hj (hx.getD _) (hy.getD _)]
theorem hasL_inv {xs : List Int} (hx : Byt xs) {i : Nat} (hi : i < 8 * xs.length) : hasL (invL xs) i = !hasL xs i := by
  unfold hasL
  have hj : i % 8 < 8 := Nat.mod_lt _ (by omega)
  have hb : (invL xs).getD (i / 8) 0 = xor8 255 (xs.getD (i / 8) 0) := by
    rw [getD_get (by simp [invL]; omega), getD_get (by omega)]
    simp [invL]
  rw [hb, bit_inv (hx.getD _) hj]
/-- The last number that is so, below another one; -1: there is none. -/
def lastOf (c : Nat → Bool) : Nat → Int
  | 0 => -1
  | k + 1 => if c k then (k : Int) else lastOf c k
theorem lastOf_congr {c d : Nat → Bool} : ∀ {k : Nat}, (∀ i, i < k → c i = d i) → lastOf c k = lastOf d k
  | 0, _ => rfl
  | k + 1, h => by unfold lastOf; rw [h k (by omega), lastOf_congr fun i hi => h i (by omega)]
theorem lastOf_some {c : Nat → Bool} : ∀ {k i : Nat}, i < k → c i = true → ∃ m, m < k ∧ lastOf c k = (m : Int) ∧ c m = true
  | 0, i, h, _ => absurd h (by omega)
  | k + 1, i, h, hc => by
    unfold lastOf
    by_cases hk : c k = true
    · exact ⟨k, by omega, by rw [if_pos hk], hk⟩
    · obtain ⟨m, h1, h2, h3⟩ := lastOf_some (k := k) (i := i) (by by_cases e : i = k; exact absurd (e ▸ hc) hk; omega) hc
      exact ⟨m, by omega, by rw [if_neg hk]; exact h2, h3⟩

end Go.Proofs.Ytfpkaebmiojicaa.Vc

/-! The plans of functions as plain statements, printed by wip/tools/vcgen.py; the kernel holds each to the code. -/
namespace Go.Proofs.Ytfpkaebmiojicaa.Vc
open Go Go.Eng
set_option linter.unusedVariables false

/-! ### nepenthe/fault.Bit: function 132 -/
def fault_Bit.A : Ann := .no
def fault_Bit.P (a0 : Option Addr) (n0 c0 : Nat) (p1 : Int) (w : World) (K : Bool × Unit → World → Prop) : Prop :=
  cond (decide (p1 < 0))
  (K (false, ()) w)
  (cond (((n0 : Nat) : Int) == 0)
  (K (true, ()) w)
  (8 ≠ (0 : Int) ∧ Rng .i64 (Int.tdiv p1 8) ∧
  ((n0 : Nat) : Int) ≠ (0 : Int) ∧
  (0 ≤ (Int.tmod (Int.tdiv p1 8) ((n0 : Nat) : Int)) ∧ (Int.tmod (Int.tdiv p1 8) ((n0 : Nat) : Int)) < ((n0 : Nat) : Int)) ∧ ∃ q1 : Addr, a0 = some q1 ∧
  LoadS w (q1.add ((Int.tmod (Int.tdiv p1 8) ((n0 : Nat) : Int)).toNat * 1)) (.int .u8) fun (x2 : Int) =>
  8 ≠ (0 : Int) ∧
  (0 : Int) ≤ (Int.tmod p1 8) ∧
  K (((Go.bits .and .u8 (Int.fdiv x2 (2 ^ (Nat.min ((Int.tmod p1 8)).toNat 8))) 1) == 1), ()) w))
theorem fault_Bit.vc (a0 : Option Addr) (n0 c0 : Nat) (p1 : Int) (w : World) (K : Bool × Unit → World → Prop) (h : fault_Bit.P a0 n0 c0 p1 w K) : CallV Try.prog 132 #[.slice a0 n0 c0, .int .i64 p1] w [.one .bool] K := by
  have e : vcFun Try.prog okf false Try.f132 fault_Bit.A #[.slice a0 n0 c0, .int .i64 p1] w [.one .bool] K = fault_Bit.P a0 n0 c0 p1 w K := by kernel_rfl
  exact vcFun.calls okf_ok follows Try.func132 (e.symm ▸ h)

/-! ### nepenthe/nepentheref12.Bit: function 128 -/
def ref12_Bit.A : Ann := .two .no (.two .no (.two (.draw (.take 0 (.take 1 (.take 2 (.take 3 (.take 4 (.take 5 (.take 6 (.take 7 (.take 8 (.take 9 (.take 10 (.take 11 (.take 12 (.take 13 (.take 14 (.eff 15 (.take 16 (.take 17 (.take 18 (.take 19 (.take 20 (.done))))))))))))))))))))))) .no))
def ref12_Bit.P (a0 : Option Addr) (n0 c0 : Nat) (p1 : Int) (w : World) (K : Bool × Unit → World → Prop) : Prop :=
  cond (decide (p1 < 0))
  (K (false, ()) w)
  (DrawV fun D1 =>
  cond (((n0 : Nat) : Int) == 0)
  (K (true, ()) w.drew)
  (8 ≠ (0 : Int) ∧ Rng .i64 (Int.tdiv p1 8) ∧
  ((n0 : Nat) : Int) ≠ (0 : Int) ∧
  (0 ≤ (Int.tmod (Int.tdiv p1 8) ((n0 : Nat) : Int)) ∧ (Int.tmod (Int.tdiv p1 8) ((n0 : Nat) : Int)) < ((n0 : Nat) : Int)) ∧ ∃ q2 : Addr, a0 = some q2 ∧
  (D1 (q2.add ((Int.tmod (Int.tdiv p1 8) ((n0 : Nat) : Int)).toNat * 1)).block ∧ LoadS w.drew (q2.add ((Int.tmod (Int.tdiv p1 8) ((n0 : Nat) : Int)).toNat * 1)) (.int .u8) fun (x3 : Int) =>
  8 ≠ (0 : Int) ∧
  CallV Try.prog 129 #[.int .i64 (Int.tmod p1 8)] w.drew [.one (.int .i64)] fun (r4 : Int × Unit) w5 =>
  KeepOn D1 w.drew w5 ∧
  r4.1 ≠ (0 : Int) ∧ Rng .i64 (Int.tdiv (IntKind.i64.wrap x3) r4.1) ∧
  2 ≠ (0 : Int) ∧
  K (((Int.tmod (Int.tdiv (IntKind.i64.wrap x3) r4.1) 2) == 1), ()) w5)))
theorem ref12_Bit.vc (a0 : Option Addr) (n0 c0 : Nat) (p1 : Int) (w : World) (K : Bool × Unit → World → Prop) (h : ref12_Bit.P a0 n0 c0 p1 w K) : CallV Try.prog 128 #[.slice a0 n0 c0, .int .i64 p1] w [.one .bool] K := by
  have e : vcFun Try.prog okf false Try.f128 ref12_Bit.A #[.slice a0 n0 c0, .int .i64 p1] w [.one .bool] K = ref12_Bit.P a0 n0 c0 p1 w K := by kernel_rfl
  exact vcFun.calls okf_ok follows Try.func128 (e.symm ▸ h)

/-! ### nepenthe/fault.Clear: function 103 -/
def fault_Clear.A : Ann := .no
def fault_Clear.P (a0 : Option Addr) (n0 c0 : Nat) (a1 : Option Addr) (n1 c1 : Nat) (a2 : Option Addr) (n2 c2 : Nat) (w : World) (K : SlV × Int × Unit → World → Prop) : Prop :=
  cond (((n0 : Nat) : Int) != ((n1 : Nat) : Int))
  (K ((⟨none, 0, 0⟩ : SlV), (2 : Int), ()) w)
  (CallV Try.prog 125 #[.slice a0 n0 c0, .slice a1 n1 c1] w [.one .sl] fun (r1 : SlV × Unit) w2 =>
  CallV Try.prog 124 #[.slice a0 n0 c0, .slice r1.1.a r1.1.n r1.1.c, .slice a2 n2 c2, .bool false] w2 [.one .sl] fun (r3 : SlV × Unit) w4 =>
  K (r3.1, (0 : Int), ()) w4)
theorem fault_Clear.vc (a0 : Option Addr) (n0 c0 : Nat) (a1 : Option Addr) (n1 c1 : Nat) (a2 : Option Addr) (n2 c2 : Nat) (w : World) (K : SlV × Int × Unit → World → Prop) (h : fault_Clear.P a0 n0 c0 a1 n1 c1 a2 n2 c2 w K) : CallV Try.prog 103 #[.slice a0 n0 c0, .slice a1 n1 c1, .slice a2 n2 c2] w [.one .sl, .one (.int .i64)] K := by
  have e : vcFun Try.prog okf false Try.f103 fault_Clear.A #[.slice a0 n0 c0, .slice a1 n1 c1, .slice a2 n2 c2] w [.one .sl, .one (.int .i64)] K = fault_Clear.P a0 n0 c0 a1 n1 c1 a2 n2 c2 w K := by kernel_rfl
  exact vcFun.calls okf_ok follows Try.func103 (e.symm ▸ h)

/-! ### nepenthe/fault.Fail: function 105 -/
def fault_Fail.A : Ann := .no
def fault_Fail.P (a0 : Option Addr) (n0 c0 : Nat) (a1 : Option Addr) (n1 c1 : Nat) (a2 : Option Addr) (n2 c2 : Nat) (w : World) (K : SlV × Int × Unit → World → Prop) : Prop :=
  cond (((n0 : Nat) : Int) != ((n1 : Nat) : Int))
  (K ((⟨none, 0, 0⟩ : SlV), (2 : Int), ()) w)
  (CallV Try.prog 125 #[.slice a0 n0 c0, .slice a1 n1 c1] w [.one .sl] fun (r1 : SlV × Unit) w2 =>
  CallV Try.prog 124 #[.slice a0 n0 c0, .slice r1.1.a r1.1.n r1.1.c, .slice a2 n2 c2, .bool true] w2 [.one .sl] fun (r3 : SlV × Unit) w4 =>
  K (r3.1, (0 : Int), ()) w4)
theorem fault_Fail.vc (a0 : Option Addr) (n0 c0 : Nat) (a1 : Option Addr) (n1 c1 : Nat) (a2 : Option Addr) (n2 c2 : Nat) (w : World) (K : SlV × Int × Unit → World → Prop) (h : fault_Fail.P a0 n0 c0 a1 n1 c1 a2 n2 c2 w K) : CallV Try.prog 105 #[.slice a0 n0 c0, .slice a1 n1 c1, .slice a2 n2 c2] w [.one .sl, .one (.int .i64)] K := by
  have e : vcFun Try.prog okf false Try.f105 fault_Fail.A #[.slice a0 n0 c0, .slice a1 n1 c1, .slice a2 n2 c2] w [.one .sl, .one (.int .i64)] K = fault_Fail.P a0 n0 c0 a1 n1 c1 a2 n2 c2 w K := by kernel_rfl
  exact vcFun.calls okf_ok follows Try.func105 (e.symm ▸ h)

/-! ### nepenthe/nepentheref12.And: function 30 -/
-- loop 0 carries 5: .one .sl, 6: .one (.int .i64)
def ref12_And.A : Ann := .two .no (.two .no (.two (.two .no (.one (.loop [5, 6, 8, 9, 10, 11, 12, 13, 14, 15, 16, 17, 18, 19, 20, 21, 22, 23, 24, 25] [(5, .one .sl), (6, .one (.int .i64))] (.two .no (.two (.one (.draw (.take 0 (.take 1 (.take 2 (.take 3 (.take 4 (.take 5 (.take 6 (.take 7 (.take 8 (.take 9 (.eff 10 (.eff 11 (.take 12 (.done)))))))))))))))) .no))))) .no))
def ref12_And.P (a0 : Option Addr) (n0 c0 : Nat) (a1 : Option Addr) (n1 c1 : Nat) (w : World) (K : SlV × Unit → World → Prop) : Prop :=
  NewV #[] 5 w fun b1 w2 =>
  LoopV [.one .sl, .one (.int .i64)] ((⟨(some ⟨b1, 0, none⟩), 0, 0⟩ : SlV), (0 : Int), ()) w2 fun (z3 : SlV × Int × Unit) w4 (K5 : SlV × Int × Unit → World → Prop) =>
  cond (decide (z3.2.1 < ((n0 : Nat) : Int)))
  (DrawV fun D6 =>
  (0 ≤ z3.2.1 ∧ z3.2.1 < ((n0 : Nat) : Int)) ∧ ∃ q7 : Addr, a0 = some q7 ∧
  (D6 (q7.add (z3.2.1.toNat * 1)).block ∧ LoadS w4.drew (q7.add (z3.2.1.toNat * 1)) (.int .u8) fun (x8 : Int) =>
  (0 ≤ z3.2.1 ∧ z3.2.1 < ((n1 : Nat) : Int)) ∧ ∃ q9 : Addr, a1 = some q9 ∧
  (D6 (q9.add (z3.2.1.toNat * 1)).block ∧ LoadS w4.drew (q9.add (z3.2.1.toNat * 1)) (.int .u8) fun (x10 : Int) =>
  NewV #[.int .u8 (Go.bits .and .u8 x8 x10)] 5 w4.drew fun b11 w12 =>
  KeepOn D6 w4.drew w12 ∧
  AppS w12 (some ⟨b11, 0, none⟩) 1 1 fun ns17 =>
  AppV w12 5 1 1 z3.1.a z3.1.n z3.1.c ns17 1 fun a13 n14 c15 w16 =>
  KeepOn D6 w4.drew w16 ∧
  Rng .i64 (z3.2.1 + 1) ∧
  K5 ((⟨a13, n14, c15⟩ : SlV), z3.2.1 + 1, ()) w16)))
  (K (z3.1, ()) w4)
theorem ref12_And.vc (a0 : Option Addr) (n0 c0 : Nat) (a1 : Option Addr) (n1 c1 : Nat) (w : World) (K : SlV × Unit → World → Prop) (h : ref12_And.P a0 n0 c0 a1 n1 c1 w K) : CallV Try.prog 30 #[.slice a0 n0 c0, .slice a1 n1 c1] w [.one .sl] K := by
  have e : vcFun Try.prog okf false Try.f30 ref12_And.A #[.slice a0 n0 c0, .slice a1 n1 c1] w [.one .sl] K = ref12_And.P a0 n0 c0 a1 n1 c1 w K := by kernel_rfl
  exact vcFun.calls okf_ok follows Try.func30 (e.symm ▸ h)

/-! ### nepenthe/fault.Set: function 115 -/
def fault_Set.A : Ann := .no
def fault_Set.P (a0 : Option Addr) (n0 c0 : Nat) (a1 : Option Addr) (n1 c1 : Nat) (w : World) (K : SlV × Unit → World → Prop) : Prop :=
  CallV Try.prog 92 #[.slice a0 n0 c0] w [.one .sl] fun (r1 : SlV × Unit) w2 =>
  CallV Try.prog 124 #[.slice a0 n0 c0, .slice r1.1.a r1.1.n r1.1.c, .slice a1 n1 c1, .bool false] w2 [.one .sl] fun (r3 : SlV × Unit) w4 =>
  K (r3.1, ()) w4
theorem fault_Set.vc (a0 : Option Addr) (n0 c0 : Nat) (a1 : Option Addr) (n1 c1 : Nat) (w : World) (K : SlV × Unit → World → Prop) (h : fault_Set.P a0 n0 c0 a1 n1 c1 w K) : CallV Try.prog 115 #[.slice a0 n0 c0, .slice a1 n1 c1] w [.one .sl] K := by
  have e : vcFun Try.prog okf false Try.f115 fault_Set.A #[.slice a0 n0 c0, .slice a1 n1 c1] w [.one .sl] K = fault_Set.P a0 n0 c0 a1 n1 c1 w K := by kernel_rfl
  exact vcFun.calls okf_ok follows Try.func115 (e.symm ▸ h)

/-! ### nepenthe/fault.Check: function 75 -/
-- loop 0 carries 10: .one (.int .i64)
def fault_Check.A : Ann := .two .no (.two .no (.two (.two .no (.one (.loop [2, 4, 10, 11, 12, 13, 14, 15, 16, 17, 18, 19, 20, 21, 22, 23] [(10, .one (.int .i64))] .no))) .no))
def fault_Check.P (a0 : Option Addr) (n0 c0 : Nat) (w : World) (K : Int × Unit → World → Prop) : Prop :=
  cond (decide (((n0 : Nat) : Int) > 64))
  (K ((2 : Int), ()) w)
  (LoopV [.one (.int .i64)] ((0 : Int), ()) w fun (z1 : Int × Unit) w2 (K3 : Int × Unit → World → Prop) =>
  cond (decide (z1.1 < ((n0 : Nat) : Int)))
  ((0 ≤ z1.1 ∧ z1.1 < ((n0 : Nat) : Int)) ∧ ∃ q4 : Addr, a0 = some q4 ∧
  LoadA w2 (q4.add (z1.1.toNat * 3)) [.int .i64, .bool, .sl] fun (x5 : Int × Bool × SlV × Unit) =>
  NewV #[.int .i64 0, .bool false, .slice none 0 0] 109 w2 fun b6 w7 =>
  StoreV w7 ⟨b6, 0, none⟩ [.int .i64 x5.1, .bool x5.2.1, .slice x5.2.2.1.a x5.2.2.1.n x5.2.2.1.c] fun w8 =>
  LoadS w8 ⟨b6, 0, none⟩ (.int .i64) fun (x9 : Int) =>
  cond (decide (x9 < 0))
  (K ((2 : Int), ()) w8)
  (LoadS w8 ⟨b6, 2, none⟩ .sl fun (x10 : SlV) =>
  cond (decide (((x10.n : Nat) : Int) > 64))
  (K ((2 : Int), ()) w8)
  (Rng .i64 (z1.1 + 1) ∧
  K3 (z1.1 + 1, ()) w8)))
  (K ((0 : Int), ()) w2))
theorem fault_Check.vc (a0 : Option Addr) (n0 c0 : Nat) (w : World) (K : Int × Unit → World → Prop) (h : fault_Check.P a0 n0 c0 w K) : CallV Try.prog 75 #[.slice a0 n0 c0] w [.one (.int .i64)] K := by
  have e : vcFun Try.prog okf false Try.f75 fault_Check.A #[.slice a0 n0 c0] w [.one (.int .i64)] K = fault_Check.P a0 n0 c0 w K := by kernel_rfl
  exact vcFun.calls okf_ok follows Try.func75 (e.symm ▸ h)

/-! ### nepenthe/nepentheref12.Right: function 40 -/
-- loop 0 carries 3: .one (.int .i64)
def ref12_Right.A : Ann := .two .no (.two (.two .no (.one (.loop [2, 3, 4, 5, 6, 7, 8, 9, 10, 11, 12, 13, 14, 15, 16, 17, 18, 19, 20, 21, 22, 23, 24] [(3, .one (.int .i64))] .no))) .no)
def ref12_Right.P (a0 : Option Addr) (n0 c0 : Nat) (w : World) (K : Bool × Unit → World → Prop) : Prop :=
  LoopV [.one (.int .i64)] ((0 : Int), ()) w fun (z1 : Int × Unit) w2 (K3 : Int × Unit → World → Prop) =>
  cond (decide (z1.1 < ((n0 : Nat) : Int)))
  ((0 ≤ z1.1 ∧ z1.1 < ((n0 : Nat) : Int)) ∧ ∃ q4 : Addr, a0 = some q4 ∧
  LoadS w2 (q4.add (z1.1.toNat * 3)) (.int .i64) fun (x5 : Int) =>
  cond (decide (x5 < 0))
  (K (false, ()) w2)
  ((0 ≤ z1.1 ∧ z1.1 < ((n0 : Nat) : Int)) ∧ ∃ q6 : Addr, a0 = some q6 ∧
  LoadS w2 ((q6.add (z1.1.toNat * 3)).add 2) .sl fun (x7 : SlV) =>
  cond (decide (((x7.n : Nat) : Int) > 64))
  (K (false, ()) w2)
  (Rng .i64 (z1.1 + 1) ∧
  K3 (z1.1 + 1, ()) w2)))
  (K (decide (((n0 : Nat) : Int) ≤ 64), ()) w2)
theorem ref12_Right.vc (a0 : Option Addr) (n0 c0 : Nat) (w : World) (K : Bool × Unit → World → Prop) (h : ref12_Right.P a0 n0 c0 w K) : CallV Try.prog 40 #[.slice a0 n0 c0] w [.one .bool] K := by
  have e : vcFun Try.prog okf false Try.f40 ref12_Right.A #[.slice a0 n0 c0] w [.one .bool] K = ref12_Right.P a0 n0 c0 w K := by kernel_rfl
  exact vcFun.calls okf_ok follows Try.func40 (e.symm ▸ h)

/-! ### nepenthe/fault.At: function 126 -/
-- loop 0 carries 10: .one (.int .i64)
def fault_At.A : Ann := .two .no (.two (.two .no (.one (.loop [5, 7, 10, 11, 12, 13, 14, 15, 16, 17, 18, 19, 20, 21, 22, 23, 24] [(10, .one (.int .i64))] .no))) .no)
def fault_At.P (a0 : Option Addr) (n0 c0 : Nat) (p1 : Int) (w : World) (K : (Int × Bool × SlV × Unit) × Bool × Unit → World → Prop) : Prop :=
  NewV #[.int .i64 0, .bool false, .slice none 0 0] 109 w fun b1 w2 =>
  LoopV [.one (.int .i64)] ((0 : Int), ()) w2 fun (z3 : Int × Unit) w4 (K5 : Int × Unit → World → Prop) =>
  cond (decide (z3.1 < ((n0 : Nat) : Int)))
  ((0 ≤ z3.1 ∧ z3.1 < ((n0 : Nat) : Int)) ∧ ∃ q6 : Addr, a0 = some q6 ∧
  LoadA w4 (q6.add (z3.1.toNat * 3)) [.int .i64, .bool, .sl] fun (x7 : Int × Bool × SlV × Unit) =>
  NewV #[.int .i64 0, .bool false, .slice none 0 0] 109 w4 fun b8 w9 =>
  StoreV w9 ⟨b8, 0, none⟩ [.int .i64 x7.1, .bool x7.2.1, .slice x7.2.2.1.a x7.2.2.1.n x7.2.2.1.c] fun w10 =>
  LoadS w10 ⟨b8, 0, none⟩ (.int .i64) fun (x11 : Int) =>
  cond (x11 == p1)
  (NewV #[] 5 w10 fun b12 w13 =>
  LoadS w13 ⟨b8, 2, none⟩ .sl fun (x14 : SlV) =>
  AppS w13 x14.a x14.n 1 fun ns19 =>
  AppV w13 5 1 1 (some ⟨b12, 0, none⟩) 0 0 ns19 x14.n fun a15 n16 c17 w18 =>
  StoreV w18 ⟨b8, 2, none⟩ [.slice a15 n16 c17] fun w20 =>
  LoadA w20 ⟨b8, 0, none⟩ [.int .i64, .bool, .sl] fun (x21 : Int × Bool × SlV × Unit) =>
  StoreV w20 ⟨b1, 0, none⟩ [.int .i64 x21.1, .bool x21.2.1, .slice x21.2.2.1.a x21.2.2.1.n x21.2.2.1.c] fun w22 =>
  LoadA w22 ⟨b1, 0, none⟩ [.int .i64, .bool, .sl] fun (x23 : Int × Bool × SlV × Unit) =>
  K ((x23.1, x23.2.1, x23.2.2.1, ()), true, ()) w22)
  (Rng .i64 (z3.1 + 1) ∧
  K5 (z3.1 + 1, ()) w10))
  (StoreV w4 ⟨b1, 0, none⟩ [.int .i64 0, .bool false, .slice none 0 0] fun w24 =>
  LoadA w24 ⟨b1, 0, none⟩ [.int .i64, .bool, .sl] fun (x25 : Int × Bool × SlV × Unit) =>
  K ((x25.1, x25.2.1, x25.2.2.1, ()), false, ()) w24)
theorem fault_At.vc (a0 : Option Addr) (n0 c0 : Nat) (p1 : Int) (w : World) (K : (Int × Bool × SlV × Unit) × Bool × Unit → World → Prop) (h : fault_At.P a0 n0 c0 p1 w K) : CallV Try.prog 126 #[.slice a0 n0 c0, .int .i64 p1] w [.agg [.int .i64, .bool, .sl], .one .bool] K := by
  have e : vcFun Try.prog okf false Try.f126 fault_At.A #[.slice a0 n0 c0, .int .i64 p1] w [.agg [.int .i64, .bool, .sl], .one .bool] K = fault_At.P a0 n0 c0 p1 w K := by kernel_rfl
  exact vcFun.calls okf_ok follows Try.func126 (e.symm ▸ h)

/-! ### nepenthe/nepentheref12.At: function 50 -/
-- loop 0 carries 5: .one (.int .i64)
def ref12_At.A : Ann := .two .no (.two (.two .no (.one (.loop [4, 5, 6, 7, 8, 9, 10, 11, 12, 13, 14, 15, 16, 17, 18, 19] [(5, .one (.int .i64))] .no))) .no)
def ref12_At.P (a0 : Option Addr) (n0 c0 : Nat) (p1 : Int) (w : World) (K : Int × Unit → World → Prop) : Prop :=
  LoopV [.one (.int .i64)] ((0 : Int), ()) w fun (z1 : Int × Unit) w2 (K3 : Int × Unit → World → Prop) =>
  cond (decide (z1.1 < ((n0 : Nat) : Int)))
  ((0 ≤ z1.1 ∧ z1.1 < ((n0 : Nat) : Int)) ∧ ∃ q4 : Addr, a0 = some q4 ∧
  LoadS w2 (q4.add (z1.1.toNat * 3)) (.int .i64) fun (x5 : Int) =>
  cond (x5 == p1)
  (K (z1.1, ()) w2)
  (Rng .i64 (z1.1 + 1) ∧
  K3 (z1.1 + 1, ()) w2))
  (K (((-1) : Int), ()) w2)
theorem ref12_At.vc (a0 : Option Addr) (n0 c0 : Nat) (p1 : Int) (w : World) (K : Int × Unit → World → Prop) (h : ref12_At.P a0 n0 c0 p1 w K) : CallV Try.prog 50 #[.slice a0 n0 c0, .int .i64 p1] w [.one (.int .i64)] K := by
  have e : vcFun Try.prog okf false Try.f50 ref12_At.A #[.slice a0 n0 c0, .int .i64 p1] w [.one (.int .i64)] K = ref12_At.P a0 n0 c0 p1 w K := by kernel_rfl
  exact vcFun.calls okf_ok follows Try.func50 (e.symm ▸ h)

/-! ### nepenthe/fault.Copy: function 76 -/
-- loop 0 carries 3: .one .sl, 8: .one (.int .i64)
def fault_Copy.A : Ann := .two .no (.two .no (.two (.two .no (.one (.loop [3, 5, 8, 9, 10, 11, 12, 13, 14, 15, 16, 17, 18, 19, 20, 21] [(3, .one .sl), (8, .one (.int .i64))] .no))) .no))
def fault_Copy.P (a0 : Option Addr) (n0 c0 : Nat) (w : World) (K : SlV × Unit → World → Prop) : Prop :=
  LoopV [.one .sl, .one (.int .i64)] ((⟨none, 0, 0⟩ : SlV), (0 : Int), ()) w fun (z1 : SlV × Int × Unit) w2 (K3 : SlV × Int × Unit → World → Prop) =>
  cond (decide (z1.2.1 < ((n0 : Nat) : Int)))
  ((0 ≤ z1.2.1 ∧ z1.2.1 < ((n0 : Nat) : Int)) ∧ ∃ q4 : Addr, a0 = some q4 ∧
  LoadA w2 (q4.add (z1.2.1.toNat * 3)) [.int .i64, .bool, .sl] fun (x5 : Int × Bool × SlV × Unit) =>
  NewV #[.int .i64 0, .bool false, .slice none 0 0] 109 w2 fun b6 w7 =>
  StoreV w7 ⟨b6, 0, none⟩ [.int .i64 x5.1, .bool x5.2.1, .slice x5.2.2.1.a x5.2.2.1.n x5.2.2.1.c] fun w8 =>
  NewV #[] 5 w8 fun b9 w10 =>
  LoadS w10 ⟨b6, 2, none⟩ .sl fun (x11 : SlV) =>
  AppS w10 x11.a x11.n 1 fun ns16 =>
  AppV w10 5 1 1 (some ⟨b9, 0, none⟩) 0 0 ns16 x11.n fun a12 n13 c14 w15 =>
  StoreV w15 ⟨b6, 2, none⟩ [.slice a12 n13 c14] fun w17 =>
  LoadA w17 ⟨b6, 0, none⟩ [.int .i64, .bool, .sl] fun (x18 : Int × Bool × SlV × Unit) =>
  NewV #[.int .i64 x18.1, .bool x18.2.1, .slice x18.2.2.1.a x18.2.2.1.n x18.2.2.1.c] 109 w17 fun b19 w20 =>
  AppS w20 (some ⟨b19, 0, none⟩) 1 3 fun ns25 =>
  AppV w20 109 3 40 z1.1.a z1.1.n z1.1.c ns25 1 fun a21 n22 c23 w24 =>
  Rng .i64 (z1.2.1 + 1) ∧
  K3 ((⟨a21, n22, c23⟩ : SlV), z1.2.1 + 1, ()) w24)
  (K (z1.1, ()) w2)
theorem fault_Copy.vc (a0 : Option Addr) (n0 c0 : Nat) (w : World) (K : SlV × Unit → World → Prop) (h : fault_Copy.P a0 n0 c0 w K) : CallV Try.prog 76 #[.slice a0 n0 c0] w [.one .sl] K := by
  have e : vcFun Try.prog okf false Try.f76 fault_Copy.A #[.slice a0 n0 c0] w [.one .sl] K = fault_Copy.P a0 n0 c0 w K := by kernel_rfl
  exact vcFun.calls okf_ok follows Try.func76 (e.symm ▸ h)

/-! ### nepenthe/nepentheref12.power: function 129 -/
-- loop 0 carries 3: .one (.int .i64), 4: .one (.int .i64)
def ref12_power.A : Ann := .two .no (.two .no (.two (.two .no (.one (.loop [3, 4, 5, 6, 7, 8, 9, 10, 11] [(3, .one (.int .i64)), (4, .one (.int .i64))] .no))) .no))
def ref12_power.P (p0 : Int) (w : World) (K : Int × Unit → World → Prop) : Prop :=
  LoopV [.one (.int .i64), .one (.int .i64)] ((1 : Int), (0 : Int), ()) w fun (z1 : Int × Int × Unit) w2 (K3 : Int × Int × Unit → World → Prop) =>
  cond (decide (z1.2.1 < p0))
  (Rng .i64 (z1.1 * 2) ∧
  Rng .i64 (z1.2.1 + 1) ∧
  K3 (z1.1 * 2, z1.2.1 + 1, ()) w2)
  (K (z1.1, ()) w2)
theorem ref12_power.vc (p0 : Int) (w : World) (K : Int × Unit → World → Prop) (h : ref12_power.P p0 w K) : CallV Try.prog 129 #[.int .i64 p0] w [.one (.int .i64)] K := by
  have e : vcFun Try.prog okf false Try.f129 ref12_power.A #[.int .i64 p0] w [.one (.int .i64)] K = ref12_power.P p0 w K := by kernel_rfl
  exact vcFun.calls okf_ok follows Try.func129 (e.symm ▸ h)

/-! ### nepenthe/fault.cleared: function 125 -/
-- loop 0 carries 12: .one (.int .i64)
def fault_cleared.A : Ann := .two .no (.two .no (.two (.two .no (.one (.loop [6, 12, 13, 14, 15, 16, 17, 18, 19, 20, 21, 22, 23, 24, 25, 26, 27] [(12, .one (.int .i64))] (.two .no (.two .no (.two (.one (.two .no (.draw (.take 0 (.take 1 (.take 2 (.take 3 (.take 4 (.take 5 (.take 6 (.take 7 (.take 8 (.take 9 (.take 10 (.take 11 (.eff 12 (.done))))))))))))))))) .no)))))) .no))
def fault_cleared.P (a0 : Option Addr) (n0 c0 : Nat) (a1 : Option Addr) (n1 c1 : Nat) (w : World) (K : SlV × Unit → World → Prop) : Prop :=
  ((0 : Int) ≤ (((n0 : Nat) : Int) : Int) ∧ (((n0 : Nat) : Int) : Int) ≤ (((n0 : Nat) : Int) : Int) ∧ (((n0 : Nat) : Int) : Int) ≤ 9223372036854775807 ∧ ((1 : Nat) : Int) * (((n0 : Nat) : Int) : Int) ≤ 140737488355328) ∧
  NewV (List.replicate (((n0 : Nat) : Int).toNat) [.int .u8 0]).flatten.toArray 5 w fun b1 w2 =>
  LoopV [.one (.int .i64)] ((0 : Int), ()) w2 fun (z3 : Int × Unit) w4 (K5 : Int × Unit → World → Prop) =>
  cond (decide (z3.1 < ((((n0 : Nat) : Int).toNat : Nat) : Int)))
  (DrawV fun D6 =>
  (0 ≤ z3.1 ∧ z3.1 < ((n0 : Nat) : Int)) ∧ ∃ q7 : Addr, a0 = some q7 ∧
  (D6 (q7.add (z3.1.toNat * 1)).block ∧ LoadS w4.drew (q7.add (z3.1.toNat * 1)) (.int .u8) fun (x8 : Int) =>
  (0 ≤ z3.1 ∧ z3.1 < ((n1 : Nat) : Int)) ∧ ∃ q9 : Addr, a1 = some q9 ∧
  (D6 (q9.add (z3.1.toNat * 1)).block ∧ LoadS w4.drew (q9.add (z3.1.toNat * 1)) (.int .u8) fun (x10 : Int) =>
  (0 ≤ z3.1 ∧ z3.1 < ((((n0 : Nat) : Int).toNat : Nat) : Int)) ∧ ∃ q11 : Addr, (some ⟨b1, 0, none⟩) = some q11 ∧
  StoreV w4.drew (q11.add (z3.1.toNat * 1)) [.int .u8 (Go.bits .andNot .u8 x8 x10)] fun w12 =>
  KeepOn D6 w4.drew w12 ∧
  Rng .i64 (z3.1 + 1) ∧
  K5 (z3.1 + 1, ()) w12)))
  (K ((⟨(some ⟨b1, 0, none⟩), ((n0 : Nat) : Int).toNat, ((n0 : Nat) : Int).toNat⟩ : SlV), ()) w4)
theorem fault_cleared.vc (a0 : Option Addr) (n0 c0 : Nat) (a1 : Option Addr) (n1 c1 : Nat) (w : World) (K : SlV × Unit → World → Prop) (h : fault_cleared.P a0 n0 c0 a1 n1 c1 w K) : CallV Try.prog 125 #[.slice a0 n0 c0, .slice a1 n1 c1] w [.one .sl] K := by
  have e : vcFun Try.prog okf false Try.f125 fault_cleared.A #[.slice a0 n0 c0, .slice a1 n1 c1] w [.one .sl] K = fault_cleared.P a0 n0 c0 a1 n1 c1 w K := by kernel_rfl
  exact vcFun.calls okf_ok follows Try.func125 (e.symm ▸ h)

/-! ### nepenthe/nepentheref12.Has: function 127 -/
def ref12_Has.A : Ann := .two .no (.two (.draw (.take 0 (.take 1 (.take 2 (.take 3 (.take 4 (.take 5 (.take 6 (.take 7 (.eff 8 (.take 9 (.take 10 (.take 11 (.take 12 (.done))))))))))))))) .no)
def ref12_Has.P (a0 : Option Addr) (n0 c0 : Nat) (p1 : Int) (w : World) (K : Bool × Unit → World → Prop) : Prop :=
  DrawV fun D1 =>
  8 ≠ (0 : Int) ∧ Rng .i64 (Int.tdiv p1 8) ∧
  (0 ≤ (Int.tdiv p1 8) ∧ (Int.tdiv p1 8) < ((n0 : Nat) : Int)) ∧ ∃ q2 : Addr, a0 = some q2 ∧
  (D1 (q2.add ((Int.tdiv p1 8).toNat * 1)).block ∧ LoadS w.drew (q2.add ((Int.tdiv p1 8).toNat * 1)) (.int .u8) fun (x3 : Int) =>
  8 ≠ (0 : Int) ∧
  CallV Try.prog 129 #[.int .i64 (Int.tmod p1 8)] w.drew [.one (.int .i64)] fun (r4 : Int × Unit) w5 =>
  KeepOn D1 w.drew w5 ∧
  r4.1 ≠ (0 : Int) ∧ Rng .i64 (Int.tdiv (IntKind.i64.wrap x3) r4.1) ∧
  2 ≠ (0 : Int) ∧
  K (((Int.tmod (Int.tdiv (IntKind.i64.wrap x3) r4.1) 2) == 1), ()) w5)
theorem ref12_Has.vc (a0 : Option Addr) (n0 c0 : Nat) (p1 : Int) (w : World) (K : Bool × Unit → World → Prop) (h : ref12_Has.P a0 n0 c0 p1 w K) : CallV Try.prog 127 #[.slice a0 n0 c0, .int .i64 p1] w [.one .bool] K := by
  have e : vcFun Try.prog okf false Try.f127 ref12_Has.A #[.slice a0 n0 c0, .int .i64 p1] w [.one .bool] K = ref12_Has.P a0 n0 c0 p1 w K := by kernel_rfl
  exact vcFun.calls okf_ok follows Try.func127 (e.symm ▸ h)

/-! ### nepenthe/fault.turned$1: function 131 -/
def fault_turned_1.A : Ann := .no
def fault_turned_1.P (p0 : Int) (q0 : Addr) (q1 : Addr) (q2 : Addr) (w : World) (K : Bool × Unit → World → Prop) : Prop :=
  LoadS w q0 (.int .i64) fun (x1 : Int) =>
  cond (p0 != x1)
  (LoadS w q1 .sl fun (x2 : SlV) =>
  8 ≠ (0 : Int) ∧ Rng .i64 (Int.tdiv p0 8) ∧
  (0 ≤ (Int.tdiv p0 8) ∧ (Int.tdiv p0 8) < ((x2.n : Nat) : Int)) ∧ ∃ q3 : Addr, x2.a = some q3 ∧
  LoadS w (q3.add ((Int.tdiv p0 8).toNat * 1)) (.int .u8) fun (x4 : Int) =>
  8 ≠ (0 : Int) ∧
  (0 : Int) ≤ (Int.tmod p0 8) ∧
  cond ((Go.bits .and .u8 (Int.fdiv x4 (2 ^ (Nat.min ((Int.tmod p0 8)).toNat 8))) 1) == 1)
  (LoadS w q2 .sl fun (x5 : SlV) =>
  CallV Try.prog 132 #[.slice x5.a x5.n x5.c, .int .i64 p0] w [.one .bool] fun (r6 : Bool × Unit) w7 =>
  K (r6.1, ()) w7)
  (K (false, ()) w))
  (K (false, ()) w)
theorem fault_turned_1.vc (p0 : Int) (q0 : Addr) (q1 : Addr) (q2 : Addr) (w : World) (K : Bool × Unit → World → Prop) (h : fault_turned_1.P p0 q0 q1 q2 w K) : CallV Try.prog 131 #[.int .i64 p0, .pointer (some q0), .pointer (some q1), .pointer (some q2)] w [.one .bool] K := by
  have e : vcFun Try.prog okf false Try.f131 fault_turned_1.A #[.int .i64 p0, .pointer (some q0), .pointer (some q1), .pointer (some q2)] w [.one .bool] K = fault_turned_1.P p0 q0 q1 q2 w K := by kernel_rfl
  exact vcFun.calls okf_ok follows Try.func131 (e.symm ▸ h)

end Go.Proofs.Ytfpkaebmiojicaa.Vc

/-! The contracts of layer 12 (fault): bits, and what is there behind torn programs and erases. -/
namespace Go.Proofs.Ytfpkaebmiojicaa.Vc
open Go Go.Eng Go.RowKit
set_option linter.unusedVariables false
set_option linter.unusedSimpArgs false

theorem appU {w : World} {a a2 : Option Addr} {n c m c2 : Nat} {xs ys : List Int} {B : Nat} {K : Option Addr → Nat → Nat → World → Prop} (ho : Own w B 5 1 a n c (xs.map (Value.int .u8))) (hy : Ints w .u8 a2 m c2 ys) (hB : B ≤ w.heap.size) (hn : n + m ≤ 100000000)
    (hk : ∀ a' c' w', Own w' B 5 1 a' (n + m) c' ((xs ++ ys).map (Value.int .u8)) → Below B w w' → K a' (n + m) c' w') :
    AppS w a2 m 1 fun ns => AppV w 5 1 1 a n c ns m K := by
  refine AppS.of (news := ys.map (Value.int .u8)) (by rw [List.length_map, hy.len]; omega) hy.rd ?_
  refine AppV.own ho hB (by rw [List.length_map, hy.len]; omega) (oneAll.ints _ _) (by omega) (by omega) fun a' c' w' h1 h2 _ _ => ?_
  refine hk a' c' w' ?_ h2
  rw [List.map_append]
  exact h1
theorem newU {w : World} {K : Nat → World → Prop} (h : ∀ b w1, Ext w w1 → Own w1 w.heap.size 5 1 (some ⟨b, 0, none⟩) 0 0 [] → K b w1) : NewV #[] 5 w K := by
  rintro b w1 rfl rfl
  exact h _ _ (Ext.alloc _ _) (Own.zeros (w := w) (B := w.heap.size) (e := 5) (n := 0) (c := 0) (z := .int .u8 0) (Nat.le_refl _) (Nat.zero_le _) (by omega) rfl)

theorem tdiv8 (i : Nat) : Int.tdiv (i : Int) 8 = ((i / 8 : Nat) : Int) := by rw [Int.tdiv_eq_ediv_of_nonneg (by omega)]; omega
theorem tmod8 (i : Nat) : Int.tmod (i : Int) 8 = ((i % 8 : Nat) : Int) := by rw [Int.tmod_eq_emod_of_nonneg (by omega)]; omega
theorem mod8 (i : Nat) : i % 8 < 8 := Nat.mod_lt _ (by omega)

theorem power_c {w : World} {j : Nat} (hj : j < 8) : CallV Try.prog 129 #[.int .i64 (j : Int)] w [.one (.int .i64)] fun r w' => r.1 = (2 : Int) ^ j ∧ w' = w := by
  refine ref12_power.vc _ _ _ ?_
  unfold ref12_power.P
  refine Loop1 (fun (y : Int × Int × Unit) w' => ∃ k : Nat, y.2.1 = (k : Int) ∧ k ≤ j ∧ y.1 = (2 : Int) ^ k ∧ w' = w) (fun (y : Int × Int × Unit) _ => ((j : Int) - y.2.1).toNat) ⟨0, rfl, by omega, rfl, rfl⟩ ?_
  rintro ⟨(p : Int), (y : Int), ⟨⟩⟩ w' ⟨k, hy, hk, hp, rfl⟩
  dsimp only at hy hp ⊢
  subst hy; subst hp
  refine cond_d (fun hlt => ?_) (fun hge => ?_)
  · have hb := pow_byt0 ⟨k, by omega⟩
    dsimp only at hb
    refine ⟨Rng.i64 (by omega) (by omega), Rng.i64 (by omega) (by omega), ⟨k + 1, by push_cast; rfl, by omega, ?_, rfl⟩, by omega⟩
    show (2 : Int) ^ k * 2 = 2 ^ (k + 1)
    rw [Int.pow_succ]
  · have : k = j := by omega
    subst this
    exact ⟨rfl, rfl⟩

theorem Has_c {w : World} {a : Option Addr} {n c : Nat} {xs : List Int} (hx : Ints w .u8 a n c xs) (bx : Byt xs) {i : Nat} (hi : i < 8 * n) (hn : n ≤ 100000) :
    CallV Try.prog 127 #[.slice a n c, .int .i64 (i : Int)] w [.one .bool] fun r w' => r.1 = hasL xs i ∧ Ext w w' := by
  refine ref12_Has.vc _ _ _ _ _ _ ?_
  unfold ref12_Has.P
  refine DrawV.old w fun D hD hkeep => ?_
  rw [tdiv8, tmod8]
  have hb := bx.getD (i / 8)
  have hm := mod8 i
  have hp := pow_byt0 ⟨i % 8, hm⟩
  have hp1 : (1 : Int) ≤ 2 ^ (i % 8) := by have : (0 : Int) < 2 ^ (i % 8) := Int.pow_pos (by omega); omega
  refine ⟨by omega, Rng.i64 (by omega) (by omega), ?_⟩
  refine hx.idxD (Ext.drew w) (by omega) (by omega) hD ?_
  rw [Int.toNat_natCast]
  refine ⟨by omega, (power_c hm).mono ?_⟩
  rintro ⟨(p : Int), ⟨⟩⟩ w' ⟨hp', rfl⟩
  dsimp only at hp' hp ⊢
  subst hp'
  refine ⟨hkeep _ (Ext.drew w), by omega, ?_, by omega, f6 hb _, Ext.drew w⟩
  rw [i64_id (by omega) (by omega), Int.tdiv_eq_ediv_of_nonneg hb.1]
  have h0 := Int.ediv_nonneg hb.1 (by omega : (0 : Int) ≤ 2 ^ (i % 8))
  have h1 := Int.ediv_le_self (2 ^ (i % 8)) hb.1
  exact Rng.i64 (by omega) (by omega)

def mBitZ (ms : List Int) (i : Int) : Bool := if i < 0 then false else mBit ms i.toNat
theorem mBitZ_nat (ms : List Int) (i : Nat) : mBitZ ms (i : Int) = mBit ms i := by unfold mBitZ; rw [if_neg (by omega), Int.toNat_natCast]
theorem mask_at {i n : Nat} : Int.tmod ((i / 8 : Nat) : Int) ((n : Nat) : Int) = ((i / 8 % n : Nat) : Int) := by rw [Int.tmod_eq_emod_of_nonneg (by omega)]; rfl

theorem Bit_c {w : World} {a : Option Addr} {n c : Nat} {xs : List Int} (hx : Ints w .u8 a n c xs) (bx : Byt xs) {i : Int} (hi : i ≤ 9223372036854775807) :
    CallV Try.prog 132 #[.slice a n c, .int .i64 i] w [.one .bool] fun r w' => r.1 = mBitZ xs i ∧ w' = w := by
  refine fault_Bit.vc _ _ _ _ _ _ ?_
  unfold fault_Bit.P
  have ln := hx.len
  refine cond_d (fun h => ⟨by unfold mBitZ; rw [if_pos h], rfl⟩) (fun h => ?_)
  obtain ⟨i, rfl⟩ : ∃ k : Nat, i = (k : Int) := ⟨i.toNat, by omega⟩
  rw [mBitZ_nat]
  refine cond_eq (fun h0 => ⟨by unfold mBit; rw [if_pos (by omega)], rfl⟩) (fun h0 => ?_)
  rw [tdiv8, tmod8, mask_at]
  have hlt : i / 8 % n < n := Nat.mod_lt _ (by omega)
  refine ⟨by omega, Rng.i64 (by omega) (by omega), h0, ?_⟩
  refine hx.idx (by omega) (by omega) ?_
  rw [Int.toNat_natCast, Int.toNat_natCast]
  refine ⟨by omega, by omega, ?_, rfl⟩
  rw [f1 (bx.getD _) (mod8 i)]
  unfold mBit
  rw [if_neg (by omega), ln]

theorem rBit_c {w : World} {a : Option Addr} {n c : Nat} {xs : List Int} (hx : Ints w .u8 a n c xs) (bx : Byt xs) {i : Int} (hi : i ≤ 9223372036854775807) :
    CallV Try.prog 128 #[.slice a n c, .int .i64 i] w [.one .bool] fun r w' => r.1 = mBitZ xs i ∧ Ext w w' := by
  refine ref12_Bit.vc _ _ _ _ _ _ ?_
  unfold ref12_Bit.P
  have ln := hx.len
  refine cond_d (fun h => ⟨by unfold mBitZ; rw [if_pos h], Ext.refl _⟩) (fun h => ?_)
  obtain ⟨i, rfl⟩ : ∃ k : Nat, i = (k : Int) := ⟨i.toNat, by omega⟩
  rw [mBitZ_nat]
  refine DrawV.old w fun D hD hkeep => ?_
  refine cond_eq (fun h0 => ⟨by unfold mBit; rw [if_pos (by omega)], Ext.drew w⟩) (fun h0 => ?_)
  rw [tdiv8, tmod8, mask_at]
  have hlt : i / 8 % n < n := Nat.mod_lt _ (by omega)
  have hm := mod8 i
  refine ⟨by omega, Rng.i64 (by omega) (by omega), h0, ?_⟩
  refine hx.idxD (Ext.drew w) (by omega) (by omega) hD ?_
  rw [Int.toNat_natCast]
  have hb := bx.getD (i / 8 % n)
  have hp1 : (1 : Int) ≤ 2 ^ (i % 8) := by have : (0 : Int) < 2 ^ (i % 8) := Int.pow_pos (by omega); omega
  refine ⟨by omega, (power_c hm).mono ?_⟩
  rintro ⟨(p : Int), ⟨⟩⟩ w' ⟨hp', rfl⟩
  dsimp only at hp' ⊢
  subst hp'
  refine ⟨hkeep _ (Ext.drew w), by omega, ?_, by omega, ?_, Ext.drew w⟩
  · rw [i64_id (by omega) (by omega), Int.tdiv_eq_ediv_of_nonneg hb.1]
    have h0 := Int.ediv_nonneg hb.1 (by omega : (0 : Int) ≤ 2 ^ (i % 8))
    have h1 := Int.ediv_le_self (2 ^ (i % 8)) hb.1
    exact Rng.i64 (by omega) (by omega)
  · rw [f6 hb]
    unfold mBit
    rw [if_neg (by omega), ln]

theorem And_c {w : World} {a a2 : Option Addr} {n c m c2 : Nat} {xs ys : List Int} (hx : Ints w .u8 a n c xs) (hy : Ints w .u8 a2 m c2 ys) (hnm : n ≤ m) (hn : n ≤ 100000) :
    CallV Try.prog 30 #[.slice a n c, .slice a2 m c2] w [.one .sl] fun r w' => Res w w' r.1 (andL xs ys) := by
  refine ref12_And.vc _ _ _ _ _ _ _ _ ?_
  unfold ref12_And.P
  have lx := hx.len
  have ly := hy.len
  refine newU fun b1 w1 e1 o1 => ?_
  refine Loop1 (fun (y : SlV × Int × Unit) w' => ∃ i : Nat, y.2.1 = (i : Int) ∧ i ≤ n ∧ y.1.n = i ∧ Ext w w' ∧ Own w' w.heap.size 5 1 y.1.a y.1.n y.1.c (((andL xs ys).take i).map (Value.int .u8)))
    (fun (y : SlV × Int × Unit) _ => ((n : Int) - y.2.1).toNat) ⟨0, rfl, by omega, rfl, e1, o1⟩ ?_
  rintro ⟨(s : SlV), (y : Int), ⟨⟩⟩ w2 ⟨i, hy', hi, hsn, e2, o2⟩
  dsimp only at hy' hsn o2 ⊢
  subst hy'
  refine cond_d (fun hlt => ?_) (fun hge => ?_)
  · refine DrawV.base w.heap.size w2 fun D hD hkeep => ?_
    have e2' := e2.trans (Ext.drew w2)
    refine hx.idxD e2' (by omega) hlt hD ?_
    refine hy.idxD e2' (by omega) (by omega) hD ?_
    rw [Int.toNat_natCast]
    rintro b3 w3 hb3 hw3
    have x3 : Ext w2.drew w3 := by rw [hw3]; exact Ext.alloc _ _
    refine ⟨hkeep _ (Below.mono ((Ext.drew w2).trans x3) e2.size), ?_⟩
    refine app1 (o2.ext (Ext.drew w2)) e2'.size (by omega) hb3 hw3 fun a' c' w4 o4 b4 => ?_
    refine ⟨hkeep _ (Below.trans (Below.mono (Ext.drew w2) e2.size) b4), Rng.i64 (by omega) (by omega), ⟨i + 1, by push_cast; rfl, by omega, by show s.n + 1 = _; omega, Below.trans e2' b4, ?_⟩, by omega⟩
    rw [List.take_succ_eq_append_getElem (by rw [andL_length]; omega), show (andL xs ys)[i]'(by rw [andL_length]; omega) = Go.bits .and .u8 (xs.getD i 0) (ys.getD i 0) by simp [andL]]
    exact o4
  · have : i = n := by omega
    subst this
    rw [List.take_of_length_le (by rw [andL_length]; omega)] at o2
    exact ⟨e2, o2⟩

theorem cleared_c {w : World} {a a2 : Option Addr} {n c c2 : Nat} {xs ys : List Int} (hx : Ints w .u8 a n c xs) (hy : Ints w .u8 a2 n c2 ys) (hn : n ≤ 100000) :
    CallV Try.prog 125 #[.slice a n c, .slice a2 n c2] w [.one .sl] fun r w' => Res w w' r.1 (clrL xs ys) := by
  refine fault_cleared.vc _ _ _ _ _ _ _ _ ?_
  unfold fault_cleared.P
  have lx := hx.len
  have ly := hy.len
  refine ⟨by omega, ?_⟩
  rintro b1 w1 rfl rfl
  rw [Int.toNat_natCast]
  have hnew := Own.zeros (w := w) (B := w.heap.size) (e := 5) (n := n) (c := n) (z := .int .u8 0) (Nat.le_refl _) (Nat.le_refl _) (by omega) rfl
  refine Loop1 (fun (y : Int × Unit) w' => ∃ i : Nat, y.1 = (i : Int) ∧ i ≤ n ∧ Ext w w' ∧ Own w' w.heap.size 5 1 (some ⟨w.heap.size, 0, none⟩) n n (((clrL xs ys).map (Value.int .u8)).take i ++ List.replicate (n - i) (.int .u8 0)))
    (fun (y : Int × Unit) _ => ((n : Int) - y.1).toNat) ⟨0, rfl, by omega, Ext.alloc _ _, by simpa using hnew⟩ ?_
  rintro ⟨(y : Int), ⟨⟩⟩ w2 ⟨i, hy', hi, e2, o2⟩
  dsimp only at hy' ⊢
  subst hy'
  refine cond_d (fun hlt => ?_) (fun hge => ?_)
  · refine DrawV.base w.heap.size w2 fun D hD hkeep => ?_
    have e2' := e2.trans (Ext.drew w2)
    refine hx.idxD e2' (by omega) hlt hD ?_
    refine hy.idxD e2' (by omega) (by omega) hD ?_
    rw [Int.toNat_natCast]
    refine fill_round (w0 := w) (S := clrL xs ys) (by rw [clrL_length]; exact lx) (by omega) (by simp [clrL]) (o2.ext (Ext.drew w2)) fun w3 o3 b3 => ?_
    exact ⟨hkeep _ (Below.trans (Below.mono (Ext.drew w2) e2.size) b3), Rng.i64 (by omega) (by omega), ⟨i + 1, by push_cast; rfl, by omega, Below.trans e2' b3, o3⟩, by omega⟩
  · have : i = n := by omega
    subst this
    rw [List.take_of_length_le (by rw [List.length_map, clrL_length]; omega), Nat.sub_self, List.replicate_zero, List.append_nil] at o2
    exact ⟨e2, o2⟩

end Go.Proofs.Ytfpkaebmiojicaa.Vc

/-! Values that are read, of any shape: where they lie (in which blocks), what data they are, and that they stay while their blocks stay. -/
namespace Go.Proofs.Ytfpkaebmiojicaa.Vc
open Go Go.Eng Go.RowKit
set_option linter.unusedVariables false
set_option linter.unusedSimpArgs false

/-- Blocks of a set are as they were. -/
def Kp (G : Nat → Prop) (w w' : World) : Prop := ∀ k, G k → k < w.heap.size → w'.heap[k]? = w.heap[k]?
abbrev All : Nat → Prop := fun _ => True
theorem Ext_kp {w w' : World} (e : Ext w w') (G : Nat → Prop) : Kp G w w' := fun k _ hk => e.block k hk
theorem Kp.mono {G G' : Nat → Prop} {w w' : World} (h : Kp G w w') (hg : ∀ k, G' k → G k) : Kp G' w w' := fun k hk hl => h k (hg k hk) hl

theorem cells_kp {w w' : World} {p : Addr} {vs : List Value} (hc : CellsAt w p vs) (h : vs ≠ [] → w'.heap[p.block]? = w.heap[p.block]?) : CellsAt w' p vs := by
  cases vs with
  | nil => exact CellsAt.nil
  | cons v vs => exact cells_same (h (by simp)) hc

/-- Cells that are read, in blocks of a set. -/
def RdG (w : World) (G : Nat → Prop) (a : Option Addr) (vs : List Value) : Prop := (a = none ∧ vs = []) ∨ ∃ p, a = some p ∧ CellsAt w p vs ∧ (vs ≠ [] → G p.block)
theorem RdG.rdc {w : World} {G : Nat → Prop} {a : Option Addr} {vs : List Value} (h : RdG w G a vs) : RdC w a vs := h.imp id fun ⟨p, h1, h2, _⟩ => ⟨p, h1, h2⟩
theorem RdG.of {w : World} {a : Option Addr} {vs : List Value} (h : RdC w a vs) : RdG w All a vs := h.imp id fun ⟨p, h1, h2⟩ => ⟨p, h1, h2, fun _ => trivial⟩
theorem RdG.kp {w w' : World} {G : Nat → Prop} {a : Option Addr} {vs : List Value} (h : RdG w G a vs) (k : Kp G w w') : RdG w' G a vs := by
  rcases h with h | ⟨p, h1, h2, h3⟩
  · exact .inl h
  · refine .inr ⟨p, h1, cells_kp h2 fun hne => ?_, h3⟩
    cases vs with
    | nil => exact absurd rfl hne
    | cons v vs => exact k _ (h3 hne) (cells_lt h2)
theorem RdG.mono {w : World} {G G' : Nat → Prop} {a : Option Addr} {vs : List Value} (h : RdG w G a vs) (hg : ∀ k, G k → k < w.heap.size → G' k) : RdG w G' a vs := by
  rcases h with h | ⟨p, h1, h2, h3⟩
  · exact .inl h
  · refine .inr ⟨p, h1, h2, fun hne => ?_⟩
    cases vs with
    | nil => exact absurd rfl hne
    | cons v vs => exact hg _ (h3 hne) (cells_lt h2)

def Ty.rd (w : World) (G : Nat → Prop) : (t : Ty) → t.T → Prop
  | .int k, (x : Int) => Rng k x
  | .bool, _ => True
  | .str, (x : ByteArray) => x.size ≤ maxLen
  | .sl e, (x : SlP e.T) => x.l.length = x.n ∧ x.n ≤ x.c ∧ x.n ≤ maxLen ∧ RdG w G x.a (x.l.flatMap e.vs) ∧ ∀ y ∈ x.l, e.rd w G y
  | .nil, _ => True
  | .cons a r, (x : a.T × r.T) => a.rd w G x.1 ∧ r.rd w G x.2
@[reducible] def Ty.D : Ty → Type
  | .int _ => Int
  | .bool => Bool
  | .str => ByteArray
  | .sl e => List e.D
  | .nil => Unit
  | .cons a r => a.D × r.D
def Ty.dat : (t : Ty) → t.T → t.D
  | .int _, (x : Int) => x
  | .bool, (x : Bool) => x
  | .str, (x : ByteArray) => x
  | .sl e, (x : SlP e.T) => x.l.map e.dat
  | .nil, _ => ()
  | .cons a r, (x : a.T × r.T) => (a.dat x.1, r.dat x.2)

theorem Ty.rd_of {w : World} : ∀ (t : Ty) {x : t.T}, t.ok w x → t.rd w All x
  | .int _, _, h => h
  | .bool, _, _ => trivial
  | .str, _, h => h
  | .sl e, x, h => ⟨h.1, h.2.1, Nat.le_trans h.2.1 h.2.2.1, .of h.2.2.2.1, fun y hy => e.rd_of (h.2.2.2.2 y hy)⟩
  | .nil, _, _ => trivial
  | .cons a r, x, h => ⟨a.rd_of h.1, r.rd_of h.2⟩
theorem Ty.rd_kp {w w' : World} {G : Nat → Prop} (k : Kp G w w') : ∀ (t : Ty) {x : t.T}, t.rd w G x → t.rd w' G x
  | .int _, _, h => h
  | .bool, _, _ => trivial
  | .str, _, h => h
  | .sl e, x, h => ⟨h.1, h.2.1, h.2.2.1, h.2.2.2.1.kp k, fun y hy => e.rd_kp k (h.2.2.2.2 y hy)⟩
  | .nil, _, _ => trivial
  | .cons a r, x, h => ⟨a.rd_kp k h.1, r.rd_kp k h.2⟩
theorem Ty.rd_mono {w : World} {G G' : Nat → Prop} (hg : ∀ k, G k → k < w.heap.size → G' k) : ∀ (t : Ty) {x : t.T}, t.rd w G x → t.rd w G' x
  | .int _, _, h => h
  | .bool, _, _ => trivial
  | .str, _, h => h
  | .sl e, x, h => ⟨h.1, h.2.1, h.2.2.1, h.2.2.2.1.mono hg, fun y hy => e.rd_mono hg (h.2.2.2.2 y hy)⟩
  | .nil, _, _ => trivial
  | .cons a r, x, h => ⟨a.rd_mono hg h.1, r.rd_mono hg h.2⟩
theorem Ty.rd_ext {w w' : World} {G : Nat → Prop} (e : Ext w w') (t : Ty) {x : t.T} (h : t.rd w G x) : t.rd w' G x := t.rd_kp (Ext_kp e G) h

/-! ### Slices of anything -/
theorem flat_len {α : Type} {f : α → List Value} {m : Nat} (hm : ∀ x, (f x).length = m) : ∀ (l : List α), (l.flatMap f).length = l.length * m
  | [] => by simp
  | x :: l => by rw [List.flatMap_cons, List.length_append, hm, flat_len hm l, List.length_cons, Nat.add_mul]; omega
theorem flat_get {α : Type} {f : α → List Value} {m : Nat} (hm : ∀ x, (f x).length = m) : ∀ {l : List α} {i : Nat} {y : α}, l[i]? = some y → ∀ {j : Nat} {v : Value}, (f y)[j]? = some v → (l.flatMap f)[i * m + j]? = some v
  | [], i, y, h, j, v, hv => by simp at h
  | x :: l, 0, y, h, j, v, hv => by
    simp at h; subst h
    rw [List.flatMap_cons, Nat.zero_mul, Nat.zero_add, List.getElem?_append_left (List.getElem?_eq_some_iff.1 hv).1]
    exact hv
  | x :: l, i + 1, y, h, j, v, hv => by
    rw [List.getElem?_cons_succ] at h
    rw [List.flatMap_cons, List.getElem?_append_right (by rw [hm, Nat.add_mul]; omega), hm, show (i + 1) * m + j - m = i * m + j by rw [Nat.add_mul]; omega]
    exact flat_get hm h hv
theorem CellsAt.nth {w : World} {p : Addr} {α : Type} {f : α → List Value} {m : Nat} (hm : ∀ x, (f x).length = m) {l : List α} (h : CellsAt w p (l.flatMap f)) {i : Nat} {y : α} (hy : l[i]? = some y) : CellsAt w (p.add (i * m)) (f y) := by
  intro j v hv
  rw [add_add]
  exact h _ _ (flat_get hm hy hv)

/-- An element of a slice that is read. -/
theorem Ty.nth {w : World} {G : Nat → Prop} {e : Ty} {x : SlP e.T} (h : (Ty.sl e).rd w G x) {i : Int} (h0 : 0 ≤ i) (h1 : i < (x.n : Int)) (he : 0 < e.n) :
    ∃ q y, x.a = some q ∧ x.l[i.toNat]? = some y ∧ CellsAt w (q.add (i.toNat * e.n)) (e.vs y) ∧ e.rd w G y ∧ G q.block ∧ q.block < w.heap.size := by
  obtain ⟨hl, _, _, hr, hy⟩ := h
  have hi : i.toNat < x.l.length := by omega
  have hget : x.l[i.toNat]? = some x.l[i.toNat] := List.getElem?_eq_getElem hi
  rcases hr with ⟨_, h2⟩ | ⟨q, hq, hc, hG⟩
  · have := flat_len (fun z => e.vs_length z) x.l
    have h3 := Nat.mul_pos (show 0 < x.l.length by omega) he
    rw [h2, List.length_nil] at this
    omega
  · have hne : x.l.flatMap e.vs ≠ [] := by
      intro hh
      have := flat_len (fun z => e.vs_length z) x.l
      have h3 := Nat.mul_pos (show 0 < x.l.length by omega) he
      rw [hh, List.length_nil] at this
      omega
    refine ⟨q, x.l[i.toNat], hq, hget, CellsAt.nth (fun z => e.vs_length z) hc hget, hy _ (List.getElem_mem hi), hG hne, ?_⟩
    cases hf : x.l.flatMap e.vs with
    | nil => exact absurd hf hne
    | cons v vs => rw [hf] at hc; exact cells_lt hc

/-- Slices of whole numbers. -/
theorem flat_ints (k : IntKind) (l : List Int) : l.flatMap (Ty.int k).vs = l.map (Value.int k) := by
  induction l with
  | nil => rfl
  | cons x l ih => rw [List.flatMap_cons, ih]; rfl
theorem Ty.ints {w : World} {G : Nat → Prop} {k : IntKind} {x : SlP Int} (h : (Ty.sl (.int k)).rd w G x) : Ints w k x.a x.n x.c x.l := by
  obtain ⟨hl, hc, hm, hr, _⟩ := h
  have hml : maxLen = 9223372036854775807 := by decide
  refine ⟨hl, hc, by omega, ?_⟩
  have := hr.rdc
  rw [show x.l.flatMap (Ty.int k).vs = x.l.map (Value.int k) from flat_ints k x.l] at this
  exact this
theorem Ty.byt {w : World} {G : Nat → Prop} {x : SlP Int} (h : (Ty.sl (.int .u8)).rd w G x) : Byt x.l := fun y hy => rng_u8 (h.2.2.2.2 y hy)
theorem dat_ints {k : IntKind} (l : List Int) : l.map (Ty.int k).dat = l := by
  induction l with
  | nil => rfl
  | cons x l ih => rw [List.map_cons, ih]; rfl

end Go.Proofs.Ytfpkaebmiojicaa.Vc

/-! The contracts of layer 12 (fault): plans. -/
namespace Go.Proofs.Ytfpkaebmiojicaa.Vc
open Go Go.Eng Go.RowKit
set_option linter.unusedVariables false
set_option linter.unusedSimpArgs false

/-- A fault, as it lies in memory; its data. -/
abbrev TF : Ty := .cons (.int .i64) (.cons .bool (.cons (.sl (.int .u8)) .nil))
abbrev LF : Ty := .sl TF
abbrev FD : Type := Int × Bool × List Int × Unit
def FRight (l : List FD) : Prop := (∀ f ∈ l, 0 ≤ f.1 ∧ f.2.2.1.length ≤ 64) ∧ l.length ≤ 64
instance (l : List FD) : Decidable (FRight l) := by unfold FRight; infer_instance
def atF (l : List FD) (n : Int) : Option FD := l.find? fun f => f.1 == n
def atI (l : List FD) (n : Int) : Option Nat := l.findIdx? fun f => f.1 == n
theorem TF_dat (f : TF.T) : TF.dat f = (f.1, f.2.1, f.2.2.1.l, ()) := by
  show (f.1, f.2.1, f.2.2.1.l.map _, ()) = _
  rw [show f.2.2.1.l.map (Ty.int .u8).dat = f.2.2.1.l from dat_ints f.2.2.1.l]
theorem ldF {w : World} {p : Addr} {f : TF.T} (hc : CellsAt w p (TF.vs f)) {K : Int × Bool × SlV × Unit → Prop} (hk : K (f.1, f.2.1, ⟨f.2.2.1.a, f.2.2.1.n, f.2.2.1.c⟩, ())) : LoadA w p [.int .i64, .bool, .sl] K :=
  ldaC (l := [.int .i64, .bool, .sl]) hc (f.1, f.2.1, ⟨f.2.2.1.a, f.2.2.1.n, f.2.2.1.c⟩, ()) rfl hk
theorem LF_nth {w : World} {G : Nat → Prop} {x : SlP TF.T} (h : LF.rd w G x) {i : Int} (h0 : 0 ≤ i) (h1 : i < (x.n : Int)) :
    ∃ q y, x.a = some q ∧ x.l[i.toNat]? = some y ∧ CellsAt w (q.add (i.toNat * 3)) (TF.vs y) ∧ TF.rd w G y ∧ G q.block ∧ q.block < w.heap.size := Ty.nth (e := TF) h h0 h1 (by decide)
theorem TF_len {w : World} {G : Nat → Prop} {y : TF.T} (h : TF.rd w G y) : y.2.2.1.l.length = y.2.2.1.n := h.2.2.1.1
def fds (x : SlP TF.T) : List FD := LF.dat x
theorem LF_len {w : World} {G : Nat → Prop} {x : SlP TF.T} (h : LF.rd w G x) : (fds x).length = x.n := by show (x.l.map TF.dat).length = _; rw [List.length_map]; exact h.1
theorem LF_lim {w : World} {G : Nat → Prop} {x : SlP TF.T} (h : LF.rd w G x) : x.n ≤ 9223372036854775807 := by have h1 := h.2.2.1; have h2 : maxLen = 9223372036854775807 := (by decide); omega
theorem LF_get {x : SlP TF.T} {i : Nat} {y : TF.T} (h : x.l[i]? = some y) : (fds x)[i]? = some (y.1, y.2.1, y.2.2.1.l, ()) := by rw [← TF_dat]; show (x.l.map TF.dat)[i]? = _; rw [List.getElem?_map, h]; rfl

theorem find_step {l : List FD} {n : Int} {i : Nat} (h : ∀ (j : Nat) (f : FD), j < i → l[j]? = some f → f.1 ≠ n) {f : FD} (hf : l[i]? = some f) (hn : f.1 = n) : atF l n = some f ∧ atI l n = some i := by
  induction i generalizing l with
  | zero =>
    cases l with
    | nil => simp at hf
    | cons x l => simp at hf; subst hf; subst hn; simp [atF, atI, List.findIdx?_cons]
  | succ i ih =>
    cases l with
    | nil => simp at hf
    | cons x l =>
      have h0 := h 0 x (by omega) rfl
      have hb : (x.1 == n) = false := by simpa using h0
      obtain ⟨h1, h2⟩ := ih (l := l) (fun j f hj hf => h (j + 1) f (by omega) (by simpa using hf)) (by simpa using hf)
      unfold atF atI at *
      simp only [List.find?_cons, List.findIdx?_cons, hb, h1, h2, Bool.false_eq_true, if_false, Option.map_some]
      exact ⟨trivial, trivial⟩
theorem find_none {l : List FD} {n : Int} (h : ∀ (j : Nat) (f : FD), l[j]? = some f → f.1 ≠ n) : atF l n = none ∧ atI l n = none := by
  have h1 : ∀ f ∈ l, ¬ (f.1 == n) = true := fun f hf => by
    obtain ⟨j, hj, rfl⟩ := List.mem_iff_getElem.1 hf
    simpa using h j _ (List.getElem?_eq_getElem hj)
  exact ⟨List.find?_eq_none.2 h1, List.findIdx?_eq_none_iff.2 fun f hf => by simpa using h1 f hf⟩
theorem FRight_iff {l : List FD} : FRight l ↔ (∀ (j : Nat) (f : FD), l[j]? = some f → 0 ≤ f.1 ∧ f.2.2.1.length ≤ 64) ∧ l.length ≤ 64 := by
  unfold FRight
  refine and_congr_left fun _ => ⟨fun h j f hf => h f (List.mem_of_getElem? hf), fun h f hf => ?_⟩
  obtain ⟨j, hj, rfl⟩ := List.mem_iff_getElem.1 hf
  exact h j _ (List.getElem?_eq_getElem hj)

abbrev zF : List Value := [.int .i64 0, .bool false, .slice none 0 0]
theorem newF {w : World} {K : Nat → World → Prop} (h : ∀ b w1, Ext w w1 → Box w1 w.heap.size b 109 zF → K b w1) : NewV #[.int .i64 0, .bool false, .slice none 0 0] 109 w K := newBox h

theorem FCheck_c {w : World} {G : Nat → Prop} {x : SlP TF.T} (hx : LF.rd w G x) : CallV Try.prog 75 #[.slice x.a x.n x.c] w [.one (.int .i64)] fun r w' => r.1 = (if FRight (fds x) then (0 : Int) else 2) ∧ Ext w w' := by
  refine fault_Check.vc _ _ _ _ _ ?_
  unfold fault_Check.P
  have hl := LF_len hx
  have no : ∀ {w' : World}, Ext w w' → ¬ FRight (fds x) → ((2 : Int) = (if FRight (fds x) then (0 : Int) else 2) ∧ Ext w w') := fun e h => ⟨by rw [if_neg h], e⟩
  refine cond_d (fun h => no (Ext.refl _) (fun hr => by have := hr.2; omega)) (fun h64 => ?_)
  refine Loop1 (fun (y : Int × Unit) w' => ∃ i : Nat, y.1 = (i : Int) ∧ i ≤ x.n ∧ (∀ (j : Nat) (f : FD), j < i → (fds x)[j]? = some f → 0 ≤ f.1 ∧ f.2.2.1.length ≤ 64) ∧ Ext w w') (fun (y : Int × Unit) _ => ((x.n : Int) - y.1).toNat) ⟨0, rfl, by omega, fun j f h => by omega, Ext.refl _⟩ ?_
  rintro ⟨(z : Int), ⟨⟩⟩ w2 ⟨i, hz, hi, hall, e2⟩
  dsimp only at hz ⊢
  subst hz
  refine cond_d (fun hlt => ?_) (fun hge => ?_)
  · obtain ⟨q, y, hq, hy, hc, hr, -⟩ := LF_nth (Ty.rd_ext e2 _ hx) (Int.natCast_nonneg i) hlt
    have hly := TF_len hr
    have hdy := LF_get hy
    rw [Int.toNat_natCast] at hdy
    refine ⟨⟨by omega, hlt⟩, q, hq, ldF hc ?_⟩
    refine newF fun b6 w7 e7 hb => ?_
    refine hb.store 0 (by simp) fun w8 hb8 bel8 _ _ => ?_
    have e8 : Ext w w8 := e2.trans (Below.trans e7 bel8)
    have bad : ¬ ((0 : Int) ≤ y.1 ∧ y.2.2.1.l.length ≤ 64) → ¬ FRight (fds x) := fun h hr => h ((FRight_iff.1 hr).1 _ _ hdy)
    refine hb8.ld (i := 0) (h := .int .i64) (x := y.1) rfl (cond_d (fun c => no e8 (bad (by omega))) (fun c1 => ?_))
    refine hb8.ld (i := 2) (h := .sl) (x := ⟨y.2.2.1.a, y.2.2.1.n, y.2.2.1.c⟩) rfl (cond_d (fun c => no e8 (bad (by dsimp only at c; omega))) (fun c2 => ?_))
    refine ⟨Rng.i64 (by omega) (by have hlim := LF_lim hx; omega), ⟨i + 1, by push_cast; rfl, by omega, fun j f hj hf => ?_, e8⟩, by omega⟩
    by_cases hji : j = i
    · subst hji
      rw [hdy] at hf
      have := Option.some.inj hf
      subst this
      dsimp only at c2 ⊢
      omega
    · exact hall j f (by omega) hf
  · have hR : FRight (fds x) := FRight_iff.2 ⟨fun j f hf => hall j f (by have := (List.getElem?_eq_some_iff.1 hf).1; omega) hf, by omega⟩
    exact ⟨by rw [if_pos hR], e2⟩

theorem rRight12_c {w : World} {G : Nat → Prop} {x : SlP TF.T} (hx : LF.rd w G x) : CallV Try.prog 40 #[.slice x.a x.n x.c] w [.one .bool] fun r w' => r.1 = decide (FRight (fds x)) ∧ w' = w := by
  refine ref12_Right.vc _ _ _ _ _ ?_
  unfold ref12_Right.P
  have hl := LF_len hx
  have no : ¬ FRight (fds x) → (false = decide (FRight (fds x)) ∧ w = w) := fun h => ⟨(decide_eq_false h).symm, rfl⟩
  refine Loop1 (fun (y : Int × Unit) w' => ∃ i : Nat, y.1 = (i : Int) ∧ i ≤ x.n ∧ (∀ (j : Nat) (f : FD), j < i → (fds x)[j]? = some f → 0 ≤ f.1 ∧ f.2.2.1.length ≤ 64) ∧ w' = w) (fun (y : Int × Unit) _ => ((x.n : Int) - y.1).toNat) ⟨0, rfl, by omega, fun j f h => by omega, rfl⟩ ?_
  rintro ⟨(z : Int), ⟨⟩⟩ w2 ⟨i, hz, hi, hall, rfl⟩
  dsimp only at hz ⊢
  subst hz
  refine cond_d (fun hlt => ?_) (fun hge => ?_)
  · obtain ⟨q, y, hq, hy, hc, hr, -⟩ := LF_nth hx (Int.natCast_nonneg i) hlt
    have hly := TF_len hr
    have hdy := LF_get hy
    rw [Int.toNat_natCast] at hdy
    have bad : ¬ ((0 : Int) ≤ y.1 ∧ y.2.2.1.l.length ≤ 64) → ¬ FRight (fds x) := fun h hr => h ((FRight_iff.1 hr).1 _ _ hdy)
    refine ⟨⟨by omega, hlt⟩, q, hq, ldp0 hc (h := .int .i64) (x := y.1) rfl (cond_d (fun c => no (bad (by omega))) (fun c1 => ?_))⟩
    refine ⟨⟨by omega, hlt⟩, q, hq, ldp hc 2 (h := .sl) (x := ⟨y.2.2.1.a, y.2.2.1.n, y.2.2.1.c⟩) rfl (cond_d (fun c => no (bad (by dsimp only at c; omega))) (fun c2 => ?_))⟩
    refine ⟨Rng.i64 (by omega) (by have hlim := LF_lim hx; omega), ⟨i + 1, by push_cast; rfl, by omega, fun j f hj hf => ?_, rfl⟩, by omega⟩
    by_cases hji : j = i
    · subst hji
      rw [hdy] at hf
      have := Option.some.inj hf
      subst this
      dsimp only at c2 ⊢
      omega
    · exact hall j f (by omega) hf
  · refine ⟨decide_eq_decide.2 ⟨fun h => FRight_iff.2 ⟨fun j f hf => hall j f (by have := (List.getElem?_eq_some_iff.1 hf).1; omega) hf, by omega⟩, fun h => ?_⟩, rfl⟩
    have := h.2
    omega

theorem rAt_c {w : World} {G : Nat → Prop} {x : SlP TF.T} {n : Int} (hx : LF.rd w G x) : CallV Try.prog 50 #[.slice x.a x.n x.c, .int .i64 n] w [.one (.int .i64)] fun r w' => r.1 = (match atI (fds x) n with | some i => (i : Int) | none => (-1 : Int)) ∧ w' = w := by
  refine ref12_At.vc _ _ _ _ _ _ ?_
  unfold ref12_At.P
  have hl := LF_len hx
  refine Loop1 (fun (y : Int × Unit) w' => ∃ i : Nat, y.1 = (i : Int) ∧ i ≤ x.n ∧ (∀ (j : Nat) (f : FD), j < i → (fds x)[j]? = some f → f.1 ≠ n) ∧ w' = w) (fun (y : Int × Unit) _ => ((x.n : Int) - y.1).toNat) ⟨0, rfl, by omega, fun j f h => by omega, rfl⟩ ?_
  rintro ⟨(z : Int), ⟨⟩⟩ w2 ⟨i, hz, hi, hall, rfl⟩
  dsimp only at hz ⊢
  subst hz
  refine cond_d (fun hlt => ?_) (fun hge => ?_)
  · obtain ⟨q, y, hq, hy, hc, hr, -⟩ := LF_nth hx (Int.natCast_nonneg i) hlt
    have hdy := LF_get hy
    rw [Int.toNat_natCast] at hdy
    refine ⟨⟨by omega, hlt⟩, q, hq, ldp0 hc (h := .int .i64) (x := y.1) rfl (cond_eq (fun c => ?_) (fun c1 => ?_))⟩
    · obtain ⟨_, h2⟩ := find_step hall hdy c
      rw [h2]
      exact ⟨rfl, rfl⟩
    · refine ⟨Rng.i64 (by omega) (by have hlim := LF_lim hx; omega), ⟨i + 1, by push_cast; rfl, by omega, fun j f hj hf => ?_, rfl⟩, by omega⟩
      by_cases hji : j = i
      · subst hji
        rw [hdy] at hf
        have := Option.some.inj hf
        subst this
        exact c1
      · exact hall j f (by omega) hf
  · obtain ⟨_, h2⟩ := find_none (l := fds x) (n := n) fun j f hf => hall j f (by have := (List.getElem?_eq_some_iff.1 hf).1; omega) hf
    rw [h2]
    exact ⟨rfl, rfl⟩

theorem appM {w : World} {a a2 : Option Addr} {n c m c2 : Nat} {xs ys : List Int} {B : Nat} {K : Option Addr → Nat → Nat → World → Prop} (ho : Own w B 5 1 a n c (xs.map (Value.int .u8))) (hy : Ints w .u8 a2 m c2 ys) (hB : B ≤ w.heap.size) (hn : n + m ≤ 140737488351232)
    (hk : ∀ a' c' w', Own w' B 5 1 a' (n + m) c' ((xs ++ ys).map (Value.int .u8)) → Below B w w' → Mov w a a' → But a w w' → K a' (n + m) c' w') :
    AppS w a2 m 1 fun ns => AppV w 5 1 1 a n c ns m K := by
  refine AppS.of (news := ys.map (Value.int .u8)) (by rw [List.length_map, hy.len]; omega) hy.rd ?_
  refine AppV.own ho hB (by rw [List.length_map, hy.len]; omega) (oneAll.ints _ _) (by omega) (by omega) fun a' c' w' h1 h2 h4 h3 => ?_
  refine hk a' c' w' ?_ h2 h3 h4
  rw [List.map_append]
  exact h1

/-- No mask is longer than an address space. -/
def mFit (l : List FD) : Prop := ∀ f ∈ l, f.2.2.1.length ≤ 140737488351232
theorem mFit.at {l : List FD} (h : mFit l) {i : Nat} {f : FD} (hf : l[i]? = some f) : f.2.2.1.length ≤ 140737488351232 := h _ (List.mem_of_getElem? hf)
theorem FRight.fit {l : List FD} (h : FRight l) : mFit l := fun f hf => by have := (h.1 f hf).2; omega

theorem At_c {w : World} {G : Nat → Prop} {x : SlP TF.T} {n : Int} (hx : LF.rd w G x) (hm : mFit (fds x)) : CallV Try.prog 126 #[.slice x.a x.n x.c, .int .i64 n] w [.agg [.int .i64, .bool, .sl], .one .bool] fun r w' =>
    Ext w w' ∧ match atF (fds x) n with
      | some f => r.2.1 = true ∧ r.1.1 = f.1 ∧ r.1.2.1 = f.2.1 ∧ Res w w' r.1.2.2.1 f.2.2.1
      | none => r.2.1 = false ∧ r.1 = ((0 : Int), false, (⟨none, 0, 0⟩ : SlV), ()) := by
  refine fault_At.vc _ _ _ _ _ _ ?_
  unfold fault_At.P
  have hl := LF_len hx
  refine newF fun b1 w1 e1 hb1 => ?_
  refine Loop1 (fun (y : Int × Unit) w' => ∃ i : Nat, y.1 = (i : Int) ∧ i ≤ x.n ∧ (∀ (j : Nat) (f : FD), j < i → (fds x)[j]? = some f → f.1 ≠ n) ∧ Ext w1 w') (fun (y : Int × Unit) _ => ((x.n : Int) - y.1).toNat) ⟨0, rfl, by omega, fun j f h => by omega, Ext.refl _⟩ ?_
  rintro ⟨(z : Int), ⟨⟩⟩ w2 ⟨i, hz, hi, hall, e2⟩
  dsimp only at hz ⊢
  subst hz
  refine cond_d (fun hlt => ?_) (fun hge => ?_)
  · obtain ⟨q, y, hq, hy, hc, hr, -⟩ := LF_nth (Ty.rd_ext (e1.trans e2) _ hx) (Int.natCast_nonneg i) hlt
    have hdy := LF_get hy
    rw [Int.toNat_natCast] at hdy
    refine ⟨⟨by omega, hlt⟩, q, hq, ldF hc ?_⟩
    refine newF fun b6 w7 e7 hb => ?_
    refine hb.store 0 (by simp) fun w8 hb8 bel8 _ _ => ?_
    have x8 : Ext w2 w8 := Below.trans e7 bel8
    have e8 : Ext w1 w8 := e2.trans x8
    refine hb8.ld (i := 0) (h := .int .i64) (x := y.1) rfl (cond_eq (fun c => ?_) (fun c1 => ?_))
    · obtain ⟨h1, -⟩ := find_step hall hdy c
      have hmy := hm.at hdy
      have hly := TF_len hr
      dsimp only at hmy
      refine newU fun b9 w9 e9 o9 => ?_
      refine (hb8.ext e9).ld (i := 2) (h := .sl) (x := ⟨y.2.2.1.a, y.2.2.1.n, y.2.2.1.c⟩) rfl ?_
      dsimp only
      refine appM (xs := []) o9 (Ty.ints (Ty.rd_ext (x8.trans e9) _ hr.2.2.1)) e9.size (by omega) fun a' c' w10 o10 b10 m10 _ => ?_
      have x10 : Ext w8 w10 := Below.trans e9 b10
      have hb10 := hb8.ext x10
      have hlt8 : b6 < w8.heap.size := hb8.lt
      have hne : ∀ p, a' = some p → p.block ≠ b6 := by
        intro p hp
        rcases o10.at_ with ⟨h1, _⟩ | ⟨b, cs, h1, h2, _⟩
        · rw [h1] at hp; cases hp
        · rw [h1] at hp; cases hp; show b ≠ b6; omega
      refine hb10.store 2 (by simp) fun w11 hb11 bel11 but11 _ => ?_
      have o11 := o10.other (w' := w11) (fun p hp => but11 _ (hne p hp))
      refine ldF (f := (y.1, y.2.1, ⟨a', 0 + y.2.2.1.n, c', y.2.2.1.l⟩, ())) hb11.cells ?_
      have X11 : Ext w1 w11 := Below.trans (Ext.trans e8 x10) (Below.mono bel11 e2.size)
      have hb1' := hb1.ext X11
      have hlt1 : b1 < w1.heap.size := hb1.lt
      refine hb1'.store 0 (by simp) fun w12 hb12 bel12 but12 _ => ?_
      refine ldF (f := (y.1, y.2.1, ⟨a', 0 + y.2.2.1.n, c', y.2.2.1.l⟩, ())) hb12.cells ?_
      have o12 := o11.other (w' := w12) (fun p hp => but12 _ (by
        rcases o10.at_ with ⟨h1, _⟩ | ⟨b, cs, h1, h2, _⟩
        · rw [h1] at hp; cases hp
        · rw [h1] at hp; cases hp; show b ≠ b1
          have := e8.size
          omega))
      have E12 : Ext w w12 := Below.trans (e1.trans X11) bel12
      rw [h1]
      exact ⟨E12, rfl, rfl, rfl, ⟨E12, o12.mono (Nat.le_trans e1.size e8.size)⟩⟩
    · refine ⟨Rng.i64 (by omega) (by have hlim := LF_lim hx; omega), ⟨i + 1, by push_cast; rfl, by omega, fun j f hj hf => ?_, e8⟩, by omega⟩
      by_cases hji : j = i
      · subst hji
        rw [hdy] at hf
        have := Option.some.inj hf
        subst this
        exact c1
      · exact hall j f (by omega) hf
  · obtain ⟨h1, _⟩ := find_none (l := fds x) (n := n) fun j f hf => hall j f (by have := (List.getElem?_eq_some_iff.1 hf).1; omega) hf
    have hb2 := hb1.ext e2
    refine hb2.store 0 (by simp) fun w3 hb3 bel3 _ _ => ?_
    refine ldF (f := ((0 : Int), false, ⟨none, 0, 0, []⟩, ())) hb3.cells ?_
    rw [h1]
    exact ⟨Below.trans (e1.trans e2) bel3, rfl, rfl⟩

end Go.Proofs.Ytfpkaebmiojicaa.Vc

/-! The plans of functions as plain statements, printed by wip/tools/vcgen.py; the kernel holds each to the code. -/
namespace Go.Proofs.Ytfpkaebmiojicaa.Vc
open Go Go.Eng
set_option linter.unusedVariables false

/-! ### nepenthe/page.Make: function 15 -/
def page_Make.A : Ann := .no
def page_Make.P (p0_0 : Int) (p0_1 : Int) (p0_2 : Int) (p0_3 : Int) (p0_4 : Int) (p0_5 : Int) (p1_0 : Int) (p1_1 : Int) (p1_2 : Int) (p1_3 : Int) (p1_4 : Int) (p1_5 : Int) (a2 : Option Addr) (n2 c2 : Nat) (a3 : Option Addr) (n3 c3 : Nat) (w : World) (K : SlV × Int × Unit → World → Prop) : Prop :=
  NewV #[.int .i64 p0_0, .int .i64 p0_1, .int .i64 p0_2, .int .i64 p0_3, .int .i64 p0_4, .int .i64 p0_5] 23 w fun b1 w2 =>
  NewV #[.int .i64 p1_0, .int .i64 p1_1, .int .i64 p1_2, .int .u32 p1_3, .int .u64 p1_4, .int .u64 p1_5] 27 w2 fun b3 w4 =>
  LoadA w4 ⟨b1, 0, none⟩ [.int .i64, .int .i64, .int .i64, .int .i64, .int .i64, .int .i64] fun (x5 : Int × Int × Int × Int × Int × Int × Unit) =>
  CallV Try.prog 57 #[.agg #[.int .i64 x5.1, .int .i64 x5.2.1, .int .i64 x5.2.2.1, .int .i64 x5.2.2.2.1, .int .i64 x5.2.2.2.2.1, .int .i64 x5.2.2.2.2.2.1]] w4 [.one (.int .i64)] fun (r6 : Int × Unit) w7 =>
  cond (r6.1 != 0)
  (K ((⟨none, 0, 0⟩ : SlV), (2 : Int), ()) w7)
  (cond (((n2 : Nat) : Int) == 0)
  (LoadS w7 ⟨b1, 2, none⟩ (.int .i64) fun (x8 : Int) =>
  CallV Try.prog 58 #[.int .u8 255, .int .i64 x8] w7 [.one .sl] fun (r9 : SlV × Unit) w10 =>
  LoadS w10 ⟨b1, 2, none⟩ (.int .i64) fun (x11 : Int) =>
  cond (((r9.1.n : Nat) : Int) != x11)
  (K ((⟨none, 0, 0⟩ : SlV), (2 : Int), ()) w10)
  (LoadA w10 ⟨b3, 0, none⟩ [.int .i64, .int .i64, .int .i64, .int .u32, .int .u64, .int .u64] fun (x12 : Int × Int × Int × Int × Int × Int × Unit) =>
  CallV Try.prog 59 #[.agg #[.int .i64 x12.1, .int .i64 x12.2.1, .int .i64 x12.2.2.1, .int .u32 x12.2.2.2.1, .int .u64 x12.2.2.2.2.1, .int .u64 x12.2.2.2.2.2.1], .slice a3 n3 c3] w10 [.one .sl, .one (.int .i64)] fun (r13 : SlV × Int × Unit) w14 =>
  cond (r13.2.1 != 0)
  (K ((⟨none, 0, 0⟩ : SlV), r13.2.1, ()) w14)
  (NewV #[] 5 w14 fun b15 w16 =>
  AppS w16 r9.1.a r9.1.n 1 fun ns21 =>
  AppV w16 5 1 1 (some ⟨b15, 0, none⟩) 0 0 ns21 r9.1.n fun a17 n18 c19 w20 =>
  AppS w20 r13.1.a r13.1.n 1 fun ns26 =>
  AppV w20 5 1 1 a17 n18 c19 ns26 r13.1.n fun a22 n23 c24 w25 =>
  K ((⟨a22, n23, c24⟩ : SlV), (0 : Int), ()) w25)))
  (LoadS w7 ⟨b1, 2, none⟩ (.int .i64) fun (x27 : Int) =>
  cond (((n2 : Nat) : Int) != x27)
  (K ((⟨none, 0, 0⟩ : SlV), (2 : Int), ()) w7)
  (LoadA w7 ⟨b3, 0, none⟩ [.int .i64, .int .i64, .int .i64, .int .u32, .int .u64, .int .u64] fun (x28 : Int × Int × Int × Int × Int × Int × Unit) =>
  CallV Try.prog 59 #[.agg #[.int .i64 x28.1, .int .i64 x28.2.1, .int .i64 x28.2.2.1, .int .u32 x28.2.2.2.1, .int .u64 x28.2.2.2.2.1, .int .u64 x28.2.2.2.2.2.1], .slice a3 n3 c3] w7 [.one .sl, .one (.int .i64)] fun (r29 : SlV × Int × Unit) w30 =>
  cond (r29.2.1 != 0)
  (K ((⟨none, 0, 0⟩ : SlV), r29.2.1, ()) w30)
  (NewV #[] 5 w30 fun b31 w32 =>
  AppS w32 a2 n2 1 fun ns37 =>
  AppV w32 5 1 1 (some ⟨b31, 0, none⟩) 0 0 ns37 n2 fun a33 n34 c35 w36 =>
  AppS w36 r29.1.a r29.1.n 1 fun ns42 =>
  AppV w36 5 1 1 a33 n34 c35 ns42 r29.1.n fun a38 n39 c40 w41 =>
  K ((⟨a38, n39, c40⟩ : SlV), (0 : Int), ()) w41))))
theorem page_Make.vc (p0_0 : Int) (p0_1 : Int) (p0_2 : Int) (p0_3 : Int) (p0_4 : Int) (p0_5 : Int) (p1_0 : Int) (p1_1 : Int) (p1_2 : Int) (p1_3 : Int) (p1_4 : Int) (p1_5 : Int) (a2 : Option Addr) (n2 c2 : Nat) (a3 : Option Addr) (n3 c3 : Nat) (w : World) (K : SlV × Int × Unit → World → Prop) (h : page_Make.P p0_0 p0_1 p0_2 p0_3 p0_4 p0_5 p1_0 p1_1 p1_2 p1_3 p1_4 p1_5 a2 n2 c2 a3 n3 c3 w K) : CallV Try.prog 15 #[.agg #[.int .i64 p0_0, .int .i64 p0_1, .int .i64 p0_2, .int .i64 p0_3, .int .i64 p0_4, .int .i64 p0_5], .agg #[.int .i64 p1_0, .int .i64 p1_1, .int .i64 p1_2, .int .u32 p1_3, .int .u64 p1_4, .int .u64 p1_5], .slice a2 n2 c2, .slice a3 n3 c3] w [.one .sl, .one (.int .i64)] K := by
  have e : vcFun Try.prog okf false Try.f15 page_Make.A #[.agg #[.int .i64 p0_0, .int .i64 p0_1, .int .i64 p0_2, .int .i64 p0_3, .int .i64 p0_4, .int .i64 p0_5], .agg #[.int .i64 p1_0, .int .i64 p1_1, .int .i64 p1_2, .int .u32 p1_3, .int .u64 p1_4, .int .u64 p1_5], .slice a2 n2 c2, .slice a3 n3 c3] w [.one .sl, .one (.int .i64)] K = page_Make.P p0_0 p0_1 p0_2 p0_3 p0_4 p0_5 p1_0 p1_1 p1_2 p1_3 p1_4 p1_5 a2 n2 c2 a3 n3 c3 w K := by kernel_rfl
  exact vcFun.calls okf_ok follows Try.func15 (e.symm ▸ h)

/-! ### nepenthe/page.Commit: function 16 -/
def page_Commit.A : Ann := .no
def page_Commit.P (p0_0 : Int) (p0_1 : Int) (p0_2 : Int) (p0_3 : Int) (p0_4 : Int) (p0_5 : Int) (w : World) (K : SlV × Int × Unit → World → Prop) : Prop :=
  NewV #[.int .i64 p0_0, .int .i64 p0_1, .int .i64 p0_2, .int .i64 p0_3, .int .i64 p0_4, .int .i64 p0_5] 23 w fun b1 w2 =>
  LoadA w2 ⟨b1, 0, none⟩ [.int .i64, .int .i64, .int .i64, .int .i64, .int .i64, .int .i64] fun (x3 : Int × Int × Int × Int × Int × Int × Unit) =>
  CallV Try.prog 57 #[.agg #[.int .i64 x3.1, .int .i64 x3.2.1, .int .i64 x3.2.2.1, .int .i64 x3.2.2.2.1, .int .i64 x3.2.2.2.2.1, .int .i64 x3.2.2.2.2.2.1]] w2 [.one (.int .i64)] fun (r4 : Int × Unit) w5 =>
  cond (r4.1 != 0)
  (K ((⟨none, 0, 0⟩ : SlV), (2 : Int), ()) w5)
  (LoadA w5 ⟨b1, 0, none⟩ [.int .i64, .int .i64, .int .i64, .int .i64, .int .i64, .int .i64] fun (x6 : Int × Int × Int × Int × Int × Int × Unit) =>
  CallV Try.prog 61 #[.agg #[.int .i64 x6.1, .int .i64 x6.2.1, .int .i64 x6.2.2.1, .int .i64 x6.2.2.2.1, .int .i64 x6.2.2.2.2.1, .int .i64 x6.2.2.2.2.2.1]] w5 [.one (.int .i64)] fun (r7 : Int × Unit) w8 =>
  CallV Try.prog 60 #[.int .i64 r7.1] w8 [.one .sl] fun (r9 : SlV × Unit) w10 =>
  K (r9.1, (0 : Int), ()) w10)
theorem page_Commit.vc (p0_0 : Int) (p0_1 : Int) (p0_2 : Int) (p0_3 : Int) (p0_4 : Int) (p0_5 : Int) (w : World) (K : SlV × Int × Unit → World → Prop) (h : page_Commit.P p0_0 p0_1 p0_2 p0_3 p0_4 p0_5 w K) : CallV Try.prog 16 #[.agg #[.int .i64 p0_0, .int .i64 p0_1, .int .i64 p0_2, .int .i64 p0_3, .int .i64 p0_4, .int .i64 p0_5]] w [.one .sl, .one (.int .i64)] K := by
  have e : vcFun Try.prog okf false Try.f16 page_Commit.A #[.agg #[.int .i64 p0_0, .int .i64 p0_1, .int .i64 p0_2, .int .i64 p0_3, .int .i64 p0_4, .int .i64 p0_5]] w [.one .sl, .one (.int .i64)] K = page_Commit.P p0_0 p0_1 p0_2 p0_3 p0_4 p0_5 w K := by kernel_rfl
  exact vcFun.calls okf_ok follows Try.func16 (e.symm ▸ h)

/-! ### nepenthe/page.cut: function 66 -/
def page_cut.A : Ann := .two .no (.two (.draw (.take 0 (.take 1 (.take 2 (.take 3 (.take 4 (.take 5 (.take 6 (.take 7 (.take 8 (.eff 9 (.done)))))))))))) .no)
def page_cut.P (p0_0 : Int) (p0_1 : Int) (p0_2 : Int) (p0_3 : Int) (p0_4 : Int) (p0_5 : Int) (a1 : Option Addr) (n1 c1 : Nat) (w : World) (K : (SlV × SlV × Unit) × Unit → World → Prop) : Prop :=
  NewV #[.int .i64 p0_0, .int .i64 p0_1, .int .i64 p0_2, .int .i64 p0_3, .int .i64 p0_4, .int .i64 p0_5] 23 w fun b1 w2 =>
  NewV #[.slice none 0 0, .slice none 0 0] 29 w2 fun b3 w4 =>
  DrawV fun D5 =>
  (D5 b1 ∧ LoadS w4.drew ⟨b1, 2, none⟩ (.int .i64) fun (x6 : Int) =>
  ((0 : Int) ≤ x6 ∧ x6 ≤ ((c1 : Nat) : Int)) ∧
  SubK a1 0 c1 1 fun a7 =>
  (D5 b1 ∧ LoadS w4.drew ⟨b1, 2, none⟩ (.int .i64) fun (x8 : Int) =>
  ((0 : Int) ≤ x8 ∧ x8 ≤ ((n1 : Nat) : Int)) ∧
  SubK a1 x8.toNat c1 1 fun a9 =>
  StoreV w4.drew ⟨b3, 0, none⟩ [.slice a7 (x6.toNat - 0) (c1 - 0), .slice a9 (n1 - x8.toNat) (c1 - x8.toNat)] fun w10 =>
  KeepOn D5 w4.drew w10 ∧
  LoadA w10 ⟨b3, 0, none⟩ [.sl, .sl] fun (x11 : SlV × SlV × Unit) =>
  K ((x11.1, x11.2.1, ()), ()) w10))
theorem page_cut.vc (p0_0 : Int) (p0_1 : Int) (p0_2 : Int) (p0_3 : Int) (p0_4 : Int) (p0_5 : Int) (a1 : Option Addr) (n1 c1 : Nat) (w : World) (K : (SlV × SlV × Unit) × Unit → World → Prop) (h : page_cut.P p0_0 p0_1 p0_2 p0_3 p0_4 p0_5 a1 n1 c1 w K) : CallV Try.prog 66 #[.agg #[.int .i64 p0_0, .int .i64 p0_1, .int .i64 p0_2, .int .i64 p0_3, .int .i64 p0_4, .int .i64 p0_5], .slice a1 n1 c1] w [.agg [.sl, .sl]] K := by
  have e : vcFun Try.prog okf false Try.f66 page_cut.A #[.agg #[.int .i64 p0_0, .int .i64 p0_1, .int .i64 p0_2, .int .i64 p0_3, .int .i64 p0_4, .int .i64 p0_5], .slice a1 n1 c1] w [.agg [.sl, .sl]] K = page_cut.P p0_0 p0_1 p0_2 p0_3 p0_4 p0_5 a1 n1 c1 w K := by kernel_rfl
  exact vcFun.calls okf_ok follows Try.func66 (e.symm ▸ h)

/-! ### nepenthe/page.Read: function 23 -/
def page_Read.A : Ann := .two .no (.two .no (.two .no (.two .no (.two .no (.two (.draw (.take 0 (.take 2 (.take 3 (.take 5 (.take 6 (.take 7 (.eff 1 (.eff 4 (.eff 8 (.take 9 (.eff 10 (.take 11 (.done)))))))))))))) .no)))))
def page_Read.P (p0_0 : Int) (p0_1 : Int) (p0_2 : Int) (p0_3 : Int) (p0_4 : Int) (p0_5 : Int) (a1 : Option Addr) (n1 c1 : Nat) (w : World) (K : (Int × Int × Int × Int × Int × Int × SlV × SlV × Bool × Unit) × Int × Unit → World → Prop) : Prop :=
  NewV #[.int .i64 p0_0, .int .i64 p0_1, .int .i64 p0_2, .int .i64 p0_3, .int .i64 p0_4, .int .i64 p0_5] 23 w fun b1 w2 =>
  NewV #[.int .i64 0, .int .i64 0, .int .i64 0, .int .u32 0, .int .u64 0, .int .u64 0, .slice none 0 0, .slice none 0 0, .bool false] 42 w2 fun b3 w4 =>
  LoadA w4 ⟨b1, 0, none⟩ [.int .i64, .int .i64, .int .i64, .int .i64, .int .i64, .int .i64] fun (x5 : Int × Int × Int × Int × Int × Int × Unit) =>
  CallV Try.prog 57 #[.agg #[.int .i64 x5.1, .int .i64 x5.2.1, .int .i64 x5.2.2.1, .int .i64 x5.2.2.2.1, .int .i64 x5.2.2.2.2.1, .int .i64 x5.2.2.2.2.2.1]] w4 [.one (.int .i64)] fun (r6 : Int × Unit) w7 =>
  cond (r6.1 != 0)
  (StoreV w7 ⟨b3, 0, none⟩ [.int .i64 0, .int .i64 0, .int .i64 0, .int .u32 0, .int .u64 0, .int .u64 0, .slice none 0 0, .slice none 0 0, .bool false] fun w8 =>
  LoadA w8 ⟨b3, 0, none⟩ [.int .i64, .int .i64, .int .i64, .int .u32, .int .u64, .int .u64, .sl, .sl, .bool] fun (x9 : Int × Int × Int × Int × Int × Int × SlV × SlV × Bool × Unit) =>
  K ((x9.1, x9.2.1, x9.2.2.1, x9.2.2.2.1, x9.2.2.2.2.1, x9.2.2.2.2.2.1, x9.2.2.2.2.2.2.1, x9.2.2.2.2.2.2.2.1, x9.2.2.2.2.2.2.2.2.1, ()), (2 : Int), ()) w8)
  (LoadA w7 ⟨b1, 0, none⟩ [.int .i64, .int .i64, .int .i64, .int .i64, .int .i64, .int .i64] fun (x10 : Int × Int × Int × Int × Int × Int × Unit) =>
  CallV Try.prog 61 #[.agg #[.int .i64 x10.1, .int .i64 x10.2.1, .int .i64 x10.2.2.1, .int .i64 x10.2.2.2.1, .int .i64 x10.2.2.2.2.1, .int .i64 x10.2.2.2.2.2.1]] w7 [.one (.int .i64)] fun (r11 : Int × Unit) w12 =>
  cond (((n1 : Nat) : Int) != r11.1)
  (StoreV w12 ⟨b3, 0, none⟩ [.int .i64 0, .int .i64 0, .int .i64 0, .int .u32 0, .int .u64 0, .int .u64 0, .slice none 0 0, .slice none 0 0, .bool false] fun w13 =>
  LoadA w13 ⟨b3, 0, none⟩ [.int .i64, .int .i64, .int .i64, .int .u32, .int .u64, .int .u64, .sl, .sl, .bool] fun (x14 : Int × Int × Int × Int × Int × Int × SlV × SlV × Bool × Unit) =>
  K ((x14.1, x14.2.1, x14.2.2.1, x14.2.2.2.1, x14.2.2.2.2.1, x14.2.2.2.2.2.1, x14.2.2.2.2.2.2.1, x14.2.2.2.2.2.2.2.1, x14.2.2.2.2.2.2.2.2.1, ()), (2 : Int), ()) w13)
  (LoadA w12 ⟨b1, 0, none⟩ [.int .i64, .int .i64, .int .i64, .int .i64, .int .i64, .int .i64] fun (x15 : Int × Int × Int × Int × Int × Int × Unit) =>
  CallV Try.prog 66 #[.agg #[.int .i64 x15.1, .int .i64 x15.2.1, .int .i64 x15.2.2.1, .int .i64 x15.2.2.2.1, .int .i64 x15.2.2.2.2.1, .int .i64 x15.2.2.2.2.2.1], .slice a1 n1 c1] w12 [.agg [.sl, .sl]] fun (r16 : (SlV × SlV × Unit) × Unit) w17 =>
  NewV #[.slice none 0 0, .slice none 0 0] 29 w17 fun b18 w19 =>
  StoreV w19 ⟨b18, 0, none⟩ [.slice r16.1.1.a r16.1.1.n r16.1.1.c, .slice r16.1.2.1.a r16.1.2.1.n r16.1.2.1.c] fun w20 =>
  (0 ≤ (1 : Int) ∧ 1 < (2 : Int)) ∧
  LoadS w20 ⟨b18, 1, none⟩ .sl fun (x21 : SlV) =>
  CallV Try.prog 67 #[.slice x21.a x21.n x21.c] w20 [.agg [.int .i64, .int .i64, .int .i64, .int .u32, .int .u64, .int .u64], .one .sl, .one (.int .i64)] fun (r22 : (Int × Int × Int × Int × Int × Int × Unit) × SlV × Int × Unit) w23 =>
  NewV #[.int .i64 0, .int .i64 0, .int .i64 0, .int .u32 0, .int .u64 0, .int .u64 0] 27 w23 fun b24 w25 =>
  StoreV w25 ⟨b24, 0, none⟩ [.int .i64 r22.1.1, .int .i64 r22.1.2.1, .int .i64 r22.1.2.2.1, .int .u32 r22.1.2.2.2.1, .int .u64 r22.1.2.2.2.2.1, .int .u64 r22.1.2.2.2.2.2.1] fun w26 =>
  cond (r22.2.2.1 != 0)
  (StoreV w26 ⟨b3, 0, none⟩ [.int .i64 0, .int .i64 0, .int .i64 0, .int .u32 0, .int .u64 0, .int .u64 0, .slice none 0 0, .slice none 0 0, .bool false] fun w27 =>
  LoadA w27 ⟨b3, 0, none⟩ [.int .i64, .int .i64, .int .i64, .int .u32, .int .u64, .int .u64, .sl, .sl, .bool] fun (x28 : Int × Int × Int × Int × Int × Int × SlV × SlV × Bool × Unit) =>
  K ((x28.1, x28.2.1, x28.2.2.1, x28.2.2.2.1, x28.2.2.2.2.1, x28.2.2.2.2.2.1, x28.2.2.2.2.2.2.1, x28.2.2.2.2.2.2.2.1, x28.2.2.2.2.2.2.2.2.1, ()), r22.2.2.1, ()) w27)
  (DrawV fun D29 =>
  (D29 b24 ∧ LoadA w26.drew ⟨b24, 0, none⟩ [.int .i64, .int .i64, .int .i64, .int .u32, .int .u64, .int .u64] fun (x30 : Int × Int × Int × Int × Int × Int × Unit) =>
  (0 ≤ (0 : Int) ∧ 0 < (2 : Int)) ∧
  (D29 b18 ∧ LoadS w26.drew ⟨b18, 0, none⟩ .sl fun (x31 : SlV) =>
  (0 ≤ (1 : Int) ∧ 1 < (2 : Int)) ∧
  (D29 b18 ∧ LoadS w26.drew ⟨b18, 1, none⟩ .sl fun (x32 : SlV) =>
  NewV #[] 5 w26.drew fun b33 w34 =>
  KeepOn D29 w26.drew w34 ∧
  AppS w34 x31.a x31.n 1 fun ns39 =>
  AppV w34 5 1 1 (some ⟨b33, 0, none⟩) 0 0 ns39 x31.n fun a35 n36 c37 w38 =>
  KeepOn D29 w26.drew w38 ∧
  CallV Try.prog 68 #[.slice x32.a x32.n x32.c] w38 [.one .bool] fun (r40 : Bool × Unit) w41 =>
  KeepOn D29 w26.drew w41 ∧
  StoreV w41 ⟨b3, 0, none⟩ [.int .i64 x30.1, .int .i64 x30.2.1, .int .i64 x30.2.2.1, .int .u32 x30.2.2.2.1, .int .u64 x30.2.2.2.2.1, .int .u64 x30.2.2.2.2.2.1, .slice a35 n36 c37, .slice r22.2.1.a r22.2.1.n r22.2.1.c, .bool r40.1] fun w42 =>
  KeepOn D29 w26.drew w42 ∧
  LoadA w42 ⟨b3, 0, none⟩ [.int .i64, .int .i64, .int .i64, .int .u32, .int .u64, .int .u64, .sl, .sl, .bool] fun (x43 : Int × Int × Int × Int × Int × Int × SlV × SlV × Bool × Unit) =>
  K ((x43.1, x43.2.1, x43.2.2.1, x43.2.2.2.1, x43.2.2.2.2.1, x43.2.2.2.2.2.1, x43.2.2.2.2.2.2.1, x43.2.2.2.2.2.2.2.1, x43.2.2.2.2.2.2.2.2.1, ()), (0 : Int), ()) w42))))))
theorem page_Read.vc (p0_0 : Int) (p0_1 : Int) (p0_2 : Int) (p0_3 : Int) (p0_4 : Int) (p0_5 : Int) (a1 : Option Addr) (n1 c1 : Nat) (w : World) (K : (Int × Int × Int × Int × Int × Int × SlV × SlV × Bool × Unit) × Int × Unit → World → Prop) (h : page_Read.P p0_0 p0_1 p0_2 p0_3 p0_4 p0_5 a1 n1 c1 w K) : CallV Try.prog 23 #[.agg #[.int .i64 p0_0, .int .i64 p0_1, .int .i64 p0_2, .int .i64 p0_3, .int .i64 p0_4, .int .i64 p0_5], .slice a1 n1 c1] w [.agg [.int .i64, .int .i64, .int .i64, .int .u32, .int .u64, .int .u64, .sl, .sl, .bool], .one (.int .i64)] K := by
  have e : vcFun Try.prog okf false Try.f23 page_Read.A #[.agg #[.int .i64 p0_0, .int .i64 p0_1, .int .i64 p0_2, .int .i64 p0_3, .int .i64 p0_4, .int .i64 p0_5], .slice a1 n1 c1] w [.agg [.int .i64, .int .i64, .int .i64, .int .u32, .int .u64, .int .u64, .sl, .sl, .bool], .one (.int .i64)] K = page_Read.P p0_0 p0_1 p0_2 p0_3 p0_4 p0_5 a1 n1 c1 w K := by kernel_rfl
  exact vcFun.calls okf_ok follows Try.func23 (e.symm ▸ h)

/-! ### nepenthe/page.Done: function 24 -/
def page_Done.A : Ann := .no
def page_Done.P (p0_0 : Int) (p0_1 : Int) (p0_2 : Int) (p0_3 : Int) (p0_4 : Int) (p0_5 : Int) (a1 : Option Addr) (n1 c1 : Nat) (p2 : Int) (w : World) (K : (Int × Int × Int × Int × Int × Int × SlV × SlV × Bool × Unit) × Bool × Unit → World → Prop) : Prop :=
  NewV #[.int .i64 p0_0, .int .i64 p0_1, .int .i64 p0_2, .int .i64 p0_3, .int .i64 p0_4, .int .i64 p0_5] 23 w fun b1 w2 =>
  NewV #[.int .i64 0, .int .i64 0, .int .i64 0, .int .u32 0, .int .u64 0, .int .u64 0, .slice none 0 0, .slice none 0 0, .bool false] 42 w2 fun b3 w4 =>
  LoadA w4 ⟨b1, 0, none⟩ [.int .i64, .int .i64, .int .i64, .int .i64, .int .i64, .int .i64] fun (x5 : Int × Int × Int × Int × Int × Int × Unit) =>
  CallV Try.prog 23 #[.agg #[.int .i64 x5.1, .int .i64 x5.2.1, .int .i64 x5.2.2.1, .int .i64 x5.2.2.2.1, .int .i64 x5.2.2.2.2.1, .int .i64 x5.2.2.2.2.2.1], .slice a1 n1 c1] w4 [.agg [.int .i64, .int .i64, .int .i64, .int .u32, .int .u64, .int .u64, .sl, .sl, .bool], .one (.int .i64)] fun (r6 : (Int × Int × Int × Int × Int × Int × SlV × SlV × Bool × Unit) × Int × Unit) w7 =>
  NewV #[.int .i64 0, .int .i64 0, .int .i64 0, .int .u32 0, .int .u64 0, .int .u64 0, .slice none 0 0, .slice none 0 0, .bool false] 42 w7 fun b8 w9 =>
  StoreV w9 ⟨b8, 0, none⟩ [.int .i64 r6.1.1, .int .i64 r6.1.2.1, .int .i64 r6.1.2.2.1, .int .u32 r6.1.2.2.2.1, .int .u64 r6.1.2.2.2.2.1, .int .u64 r6.1.2.2.2.2.2.1, .slice r6.1.2.2.2.2.2.2.1.a r6.1.2.2.2.2.2.2.1.n r6.1.2.2.2.2.2.2.1.c, .slice r6.1.2.2.2.2.2.2.2.1.a r6.1.2.2.2.2.2.2.2.1.n r6.1.2.2.2.2.2.2.2.1.c, .bool r6.1.2.2.2.2.2.2.2.2.1] fun w10 =>
  cond (r6.2.1 != 0)
  (StoreV w10 ⟨b3, 0, none⟩ [.int .i64 0, .int .i64 0, .int .i64 0, .int .u32 0, .int .u64 0, .int .u64 0, .slice none 0 0, .slice none 0 0, .bool false] fun w11 =>
  LoadA w11 ⟨b3, 0, none⟩ [.int .i64, .int .i64, .int .i64, .int .u32, .int .u64, .int .u64, .sl, .sl, .bool] fun (x12 : Int × Int × Int × Int × Int × Int × SlV × SlV × Bool × Unit) =>
  K ((x12.1, x12.2.1, x12.2.2.1, x12.2.2.2.1, x12.2.2.2.2.1, x12.2.2.2.2.2.1, x12.2.2.2.2.2.2.1, x12.2.2.2.2.2.2.2.1, x12.2.2.2.2.2.2.2.2.1, ()), false, ()) w11)
  (LoadS w10 ⟨b8, 8, none⟩ .bool fun (x13 : Bool) =>
  cond (!x13)
  (StoreV w10 ⟨b3, 0, none⟩ [.int .i64 0, .int .i64 0, .int .i64 0, .int .u32 0, .int .u64 0, .int .u64 0, .slice none 0 0, .slice none 0 0, .bool false] fun w14 =>
  LoadA w14 ⟨b3, 0, none⟩ [.int .i64, .int .i64, .int .i64, .int .u32, .int .u64, .int .u64, .sl, .sl, .bool] fun (x15 : Int × Int × Int × Int × Int × Int × SlV × SlV × Bool × Unit) =>
  K ((x15.1, x15.2.1, x15.2.2.1, x15.2.2.2.1, x15.2.2.2.2.1, x15.2.2.2.2.2.1, x15.2.2.2.2.2.2.1, x15.2.2.2.2.2.2.2.1, x15.2.2.2.2.2.2.2.2.1, ()), false, ()) w14)
  (LoadS w10 ⟨b8, 0, none⟩ (.int .i64) fun (x16 : Int) =>
  cond (x16 != p2)
  (StoreV w10 ⟨b3, 0, none⟩ [.int .i64 0, .int .i64 0, .int .i64 0, .int .u32 0, .int .u64 0, .int .u64 0, .slice none 0 0, .slice none 0 0, .bool false] fun w17 =>
  LoadA w17 ⟨b3, 0, none⟩ [.int .i64, .int .i64, .int .i64, .int .u32, .int .u64, .int .u64, .sl, .sl, .bool] fun (x18 : Int × Int × Int × Int × Int × Int × SlV × SlV × Bool × Unit) =>
  K ((x18.1, x18.2.1, x18.2.2.1, x18.2.2.2.1, x18.2.2.2.2.1, x18.2.2.2.2.2.1, x18.2.2.2.2.2.2.1, x18.2.2.2.2.2.2.2.1, x18.2.2.2.2.2.2.2.2.1, ()), false, ()) w17)
  (LoadA w10 ⟨b8, 0, none⟩ [.int .i64, .int .i64, .int .i64, .int .u32, .int .u64, .int .u64, .sl, .sl, .bool] fun (x19 : Int × Int × Int × Int × Int × Int × SlV × SlV × Bool × Unit) =>
  StoreV w10 ⟨b3, 0, none⟩ [.int .i64 x19.1, .int .i64 x19.2.1, .int .i64 x19.2.2.1, .int .u32 x19.2.2.2.1, .int .u64 x19.2.2.2.2.1, .int .u64 x19.2.2.2.2.2.1, .slice x19.2.2.2.2.2.2.1.a x19.2.2.2.2.2.2.1.n x19.2.2.2.2.2.2.1.c, .slice x19.2.2.2.2.2.2.2.1.a x19.2.2.2.2.2.2.2.1.n x19.2.2.2.2.2.2.2.1.c, .bool x19.2.2.2.2.2.2.2.2.1] fun w20 =>
  LoadA w20 ⟨b3, 0, none⟩ [.int .i64, .int .i64, .int .i64, .int .u32, .int .u64, .int .u64, .sl, .sl, .bool] fun (x21 : Int × Int × Int × Int × Int × Int × SlV × SlV × Bool × Unit) =>
  K ((x21.1, x21.2.1, x21.2.2.1, x21.2.2.2.1, x21.2.2.2.2.1, x21.2.2.2.2.2.1, x21.2.2.2.2.2.2.1, x21.2.2.2.2.2.2.2.1, x21.2.2.2.2.2.2.2.2.1, ()), true, ()) w20)))
theorem page_Done.vc (p0_0 : Int) (p0_1 : Int) (p0_2 : Int) (p0_3 : Int) (p0_4 : Int) (p0_5 : Int) (a1 : Option Addr) (n1 c1 : Nat) (p2 : Int) (w : World) (K : (Int × Int × Int × Int × Int × Int × SlV × SlV × Bool × Unit) × Bool × Unit → World → Prop) (h : page_Done.P p0_0 p0_1 p0_2 p0_3 p0_4 p0_5 a1 n1 c1 p2 w K) : CallV Try.prog 24 #[.agg #[.int .i64 p0_0, .int .i64 p0_1, .int .i64 p0_2, .int .i64 p0_3, .int .i64 p0_4, .int .i64 p0_5], .slice a1 n1 c1, .int .i64 p2] w [.agg [.int .i64, .int .i64, .int .i64, .int .u32, .int .u64, .int .u64, .sl, .sl, .bool], .one .bool] K := by
  have e : vcFun Try.prog okf false Try.f24 page_Done.A #[.agg #[.int .i64 p0_0, .int .i64 p0_1, .int .i64 p0_2, .int .i64 p0_3, .int .i64 p0_4, .int .i64 p0_5], .slice a1 n1 c1, .int .i64 p2] w [.agg [.int .i64, .int .i64, .int .i64, .int .u32, .int .u64, .int .u64, .sl, .sl, .bool], .one .bool] K = page_Done.P p0_0 p0_1 p0_2 p0_3 p0_4 p0_5 a1 n1 c1 p2 w K := by kernel_rfl
  exact vcFun.calls okf_ok follows Try.func24 (e.symm ▸ h)

/-! ### nepenthe/page.Blank: function 25 -/
-- loop 0 carries 3: .one (.int .u8), 8: .one (.int .i64)
def page_Blank.A : Ann := .two .no (.two .no (.two (.two .no (.one (.loop [3, 5, 8, 9, 10, 11, 12, 13, 14, 15] [(3, .one (.int .u8)), (8, .one (.int .i64))] .no))) .no))
def page_Blank.P (a0 : Option Addr) (n0 c0 : Nat) (w : World) (K : Bool × Unit → World → Prop) : Prop :=
  LoopV [.one (.int .u8), .one (.int .i64)] ((255 : Int), (0 : Int), ()) w fun (z1 : Int × Int × Unit) w2 (K3 : Int × Int × Unit → World → Prop) =>
  cond (decide (z1.2.1 < ((n0 : Nat) : Int)))
  ((0 ≤ z1.2.1 ∧ z1.2.1 < ((n0 : Nat) : Int)) ∧ ∃ q4 : Addr, a0 = some q4 ∧
  LoadS w2 (q4.add (z1.2.1.toNat * 1)) (.int .u8) fun (x5 : Int) =>
  Rng .i64 (z1.2.1 + 1) ∧
  K3 (Go.bits .and .u8 z1.1 x5, z1.2.1 + 1, ()) w2)
  (K ((z1.1 == 255), ()) w2)
theorem page_Blank.vc (a0 : Option Addr) (n0 c0 : Nat) (w : World) (K : Bool × Unit → World → Prop) (h : page_Blank.P a0 n0 c0 w K) : CallV Try.prog 25 #[.slice a0 n0 c0] w [.one .bool] K := by
  have e : vcFun Try.prog okf false Try.f25 page_Blank.A #[.slice a0 n0 c0] w [.one .bool] K = page_Blank.P a0 n0 c0 w K := by kernel_rfl
  exact vcFun.calls okf_ok follows Try.func25 (e.symm ▸ h)

/-! ### nepenthe/nepentheref15.Right: function 21 -/
def ref15_Right.A : Ann := .no
def ref15_Right.P (p0_0 : Int) (p0_1 : Int) (p0_2 : Int) (p0_3 : Int) (p0_4 : Int) (p0_5 : Int) (p1_0 : Int) (p1_1 : Int) (p1_2 : Int) (p1_3 : Int) (p1_4 : Int) (p1_5 : Int) (a2 : Option Addr) (n2 c2 : Nat) (a3 : Option Addr) (n3 c3 : Nat) (w : World) (K : Bool × Unit → World → Prop) : Prop :=
  NewV #[.int .i64 p0_0, .int .i64 p0_1, .int .i64 p0_2, .int .i64 p0_3, .int .i64 p0_4, .int .i64 p0_5] 23 w fun b1 w2 =>
  NewV #[.int .i64 p1_0, .int .i64 p1_1, .int .i64 p1_2, .int .u32 p1_3, .int .u64 p1_4, .int .u64 p1_5] 27 w2 fun b3 w4 =>
  LoadA w4 ⟨b1, 0, none⟩ [.int .i64, .int .i64, .int .i64, .int .i64, .int .i64, .int .i64] fun (x5 : Int × Int × Int × Int × Int × Int × Unit) =>
  CallV Try.prog 17 #[.agg #[.int .i64 x5.1, .int .i64 x5.2.1, .int .i64 x5.2.2.1, .int .i64 x5.2.2.2.1, .int .i64 x5.2.2.2.2.1, .int .i64 x5.2.2.2.2.2.1]] w4 [.one .bool] fun (r6 : Bool × Unit) w7 =>
  cond r6.1
  (LoadA w7 ⟨b3, 0, none⟩ [.int .i64, .int .i64, .int .i64, .int .u32, .int .u64, .int .u64] fun (x8 : Int × Int × Int × Int × Int × Int × Unit) =>
  CallV Try.prog 64 #[.agg #[.int .i64 x8.1, .int .i64 x8.2.1, .int .i64 x8.2.2.1, .int .u32 x8.2.2.2.1, .int .u64 x8.2.2.2.2.1, .int .u64 x8.2.2.2.2.2.1]] w7 [.one .bool] fun (r9 : Bool × Unit) w10 =>
  cond r9.1
  (cond (((n2 : Nat) : Int) == 0)
  (cond (((n3 : Nat) : Int) == 0)
  (K (true, ()) w10)
  (K ((((n3 : Nat) : Int) == 32), ()) w10))
  (LoadS w10 ⟨b1, 2, none⟩ (.int .i64) fun (x11 : Int) =>
  cond (((n2 : Nat) : Int) == x11)
  (cond (((n3 : Nat) : Int) == 0)
  (K (true, ()) w10)
  (K ((((n3 : Nat) : Int) == 32), ()) w10))
  (K (false, ()) w10)))
  (K (false, ()) w10))
  (K (false, ()) w7)
theorem ref15_Right.vc (p0_0 : Int) (p0_1 : Int) (p0_2 : Int) (p0_3 : Int) (p0_4 : Int) (p0_5 : Int) (p1_0 : Int) (p1_1 : Int) (p1_2 : Int) (p1_3 : Int) (p1_4 : Int) (p1_5 : Int) (a2 : Option Addr) (n2 c2 : Nat) (a3 : Option Addr) (n3 c3 : Nat) (w : World) (K : Bool × Unit → World → Prop) (h : ref15_Right.P p0_0 p0_1 p0_2 p0_3 p0_4 p0_5 p1_0 p1_1 p1_2 p1_3 p1_4 p1_5 a2 n2 c2 a3 n3 c3 w K) : CallV Try.prog 21 #[.agg #[.int .i64 p0_0, .int .i64 p0_1, .int .i64 p0_2, .int .i64 p0_3, .int .i64 p0_4, .int .i64 p0_5], .agg #[.int .i64 p1_0, .int .i64 p1_1, .int .i64 p1_2, .int .u32 p1_3, .int .u64 p1_4, .int .u64 p1_5], .slice a2 n2 c2, .slice a3 n3 c3] w [.one .bool] K := by
  have e : vcFun Try.prog okf false Try.f21 ref15_Right.A #[.agg #[.int .i64 p0_0, .int .i64 p0_1, .int .i64 p0_2, .int .i64 p0_3, .int .i64 p0_4, .int .i64 p0_5], .agg #[.int .i64 p1_0, .int .i64 p1_1, .int .i64 p1_2, .int .u32 p1_3, .int .u64 p1_4, .int .u64 p1_5], .slice a2 n2 c2, .slice a3 n3 c3] w [.one .bool] K = ref15_Right.P p0_0 p0_1 p0_2 p0_3 p0_4 p0_5 p1_0 p1_1 p1_2 p1_3 p1_4 p1_5 a2 n2 c2 a3 n3 c3 w K := by kernel_rfl
  exact vcFun.calls okf_ok follows Try.func21 (e.symm ▸ h)

/-! ### nepenthe/nepentheref15.Make: function 22 -/
def ref15_Make.A : Ann := .two .no (.two .no (.two (.draw (.take 1 (.take 3 (.take 4 (.eff 0 (.eff 2 (.eff 5 (.eff 6 (.take 7 (.done)))))))))) .no))
def ref15_Make.P (p0_0 : Int) (p0_1 : Int) (p0_2 : Int) (p0_3 : Int) (p0_4 : Int) (p0_5 : Int) (p1_0 : Int) (p1_1 : Int) (p1_2 : Int) (p1_3 : Int) (p1_4 : Int) (p1_5 : Int) (a2 : Option Addr) (n2 c2 : Nat) (a3 : Option Addr) (n3 c3 : Nat) (w : World) (K : SlV × Unit → World → Prop) : Prop :=
  NewV #[.int .i64 p0_0, .int .i64 p0_1, .int .i64 p0_2, .int .i64 p0_3, .int .i64 p0_4, .int .i64 p0_5] 23 w fun b1 w2 =>
  NewV #[.int .i64 p1_0, .int .i64 p1_1, .int .i64 p1_2, .int .u32 p1_3, .int .u64 p1_4, .int .u64 p1_5] 27 w2 fun b3 w4 =>
  cond (((n2 : Nat) : Int) == 0)
  (LoadS w4 ⟨b1, 2, none⟩ (.int .i64) fun (x5 : Int) =>
  CallV Try.prog 26 #[.int .u8 255, .int .i64 x5] w4 [.one .sl] fun (r6 : SlV × Unit) w7 =>
  DrawV fun D8 =>
  (D8 b3 ∧ LoadA w7.drew ⟨b3, 0, none⟩ [.int .i64, .int .i64, .int .i64, .int .u32, .int .u64, .int .u64] fun (x9 : Int × Int × Int × Int × Int × Int × Unit) =>
  NewV #[] 5 w7.drew fun b10 w11 =>
  KeepOn D8 w7.drew w11 ∧
  AppS w11 r6.1.a r6.1.n 1 fun ns16 =>
  AppV w11 5 1 1 (some ⟨b10, 0, none⟩) 0 0 ns16 r6.1.n fun a12 n13 c14 w15 =>
  KeepOn D8 w7.drew w15 ∧
  CallV Try.prog 65 #[.agg #[.int .i64 x9.1, .int .i64 x9.2.1, .int .i64 x9.2.2.1, .int .u32 x9.2.2.2.1, .int .u64 x9.2.2.2.2.1, .int .u64 x9.2.2.2.2.2.1], .slice a3 n3 c3] w15 [.one .sl] fun (r17 : SlV × Unit) w18 =>
  KeepOn D8 w7.drew w18 ∧
  AppS w18 r17.1.a r17.1.n 1 fun ns23 =>
  AppV w18 5 1 1 a12 n13 c14 ns23 r17.1.n fun a19 n20 c21 w22 =>
  KeepOn D8 w7.drew w22 ∧
  K ((⟨a19, n20, c21⟩ : SlV), ()) w22))
  (DrawV fun D24 =>
  (D24 b3 ∧ LoadA w4.drew ⟨b3, 0, none⟩ [.int .i64, .int .i64, .int .i64, .int .u32, .int .u64, .int .u64] fun (x25 : Int × Int × Int × Int × Int × Int × Unit) =>
  NewV #[] 5 w4.drew fun b26 w27 =>
  KeepOn D24 w4.drew w27 ∧
  AppS w27 a2 n2 1 fun ns32 =>
  AppV w27 5 1 1 (some ⟨b26, 0, none⟩) 0 0 ns32 n2 fun a28 n29 c30 w31 =>
  KeepOn D24 w4.drew w31 ∧
  CallV Try.prog 65 #[.agg #[.int .i64 x25.1, .int .i64 x25.2.1, .int .i64 x25.2.2.1, .int .u32 x25.2.2.2.1, .int .u64 x25.2.2.2.2.1, .int .u64 x25.2.2.2.2.2.1], .slice a3 n3 c3] w31 [.one .sl] fun (r33 : SlV × Unit) w34 =>
  KeepOn D24 w4.drew w34 ∧
  AppS w34 r33.1.a r33.1.n 1 fun ns39 =>
  AppV w34 5 1 1 a28 n29 c30 ns39 r33.1.n fun a35 n36 c37 w38 =>
  KeepOn D24 w4.drew w38 ∧
  K ((⟨a35, n36, c37⟩ : SlV), ()) w38))
theorem ref15_Make.vc (p0_0 : Int) (p0_1 : Int) (p0_2 : Int) (p0_3 : Int) (p0_4 : Int) (p0_5 : Int) (p1_0 : Int) (p1_1 : Int) (p1_2 : Int) (p1_3 : Int) (p1_4 : Int) (p1_5 : Int) (a2 : Option Addr) (n2 c2 : Nat) (a3 : Option Addr) (n3 c3 : Nat) (w : World) (K : SlV × Unit → World → Prop) (h : ref15_Make.P p0_0 p0_1 p0_2 p0_3 p0_4 p0_5 p1_0 p1_1 p1_2 p1_3 p1_4 p1_5 a2 n2 c2 a3 n3 c3 w K) : CallV Try.prog 22 #[.agg #[.int .i64 p0_0, .int .i64 p0_1, .int .i64 p0_2, .int .i64 p0_3, .int .i64 p0_4, .int .i64 p0_5], .agg #[.int .i64 p1_0, .int .i64 p1_1, .int .i64 p1_2, .int .u32 p1_3, .int .u64 p1_4, .int .u64 p1_5], .slice a2 n2 c2, .slice a3 n3 c3] w [.one .sl] K := by
  have e : vcFun Try.prog okf false Try.f22 ref15_Make.A #[.agg #[.int .i64 p0_0, .int .i64 p0_1, .int .i64 p0_2, .int .i64 p0_3, .int .i64 p0_4, .int .i64 p0_5], .agg #[.int .i64 p1_0, .int .i64 p1_1, .int .i64 p1_2, .int .u32 p1_3, .int .u64 p1_4, .int .u64 p1_5], .slice a2 n2 c2, .slice a3 n3 c3] w [.one .sl] K = ref15_Make.P p0_0 p0_1 p0_2 p0_3 p0_4 p0_5 p1_0 p1_1 p1_2 p1_3 p1_4 p1_5 a2 n2 c2 a3 n3 c3 w K := by kernel_rfl
  exact vcFun.calls okf_ok follows Try.func22 (e.symm ▸ h)

/-! ### nepenthe/nepentheref15.Commit: function 20 -/
def ref15_Commit.A : Ann := .no
def ref15_Commit.P (p0_0 : Int) (p0_1 : Int) (p0_2 : Int) (p0_3 : Int) (p0_4 : Int) (p0_5 : Int) (w : World) (K : SlV × Unit → World → Prop) : Prop :=
  NewV #[.int .i64 p0_0, .int .i64 p0_1, .int .i64 p0_2, .int .i64 p0_3, .int .i64 p0_4, .int .i64 p0_5] 23 w fun b1 w2 =>
  LoadS w2 ⟨b1, 2, none⟩ (.int .i64) fun (x3 : Int) =>
  Rng .i64 (x3 + 80) ∧
  CallV Try.prog 26 #[.int .u8 255, .int .i64 (x3 + 80)] w2 [.one .sl] fun (r4 : SlV × Unit) w5 =>
  CallV Try.prog 26 #[.int .u8 0, .int .i64 8] w5 [.one .sl] fun (r6 : SlV × Unit) w7 =>
  AppS w7 r6.1.a r6.1.n 1 fun ns12 =>
  AppV w7 5 1 1 r4.1.a r4.1.n r4.1.c ns12 r6.1.n fun a8 n9 c10 w11 =>
  K ((⟨a8, n9, c10⟩ : SlV), ()) w11
theorem ref15_Commit.vc (p0_0 : Int) (p0_1 : Int) (p0_2 : Int) (p0_3 : Int) (p0_4 : Int) (p0_5 : Int) (w : World) (K : SlV × Unit → World → Prop) (h : ref15_Commit.P p0_0 p0_1 p0_2 p0_3 p0_4 p0_5 w K) : CallV Try.prog 20 #[.agg #[.int .i64 p0_0, .int .i64 p0_1, .int .i64 p0_2, .int .i64 p0_3, .int .i64 p0_4, .int .i64 p0_5]] w [.one .sl] K := by
  have e : vcFun Try.prog okf false Try.f20 ref15_Commit.A #[.agg #[.int .i64 p0_0, .int .i64 p0_1, .int .i64 p0_2, .int .i64 p0_3, .int .i64 p0_4, .int .i64 p0_5]] w [.one .sl] K = ref15_Commit.P p0_0 p0_1 p0_2 p0_3 p0_4 p0_5 w K := by kernel_rfl
  exact vcFun.calls okf_ok follows Try.func20 (e.symm ▸ h)

/-! ### nepenthe/nepentheref15.Read: function 28 -/
def ref15_Read.A : Ann := .two .no (.two .no (.two .no (.two .no (.two (.draw (.take 0 (.take 1 (.take 2 (.take 3 (.take 4 (.take 5 (.take 6 (.take 7 (.eff 8 (.take 9 (.eff 10 (.done))))))))))))) .no))))
def ref15_Read.P (p0_0 : Int) (p0_1 : Int) (p0_2 : Int) (p0_3 : Int) (p0_4 : Int) (p0_5 : Int) (a1 : Option Addr) (n1 c1 : Nat) (w : World) (K : (Int × Int × Int × Int × Int × Int × SlV × SlV × Bool × Bool × Unit) × Unit → World → Prop) : Prop :=
  NewV #[.int .i64 p0_0, .int .i64 p0_1, .int .i64 p0_2, .int .i64 p0_3, .int .i64 p0_4, .int .i64 p0_5] 23 w fun b1 w2 =>
  NewV #[.int .i64 0, .int .i64 0, .int .i64 0, .int .u32 0, .int .u64 0, .int .u64 0, .slice none 0 0, .slice none 0 0, .bool false, .bool false] 51 w2 fun b3 w4 =>
  LoadS w4 ⟨b1, 2, none⟩ (.int .i64) fun (x5 : Int) =>
  ((0 : Int) ≤ x5 ∧ x5 ≤ ((n1 : Nat) : Int)) ∧
  SubK a1 x5.toNat c1 1 fun a6 =>
  CallV Try.prog 69 #[.slice a6 (n1 - x5.toNat) (c1 - x5.toNat)] w4 [.agg [.int .i64, .int .i64, .int .i64, .int .u32, .int .u64, .int .u64], .one .bool] fun (r7 : (Int × Int × Int × Int × Int × Int × Unit) × Bool × Unit) w8 =>
  NewV #[.int .i64 0, .int .i64 0, .int .i64 0, .int .u32 0, .int .u64 0, .int .u64 0] 27 w8 fun b9 w10 =>
  StoreV w10 ⟨b9, 0, none⟩ [.int .i64 r7.1.1, .int .i64 r7.1.2.1, .int .i64 r7.1.2.2.1, .int .u32 r7.1.2.2.2.1, .int .u64 r7.1.2.2.2.2.1, .int .u64 r7.1.2.2.2.2.2.1] fun w11 =>
  cond (!r7.2.1)
  (StoreV w11 ⟨b3, 0, none⟩ [.int .i64 0, .int .i64 0, .int .i64 0, .int .u32 0, .int .u64 0, .int .u64 0, .slice none 0 0, .slice none 0 0, .bool false, .bool false] fun w12 =>
  LoadA w12 ⟨b3, 0, none⟩ [.int .i64, .int .i64, .int .i64, .int .u32, .int .u64, .int .u64, .sl, .sl, .bool, .bool] fun (x13 : Int × Int × Int × Int × Int × Int × SlV × SlV × Bool × Bool × Unit) =>
  K ((x13.1, x13.2.1, x13.2.2.1, x13.2.2.2.1, x13.2.2.2.2.1, x13.2.2.2.2.2.1, x13.2.2.2.2.2.2.1, x13.2.2.2.2.2.2.2.1, x13.2.2.2.2.2.2.2.2.1, x13.2.2.2.2.2.2.2.2.2.1, ()), ()) w12)
  (DrawV fun D14 =>
  (D14 b9 ∧ LoadA w11.drew ⟨b9, 0, none⟩ [.int .i64, .int .i64, .int .i64, .int .u32, .int .u64, .int .u64] fun (x15 : Int × Int × Int × Int × Int × Int × Unit) =>
  (D14 b1 ∧ LoadS w11.drew ⟨b1, 2, none⟩ (.int .i64) fun (x16 : Int) =>
  ((0 : Int) ≤ x16 ∧ x16 ≤ ((c1 : Nat) : Int)) ∧
  SubK a1 0 c1 1 fun a17 =>
  ((0 : Int) ≤ (48 : Int) ∧ (48 : Int) ≤ (80 : Int) ∧ (80 : Int) ≤ ((c1 - x5.toNat : Nat) : Int)) ∧
  SubK a6 48 (c1 - x5.toNat) 1 fun a18 =>
  CallV Try.prog 70 #[.slice a6 (n1 - x5.toNat) (c1 - x5.toNat)] w11.drew [.one .bool] fun (r19 : Bool × Unit) w20 =>
  KeepOn D14 w11.drew w20 ∧
  StoreV w20 ⟨b3, 0, none⟩ [.int .i64 x15.1, .int .i64 x15.2.1, .int .i64 x15.2.2.1, .int .u32 x15.2.2.2.1, .int .u64 x15.2.2.2.2.1, .int .u64 x15.2.2.2.2.2.1, .slice a17 (x16.toNat - 0) (c1 - 0), .slice a18 (80 - 48) ((c1 - x5.toNat) - 48), .bool r19.1, .bool true] fun w21 =>
  KeepOn D14 w11.drew w21 ∧
  LoadA w21 ⟨b3, 0, none⟩ [.int .i64, .int .i64, .int .i64, .int .u32, .int .u64, .int .u64, .sl, .sl, .bool, .bool] fun (x22 : Int × Int × Int × Int × Int × Int × SlV × SlV × Bool × Bool × Unit) =>
  K ((x22.1, x22.2.1, x22.2.2.1, x22.2.2.2.1, x22.2.2.2.2.1, x22.2.2.2.2.2.1, x22.2.2.2.2.2.2.1, x22.2.2.2.2.2.2.2.1, x22.2.2.2.2.2.2.2.2.1, x22.2.2.2.2.2.2.2.2.2.1, ()), ()) w21)))
theorem ref15_Read.vc (p0_0 : Int) (p0_1 : Int) (p0_2 : Int) (p0_3 : Int) (p0_4 : Int) (p0_5 : Int) (a1 : Option Addr) (n1 c1 : Nat) (w : World) (K : (Int × Int × Int × Int × Int × Int × SlV × SlV × Bool × Bool × Unit) × Unit → World → Prop) (h : ref15_Read.P p0_0 p0_1 p0_2 p0_3 p0_4 p0_5 a1 n1 c1 w K) : CallV Try.prog 28 #[.agg #[.int .i64 p0_0, .int .i64 p0_1, .int .i64 p0_2, .int .i64 p0_3, .int .i64 p0_4, .int .i64 p0_5], .slice a1 n1 c1] w [.agg [.int .i64, .int .i64, .int .i64, .int .u32, .int .u64, .int .u64, .sl, .sl, .bool, .bool]] K := by
  have e : vcFun Try.prog okf false Try.f28 ref15_Read.A #[.agg #[.int .i64 p0_0, .int .i64 p0_1, .int .i64 p0_2, .int .i64 p0_3, .int .i64 p0_4, .int .i64 p0_5], .slice a1 n1 c1] w [.agg [.int .i64, .int .i64, .int .i64, .int .u32, .int .u64, .int .u64, .sl, .sl, .bool, .bool]] K = ref15_Read.P p0_0 p0_1 p0_2 p0_3 p0_4 p0_5 a1 n1 c1 w K := by kernel_rfl
  exact vcFun.calls okf_ok follows Try.func28 (e.symm ▸ h)

/-! ### nepenthe/nepentheref15.Done: function 29 -/
def ref15_Done.A : Ann := .no
def ref15_Done.P (p0_0 : Int) (p0_1 : Int) (p0_2 : Int) (p0_3 : Int) (p0_4 : Int) (p0_5 : Int) (a1 : Option Addr) (n1 c1 : Nat) (p2 : Int) (w : World) (K : (Int × Int × Int × Int × Int × Int × SlV × SlV × Bool × Bool × Unit) × Unit → World → Prop) : Prop :=
  NewV #[.int .i64 p0_0, .int .i64 p0_1, .int .i64 p0_2, .int .i64 p0_3, .int .i64 p0_4, .int .i64 p0_5] 23 w fun b1 w2 =>
  NewV #[.int .i64 0, .int .i64 0, .int .i64 0, .int .u32 0, .int .u64 0, .int .u64 0, .slice none 0 0, .slice none 0 0, .bool false, .bool false] 51 w2 fun b3 w4 =>
  LoadA w4 ⟨b1, 0, none⟩ [.int .i64, .int .i64, .int .i64, .int .i64, .int .i64, .int .i64] fun (x5 : Int × Int × Int × Int × Int × Int × Unit) =>
  CallV Try.prog 28 #[.agg #[.int .i64 x5.1, .int .i64 x5.2.1, .int .i64 x5.2.2.1, .int .i64 x5.2.2.2.1, .int .i64 x5.2.2.2.2.1, .int .i64 x5.2.2.2.2.2.1], .slice a1 n1 c1] w4 [.agg [.int .i64, .int .i64, .int .i64, .int .u32, .int .u64, .int .u64, .sl, .sl, .bool, .bool]] fun (r6 : (Int × Int × Int × Int × Int × Int × SlV × SlV × Bool × Bool × Unit) × Unit) w7 =>
  NewV #[.int .i64 0, .int .i64 0, .int .i64 0, .int .u32 0, .int .u64 0, .int .u64 0, .slice none 0 0, .slice none 0 0, .bool false, .bool false] 51 w7 fun b8 w9 =>
  StoreV w9 ⟨b8, 0, none⟩ [.int .i64 r6.1.1, .int .i64 r6.1.2.1, .int .i64 r6.1.2.2.1, .int .u32 r6.1.2.2.2.1, .int .u64 r6.1.2.2.2.2.1, .int .u64 r6.1.2.2.2.2.2.1, .slice r6.1.2.2.2.2.2.2.1.a r6.1.2.2.2.2.2.2.1.n r6.1.2.2.2.2.2.2.1.c, .slice r6.1.2.2.2.2.2.2.2.1.a r6.1.2.2.2.2.2.2.2.1.n r6.1.2.2.2.2.2.2.2.1.c, .bool r6.1.2.2.2.2.2.2.2.2.1, .bool r6.1.2.2.2.2.2.2.2.2.2.1] fun w10 =>
  LoadS w10 ⟨b8, 9, none⟩ .bool fun (x11 : Bool) =>
  cond (!x11)
  (StoreV w10 ⟨b3, 0, none⟩ [.int .i64 0, .int .i64 0, .int .i64 0, .int .u32 0, .int .u64 0, .int .u64 0, .slice none 0 0, .slice none 0 0, .bool false, .bool false] fun w12 =>
  LoadA w12 ⟨b3, 0, none⟩ [.int .i64, .int .i64, .int .i64, .int .u32, .int .u64, .int .u64, .sl, .sl, .bool, .bool] fun (x13 : Int × Int × Int × Int × Int × Int × SlV × SlV × Bool × Bool × Unit) =>
  K ((x13.1, x13.2.1, x13.2.2.1, x13.2.2.2.1, x13.2.2.2.2.1, x13.2.2.2.2.2.1, x13.2.2.2.2.2.2.1, x13.2.2.2.2.2.2.2.1, x13.2.2.2.2.2.2.2.2.1, x13.2.2.2.2.2.2.2.2.2.1, ()), ()) w12)
  (LoadS w10 ⟨b8, 8, none⟩ .bool fun (x14 : Bool) =>
  cond (!x14)
  (StoreV w10 ⟨b3, 0, none⟩ [.int .i64 0, .int .i64 0, .int .i64 0, .int .u32 0, .int .u64 0, .int .u64 0, .slice none 0 0, .slice none 0 0, .bool false, .bool false] fun w15 =>
  LoadA w15 ⟨b3, 0, none⟩ [.int .i64, .int .i64, .int .i64, .int .u32, .int .u64, .int .u64, .sl, .sl, .bool, .bool] fun (x16 : Int × Int × Int × Int × Int × Int × SlV × SlV × Bool × Bool × Unit) =>
  K ((x16.1, x16.2.1, x16.2.2.1, x16.2.2.2.1, x16.2.2.2.2.1, x16.2.2.2.2.2.1, x16.2.2.2.2.2.2.1, x16.2.2.2.2.2.2.2.1, x16.2.2.2.2.2.2.2.2.1, x16.2.2.2.2.2.2.2.2.2.1, ()), ()) w15)
  (LoadS w10 ⟨b8, 0, none⟩ (.int .i64) fun (x17 : Int) =>
  cond (x17 != p2)
  (StoreV w10 ⟨b3, 0, none⟩ [.int .i64 0, .int .i64 0, .int .i64 0, .int .u32 0, .int .u64 0, .int .u64 0, .slice none 0 0, .slice none 0 0, .bool false, .bool false] fun w18 =>
  LoadA w18 ⟨b3, 0, none⟩ [.int .i64, .int .i64, .int .i64, .int .u32, .int .u64, .int .u64, .sl, .sl, .bool, .bool] fun (x19 : Int × Int × Int × Int × Int × Int × SlV × SlV × Bool × Bool × Unit) =>
  K ((x19.1, x19.2.1, x19.2.2.1, x19.2.2.2.1, x19.2.2.2.2.1, x19.2.2.2.2.2.1, x19.2.2.2.2.2.2.1, x19.2.2.2.2.2.2.2.1, x19.2.2.2.2.2.2.2.2.1, x19.2.2.2.2.2.2.2.2.2.1, ()), ()) w18)
  (LoadA w10 ⟨b8, 0, none⟩ [.int .i64, .int .i64, .int .i64, .int .u32, .int .u64, .int .u64, .sl, .sl, .bool, .bool] fun (x20 : Int × Int × Int × Int × Int × Int × SlV × SlV × Bool × Bool × Unit) =>
  StoreV w10 ⟨b3, 0, none⟩ [.int .i64 x20.1, .int .i64 x20.2.1, .int .i64 x20.2.2.1, .int .u32 x20.2.2.2.1, .int .u64 x20.2.2.2.2.1, .int .u64 x20.2.2.2.2.2.1, .slice x20.2.2.2.2.2.2.1.a x20.2.2.2.2.2.2.1.n x20.2.2.2.2.2.2.1.c, .slice x20.2.2.2.2.2.2.2.1.a x20.2.2.2.2.2.2.2.1.n x20.2.2.2.2.2.2.2.1.c, .bool x20.2.2.2.2.2.2.2.2.1, .bool x20.2.2.2.2.2.2.2.2.2.1] fun w21 =>
  LoadA w21 ⟨b3, 0, none⟩ [.int .i64, .int .i64, .int .i64, .int .u32, .int .u64, .int .u64, .sl, .sl, .bool, .bool] fun (x22 : Int × Int × Int × Int × Int × Int × SlV × SlV × Bool × Bool × Unit) =>
  K ((x22.1, x22.2.1, x22.2.2.1, x22.2.2.2.1, x22.2.2.2.2.1, x22.2.2.2.2.2.1, x22.2.2.2.2.2.2.1, x22.2.2.2.2.2.2.2.1, x22.2.2.2.2.2.2.2.2.1, x22.2.2.2.2.2.2.2.2.2.1, ()), ()) w21)))
theorem ref15_Done.vc (p0_0 : Int) (p0_1 : Int) (p0_2 : Int) (p0_3 : Int) (p0_4 : Int) (p0_5 : Int) (a1 : Option Addr) (n1 c1 : Nat) (p2 : Int) (w : World) (K : (Int × Int × Int × Int × Int × Int × SlV × SlV × Bool × Bool × Unit) × Unit → World → Prop) (h : ref15_Done.P p0_0 p0_1 p0_2 p0_3 p0_4 p0_5 a1 n1 c1 p2 w K) : CallV Try.prog 29 #[.agg #[.int .i64 p0_0, .int .i64 p0_1, .int .i64 p0_2, .int .i64 p0_3, .int .i64 p0_4, .int .i64 p0_5], .slice a1 n1 c1, .int .i64 p2] w [.agg [.int .i64, .int .i64, .int .i64, .int .u32, .int .u64, .int .u64, .sl, .sl, .bool, .bool]] K := by
  have e : vcFun Try.prog okf false Try.f29 ref15_Done.A #[.agg #[.int .i64 p0_0, .int .i64 p0_1, .int .i64 p0_2, .int .i64 p0_3, .int .i64 p0_4, .int .i64 p0_5], .slice a1 n1 c1, .int .i64 p2] w [.agg [.int .i64, .int .i64, .int .i64, .int .u32, .int .u64, .int .u64, .sl, .sl, .bool, .bool]] K = ref15_Done.P p0_0 p0_1 p0_2 p0_3 p0_4 p0_5 a1 n1 c1 p2 w K := by kernel_rfl
  exact vcFun.calls okf_ok follows Try.func29 (e.symm ▸ h)

/-! ### nepenthe/nepenthelaw15.same: function 27 -/
def law15_same.A : Ann := .no
def law15_same.P (p0_0 : Int) (p0_1 : Int) (p0_2 : Int) (p0_3 : Int) (p0_4 : Int) (p0_5 : Int) (a0_6 : Option Addr) (n0_6 c0_6 : Nat) (a0_7 : Option Addr) (n0_7 c0_7 : Nat) (p0_8 : Bool) (p1_0 : Int) (p1_1 : Int) (p1_2 : Int) (p1_3 : Int) (p1_4 : Int) (p1_5 : Int) (a1_6 : Option Addr) (n1_6 c1_6 : Nat) (a1_7 : Option Addr) (n1_7 c1_7 : Nat) (p1_8 : Bool) (p1_9 : Bool) (w : World) (K : Bool × Unit → World → Prop) : Prop :=
  NewV #[.int .i64 p0_0, .int .i64 p0_1, .int .i64 p0_2, .int .u32 p0_3, .int .u64 p0_4, .int .u64 p0_5, .slice a0_6 n0_6 c0_6, .slice a0_7 n0_7 c0_7, .bool p0_8] 42 w fun b1 w2 =>
  NewV #[.int .i64 p1_0, .int .i64 p1_1, .int .i64 p1_2, .int .u32 p1_3, .int .u64 p1_4, .int .u64 p1_5, .slice a1_6 n1_6 c1_6, .slice a1_7 n1_7 c1_7, .bool p1_8, .bool p1_9] 51 w2 fun b3 w4 =>
  LoadA w4 ⟨b1, 0, none⟩ [.int .i64, .int .i64, .int .i64, .int .u32, .int .u64, .int .u64] fun (x5 : Int × Int × Int × Int × Int × Int × Unit) =>
  LoadA w4 ⟨b3, 0, none⟩ [.int .i64, .int .i64, .int .i64, .int .u32, .int .u64, .int .u64] fun (x6 : Int × Int × Int × Int × Int × Int × Unit) =>
  AggEq Try.prog 27 #[.int .i64 x5.1, .int .i64 x5.2.1, .int .i64 x5.2.2.1, .int .u32 x5.2.2.2.1, .int .u64 x5.2.2.2.2.1, .int .u64 x5.2.2.2.2.2.1] #[.int .i64 x6.1, .int .i64 x6.2.1, .int .i64 x6.2.2.1, .int .u32 x6.2.2.2.1, .int .u64 x6.2.2.2.2.1, .int .u64 x6.2.2.2.2.2.1] fun e7 =>
  cond e7
  (LoadS w4 ⟨b1, 8, none⟩ .bool fun (x8 : Bool) =>
  LoadS w4 ⟨b3, 8, none⟩ .bool fun (x9 : Bool) =>
  cond (x8 == x9)
  (LoadS w4 ⟨b1, 6, none⟩ .sl fun (x10 : SlV) =>
  LoadS w4 ⟨b3, 6, none⟩ .sl fun (x11 : SlV) =>
  CallV Try.prog 19 #[.slice x10.a x10.n x10.c, .slice x11.a x11.n x11.c] w4 [.one .bool] fun (r12 : Bool × Unit) w13 =>
  cond r12.1
  (LoadS w13 ⟨b1, 7, none⟩ .sl fun (x14 : SlV) =>
  LoadS w13 ⟨b3, 7, none⟩ .sl fun (x15 : SlV) =>
  CallV Try.prog 19 #[.slice x14.a x14.n x14.c, .slice x15.a x15.n x15.c] w13 [.one .bool] fun (r16 : Bool × Unit) w17 =>
  K (r16.1, ()) w17)
  (K (false, ()) w13))
  (K (false, ()) w4))
  (K (false, ()) w4)
theorem law15_same.vc (p0_0 : Int) (p0_1 : Int) (p0_2 : Int) (p0_3 : Int) (p0_4 : Int) (p0_5 : Int) (a0_6 : Option Addr) (n0_6 c0_6 : Nat) (a0_7 : Option Addr) (n0_7 c0_7 : Nat) (p0_8 : Bool) (p1_0 : Int) (p1_1 : Int) (p1_2 : Int) (p1_3 : Int) (p1_4 : Int) (p1_5 : Int) (a1_6 : Option Addr) (n1_6 c1_6 : Nat) (a1_7 : Option Addr) (n1_7 c1_7 : Nat) (p1_8 : Bool) (p1_9 : Bool) (w : World) (K : Bool × Unit → World → Prop) (h : law15_same.P p0_0 p0_1 p0_2 p0_3 p0_4 p0_5 a0_6 n0_6 c0_6 a0_7 n0_7 c0_7 p0_8 p1_0 p1_1 p1_2 p1_3 p1_4 p1_5 a1_6 n1_6 c1_6 a1_7 n1_7 c1_7 p1_8 p1_9 w K) : CallV Try.prog 27 #[.agg #[.int .i64 p0_0, .int .i64 p0_1, .int .i64 p0_2, .int .u32 p0_3, .int .u64 p0_4, .int .u64 p0_5, .slice a0_6 n0_6 c0_6, .slice a0_7 n0_7 c0_7, .bool p0_8], .agg #[.int .i64 p1_0, .int .i64 p1_1, .int .i64 p1_2, .int .u32 p1_3, .int .u64 p1_4, .int .u64 p1_5, .slice a1_6 n1_6 c1_6, .slice a1_7 n1_7 c1_7, .bool p1_8, .bool p1_9]] w [.one .bool] K := by
  have e : vcFun Try.prog okf false Try.f27 law15_same.A #[.agg #[.int .i64 p0_0, .int .i64 p0_1, .int .i64 p0_2, .int .u32 p0_3, .int .u64 p0_4, .int .u64 p0_5, .slice a0_6 n0_6 c0_6, .slice a0_7 n0_7 c0_7, .bool p0_8], .agg #[.int .i64 p1_0, .int .i64 p1_1, .int .i64 p1_2, .int .u32 p1_3, .int .u64 p1_4, .int .u64 p1_5, .slice a1_6 n1_6 c1_6, .slice a1_7 n1_7 c1_7, .bool p1_8, .bool p1_9]] w [.one .bool] K = law15_same.P p0_0 p0_1 p0_2 p0_3 p0_4 p0_5 a0_6 n0_6 c0_6 a0_7 n0_7 c0_7 p0_8 p1_0 p1_1 p1_2 p1_3 p1_4 p1_5 a1_6 n1_6 c1_6 a1_7 n1_7 c1_7 p1_8 p1_9 w K := by kernel_rfl
  exact vcFun.calls okf_ok follows Try.func27 (e.symm ▸ h)

/-! ### nepenthe/nepenthelaw15.awake: function 18 -/
def law15_awake.A : Ann := .no
def law15_awake.P  (w : World) (K : Bool × Unit → World → Prop) : Prop :=
  NewV #[.int .i64 0, .int .i64 0, .int .i64 0, .int .i64 0, .int .i64 0, .int .i64 0] 23 w fun b1 w2 =>
  StoreV w2 ⟨b1, 0, none⟩ [.int .i64 7, .int .i64 10, .int .i64 64, .int .i64 0, .int .i64 1, .int .i64 1] fun w3 =>
  LoadA w3 ⟨b1, 0, none⟩ [.int .i64, .int .i64, .int .i64, .int .i64, .int .i64, .int .i64] fun (x4 : Int × Int × Int × Int × Int × Int × Unit) =>
  CallV Try.prog 15 #[.agg #[.int .i64 x4.1, .int .i64 x4.2.1, .int .i64 x4.2.2.1, .int .i64 x4.2.2.2.1, .int .i64 x4.2.2.2.2.1, .int .i64 x4.2.2.2.2.2.1], .agg #[.int .i64 1, .int .i64 0, .int .i64 0, .int .u32 0, .int .u64 0, .int .u64 0], .slice none 0 0, .slice none 0 0] w3 [.one .sl, .one (.int .i64)] fun (r5 : SlV × Int × Unit) w6 =>
  cond (r5.2.1 == 0)
  (cond (((r5.1.n : Nat) : Int) == 152)
  (CallV Try.prog 25 #[.slice r5.1.a r5.1.n r5.1.c] w6 [.one .bool] fun (r7 : Bool × Unit) w8 =>
  cond (!r7.1)
  (CallV Try.prog 25 #[.slice none 0 0] w8 [.one .bool] fun (r9 : Bool × Unit) w10 =>
  K (r9.1, ()) w10)
  (K (false, ()) w8))
  (K (false, ()) w6))
  (K (false, ()) w6)
theorem law15_awake.vc  (w : World) (K : Bool × Unit → World → Prop) (h : law15_awake.P  w K) : CallV Try.prog 18 #[] w [.one .bool] K := by
  have e : vcFun Try.prog okf false Try.f18 law15_awake.A #[] w [.one .bool] K = law15_awake.P  w K := by kernel_rfl
  exact vcFun.calls okf_ok follows Try.func18 (e.symm ▸ h)

end Go.Proofs.Ytfpkaebmiojicaa.Vc

/-! The contracts of layer 15 (page): pages that are made. -/
namespace Go.Proofs.Ytfpkaebmiojicaa.Vc
open Go Go.Eng Go.RowKit
set_option linter.unusedVariables false
set_option linter.unusedSimpArgs false

def payL (g : Geo) (pl : List Int) : List Int := if pl.length = 0 then List.replicate g.s.toNat 255 else pl
def mkL (g : Geo) (h : Hd) (pl tg : List Int) : List Int := payL g pl ++ endL h tg
def comL (g : Geo) : List Int := List.replicate (g.s + 80).toNat 255 ++ List.replicate 8 0
def PRight (g : Geo) (h : Hd) (n m : Nat) : Prop := Right g ∧ ERight h m ∧ (n = 0 ∨ (n : Int) = g.s)
instance (g : Geo) (h : Hd) (n m : Nat) : Decidable (PRight g h n m) := by unfold PRight; infer_instance
theorem Right.sec {g : Geo} (h : Right g) : 32 ≤ g.s ∧ g.s ≤ 4096 := by unfold Right Kept at h; omega

theorem fill_sec {g : Geo} (hs : 32 ≤ g.s ∧ g.s ≤ 4096) : (max 0 (min (65536 : Int) g.s)).toNat = g.s.toNat := by generalize hL : (65536 : Int) = L; omega
theorem _root_.Go.Eng.Sep.res {E : Nat → Prop} {w0 w w' : World} {Rs : List Asr} {s : SlV} {xs : List Int} (S : Sep E w0 w Rs) (h : Res w w' s xs) : Sep E w0 w' (OwnA 5 1 s.a s.n s.c (xs.map (Value.int .u8)) :: Rs) := S.pushO h.ext h.own
/-- The first part as a result. -/
theorem _root_.Go.Eng.Sep.out {w0 w : World} {Rs : List Asr} {a : Option Addr} {n c : Nat} {xs : List Int} (S : Sep NoB w0 w (OwnA 5 1 a n c (xs.map (Value.int .u8)) :: Rs)) : Res w0 w ⟨a, n, c⟩ xs := by
  obtain ⟨F, ⟨h, hF⟩, hb⟩ := S.get (i := 0) rfl
  refine ⟨S.ext, ⟨h.len, h.cap, h.lim, h.one, h.at_.imp id fun ⟨b, cs, h1, h2, h3, h4⟩ => ⟨b, cs, h1, ?_, h3, h4⟩⟩⟩
  exact ((hb _ (hF _ h1)).1.elim (fun x => x.elim) id)

theorem Make_c {w : World} {g : Geo} {h : Hd} {a a2 : Option Addr} {n c m c2 : Nat} {xs ts : List Int} (hg : h.rng) (hx : Ints w .u8 a n c xs) (ht : Ints w .u8 a2 m c2 ts) :
    CallV Try.prog 15 #[g.val, h.val, .slice a n c, .slice a2 m c2] w [.one .sl, .one (.int .i64)] fun r w' => Ext w w' ∧ (PRight g h n m → Res w w' r.1 (mkL g h xs ts) ∧ r.2.1 = (0 : Int)) ∧ (¬ PRight g h n m → r.1 = (⟨none, 0, 0⟩ : SlV) ∧ r.2.1 = (2 : Int)) := by
  apply page_Make.vc
  unfold page_Make.P
  have S := Sep.start NoB w
  have no : ∀ {w' : World}, ¬ PRight g h n m → Ext w w' → (Ext w w' ∧ (PRight g h n m → Res w w' (⟨none, 0, 0⟩ : SlV) (mkL g h xs ts) ∧ (2 : Int) = (0 : Int)) ∧ (¬ PRight g h n m → (⟨none, 0, 0⟩ : SlV) = (⟨none, 0, 0⟩ : SlV) ∧ (2 : Int) = (2 : Int))) := fun hr he => ⟨he, fun h => absurd h hr, fun _ => ⟨rfl, rfl⟩⟩
  have lx := hx.len
  have lt := ht.len
  (repeat ((first | refine S.newB fun _ _ S f _ => ?_ | refine S.la0 rfl ?_ | refine S.la1 rfl ?_ | refine S.la2 rfl ?_ | refine S.la3 rfl ?_ | refine S.la4 rfl ?_ | refine S.la5 rfl ?_ | refine S.ld0 rfl rfl ?_ | refine S.ld1 rfl rfl ?_ | refine S.ld2 rfl rfl ?_ | refine S.ld3 rfl rfl ?_ | refine S.ld4 rfl rfl ?_ | refine S.ld5 rfl rfl ?_ | refine S.st0 (by rfl) fun _ S f => ?_ | refine S.st1 (by rfl) fun _ S f => ?_ | refine S.st2 (by rfl) fun _ S f => ?_ | refine S.st3 (by rfl) fun _ S f => ?_ | refine S.st4 (by rfl) fun _ S f => ?_ | refine S.st5 (by rfl) fun _ S f => ?_ | refine S.su0 (by rfl) fun _ S f => ?_ | refine S.su1 (by rfl) fun _ S f => ?_ | refine S.su2 (by rfl) fun _ S f => ?_ | refine S.su3 (by rfl) fun _ S f => ?_ | refine S.su4 (by rfl) fun _ S f => ?_ | refine S.su5 (by rfl) fun _ S f => ?_ | refine ⟨by decide, ?_⟩); try dsimp only [List.set_cons_zero, List.set_cons_succ, cond_true, cond_false, Bool.not_true, Bool.not_false]))
  refine (Check_c (g := g)).mono ?_
  rintro ⟨(r : Int), ⟨⟩⟩ w2 ⟨h2, e2⟩
  dsimp only at h2 ⊢
  have S := S.stepE e2
  subst h2
  by_cases hR : Right g
  · refine cond_f (by unfold chkE; rw [if_pos hR]; rfl) ?_
    have hs := hR.sec
    refine cond_eq (fun h0 => ?_) (fun h0 => ?_)
    · (repeat ((first | refine S.newB fun _ _ S f _ => ?_ | refine S.la0 rfl ?_ | refine S.la1 rfl ?_ | refine S.la2 rfl ?_ | refine S.la3 rfl ?_ | refine S.la4 rfl ?_ | refine S.la5 rfl ?_ | refine S.ld0 rfl rfl ?_ | refine S.ld1 rfl rfl ?_ | refine S.ld2 rfl rfl ?_ | refine S.ld3 rfl rfl ?_ | refine S.ld4 rfl rfl ?_ | refine S.ld5 rfl rfl ?_ | refine S.st0 (by rfl) fun _ S f => ?_ | refine S.st1 (by rfl) fun _ S f => ?_ | refine S.st2 (by rfl) fun _ S f => ?_ | refine S.st3 (by rfl) fun _ S f => ?_ | refine S.st4 (by rfl) fun _ S f => ?_ | refine S.st5 (by rfl) fun _ S f => ?_ | refine S.su0 (by rfl) fun _ S f => ?_ | refine S.su1 (by rfl) fun _ S f => ?_ | refine S.su2 (by rfl) fun _ S f => ?_ | refine S.su3 (by rfl) fun _ S f => ?_ | refine S.su4 (by rfl) fun _ S f => ?_ | refine S.su5 (by rfl) fun _ S f => ?_ | refine ⟨by decide, ?_⟩); try dsimp only [List.set_cons_zero, List.set_cons_succ, cond_true, cond_false, Bool.not_true, Bool.not_false]))
      refine Fill_c.mono ?_
      rintro ⟨⟨sa, sn, sc⟩, ⟨⟩⟩ w3 h3
      dsimp only at h3 ⊢
      have l3 := h3.ints.len
      rw [List.length_replicate, fill_sec hs] at l3
      have S := S.res h3
      rw [fill_sec hs] at S
      dsimp only at l3 S
      subst l3
      (repeat ((first | refine S.newB fun _ _ S f _ => ?_ | refine S.la0 rfl ?_ | refine S.la1 rfl ?_ | refine S.la2 rfl ?_ | refine S.la3 rfl ?_ | refine S.la4 rfl ?_ | refine S.la5 rfl ?_ | refine S.ld0 rfl rfl ?_ | refine S.ld1 rfl rfl ?_ | refine S.ld2 rfl rfl ?_ | refine S.ld3 rfl rfl ?_ | refine S.ld4 rfl rfl ?_ | refine S.ld5 rfl rfl ?_ | refine S.st0 (by rfl) fun _ S f => ?_ | refine S.st1 (by rfl) fun _ S f => ?_ | refine S.st2 (by rfl) fun _ S f => ?_ | refine S.st3 (by rfl) fun _ S f => ?_ | refine S.st4 (by rfl) fun _ S f => ?_ | refine S.st5 (by rfl) fun _ S f => ?_ | refine S.su0 (by rfl) fun _ S f => ?_ | refine S.su1 (by rfl) fun _ S f => ?_ | refine S.su2 (by rfl) fun _ S f => ?_ | refine S.su3 (by rfl) fun _ S f => ?_ | refine S.su4 (by rfl) fun _ S f => ?_ | refine S.su5 (by rfl) fun _ S f => ?_ | refine ⟨by decide, ?_⟩); try dsimp only [List.set_cons_zero, List.set_cons_succ, cond_true, cond_false, Bool.not_true, Bool.not_false]))
      refine cond_ne (fun h => absurd (by omega) h) fun _ => ?_
      (repeat ((first | refine S.newB fun _ _ S f _ => ?_ | refine S.la0 rfl ?_ | refine S.la1 rfl ?_ | refine S.la2 rfl ?_ | refine S.la3 rfl ?_ | refine S.la4 rfl ?_ | refine S.la5 rfl ?_ | refine S.ld0 rfl rfl ?_ | refine S.ld1 rfl rfl ?_ | refine S.ld2 rfl rfl ?_ | refine S.ld3 rfl rfl ?_ | refine S.ld4 rfl rfl ?_ | refine S.ld5 rfl rfl ?_ | refine S.st0 (by rfl) fun _ S f => ?_ | refine S.st1 (by rfl) fun _ S f => ?_ | refine S.st2 (by rfl) fun _ S f => ?_ | refine S.st3 (by rfl) fun _ S f => ?_ | refine S.st4 (by rfl) fun _ S f => ?_ | refine S.st5 (by rfl) fun _ S f => ?_ | refine S.su0 (by rfl) fun _ S f => ?_ | refine S.su1 (by rfl) fun _ S f => ?_ | refine S.su2 (by rfl) fun _ S f => ?_ | refine S.su3 (by rfl) fun _ S f => ?_ | refine S.su4 (by rfl) fun _ S f => ?_ | refine S.su5 (by rfl) fun _ S f => ?_ | refine ⟨by decide, ?_⟩); try dsimp only [List.set_cons_zero, List.set_cons_succ, cond_true, cond_false, Bool.not_true, Bool.not_false]))
      refine (End_c hg (ht.ext S.ext)).mono ?_
      rintro ⟨⟨ea, en, ec⟩, (e4 : Int), ⟨⟩⟩ w4 ⟨x4, h4, h4'⟩
      dsimp only at h4 h4' ⊢
      by_cases hE : ERight h m
      · obtain ⟨k1, k2⟩ := h4 hE
        refine cond_f (by rw [k2]; rfl) ?_
        have l4 := k1.ints.len
        have l4' : (endL h ts).length = 88 := endL_length h (by have := hE.2; omega)
        have S := S.res ⟨x4, k1.own⟩
        dsimp only at S l4
        (repeat ((first | refine S.newB fun _ _ S f _ => ?_ | refine S.la0 rfl ?_ | refine S.la1 rfl ?_ | refine S.la2 rfl ?_ | refine S.la3 rfl ?_ | refine S.la4 rfl ?_ | refine S.la5 rfl ?_ | refine S.ld0 rfl rfl ?_ | refine S.ld1 rfl rfl ?_ | refine S.ld2 rfl rfl ?_ | refine S.ld3 rfl rfl ?_ | refine S.ld4 rfl rfl ?_ | refine S.ld5 rfl rfl ?_ | refine S.st0 (by rfl) fun _ S f => ?_ | refine S.st1 (by rfl) fun _ S f => ?_ | refine S.st2 (by rfl) fun _ S f => ?_ | refine S.st3 (by rfl) fun _ S f => ?_ | refine S.st4 (by rfl) fun _ S f => ?_ | refine S.st5 (by rfl) fun _ S f => ?_ | refine S.su0 (by rfl) fun _ S f => ?_ | refine S.su1 (by rfl) fun _ S f => ?_ | refine S.su2 (by rfl) fun _ S f => ?_ | refine S.su3 (by rfl) fun _ S f => ?_ | refine S.su4 (by rfl) fun _ S f => ?_ | refine S.su5 (by rfl) fun _ S f => ?_ | refine ⟨by decide, ?_⟩); try dsimp only [List.set_cons_zero, List.set_cons_succ, cond_true, cond_false, Bool.not_true, Bool.not_false]))
        have S := S.asOwn (sz := 1) (n := 0) rfl (by omega) oneAll.nil
        refine S.ab0 (xs := []) S.in2 (by omega) fun a5 c5 w5 S f5 => ?_
        refine S.ab0 S.in1 (by omega) fun a6 c6 w6 S f6 => ?_
        have R := S.out
        have hp : [] ++ List.replicate g.s.toNat 255 ++ endL h ts = mkL g h xs ts := by unfold mkL payL; rw [if_pos (by omega)]; rfl
        rw [hp] at R
        refine ⟨S.ext, fun _ => ⟨R, rfl⟩, fun hn => absurd ⟨hR, hE, .inl (by omega)⟩ hn⟩
      · obtain ⟨k1, k2⟩ := h4' hE
        rw [k2]
        exact cond_t rfl (no (fun hp => hE hp.2.1) (S.ext.trans x4))
    · (repeat ((first | refine S.newB fun _ _ S f _ => ?_ | refine S.la0 rfl ?_ | refine S.la1 rfl ?_ | refine S.la2 rfl ?_ | refine S.la3 rfl ?_ | refine S.la4 rfl ?_ | refine S.la5 rfl ?_ | refine S.ld0 rfl rfl ?_ | refine S.ld1 rfl rfl ?_ | refine S.ld2 rfl rfl ?_ | refine S.ld3 rfl rfl ?_ | refine S.ld4 rfl rfl ?_ | refine S.ld5 rfl rfl ?_ | refine S.st0 (by rfl) fun _ S f => ?_ | refine S.st1 (by rfl) fun _ S f => ?_ | refine S.st2 (by rfl) fun _ S f => ?_ | refine S.st3 (by rfl) fun _ S f => ?_ | refine S.st4 (by rfl) fun _ S f => ?_ | refine S.st5 (by rfl) fun _ S f => ?_ | refine S.su0 (by rfl) fun _ S f => ?_ | refine S.su1 (by rfl) fun _ S f => ?_ | refine S.su2 (by rfl) fun _ S f => ?_ | refine S.su3 (by rfl) fun _ S f => ?_ | refine S.su4 (by rfl) fun _ S f => ?_ | refine S.su5 (by rfl) fun _ S f => ?_ | refine ⟨by decide, ?_⟩); try dsimp only [List.set_cons_zero, List.set_cons_succ, cond_true, cond_false, Bool.not_true, Bool.not_false]))
      refine cond_ne (fun hne => no (fun hp => by have := hp.2.2; omega) S.ext) fun heq => ?_
      (repeat ((first | refine S.newB fun _ _ S f _ => ?_ | refine S.la0 rfl ?_ | refine S.la1 rfl ?_ | refine S.la2 rfl ?_ | refine S.la3 rfl ?_ | refine S.la4 rfl ?_ | refine S.la5 rfl ?_ | refine S.ld0 rfl rfl ?_ | refine S.ld1 rfl rfl ?_ | refine S.ld2 rfl rfl ?_ | refine S.ld3 rfl rfl ?_ | refine S.ld4 rfl rfl ?_ | refine S.ld5 rfl rfl ?_ | refine S.st0 (by rfl) fun _ S f => ?_ | refine S.st1 (by rfl) fun _ S f => ?_ | refine S.st2 (by rfl) fun _ S f => ?_ | refine S.st3 (by rfl) fun _ S f => ?_ | refine S.st4 (by rfl) fun _ S f => ?_ | refine S.st5 (by rfl) fun _ S f => ?_ | refine S.su0 (by rfl) fun _ S f => ?_ | refine S.su1 (by rfl) fun _ S f => ?_ | refine S.su2 (by rfl) fun _ S f => ?_ | refine S.su3 (by rfl) fun _ S f => ?_ | refine S.su4 (by rfl) fun _ S f => ?_ | refine S.su5 (by rfl) fun _ S f => ?_ | refine ⟨by decide, ?_⟩); try dsimp only [List.set_cons_zero, List.set_cons_succ, cond_true, cond_false, Bool.not_true, Bool.not_false]))
      refine (End_c hg (ht.ext S.ext)).mono ?_
      rintro ⟨⟨ea, en, ec⟩, (e4 : Int), ⟨⟩⟩ w4 ⟨x4, h4, h4'⟩
      dsimp only at h4 h4' ⊢
      by_cases hE : ERight h m
      · obtain ⟨k1, k2⟩ := h4 hE
        refine cond_f (by rw [k2]; rfl) ?_
        have l4 := k1.ints.len
        have l4' : (endL h ts).length = 88 := endL_length h (by have := hE.2; omega)
        have S := S.res ⟨x4, k1.own⟩
        dsimp only at S l4
        (repeat ((first | refine S.newB fun _ _ S f _ => ?_ | refine S.la0 rfl ?_ | refine S.la1 rfl ?_ | refine S.la2 rfl ?_ | refine S.la3 rfl ?_ | refine S.la4 rfl ?_ | refine S.la5 rfl ?_ | refine S.ld0 rfl rfl ?_ | refine S.ld1 rfl rfl ?_ | refine S.ld2 rfl rfl ?_ | refine S.ld3 rfl rfl ?_ | refine S.ld4 rfl rfl ?_ | refine S.ld5 rfl rfl ?_ | refine S.st0 (by rfl) fun _ S f => ?_ | refine S.st1 (by rfl) fun _ S f => ?_ | refine S.st2 (by rfl) fun _ S f => ?_ | refine S.st3 (by rfl) fun _ S f => ?_ | refine S.st4 (by rfl) fun _ S f => ?_ | refine S.st5 (by rfl) fun _ S f => ?_ | refine S.su0 (by rfl) fun _ S f => ?_ | refine S.su1 (by rfl) fun _ S f => ?_ | refine S.su2 (by rfl) fun _ S f => ?_ | refine S.su3 (by rfl) fun _ S f => ?_ | refine S.su4 (by rfl) fun _ S f => ?_ | refine S.su5 (by rfl) fun _ S f => ?_ | refine ⟨by decide, ?_⟩); try dsimp only [List.set_cons_zero, List.set_cons_succ, cond_true, cond_false, Bool.not_true, Bool.not_false]))
        have S := S.asOwn (sz := 1) (n := 0) rfl (by omega) oneAll.nil
        refine S.ab0 (xs := []) (hx.ext S.ext) (by omega) fun a5 c5 w5 S f5 => ?_
        refine S.ab0 S.in1 (by omega) fun a6 c6 w6 S f6 => ?_
        have R := S.out
        have hp : [] ++ xs ++ endL h ts = mkL g h xs ts := by unfold mkL payL; rw [if_neg (by omega)]; rfl
        rw [hp] at R
        refine ⟨S.ext, fun _ => ⟨R, rfl⟩, fun hn => absurd ⟨hR, hE, .inr (by omega)⟩ hn⟩
      · obtain ⟨k1, k2⟩ := h4' hE
        rw [k2]
        exact cond_t rfl (no (fun hp => hE hp.2.1) (S.ext.trans x4))
  · refine cond_t (by unfold chkE; rw [if_neg hR]; rfl) ?_
    exact no (fun hp => hR hp.1) S.ext

end Go.Proofs.Ytfpkaebmiojicaa.Vc

/-! Parts of plans, cut out by wip/tools/vccut.py. -/
namespace Go.Proofs.Ytfpkaebmiojicaa.Vc
open Go Go.Eng
set_option linter.unusedVariables false

def ref14_Read.T (w21 : World) (b19 : Nat) (b1 : Nat) (K : (Int × Int × Int × Int × Int × Int × Unit) × Bool × Unit → World → Prop) (c0 : Nat) (a0 : Option Addr) : Prop :=
LoadA w21 ⟨b19, 0, none⟩ [.int .i64, .int .i64, .int .i64, .int .u32, .int .u64, .int .u64] fun (x22 : Int × Int × Int × Int × Int × Int × Unit) =>
  CallV Try.prog 64 #[.agg #[.int .i64 x22.1, .int .i64 x22.2.1, .int .i64 x22.2.2.1, .int .u32 x22.2.2.2.1, .int .u64 x22.2.2.2.2.1, .int .u64 x22.2.2.2.2.2.1]] w21 [.one .bool] fun (r23 : Bool × Unit) w24 =>
  cond (!r23.1)
  (StoreV w24 ⟨b1, 0, none⟩ [.int .i64 0, .int .i64 0, .int .i64 0, .int .u32 0, .int .u64 0, .int .u64 0] fun w25 =>
  LoadA w25 ⟨b1, 0, none⟩ [.int .i64, .int .i64, .int .i64, .int .u32, .int .u64, .int .u64] fun (x26 : Int × Int × Int × Int × Int × Int × Unit) =>
  K ((x26.1, x26.2.1, x26.2.2.1, x26.2.2.2.1, x26.2.2.2.2.1, x26.2.2.2.2.2.1, ()), false, ()) w25)
  (DrawV fun D27 =>
  (D27 b19 ∧ LoadA w24.drew ⟨b19, 0, none⟩ [.int .i64, .int .i64, .int .i64, .int .u32, .int .u64, .int .u64] fun (x28 : Int × Int × Int × Int × Int × Int × Unit) =>
  (D27 b19 ∧ LoadA w24.drew ⟨b19, 0, none⟩ [.int .i64, .int .i64, .int .i64, .int .u32, .int .u64, .int .u64] fun (x29 : Int × Int × Int × Int × Int × Int × Unit) =>
  ((0 : Int) ≤ (48 : Int) ∧ (48 : Int) ≤ ((c0 : Nat) : Int)) ∧
  SubK a0 0 c0 1 fun a30 =>
  CallV Try.prog 95 #[.agg #[.int .i64 x28.1, .int .i64 x28.2.1, .int .i64 x28.2.2.1, .int .u32 x28.2.2.2.1, .int .u64 x28.2.2.2.2.1, .int .u64 x28.2.2.2.2.2.1]] w24.drew [.one .sl] fun (r31 : SlV × Unit) w32 =>
  KeepOn D27 w24.drew w32 ∧
  CallV Try.prog 95 #[.agg #[.int .i64 x29.1, .int .i64 x29.2.1, .int .i64 x29.2.2.1, .int .u32 x29.2.2.2.1, .int .u64 x29.2.2.2.2.1, .int .u64 x29.2.2.2.2.2.1]] w32 [.one .sl] fun (r33 : SlV × Unit) w34 =>
  KeepOn D27 w24.drew w34 ∧
  CallV Try.prog 96 #[.slice r33.1.a r33.1.n r33.1.c] w34 [.one .sl] fun (r35 : SlV × Unit) w36 =>
  KeepOn D27 w24.drew w36 ∧
  AppS w36 r35.1.a r35.1.n 1 fun ns41 =>
  AppV w36 5 1 1 r31.1.a r31.1.n r31.1.c ns41 r35.1.n fun a37 n38 c39 w40 =>
  KeepOn D27 w24.drew w40 ∧
  CallV Try.prog 19 #[.slice a37 n38 c39, .slice a30 (48 - 0) (c0 - 0)] w40 [.one .bool] fun (r42 : Bool × Unit) w43 =>
  KeepOn D27 w24.drew w43 ∧
  cond (!r42.1)
  (StoreV w43 ⟨b1, 0, none⟩ [.int .i64 0, .int .i64 0, .int .i64 0, .int .u32 0, .int .u64 0, .int .u64 0] fun w44 =>
  LoadA w44 ⟨b1, 0, none⟩ [.int .i64, .int .i64, .int .i64, .int .u32, .int .u64, .int .u64] fun (x45 : Int × Int × Int × Int × Int × Int × Unit) =>
  K ((x45.1, x45.2.1, x45.2.2.1, x45.2.2.2.1, x45.2.2.2.2.1, x45.2.2.2.2.2.1, ()), false, ()) w44)
  (LoadA w43 ⟨b19, 0, none⟩ [.int .i64, .int .i64, .int .i64, .int .u32, .int .u64, .int .u64] fun (x46 : Int × Int × Int × Int × Int × Int × Unit) =>
  StoreV w43 ⟨b1, 0, none⟩ [.int .i64 x46.1, .int .i64 x46.2.1, .int .i64 x46.2.2.1, .int .u32 x46.2.2.2.1, .int .u64 x46.2.2.2.2.1, .int .u64 x46.2.2.2.2.2.1] fun w47 =>
  LoadA w47 ⟨b1, 0, none⟩ [.int .i64, .int .i64, .int .i64, .int .u32, .int .u64, .int .u64] fun (x48 : Int × Int × Int × Int × Int × Int × Unit) =>
  K ((x48.1, x48.2.1, x48.2.2.1, x48.2.2.2.1, x48.2.2.2.2.1, x48.2.2.2.2.2.1, ()), true, ()) w47))))

end Go.Proofs.Ytfpkaebmiojicaa.Vc

/-! The contract of the document's Read (layer 14). -/
namespace Go.Proofs.Ytfpkaebmiojicaa.Vc
open Go Go.Eng Go.RowKit
set_option linter.unusedVariables false
set_option linter.unusedSimpArgs false

def rRPost (w : World) (xs : List Int) (r : (Int × Int × Int × Int × Int × Int × Unit) × Bool × Unit) (w' : World) : Prop :=
  Ext w w' ∧ (okR xs → r.1 = (hdOf xs).tup ∧ r.2.1 = true) ∧ (¬ okR xs → r.1 = zeroH.tup ∧ r.2.1 = false)

theorem rReadTail {w w21 : World} {xs : List Int} {a0 : Option Addr} {c0 b1 b19 : Nat} (x21 : Ext w w21) (hb1 : Box w21 w.heap.size b1 27 zeroH.vs) (hb19 : Box w21 w.heap.size b19 27 (hdOf xs).vs) (hne : b1 ≠ b19)
    (hx : Ints w .u8 a0 88 c0 xs) (bx : Byt xs) : ref14_Read.T w21 b19 b1 (rRPost w xs) c0 a0 := by
  have hl := hx.len
  have hcap := hx.cap
  have hg := hdOf_rng bx (by omega)
  unfold ref14_Read.T
  refine ldH (h := hdOf xs) hb19 ?_
  refine (HRight_c (h := hdOf xs)).mono ?_
  rintro ⟨(r1 : Bool), ⟨⟩⟩ w1 ⟨h1, x1⟩
  dsimp only at h1 ⊢
  subst h1
  have fail : ∀ {w' : World}, Ext w21 w' → ¬ okR xs → StoreV w' ⟨b1, 0, none⟩ [.int .i64 0, .int .i64 0, .int .i64 0, .int .u32 0, .int .u64 0, .int .u64 0] fun w33 =>
      LoadA w33 ⟨b1, 0, none⟩ [.int .i64, .int .i64, .int .i64, .int .u32, .int .u64, .int .u64] fun (x34 : Int × Int × Int × Int × Int × Int × Unit) =>
      rRPost w xs ((x34.1, x34.2.1, x34.2.2.1, x34.2.2.2.1, x34.2.2.2.2.1, x34.2.2.2.2.2.1, ()), false, ()) w33 := fun e hno => by
    refine (hb1.ext e).store 0 (by simp) fun w3 hb3 bel3 _ _ => ?_
    refine ldH (h := zeroH) hb3 ?_
    exact ⟨Below.trans (x21.trans e) bel3, fun h => absurd h hno, fun _ => ⟨rfl, rfl⟩⟩
  have iff := okR_iff bx hl
  by_cases hR : ¬ HRight (hdOf xs)
  · exact cond_t (by rw [decide_eq_false hR]; rfl) (fail x1 (fun h => hR (iff.1 h).1))
  have hR := Decidable.not_not.1 hR
  refine cond_f (by rw [decide_eq_true hR]; rfl) ?_
  refine DrawV.old w1 fun D hD hkeep => ?_
  have b19' := hb19.ext x1
  have hD1 := hD _ b19'.lt
  have xd := Ext.drew w1
  have X1 := x21.trans x1
  refine ⟨hD1, ldH (h := hdOf xs) (b19'.ext xd) ⟨hD1, ldH (h := hdOf xs) (b19'.ext xd) ⟨by omega, ?_⟩⟩⟩
  intro a30 ha30
  have i30 := sub_part (hx.ext X1) (i := 0) (j := 48) (m := c0) (by omega) (by omega) (by omega) ha30
  refine (rBytes_c (h := hdOf xs) hg hR).mono ?_
  rintro ⟨⟨sa, sn, sc⟩, ⟨⟩⟩ w2 h2
  dsimp only at h2 ⊢
  have x2 := xd.trans h2.ext
  refine ⟨hkeep _ x2, ?_⟩
  refine (rBytes_c (h := hdOf xs) hg hR).mono ?_
  rintro ⟨(s3 : SlV), ⟨⟩⟩ w3 h3
  dsimp only at h3 ⊢
  have x3 := x2.trans h3.ext
  refine ⟨hkeep _ x3, ?_⟩
  have l2 := h2.ints.len
  rw [hdL_length] at l2
  dsimp only at l2
  subst l2
  have l3 := h3.ints.len
  rw [hdL_length] at l3
  refine (rInvert_c h3.ints (by omega)).mono ?_
  rintro ⟨⟨va, vn, vc⟩, ⟨⟩⟩ w4 h4
  dsimp only at h4 ⊢
  have l4 := h4.ints.len
  rw [show (invL (hdL (hdOf xs))).length = 24 by simp [invL, hdL_length]] at l4
  dsimp only at l4
  subst l4
  have x4 := x3.trans h4.ext
  refine ⟨hkeep _ x4, ?_⟩
  have o4 := (h2.own.ext (h3.ext.trans h4.ext)).mono xd.size
  refine appL o4 h4.ints x4.size (by omega) fun a5 c5 w5 o5 b5 => ?_
  have x5 : Ext w1 w5 := Below.trans x4 b5
  refine ⟨hkeep _ x5, ?_⟩
  refine (SameBytes_c o5.ints (i30.ext x5)).mono ?_
  rintro ⟨(r6 : Bool), ⟨⟩⟩ w6 ⟨h6, x6⟩
  dsimp only at h6 ⊢
  have X6 := x5.trans x6
  refine ⟨hkeep _ X6, ?_⟩
  refine cond_of (fun hc => fail (x1.trans X6) (fun hok => by
    rw [h6, decide_eq_true (iff.1 hok).2] at hc
    cases hc)) (fun hc => ?_)
  have hok : okR xs := iff.2 ⟨hR, by
    rw [h6] at hc
    simpa using hc⟩
  refine ldH (h := hdOf xs) (b19'.ext X6) ?_
  refine (hb1.ext (x1.trans X6)).store 0 (by simp) fun w7 hb7 bel7 _ _ => ?_
  refine ldH (h := hdOf xs) hb7 ?_
  exact ⟨Below.trans (X1.trans X6) bel7, fun _ => ⟨rfl, rfl⟩, fun h => absurd hok h⟩

theorem rRead_c {w : World} {a0 : Option Addr} {n0 c0 : Nat} {xs : List Int} (hx : Ints w .u8 a0 n0 c0 xs) (bx : Byt xs) (h88 : n0 = 88) :
    CallV Try.prog 69 #[.slice a0 n0 c0] w [.agg [.int .i64, .int .i64, .int .i64, .int .u32, .int .u64, .int .u64], .one .bool] fun r w' => rRPost w xs r w' := by
  subst h88
  refine ref14_Read.vc _ _ _ _ _ ?_
  unfold ref14_Read.P
  have lx := hx.len
  have hcap := hx.cap
  refine newH (h := zeroH) fun b1 w2 e2 hb1 => ?_
  refine DrawV.old w2 fun D hD hkeep => ?_
  have b0 := bx.getD 0
  have b1' := bx.getD 1
  have b2 := bx.getD 2
  have x2 := Ext.drew w2
  have y2 := e2.trans x2
  refine (hx.ext e2).idxD x2 (i := 0) (by omega) (by omega) hD ?_
  refine (hx.ext e2).idxD x2 (i := 1) (by omega) (by omega) hD ?_
  refine (hx.ext e2).idxD x2 (i := 2) (by omega) (by omega) hD ?_
  rw [show (0 : Int).toNat = 0 from rfl, show (1 : Int).toNat = 1 from rfl, show (2 : Int).toNat = 2 from rfl]
  rw [i64_id (by omega : -9223372036854775808 ≤ xs.getD 0 0) (by omega), i64_id (by omega : -9223372036854775808 ≤ xs.getD 1 0) (by omega), i64_id (by omega : -9223372036854775808 ≤ xs.getD 2 0) (by omega)]
  refine ⟨by omega, ?_⟩
  intro a10 ha10
  refine ⟨by omega, ?_⟩
  intro a11 ha11
  refine ⟨by omega, ?_⟩
  intro a12 ha12
  have h10 := sub_part hx (i := 4) (j := 8) (m := c0) (by omega) (by omega) (by omega) ha10
  have h11 := sub_part hx (i := 8) (j := 16) (m := c0) (by omega) (by omega) (by omega) ha11
  have h12 := sub_part hx (i := 16) (j := 24) (m := c0) (by omega) (by omega) (by omega) ha12
  generalize hW : w2.drew = W at *
  have nbl := numB_bd (part_byt bx 4 8) (part_length (by omega) (by omega)) (by omega)
  have hu : IntKind.u32.wrap (numB (part xs 4 8)) = numB (part xs 4 8) := by rw [u32_wrap]; exact Int.emod_eq_of_lt nbl.1 (by have := nbl.2; simpa using this)
  have keepW : ∀ {w' : World}, Ext W w' → KeepOn D W w' := fun e => hkeep _ (x2.trans e)
  have hb1W := hb1.ext x2
  have done : ∀ {w25 : World} {b24 : Nat}, Ext W w25 → Box w25 W.heap.size b24 27 zeroH.vs → StoreV w25 ⟨b24, 0, none⟩ (hdOf xs).vs fun w26 => KeepOn D W w26 ∧ ref14_Read.T w26 b24 b1 (rRPost w xs) c0 a0 := fun {w25 b24} e25 hb24 => by
    refine hb24.store 0 (by simp) fun w26 hb26 bel26 _ _ => ?_
    have X26 : Ext W w26 := Below.trans e25 bel26
    refine ⟨keepW X26, ?_⟩
    refine rReadTail (y2.trans X26) (hb1W.ext X26) ⟨Nat.le_trans y2.size hb26.base, hb26.heap⟩ (fun h => ?_) hx bx
    have := hb1W.lt
    have := hb24.base
    omega
  have N10 : ∀ {w' : World}, Ext W w' → CallV Try.prog 99 #[.slice a10 (8 - 4) (c0 - 4)] w' [.one (.int .u64)] fun r w2 => r.1 = numB (part xs 4 8) ∧ Ext w' w2 := fun e => rNum_c (h10.ext (y2.trans e)) (part_byt bx 4 8) (by omega)
  have N11 : ∀ {w' : World}, Ext W w' → CallV Try.prog 99 #[.slice a11 (16 - 8) (c0 - 8)] w' [.one (.int .u64)] fun r w2 => r.1 = numB (part xs 8 16) ∧ Ext w' w2 := fun e => rNum_c (h11.ext (y2.trans e)) (part_byt bx 8 16) (by omega)
  have N12 : ∀ {w' : World}, Ext W w' → CallV Try.prog 99 #[.slice a12 (24 - 16) (c0 - 16)] w' [.one (.int .u64)] fun r w2 => r.1 = numB (part xs 16 24) ∧ Ext w' w2 := fun e => rNum_c (h12.ext (y2.trans e)) (part_byt bx 16 24) (by omega)
  have newZ : ∀ {w' : World} {K : Nat → World → Prop}, Ext W w' → (∀ b w1, Ext w' w1 → Ext W w1 → Box w1 W.heap.size b 27 zeroH.vs → K b w1) → NewV #[.int .i64 0, .int .i64 0, .int .i64 0, .int .u32 0, .int .u64 0, .int .u64 0] 27 w' K := fun e hk => newH (h := zeroH) fun b w1 e1 hb => hk b w1 e1 (e.trans e1) ⟨Nat.le_trans e.size hb.base, hb.heap⟩
  refine ⟨?_, ?_⟩
  · refine (N10 (Ext.refl _)).mono ?_
    rintro ⟨(r1 : Int), ⟨⟩⟩ w3 ⟨q1, e3⟩
    dsimp only at q1 ⊢
    subst q1
    rw [hu]
    refine ⟨keepW e3, ?_, ?_⟩
    · refine (N11 e3).mono ?_
      rintro ⟨(r2 : Int), ⟨⟩⟩ w4 ⟨q2, e4⟩
      dsimp only at q2 ⊢
      subst q2
      have X4 := e3.trans e4
      refine ⟨keepW X4, ?_, ?_⟩
      · refine (N12 X4).mono ?_
        rintro ⟨(r3 : Int), ⟨⟩⟩ w5 ⟨q3, e5⟩
        dsimp only at q3 ⊢
        subst q3
        exact ⟨keepW (X4.trans e5), newZ (X4.trans e5) fun b24 w25 _ e25 hb24 => ⟨keepW e25, done e25 hb24⟩⟩
      · refine newZ X4 fun b24 w25 _ e25 hb24 => ⟨keepW e25, ?_⟩
        refine (N12 e25).mono ?_
        rintro ⟨(r3 : Int), ⟨⟩⟩ w5 ⟨q3, e5⟩
        dsimp only at q3 ⊢
        subst q3
        exact ⟨keepW (e25.trans e5), done (e25.trans e5) (hb24.ext e5)⟩
    · refine newZ e3 fun b24 w25 _ e25 hb24 => ⟨keepW e25, ?_⟩
      refine (N11 e25).mono ?_
      rintro ⟨(r2 : Int), ⟨⟩⟩ w4 ⟨q2, e4⟩
      dsimp only at q2 ⊢
      subst q2
      have X4 := e25.trans e4
      refine ⟨keepW X4, ?_⟩
      refine (N12 X4).mono ?_
      rintro ⟨(r3 : Int), ⟨⟩⟩ w5 ⟨q3, e5⟩
      dsimp only at q3 ⊢
      subst q3
      exact ⟨keepW (X4.trans e5), done (X4.trans e5) (hb24.ext (e4.trans e5))⟩
  · refine newZ (Ext.refl _) fun b24 w25 _ e25 hb24 => ⟨keepW e25, ?_⟩
    refine (N10 e25).mono ?_
    rintro ⟨(r1 : Int), ⟨⟩⟩ w3 ⟨q1, e3⟩
    dsimp only at q1 ⊢
    subst q1
    rw [hu]
    have X3 := e25.trans e3
    refine ⟨keepW X3, ?_⟩
    refine (N11 X3).mono ?_
    rintro ⟨(r2 : Int), ⟨⟩⟩ w4 ⟨q2, e4⟩
    dsimp only at q2 ⊢
    subst q2
    have X4 := X3.trans e4
    refine ⟨keepW X4, ?_⟩
    refine (N12 X4).mono ?_
    rintro ⟨(r3 : Int), ⟨⟩⟩ w5 ⟨q3, e5⟩
    dsimp only at q3 ⊢
    subst q3
    exact ⟨keepW (X4.trans e5), done (X4.trans e5) (hb24.ext (e3.trans (e4.trans e5)))⟩

end Go.Proofs.Ytfpkaebmiojicaa.Vc

/-! The plans of functions as plain statements, printed by wip/tools/vcgen.py; the kernel holds each to the code. -/
namespace Go.Proofs.Ytfpkaebmiojicaa.Vc
open Go Go.Eng
set_option linter.unusedVariables false



end Go.Proofs.Ytfpkaebmiojicaa.Vc

/-! The laws GeometryChecks, GeometryIndexes and GeometryQuotas of layer 11: each call gives true, and what it read stays. -/
namespace Go.Proofs.Ytfpkaebmiojicaa.Vc
open Go Go.Eng Go.RowKit
set_option linter.unusedVariables false
set_option linter.unusedSimpArgs false

theorem Right_c {w : World} {g : Geo} : CallV Try.prog 17 #[g.val] w [.one .bool] fun r w' => r.1 = decide (Right g) ∧ Ext w w' := by
  refine ref11_Right.vc _ _ _ _ _ _ _ _ ?_
  unfold ref11_Right.P
  refine newG fun b1 w1 e1 hb => ?_
  have no : ∀ {w' : World}, ¬ Right g → Ext w w' → (false = decide (Right g) ∧ Ext w w') := fun hr he => ⟨(decide_eq_false hr).symm, he⟩
  refine hb.ld (i := 0) (h := .int .i64) (x := g.b) rfl ?_
  refine in11_c.mono ?_
  rintro ⟨(r1 : Bool), ⟨⟩⟩ w' ⟨h1, rfl⟩
  dsimp only at h1 ⊢
  subst h1
  refine cond_of (fun hc => no (fun hr => by unfold Right Kept at hr; simp at hc; omega) e1) (fun c1 => ?_)
  simp at c1
  refine hb.ld (i := 1) (h := .int .i64) (x := g.p) rfl ?_
  refine in11_c.mono ?_
  rintro ⟨(r1 : Bool), ⟨⟩⟩ w' ⟨h1, rfl⟩
  dsimp only at h1 ⊢
  subst h1
  refine cond_of (fun hc => no (fun hr => by unfold Right Kept at hr; simp at hc; omega) e1) (fun c2 => ?_)
  simp at c2
  refine hb.ld (i := 2) (h := .int .i64) (x := g.s) rfl ?_
  refine in11_c.mono ?_
  rintro ⟨(r1 : Bool), ⟨⟩⟩ w' ⟨h1, rfl⟩
  dsimp only at h1 ⊢
  subst h1
  refine cond_of (fun hc => no (fun hr => by unfold Right Kept at hr; simp at hc; omega) e1) (fun c3 => ?_)
  simp at c3
  refine hb.ld (i := 3) (h := .int .i64) (x := g.sp) rfl ?_
  refine in11_c.mono ?_
  rintro ⟨(r1 : Bool), ⟨⟩⟩ w' ⟨h1, rfl⟩
  dsimp only at h1 ⊢
  subst h1
  refine cond_of (fun hc => no (fun hr => by unfold Right Kept at hr; simp at hc; omega) e1) (fun c4 => ?_)
  simp at c4
  refine hb.ld (i := 4) (h := .int .i64) (x := g.wr) rfl ?_
  refine in11_c.mono ?_
  rintro ⟨(r1 : Bool), ⟨⟩⟩ w' ⟨h1, rfl⟩
  dsimp only at h1 ⊢
  subst h1
  refine cond_of (fun hc => no (fun hr => by unfold Right Kept at hr; simp at hc; omega) e1) (fun c5 => ?_)
  simp at c5
  refine hb.ld (i := 5) (h := .int .i64) (x := g.ro) rfl ?_
  refine in11_c.mono ?_
  rintro ⟨(r1 : Bool), ⟨⟩⟩ w' ⟨h1, rfl⟩
  dsimp only at h1 ⊢
  subst h1
  refine cond_of (fun hc => no (fun hr => by unfold Right Kept at hr; simp at hc; omega) e1) (fun c6 => ?_)
  simp at c6
  refine DrawV.old w' fun D hD hkeep => ?_
  have hD1 := hD _ hb.lt
  have hd := hb.ext (Ext.drew _)
  have e1' := e1.trans (Ext.drew w')
  refine ⟨hD1, hd.ld (i := 2) (h := .int .i64) (x := g.s) rfl ?_⟩
  have hm : Int.tmod g.s 16 = g.s % 16 := Int.tmod_eq_emod_of_nonneg (by omega)
  rw [hm]
  refine ⟨by omega, cond_eq (fun h16 => ?_) (fun h16 => no (fun hr => by unfold Right Kept at hr; omega) e1')⟩
  refine ⟨hD1, ldG hd ?_⟩
  refine ⟨hD1, hd.ld (i := 1) (h := .int .i64) (x := g.p) rfl ?_⟩
  refine (rChunks_c (g := g) (by omega)).mono ?_
  rintro ⟨(r2 : Int), ⟨⟩⟩ w2 ⟨h2, e2⟩
  have E2 := (Ext.drew w').trans e2
  refine ⟨hkeep _ E2, ?_⟩
  dsimp only at h2 ⊢
  subst h2
  have F2 := e1.trans E2
  refine cond_d (fun hle => ?_) (fun hle => no (fun hr => by unfold Right at hr; omega) F2)
  refine ⟨hD1, hd.ld (i := 0) (h := .int .i64) (x := g.b) rfl ?_⟩
  refine ⟨Rng.i64 (by omega) (by omega), ?_⟩
  refine ⟨hD1, hd.ld (i := 3) (h := .int .i64) (x := g.sp) rfl ?_⟩
  refine ⟨Rng.i64 (by omega) (by omega), ?_, F2⟩
  apply decide_eq_decide.2
  unfold Right Kept
  omega

abbrev TGeo : Ty := .cons (.int .i64) (.cons (.int .i64) (.cons (.int .i64) (.cons (.int .i64) (.cons (.int .i64) (.cons (.int .i64) .nil)))))
abbrev TPair : Ty := .cons (.int .i64) (.cons (.int .i64) .nil)
def geoT (x : TGeo.T) : Geo := ⟨x.1, x.2.1, x.2.2.1, x.2.2.2.1, x.2.2.2.2.1, x.2.2.2.2.2.1⟩
theorem geoT_val (x : TGeo.T) : (.agg (TGeo.vs x).toArray : Value) = (geoT x).val := rfl
theorem pairT_val (x : TPair.T) : (.agg (TPair.vs x).toArray : Value) = .agg #[.int .i64 x.1, .int .i64 x.2.1] := rfl
end Go.Proofs.Ytfpkaebmiojicaa.Vc

/-! The contracts of layer 15 (page): what commits a page, and what a page tells. -/
namespace Go.Proofs.Ytfpkaebmiojicaa.Vc
open Go Go.Eng Go.RowKit
set_option linter.unusedVariables false
set_option linter.unusedSimpArgs false

theorem PCommit_c {w : World} {g : Geo} : CallV Try.prog 16 #[g.val] w [.one .sl, .one (.int .i64)] fun r w' => Ext w w' ∧ (Right g → Res w w' r.1 (comL g) ∧ r.2.1 = (0 : Int)) ∧ (¬ Right g → r.1 = (⟨none, 0, 0⟩ : SlV) ∧ r.2.1 = (2 : Int)) := by
  apply page_Commit.vc
  unfold page_Commit.P
  have S := Sep.start NoB w
  (repeat ((first | refine S.newB fun _ _ S f _ => ?_ | refine S.la0 rfl ?_ | refine S.la1 rfl ?_ | refine S.la2 rfl ?_ | refine S.la3 rfl ?_ | refine S.la4 rfl ?_ | refine S.la5 rfl ?_ | refine S.ld0 rfl rfl ?_ | refine S.ld1 rfl rfl ?_ | refine S.ld2 rfl rfl ?_ | refine S.ld3 rfl rfl ?_ | refine S.ld4 rfl rfl ?_ | refine S.ld5 rfl rfl ?_ | refine S.st0 (by rfl) fun _ S f => ?_ | refine S.st1 (by rfl) fun _ S f => ?_ | refine S.st2 (by rfl) fun _ S f => ?_ | refine S.st3 (by rfl) fun _ S f => ?_ | refine S.st4 (by rfl) fun _ S f => ?_ | refine S.st5 (by rfl) fun _ S f => ?_ | refine S.su0 (by rfl) fun _ S f => ?_ | refine S.su1 (by rfl) fun _ S f => ?_ | refine S.su2 (by rfl) fun _ S f => ?_ | refine S.su3 (by rfl) fun _ S f => ?_ | refine S.su4 (by rfl) fun _ S f => ?_ | refine S.su5 (by rfl) fun _ S f => ?_ | refine ⟨by decide, ?_⟩); try dsimp only [List.set_cons_zero, List.set_cons_succ, cond_true, cond_false, Bool.not_true, Bool.not_false]))
  refine (Check_c (g := g)).mono ?_
  rintro ⟨(r : Int), ⟨⟩⟩ w2 ⟨h2, e2⟩
  dsimp only at h2 ⊢
  have S := S.stepE e2
  subst h2
  by_cases hR : Right g
  · refine cond_f (by unfold chkE; rw [if_pos hR]; rfl) ?_
    have hs := hR.sec
    (repeat ((first | refine S.newB fun _ _ S f _ => ?_ | refine S.la0 rfl ?_ | refine S.la1 rfl ?_ | refine S.la2 rfl ?_ | refine S.la3 rfl ?_ | refine S.la4 rfl ?_ | refine S.la5 rfl ?_ | refine S.ld0 rfl rfl ?_ | refine S.ld1 rfl rfl ?_ | refine S.ld2 rfl rfl ?_ | refine S.ld3 rfl rfl ?_ | refine S.ld4 rfl rfl ?_ | refine S.ld5 rfl rfl ?_ | refine S.st0 (by rfl) fun _ S f => ?_ | refine S.st1 (by rfl) fun _ S f => ?_ | refine S.st2 (by rfl) fun _ S f => ?_ | refine S.st3 (by rfl) fun _ S f => ?_ | refine S.st4 (by rfl) fun _ S f => ?_ | refine S.st5 (by rfl) fun _ S f => ?_ | refine S.su0 (by rfl) fun _ S f => ?_ | refine S.su1 (by rfl) fun _ S f => ?_ | refine S.su2 (by rfl) fun _ S f => ?_ | refine S.su3 (by rfl) fun _ S f => ?_ | refine S.su4 (by rfl) fun _ S f => ?_ | refine S.su5 (by rfl) fun _ S f => ?_ | refine ⟨by decide, ?_⟩); try dsimp only [List.set_cons_zero, List.set_cons_succ, cond_true, cond_false, Bool.not_true, Bool.not_false]))
    refine (PageSize_c (g := g)).mono ?_
    rintro ⟨(r3 : Int), ⟨⟩⟩ w3 ⟨h3, e3⟩
    dsimp only at h3 ⊢
    have S := S.stepE e3
    rw [if_pos hR] at h3
    subst h3
    refine (MarkLen_c (by omega)).mono ?_
    rintro ⟨(r4 : SlV), ⟨⟩⟩ w4 h4
    have E := S.ext.trans h4.ext
    rw [show g.s + 88 - 8 = g.s + 80 by omega] at h4
    exact ⟨E, fun _ => ⟨h4.after S.ext, rfl⟩, fun hn => absurd hR hn⟩
  · exact cond_t (by unfold chkE; rw [if_neg hR]; rfl) ⟨S.ext, fun h => absurd h hR, fun _ => ⟨rfl, rfl⟩⟩

theorem rCommit15_c {w : World} {g : Geo} (hR : Right g) : CallV Try.prog 20 #[g.val] w [.one .sl] fun r w' => Res w w' r.1 (comL g) := by
  apply ref15_Commit.vc
  unfold ref15_Commit.P
  have hs := hR.sec
  have S := Sep.start NoB w
  (repeat ((first | refine S.newB fun _ _ S f _ => ?_ | refine S.la0 rfl ?_ | refine S.la1 rfl ?_ | refine S.la2 rfl ?_ | refine S.la3 rfl ?_ | refine S.la4 rfl ?_ | refine S.la5 rfl ?_ | refine S.ld0 rfl rfl ?_ | refine S.ld1 rfl rfl ?_ | refine S.ld2 rfl rfl ?_ | refine S.ld3 rfl rfl ?_ | refine S.ld4 rfl rfl ?_ | refine S.ld5 rfl rfl ?_ | refine S.st0 (by rfl) fun _ S f => ?_ | refine S.st1 (by rfl) fun _ S f => ?_ | refine S.st2 (by rfl) fun _ S f => ?_ | refine S.st3 (by rfl) fun _ S f => ?_ | refine S.st4 (by rfl) fun _ S f => ?_ | refine S.st5 (by rfl) fun _ S f => ?_ | refine S.su0 (by rfl) fun _ S f => ?_ | refine S.su1 (by rfl) fun _ S f => ?_ | refine S.su2 (by rfl) fun _ S f => ?_ | refine S.su3 (by rfl) fun _ S f => ?_ | refine S.su4 (by rfl) fun _ S f => ?_ | refine S.su5 (by rfl) fun _ S f => ?_ | refine ⟨by decide, ?_⟩); try dsimp only [List.set_cons_zero, List.set_cons_succ, cond_true, cond_false, Bool.not_true, Bool.not_false]))
  refine ⟨Rng.i64 (by omega) (by omega), ?_⟩
  refine rFill_c.mono ?_
  rintro ⟨⟨sa, sn, sc⟩, ⟨⟩⟩ w3 h3
  dsimp only at h3 ⊢
  have l3 := h3.ints.len
  have hf : (max 0 (min (65536 : Int) (g.s + 80))).toNat = (g.s + 80).toNat := by generalize hL : (65536 : Int) = L; omega
  rw [List.length_replicate, hf] at l3
  have S := S.res h3
  rw [hf] at S
  dsimp only at l3 S
  subst l3
  refine rFill_c.mono ?_
  rintro ⟨⟨ua, un, uc⟩, ⟨⟩⟩ w4 h4
  dsimp only at h4 ⊢
  have l4 := h4.ints.len
  rw [List.length_replicate, fill8] at l4
  have S := S.res h4
  rw [fill8] at S
  dsimp only at l4 S
  subst l4
  refine S.ab1 S.in0 (by omega) fun a6 c6 w6 S f6 => ?_
  have S := S.tail
  exact S.out

theorem rRight15_c {w : World} {g : Geo} {h : Hd} {a a2 : Option Addr} {n c m c2 : Nat} :
    CallV Try.prog 21 #[g.val, h.val, .slice a n c, .slice a2 m c2] w [.one .bool] fun r w' => r.1 = decide (PRight g h n m) ∧ Ext w w' := by
  apply ref15_Right.vc
  unfold ref15_Right.P
  have S := Sep.start NoB w
  have no : ∀ {w' : World}, ¬ PRight g h n m → Ext w w' → (false = decide (PRight g h n m) ∧ Ext w w') := fun hr he => ⟨(decide_eq_false hr).symm, he⟩
  (repeat ((first | refine S.newB fun _ _ S f _ => ?_ | refine S.la0 rfl ?_ | refine S.la1 rfl ?_ | refine S.la2 rfl ?_ | refine S.la3 rfl ?_ | refine S.la4 rfl ?_ | refine S.la5 rfl ?_ | refine S.ld0 rfl rfl ?_ | refine S.ld1 rfl rfl ?_ | refine S.ld2 rfl rfl ?_ | refine S.ld3 rfl rfl ?_ | refine S.ld4 rfl rfl ?_ | refine S.ld5 rfl rfl ?_ | refine S.st0 (by rfl) fun _ S f => ?_ | refine S.st1 (by rfl) fun _ S f => ?_ | refine S.st2 (by rfl) fun _ S f => ?_ | refine S.st3 (by rfl) fun _ S f => ?_ | refine S.st4 (by rfl) fun _ S f => ?_ | refine S.st5 (by rfl) fun _ S f => ?_ | refine S.su0 (by rfl) fun _ S f => ?_ | refine S.su1 (by rfl) fun _ S f => ?_ | refine S.su2 (by rfl) fun _ S f => ?_ | refine S.su3 (by rfl) fun _ S f => ?_ | refine S.su4 (by rfl) fun _ S f => ?_ | refine S.su5 (by rfl) fun _ S f => ?_ | refine ⟨by decide, ?_⟩); try dsimp only [List.set_cons_zero, List.set_cons_succ, cond_true, cond_false, Bool.not_true, Bool.not_false]))
  refine (Right_c (g := g)).mono ?_
  rintro ⟨(r : Bool), ⟨⟩⟩ w2 ⟨h2, e2⟩
  dsimp only at h2 ⊢
  have S := S.stepE e2
  subst h2
  refine cond_d (fun hR => ?_) (fun hR => no (fun hp => hR hp.1) S.ext)
  (repeat ((first | refine S.newB fun _ _ S f _ => ?_ | refine S.la0 rfl ?_ | refine S.la1 rfl ?_ | refine S.la2 rfl ?_ | refine S.la3 rfl ?_ | refine S.la4 rfl ?_ | refine S.la5 rfl ?_ | refine S.ld0 rfl rfl ?_ | refine S.ld1 rfl rfl ?_ | refine S.ld2 rfl rfl ?_ | refine S.ld3 rfl rfl ?_ | refine S.ld4 rfl rfl ?_ | refine S.ld5 rfl rfl ?_ | refine S.st0 (by rfl) fun _ S f => ?_ | refine S.st1 (by rfl) fun _ S f => ?_ | refine S.st2 (by rfl) fun _ S f => ?_ | refine S.st3 (by rfl) fun _ S f => ?_ | refine S.st4 (by rfl) fun _ S f => ?_ | refine S.st5 (by rfl) fun _ S f => ?_ | refine S.su0 (by rfl) fun _ S f => ?_ | refine S.su1 (by rfl) fun _ S f => ?_ | refine S.su2 (by rfl) fun _ S f => ?_ | refine S.su3 (by rfl) fun _ S f => ?_ | refine S.su4 (by rfl) fun _ S f => ?_ | refine S.su5 (by rfl) fun _ S f => ?_ | refine ⟨by decide, ?_⟩); try dsimp only [List.set_cons_zero, List.set_cons_succ, cond_true, cond_false, Bool.not_true, Bool.not_false]))
  refine (HRight_c (h := h)).mono ?_
  rintro ⟨(r3 : Bool), ⟨⟩⟩ w3 ⟨h3, e3⟩
  dsimp only at h3 ⊢
  have S := S.stepE e3
  subst h3
  refine cond_d (fun hH => ?_) (fun hH => no (fun hp => hH hp.2.1.1) S.ext)
  have key : (n = 0 ∨ (n : Int) = g.s) → (PRight g h n m ↔ (m = 0 ∨ m = 32)) := fun hn => ⟨fun hp => hp.2.1.2, fun hm => ⟨hR, ⟨hH, hm⟩, hn⟩⟩
  have tl : ∀ {w' : World}, Ext w w' → (n = 0 ∨ (n : Int) = g.s) → cond (((m : Nat) : Int) == 0) (true = decide (PRight g h n m) ∧ Ext w w') ((((m : Nat) : Int) == 32) = decide (PRight g h n m) ∧ Ext w w') := fun he hn => by
    refine cond_eq (fun h0 => ⟨(decide_eq_true ((key hn).2 (by omega))).symm, he⟩) (fun h0 => ⟨?_, he⟩)
    by_cases h32 : m = 32
    · rw [decide_eq_true ((key hn).2 (.inr h32)), h32]; rfl
    · rw [decide_eq_false (fun hp => by have := (key hn).1 hp; omega)]
      simp; omega
  refine cond_eq (fun h0 => tl S.ext (.inl (by omega))) (fun h0 => ?_)
  (repeat ((first | refine S.newB fun _ _ S f _ => ?_ | refine S.la0 rfl ?_ | refine S.la1 rfl ?_ | refine S.la2 rfl ?_ | refine S.la3 rfl ?_ | refine S.la4 rfl ?_ | refine S.la5 rfl ?_ | refine S.ld0 rfl rfl ?_ | refine S.ld1 rfl rfl ?_ | refine S.ld2 rfl rfl ?_ | refine S.ld3 rfl rfl ?_ | refine S.ld4 rfl rfl ?_ | refine S.ld5 rfl rfl ?_ | refine S.st0 (by rfl) fun _ S f => ?_ | refine S.st1 (by rfl) fun _ S f => ?_ | refine S.st2 (by rfl) fun _ S f => ?_ | refine S.st3 (by rfl) fun _ S f => ?_ | refine S.st4 (by rfl) fun _ S f => ?_ | refine S.st5 (by rfl) fun _ S f => ?_ | refine S.su0 (by rfl) fun _ S f => ?_ | refine S.su1 (by rfl) fun _ S f => ?_ | refine S.su2 (by rfl) fun _ S f => ?_ | refine S.su3 (by rfl) fun _ S f => ?_ | refine S.su4 (by rfl) fun _ S f => ?_ | refine S.su5 (by rfl) fun _ S f => ?_ | refine ⟨by decide, ?_⟩); try dsimp only [List.set_cons_zero, List.set_cons_succ, cond_true, cond_false, Bool.not_true, Bool.not_false]))
  exact cond_eq (fun h1 => tl S.ext (.inr h1)) (fun h1 => no (fun hp => by have := hp.2.2; omega) S.ext)

theorem rMake_c {w : World} {g : Geo} {h : Hd} {a a2 : Option Addr} {n c m c2 : Nat} {xs ts : List Int} (hg : h.rng) (hx : Ints w .u8 a n c xs) (ht : Ints w .u8 a2 m c2 ts) (hp : PRight g h n m) :
    CallV Try.prog 22 #[g.val, h.val, .slice a n c, .slice a2 m c2] w [.one .sl] fun r w' => Res w w' r.1 (mkL g h xs ts) := by
  apply ref15_Make.vc
  unfold ref15_Make.P
  obtain ⟨hR, hE, hn⟩ := hp
  have S := Sep.start NoB w
  have hs := hR.sec
  have lx := hx.len
  have lt := ht.len
  have l4' : (endL h ts).length = 88 := endL_length h (by have := hE.2; omega)
  (repeat ((first | refine S.newB fun _ _ S f _ => ?_ | refine S.la0 rfl ?_ | refine S.la1 rfl ?_ | refine S.la2 rfl ?_ | refine S.la3 rfl ?_ | refine S.la4 rfl ?_ | refine S.la5 rfl ?_ | refine S.ld0 rfl rfl ?_ | refine S.ld1 rfl rfl ?_ | refine S.ld2 rfl rfl ?_ | refine S.ld3 rfl rfl ?_ | refine S.ld4 rfl rfl ?_ | refine S.ld5 rfl rfl ?_ | refine S.st0 (by rfl) fun _ S f => ?_ | refine S.st1 (by rfl) fun _ S f => ?_ | refine S.st2 (by rfl) fun _ S f => ?_ | refine S.st3 (by rfl) fun _ S f => ?_ | refine S.st4 (by rfl) fun _ S f => ?_ | refine S.st5 (by rfl) fun _ S f => ?_ | refine S.su0 (by rfl) fun _ S f => ?_ | refine S.su1 (by rfl) fun _ S f => ?_ | refine S.su2 (by rfl) fun _ S f => ?_ | refine S.su3 (by rfl) fun _ S f => ?_ | refine S.su4 (by rfl) fun _ S f => ?_ | refine S.su5 (by rfl) fun _ S f => ?_ | refine ⟨by decide, ?_⟩); try dsimp only [List.set_cons_zero, List.set_cons_succ, cond_true, cond_false, Bool.not_true, Bool.not_false]))
  refine cond_eq (fun h0 => ?_) (fun h0 => ?_)
  · (repeat ((first | refine S.newB fun _ _ S f _ => ?_ | refine S.la0 rfl ?_ | refine S.la1 rfl ?_ | refine S.la2 rfl ?_ | refine S.la3 rfl ?_ | refine S.la4 rfl ?_ | refine S.la5 rfl ?_ | refine S.ld0 rfl rfl ?_ | refine S.ld1 rfl rfl ?_ | refine S.ld2 rfl rfl ?_ | refine S.ld3 rfl rfl ?_ | refine S.ld4 rfl rfl ?_ | refine S.ld5 rfl rfl ?_ | refine S.st0 (by rfl) fun _ S f => ?_ | refine S.st1 (by rfl) fun _ S f => ?_ | refine S.st2 (by rfl) fun _ S f => ?_ | refine S.st3 (by rfl) fun _ S f => ?_ | refine S.st4 (by rfl) fun _ S f => ?_ | refine S.st5 (by rfl) fun _ S f => ?_ | refine S.su0 (by rfl) fun _ S f => ?_ | refine S.su1 (by rfl) fun _ S f => ?_ | refine S.su2 (by rfl) fun _ S f => ?_ | refine S.su3 (by rfl) fun _ S f => ?_ | refine S.su4 (by rfl) fun _ S f => ?_ | refine S.su5 (by rfl) fun _ S f => ?_ | refine ⟨by decide, ?_⟩); try dsimp only [List.set_cons_zero, List.set_cons_succ, cond_true, cond_false, Bool.not_true, Bool.not_false]))
    refine rFill_c.mono ?_
    rintro ⟨⟨sa, sn, sc⟩, ⟨⟩⟩ w3 h3
    dsimp only at h3 ⊢
    have l3 := h3.ints.len
    rw [List.length_replicate, fill_sec hs] at l3
    have S := S.res h3
    rw [fill_sec hs] at S
    dsimp only at l3 S
    subst l3
    refine S.reg fun D hD hkeep Sd T => ?_
    (repeat ((first | refine ⟨hD _ (by first | exact Sd.bl0 | exact Sd.bl1 | exact Sd.bl2 | exact Sd.bl3 | exact Sd.bl4 | exact Sd.bl5 | exact Sd.bl6 | exact Sd.bl7), ?_⟩ | refine (Sd.step0 T.fr).la0 rfl ?_ | refine (Sd.step0 T.fr).la1 rfl ?_ | refine (Sd.step0 T.fr).la2 rfl ?_ | refine (Sd.step0 T.fr).la3 rfl ?_ | refine (Sd.step0 T.fr).la4 rfl ?_ | refine (Sd.step0 T.fr).la5 rfl ?_ | refine (Sd.step0 T.fr).la6 rfl ?_ | refine (Sd.step0 T.fr).la7 rfl ?_ | refine (Sd.step0 T.fr).ld0 rfl rfl ?_ | refine (Sd.step0 T.fr).ld1 rfl rfl ?_ | refine (Sd.step0 T.fr).ld2 rfl rfl ?_ | refine (Sd.step0 T.fr).ld3 rfl rfl ?_ | refine (Sd.step0 T.fr).ld4 rfl rfl ?_ | refine (Sd.step0 T.fr).ld5 rfl rfl ?_ | refine (Sd.step0 T.fr).ld6 rfl rfl ?_ | refine (Sd.step0 T.fr).ld7 rfl rfl ?_ | refine ⟨by decide, ?_⟩ | refine ⟨hkeep _ T.fr, ?_⟩); try dsimp only))
    refine T.newB fun b5 w5 T f _ => ?_
    (repeat ((first | refine ⟨hD _ (by first | exact Sd.bl0 | exact Sd.bl1 | exact Sd.bl2 | exact Sd.bl3 | exact Sd.bl4 | exact Sd.bl5 | exact Sd.bl6 | exact Sd.bl7), ?_⟩ | refine (Sd.step0 T.fr).la0 rfl ?_ | refine (Sd.step0 T.fr).la1 rfl ?_ | refine (Sd.step0 T.fr).la2 rfl ?_ | refine (Sd.step0 T.fr).la3 rfl ?_ | refine (Sd.step0 T.fr).la4 rfl ?_ | refine (Sd.step0 T.fr).la5 rfl ?_ | refine (Sd.step0 T.fr).la6 rfl ?_ | refine (Sd.step0 T.fr).la7 rfl ?_ | refine (Sd.step0 T.fr).ld0 rfl rfl ?_ | refine (Sd.step0 T.fr).ld1 rfl rfl ?_ | refine (Sd.step0 T.fr).ld2 rfl rfl ?_ | refine (Sd.step0 T.fr).ld3 rfl rfl ?_ | refine (Sd.step0 T.fr).ld4 rfl rfl ?_ | refine (Sd.step0 T.fr).ld5 rfl rfl ?_ | refine (Sd.step0 T.fr).ld6 rfl rfl ?_ | refine (Sd.step0 T.fr).ld7 rfl rfl ?_ | refine ⟨by decide, ?_⟩ | refine ⟨hkeep _ T.fr, ?_⟩); try dsimp only))
    have T := T.asOwn (sz := 1) (n := 0) rfl (by omega) oneAll.nil
    refine T.ab0 (xs := []) (Sd.step0 T.fr).in0 (by omega) fun a5 c5 w5 T f5 => ?_
    (repeat ((first | refine ⟨hD _ (by first | exact Sd.bl0 | exact Sd.bl1 | exact Sd.bl2 | exact Sd.bl3 | exact Sd.bl4 | exact Sd.bl5 | exact Sd.bl6 | exact Sd.bl7), ?_⟩ | refine (Sd.step0 T.fr).la0 rfl ?_ | refine (Sd.step0 T.fr).la1 rfl ?_ | refine (Sd.step0 T.fr).la2 rfl ?_ | refine (Sd.step0 T.fr).la3 rfl ?_ | refine (Sd.step0 T.fr).la4 rfl ?_ | refine (Sd.step0 T.fr).la5 rfl ?_ | refine (Sd.step0 T.fr).la6 rfl ?_ | refine (Sd.step0 T.fr).la7 rfl ?_ | refine (Sd.step0 T.fr).ld0 rfl rfl ?_ | refine (Sd.step0 T.fr).ld1 rfl rfl ?_ | refine (Sd.step0 T.fr).ld2 rfl rfl ?_ | refine (Sd.step0 T.fr).ld3 rfl rfl ?_ | refine (Sd.step0 T.fr).ld4 rfl rfl ?_ | refine (Sd.step0 T.fr).ld5 rfl rfl ?_ | refine (Sd.step0 T.fr).ld6 rfl rfl ?_ | refine (Sd.step0 T.fr).ld7 rfl rfl ?_ | refine ⟨by decide, ?_⟩ | refine ⟨hkeep _ T.fr, ?_⟩); try dsimp only))
    refine (rEnd_c hg (ht.ext (Sd.ext.trans T.ext)) hE).mono ?_
    rintro ⟨⟨ea, en, ec⟩, ⟨⟩⟩ w6 h6
    have l4 := h6.ints.len
    dsimp only at h6 l4 ⊢
    have T := T.res h6
    dsimp only at T
    (repeat ((first | refine ⟨hD _ (by first | exact Sd.bl0 | exact Sd.bl1 | exact Sd.bl2 | exact Sd.bl3 | exact Sd.bl4 | exact Sd.bl5 | exact Sd.bl6 | exact Sd.bl7), ?_⟩ | refine (Sd.step0 T.fr).la0 rfl ?_ | refine (Sd.step0 T.fr).la1 rfl ?_ | refine (Sd.step0 T.fr).la2 rfl ?_ | refine (Sd.step0 T.fr).la3 rfl ?_ | refine (Sd.step0 T.fr).la4 rfl ?_ | refine (Sd.step0 T.fr).la5 rfl ?_ | refine (Sd.step0 T.fr).la6 rfl ?_ | refine (Sd.step0 T.fr).la7 rfl ?_ | refine (Sd.step0 T.fr).ld0 rfl rfl ?_ | refine (Sd.step0 T.fr).ld1 rfl rfl ?_ | refine (Sd.step0 T.fr).ld2 rfl rfl ?_ | refine (Sd.step0 T.fr).ld3 rfl rfl ?_ | refine (Sd.step0 T.fr).ld4 rfl rfl ?_ | refine (Sd.step0 T.fr).ld5 rfl rfl ?_ | refine (Sd.step0 T.fr).ld6 rfl rfl ?_ | refine (Sd.step0 T.fr).ld7 rfl rfl ?_ | refine ⟨by decide, ?_⟩ | refine ⟨hkeep _ T.fr, ?_⟩); try dsimp only))
    refine T.ab1 T.in0 (by omega) fun a7 c7 w7 T f7 => ?_
    (repeat ((first | refine ⟨hD _ (by first | exact Sd.bl0 | exact Sd.bl1 | exact Sd.bl2 | exact Sd.bl3 | exact Sd.bl4 | exact Sd.bl5 | exact Sd.bl6 | exact Sd.bl7), ?_⟩ | refine (Sd.step0 T.fr).la0 rfl ?_ | refine (Sd.step0 T.fr).la1 rfl ?_ | refine (Sd.step0 T.fr).la2 rfl ?_ | refine (Sd.step0 T.fr).la3 rfl ?_ | refine (Sd.step0 T.fr).la4 rfl ?_ | refine (Sd.step0 T.fr).la5 rfl ?_ | refine (Sd.step0 T.fr).la6 rfl ?_ | refine (Sd.step0 T.fr).la7 rfl ?_ | refine (Sd.step0 T.fr).ld0 rfl rfl ?_ | refine (Sd.step0 T.fr).ld1 rfl rfl ?_ | refine (Sd.step0 T.fr).ld2 rfl rfl ?_ | refine (Sd.step0 T.fr).ld3 rfl rfl ?_ | refine (Sd.step0 T.fr).ld4 rfl rfl ?_ | refine (Sd.step0 T.fr).ld5 rfl rfl ?_ | refine (Sd.step0 T.fr).ld6 rfl rfl ?_ | refine (Sd.step0 T.fr).ld7 rfl rfl ?_ | refine ⟨by decide, ?_⟩ | refine ⟨hkeep _ T.fr, ?_⟩); try dsimp only))
    have R := (T.tail).out
    have hq : [] ++ List.replicate g.s.toNat 255 ++ endL h ts = mkL g h xs ts := by unfold mkL payL; rw [if_pos (by omega)]; rfl
    rw [hq] at R
    exact R.after Sd.ext
  · refine S.reg fun D hD hkeep Sd T => ?_
    (repeat ((first | refine ⟨hD _ (by first | exact Sd.bl0 | exact Sd.bl1 | exact Sd.bl2 | exact Sd.bl3 | exact Sd.bl4 | exact Sd.bl5 | exact Sd.bl6 | exact Sd.bl7), ?_⟩ | refine (Sd.step0 T.fr).la0 rfl ?_ | refine (Sd.step0 T.fr).la1 rfl ?_ | refine (Sd.step0 T.fr).la2 rfl ?_ | refine (Sd.step0 T.fr).la3 rfl ?_ | refine (Sd.step0 T.fr).la4 rfl ?_ | refine (Sd.step0 T.fr).la5 rfl ?_ | refine (Sd.step0 T.fr).la6 rfl ?_ | refine (Sd.step0 T.fr).la7 rfl ?_ | refine (Sd.step0 T.fr).ld0 rfl rfl ?_ | refine (Sd.step0 T.fr).ld1 rfl rfl ?_ | refine (Sd.step0 T.fr).ld2 rfl rfl ?_ | refine (Sd.step0 T.fr).ld3 rfl rfl ?_ | refine (Sd.step0 T.fr).ld4 rfl rfl ?_ | refine (Sd.step0 T.fr).ld5 rfl rfl ?_ | refine (Sd.step0 T.fr).ld6 rfl rfl ?_ | refine (Sd.step0 T.fr).ld7 rfl rfl ?_ | refine ⟨by decide, ?_⟩ | refine ⟨hkeep _ T.fr, ?_⟩); try dsimp only))
    refine T.newB fun b5 w5 T f _ => ?_
    (repeat ((first | refine ⟨hD _ (by first | exact Sd.bl0 | exact Sd.bl1 | exact Sd.bl2 | exact Sd.bl3 | exact Sd.bl4 | exact Sd.bl5 | exact Sd.bl6 | exact Sd.bl7), ?_⟩ | refine (Sd.step0 T.fr).la0 rfl ?_ | refine (Sd.step0 T.fr).la1 rfl ?_ | refine (Sd.step0 T.fr).la2 rfl ?_ | refine (Sd.step0 T.fr).la3 rfl ?_ | refine (Sd.step0 T.fr).la4 rfl ?_ | refine (Sd.step0 T.fr).la5 rfl ?_ | refine (Sd.step0 T.fr).la6 rfl ?_ | refine (Sd.step0 T.fr).la7 rfl ?_ | refine (Sd.step0 T.fr).ld0 rfl rfl ?_ | refine (Sd.step0 T.fr).ld1 rfl rfl ?_ | refine (Sd.step0 T.fr).ld2 rfl rfl ?_ | refine (Sd.step0 T.fr).ld3 rfl rfl ?_ | refine (Sd.step0 T.fr).ld4 rfl rfl ?_ | refine (Sd.step0 T.fr).ld5 rfl rfl ?_ | refine (Sd.step0 T.fr).ld6 rfl rfl ?_ | refine (Sd.step0 T.fr).ld7 rfl rfl ?_ | refine ⟨by decide, ?_⟩ | refine ⟨hkeep _ T.fr, ?_⟩); try dsimp only))
    have T := T.asOwn (sz := 1) (n := 0) rfl (by omega) oneAll.nil
    refine T.ab0 (xs := []) (hx.ext (Sd.ext.trans T.ext)) (by omega) fun a5 c5 w5 T f5 => ?_
    (repeat ((first | refine ⟨hD _ (by first | exact Sd.bl0 | exact Sd.bl1 | exact Sd.bl2 | exact Sd.bl3 | exact Sd.bl4 | exact Sd.bl5 | exact Sd.bl6 | exact Sd.bl7), ?_⟩ | refine (Sd.step0 T.fr).la0 rfl ?_ | refine (Sd.step0 T.fr).la1 rfl ?_ | refine (Sd.step0 T.fr).la2 rfl ?_ | refine (Sd.step0 T.fr).la3 rfl ?_ | refine (Sd.step0 T.fr).la4 rfl ?_ | refine (Sd.step0 T.fr).la5 rfl ?_ | refine (Sd.step0 T.fr).la6 rfl ?_ | refine (Sd.step0 T.fr).la7 rfl ?_ | refine (Sd.step0 T.fr).ld0 rfl rfl ?_ | refine (Sd.step0 T.fr).ld1 rfl rfl ?_ | refine (Sd.step0 T.fr).ld2 rfl rfl ?_ | refine (Sd.step0 T.fr).ld3 rfl rfl ?_ | refine (Sd.step0 T.fr).ld4 rfl rfl ?_ | refine (Sd.step0 T.fr).ld5 rfl rfl ?_ | refine (Sd.step0 T.fr).ld6 rfl rfl ?_ | refine (Sd.step0 T.fr).ld7 rfl rfl ?_ | refine ⟨by decide, ?_⟩ | refine ⟨hkeep _ T.fr, ?_⟩); try dsimp only))
    refine (rEnd_c hg (ht.ext (Sd.ext.trans T.ext)) hE).mono ?_
    rintro ⟨⟨ea, en, ec⟩, ⟨⟩⟩ w6 h6
    have l4 := h6.ints.len
    dsimp only at h6 l4 ⊢
    have T := T.res h6
    dsimp only at T
    (repeat ((first | refine ⟨hD _ (by first | exact Sd.bl0 | exact Sd.bl1 | exact Sd.bl2 | exact Sd.bl3 | exact Sd.bl4 | exact Sd.bl5 | exact Sd.bl6 | exact Sd.bl7), ?_⟩ | refine (Sd.step0 T.fr).la0 rfl ?_ | refine (Sd.step0 T.fr).la1 rfl ?_ | refine (Sd.step0 T.fr).la2 rfl ?_ | refine (Sd.step0 T.fr).la3 rfl ?_ | refine (Sd.step0 T.fr).la4 rfl ?_ | refine (Sd.step0 T.fr).la5 rfl ?_ | refine (Sd.step0 T.fr).la6 rfl ?_ | refine (Sd.step0 T.fr).la7 rfl ?_ | refine (Sd.step0 T.fr).ld0 rfl rfl ?_ | refine (Sd.step0 T.fr).ld1 rfl rfl ?_ | refine (Sd.step0 T.fr).ld2 rfl rfl ?_ | refine (Sd.step0 T.fr).ld3 rfl rfl ?_ | refine (Sd.step0 T.fr).ld4 rfl rfl ?_ | refine (Sd.step0 T.fr).ld5 rfl rfl ?_ | refine (Sd.step0 T.fr).ld6 rfl rfl ?_ | refine (Sd.step0 T.fr).ld7 rfl rfl ?_ | refine ⟨by decide, ?_⟩ | refine ⟨hkeep _ T.fr, ?_⟩); try dsimp only))
    refine T.ab1 T.in0 (by omega) fun a7 c7 w7 T f7 => ?_
    (repeat ((first | refine ⟨hD _ (by first | exact Sd.bl0 | exact Sd.bl1 | exact Sd.bl2 | exact Sd.bl3 | exact Sd.bl4 | exact Sd.bl5 | exact Sd.bl6 | exact Sd.bl7), ?_⟩ | refine (Sd.step0 T.fr).la0 rfl ?_ | refine (Sd.step0 T.fr).la1 rfl ?_ | refine (Sd.step0 T.fr).la2 rfl ?_ | refine (Sd.step0 T.fr).la3 rfl ?_ | refine (Sd.step0 T.fr).la4 rfl ?_ | refine (Sd.step0 T.fr).la5 rfl ?_ | refine (Sd.step0 T.fr).la6 rfl ?_ | refine (Sd.step0 T.fr).la7 rfl ?_ | refine (Sd.step0 T.fr).ld0 rfl rfl ?_ | refine (Sd.step0 T.fr).ld1 rfl rfl ?_ | refine (Sd.step0 T.fr).ld2 rfl rfl ?_ | refine (Sd.step0 T.fr).ld3 rfl rfl ?_ | refine (Sd.step0 T.fr).ld4 rfl rfl ?_ | refine (Sd.step0 T.fr).ld5 rfl rfl ?_ | refine (Sd.step0 T.fr).ld6 rfl rfl ?_ | refine (Sd.step0 T.fr).ld7 rfl rfl ?_ | refine ⟨by decide, ?_⟩ | refine ⟨hkeep _ T.fr, ?_⟩); try dsimp only))
    have R := (T.tail).out
    have hq : [] ++ xs ++ endL h ts = mkL g h xs ts := by unfold mkL payL; rw [if_neg (by omega)]; rfl
    rw [hq] at R
    exact R.after Sd.ext

end Go.Proofs.Ytfpkaebmiojicaa.Vc

/-! The contracts of layer 15 (page): what bytes tell. -/
namespace Go.Proofs.Ytfpkaebmiojicaa.Vc
open Go Go.Eng Go.RowKit
set_option linter.unusedVariables false
set_option linter.unusedSimpArgs false

abbrev PgT : Type := Int × Int × Int × Int × Int × Int × SlV × SlV × Bool × Unit
abbrev zPg : PgT := ((0 : Int), (0 : Int), (0 : Int), (0 : Int), (0 : Int), (0 : Int), (⟨none, 0, 0⟩ : SlV), (⟨none, 0, 0⟩ : SlV), false, ())
abbrev pgT (h : Hd) (s t : SlV) (d : Bool) : PgT := (h.k, h.n, h.c, h.l, h.e, h.t, s, t, d, ())
def endP (g : Geo) (xs : List Int) : List Int := xs.drop g.s.toNat
def lenP (g : Geo) (xs : List Int) : Prop := Right g ∧ (xs.length : Int) = g.s + 88
instance (g : Geo) (xs : List Int) : Decidable (lenP g xs) := by unfold lenP; infer_instance
abbrev pays (g : Geo) (xs : List Int) : List Int := xs.take g.s.toNat
abbrev tags (g : Geo) (xs : List Int) : List Int := part (endP g xs) 48 80
/-- What a page tells, in new memory. -/
def PgIs (w w' : World) (g : Geo) (xs : List Int) (q : PgT) : Prop := ∃ s t : SlV, q = pgT (hdOf (endP g xs)) s t (comm (endP g xs)) ∧ s.n = g.s.toNat ∧ t.n = 32 ∧ Sep NoB w w' [OwnA 5 1 s.a s.n s.c ((pays g xs).map (Value.int .u8)), OwnA 5 1 t.a t.n t.c ((tags g xs).map (Value.int .u8))]

theorem cut_c {w0 w : World} {g : Geo} {a : Option Addr} {n c : Nat} {xs : List Int} (hx : Ints w0 .u8 a n c xs) (hl : lenP g xs) :
    CallV Try.prog 66 #[g.val, .slice a n c] w [.agg [.sl, .sl]] fun r w' => Ext w w' ∧ Ints w0 .u8 r.1.1.a r.1.1.n r.1.1.c (pays g xs) ∧ Ints w0 .u8 r.1.2.1.a r.1.2.1.n r.1.2.1.c (endP g xs) := by
  apply page_cut.vc
  unfold page_cut.P
  have hs := hl.1.sec
  have hn := hl.2
  have lx := hx.len
  have hc := hx.cap
  have S := Sep.start NoB w
  refine S.newB fun b1 w1 S f _ => ?_
  refine S.newB fun b3 w2 S f _ => ?_
  have hb := S.ne 0 1 (by omega) rfl rfl
  refine S.regX (fun k => k = b3) fun D hD hkeep S _ => ?_
  have D1 := hD b1 S.bl1 (fun e => hb e.symm)
  refine ⟨D1, S.ld1 rfl rfl ⟨⟨by omega, by omega⟩, ?_⟩⟩
  intro a7 ha7
  refine ⟨D1, S.ld1 rfl rfl ⟨⟨by omega, by omega⟩, ?_⟩⟩
  intro a9 ha9
  dsimp only
  refine S.st0 (by rfl) fun w3 S f3 => ⟨hkeep _ f3, S.la0 rfl ?_⟩
  have i7 := hx.sub (l := 0) (hh := g.s.toNat) (m := c) (by omega) (by omega) (by omega) ha7
  have i9 := hx.sub (l := g.s.toNat) (hh := n) (m := c) (by omega) (by omega) (by omega) ha9
  rw [List.drop_zero, Nat.sub_zero] at i7
  rw [List.take_of_length_le (by rw [List.length_drop]; omega)] at i9
  exact ⟨S.ext, i7, i9⟩

theorem PRead_c {w : World} {g : Geo} {a : Option Addr} {n c : Nat} {xs : List Int} (hx : Ints w .u8 a n c xs) (bx : Byt xs) :
    CallV Try.prog 23 #[g.val, .slice a n c] w [.agg [.int .i64, .int .i64, .int .i64, .int .u32, .int .u64, .int .u64, .sl, .sl, .bool], .one (.int .i64)] fun r w' =>
      Ext w w' ∧ (¬ lenP g xs → r.1 = zPg ∧ r.2.1 = (2 : Int)) ∧ (lenP g xs → ¬ okR (endP g xs) → r.1 = zPg ∧ r.2.1 = (1 : Int)) ∧ (lenP g xs → okR (endP g xs) → r.2.1 = (0 : Int) ∧ PgIs w w' g xs r.1) := by
  apply page_Read.vc
  unfold page_Read.P
  have lx := hx.len
  have S := Sep.start NoB w
  refine S.newB fun b1 w1 S f _ => ?_
  refine S.newB fun b3 w2 S f _ => ?_
  (repeat ((first | refine S.newB fun _ _ S f _ => ?_ | refine S.la0 rfl ?_ | refine S.la1 rfl ?_ | refine S.la2 rfl ?_ | refine S.la3 rfl ?_ | refine S.la4 rfl ?_ | refine S.la5 rfl ?_ | refine S.ld0 rfl rfl ?_ | refine S.ld1 rfl rfl ?_ | refine S.ld2 rfl rfl ?_ | refine S.ld3 rfl rfl ?_ | refine S.ld4 rfl rfl ?_ | refine S.ld5 rfl rfl ?_ | refine S.st0 (by rfl) fun _ S f => ?_ | refine S.st1 (by rfl) fun _ S f => ?_ | refine S.st2 (by rfl) fun _ S f => ?_ | refine S.st3 (by rfl) fun _ S f => ?_ | refine S.st4 (by rfl) fun _ S f => ?_ | refine S.st5 (by rfl) fun _ S f => ?_ | refine S.su0 (by rfl) fun _ S f => ?_ | refine S.su1 (by rfl) fun _ S f => ?_ | refine S.su2 (by rfl) fun _ S f => ?_ | refine S.su3 (by rfl) fun _ S f => ?_ | refine S.su4 (by rfl) fun _ S f => ?_ | refine S.su5 (by rfl) fun _ S f => ?_ | refine ⟨by decide, ?_⟩); try dsimp only [List.set_cons_zero, List.set_cons_succ, cond_true, cond_false, Bool.not_true, Bool.not_false]))
  refine (Check_c (g := g)).mono ?_
  rintro ⟨(r : Int), ⟨⟩⟩ w2 ⟨h2, e2⟩
  dsimp only at h2 ⊢
  have S := S.stepE e2
  subst h2
  by_cases hR : Right g
  case neg =>
    refine cond_t (by unfold chkE; rw [if_neg hR]; rfl) ?_
    (repeat ((first | refine S.newB fun _ _ S f _ => ?_ | refine S.la0 rfl ?_ | refine S.la1 rfl ?_ | refine S.la2 rfl ?_ | refine S.la3 rfl ?_ | refine S.la4 rfl ?_ | refine S.la5 rfl ?_ | refine S.ld0 rfl rfl ?_ | refine S.ld1 rfl rfl ?_ | refine S.ld2 rfl rfl ?_ | refine S.ld3 rfl rfl ?_ | refine S.ld4 rfl rfl ?_ | refine S.ld5 rfl rfl ?_ | refine S.st0 (by rfl) fun _ S f => ?_ | refine S.st1 (by rfl) fun _ S f => ?_ | refine S.st2 (by rfl) fun _ S f => ?_ | refine S.st3 (by rfl) fun _ S f => ?_ | refine S.st4 (by rfl) fun _ S f => ?_ | refine S.st5 (by rfl) fun _ S f => ?_ | refine S.su0 (by rfl) fun _ S f => ?_ | refine S.su1 (by rfl) fun _ S f => ?_ | refine S.su2 (by rfl) fun _ S f => ?_ | refine S.su3 (by rfl) fun _ S f => ?_ | refine S.su4 (by rfl) fun _ S f => ?_ | refine S.su5 (by rfl) fun _ S f => ?_ | refine ⟨by decide, ?_⟩); try dsimp only [List.set_cons_zero, List.set_cons_succ, cond_true, cond_false, Bool.not_true, Bool.not_false]))
    exact ⟨S.ext, fun _ => ⟨rfl, rfl⟩, fun h => absurd h.1 hR, fun h => absurd h.1 hR⟩
  refine cond_f (by unfold chkE; rw [if_pos hR]; rfl) ?_
  have hs := hR.sec
  (repeat ((first | refine S.newB fun _ _ S f _ => ?_ | refine S.la0 rfl ?_ | refine S.la1 rfl ?_ | refine S.la2 rfl ?_ | refine S.la3 rfl ?_ | refine S.la4 rfl ?_ | refine S.la5 rfl ?_ | refine S.ld0 rfl rfl ?_ | refine S.ld1 rfl rfl ?_ | refine S.ld2 rfl rfl ?_ | refine S.ld3 rfl rfl ?_ | refine S.ld4 rfl rfl ?_ | refine S.ld5 rfl rfl ?_ | refine S.st0 (by rfl) fun _ S f => ?_ | refine S.st1 (by rfl) fun _ S f => ?_ | refine S.st2 (by rfl) fun _ S f => ?_ | refine S.st3 (by rfl) fun _ S f => ?_ | refine S.st4 (by rfl) fun _ S f => ?_ | refine S.st5 (by rfl) fun _ S f => ?_ | refine S.su0 (by rfl) fun _ S f => ?_ | refine S.su1 (by rfl) fun _ S f => ?_ | refine S.su2 (by rfl) fun _ S f => ?_ | refine S.su3 (by rfl) fun _ S f => ?_ | refine S.su4 (by rfl) fun _ S f => ?_ | refine S.su5 (by rfl) fun _ S f => ?_ | refine ⟨by decide, ?_⟩); try dsimp only [List.set_cons_zero, List.set_cons_succ, cond_true, cond_false, Bool.not_true, Bool.not_false]))
  refine (PageSize_c (g := g)).mono ?_
  rintro ⟨(r3 : Int), ⟨⟩⟩ w3 ⟨h3, e3⟩
  dsimp only at h3 ⊢
  have S := S.stepE e3
  rw [if_pos hR] at h3
  subst h3
  refine cond_ne (fun hne => ?_) (fun heq => ?_)
  · have hn : ¬ lenP g xs := fun h => hne (by have := h.2; omega)
    (repeat ((first | refine S.newB fun _ _ S f _ => ?_ | refine S.la0 rfl ?_ | refine S.la1 rfl ?_ | refine S.la2 rfl ?_ | refine S.la3 rfl ?_ | refine S.la4 rfl ?_ | refine S.la5 rfl ?_ | refine S.ld0 rfl rfl ?_ | refine S.ld1 rfl rfl ?_ | refine S.ld2 rfl rfl ?_ | refine S.ld3 rfl rfl ?_ | refine S.ld4 rfl rfl ?_ | refine S.ld5 rfl rfl ?_ | refine S.st0 (by rfl) fun _ S f => ?_ | refine S.st1 (by rfl) fun _ S f => ?_ | refine S.st2 (by rfl) fun _ S f => ?_ | refine S.st3 (by rfl) fun _ S f => ?_ | refine S.st4 (by rfl) fun _ S f => ?_ | refine S.st5 (by rfl) fun _ S f => ?_ | refine S.su0 (by rfl) fun _ S f => ?_ | refine S.su1 (by rfl) fun _ S f => ?_ | refine S.su2 (by rfl) fun _ S f => ?_ | refine S.su3 (by rfl) fun _ S f => ?_ | refine S.su4 (by rfl) fun _ S f => ?_ | refine S.su5 (by rfl) fun _ S f => ?_ | refine ⟨by decide, ?_⟩); try dsimp only [List.set_cons_zero, List.set_cons_succ, cond_true, cond_false, Bool.not_true, Bool.not_false]))
    exact ⟨S.ext, fun _ => ⟨rfl, rfl⟩, fun h => absurd h hn, fun h => absurd h hn⟩
  have hL : lenP g xs := ⟨hR, by omega⟩
  (repeat ((first | refine S.newB fun _ _ S f _ => ?_ | refine S.la0 rfl ?_ | refine S.la1 rfl ?_ | refine S.la2 rfl ?_ | refine S.la3 rfl ?_ | refine S.la4 rfl ?_ | refine S.la5 rfl ?_ | refine S.ld0 rfl rfl ?_ | refine S.ld1 rfl rfl ?_ | refine S.ld2 rfl rfl ?_ | refine S.ld3 rfl rfl ?_ | refine S.ld4 rfl rfl ?_ | refine S.ld5 rfl rfl ?_ | refine S.st0 (by rfl) fun _ S f => ?_ | refine S.st1 (by rfl) fun _ S f => ?_ | refine S.st2 (by rfl) fun _ S f => ?_ | refine S.st3 (by rfl) fun _ S f => ?_ | refine S.st4 (by rfl) fun _ S f => ?_ | refine S.st5 (by rfl) fun _ S f => ?_ | refine S.su0 (by rfl) fun _ S f => ?_ | refine S.su1 (by rfl) fun _ S f => ?_ | refine S.su2 (by rfl) fun _ S f => ?_ | refine S.su3 (by rfl) fun _ S f => ?_ | refine S.su4 (by rfl) fun _ S f => ?_ | refine S.su5 (by rfl) fun _ S f => ?_ | refine ⟨by decide, ?_⟩); try dsimp only [List.set_cons_zero, List.set_cons_succ, cond_true, cond_false, Bool.not_true, Bool.not_false]))
  refine (cut_c hx hL).mono ?_
  rintro ⟨⟨⟨pa, pn, pc⟩, ⟨ta, tn, tc⟩, ⟨⟩⟩, ⟨⟩⟩ w4 ⟨e4, ip, it⟩
  dsimp only at ip it ⊢
  have S := S.stepE e4
  have e4w := S.ext
  refine S.newB fun b5 w5 S f _ => ?_
  (repeat ((first | refine S.newB fun _ _ S f _ => ?_ | refine S.la0 rfl ?_ | refine S.la1 rfl ?_ | refine S.la2 rfl ?_ | refine S.la3 rfl ?_ | refine S.la4 rfl ?_ | refine S.la5 rfl ?_ | refine S.ld0 rfl rfl ?_ | refine S.ld1 rfl rfl ?_ | refine S.ld2 rfl rfl ?_ | refine S.ld3 rfl rfl ?_ | refine S.ld4 rfl rfl ?_ | refine S.ld5 rfl rfl ?_ | refine S.st0 (by rfl) fun _ S f => ?_ | refine S.st1 (by rfl) fun _ S f => ?_ | refine S.st2 (by rfl) fun _ S f => ?_ | refine S.st3 (by rfl) fun _ S f => ?_ | refine S.st4 (by rfl) fun _ S f => ?_ | refine S.st5 (by rfl) fun _ S f => ?_ | refine S.su0 (by rfl) fun _ S f => ?_ | refine S.su1 (by rfl) fun _ S f => ?_ | refine S.su2 (by rfl) fun _ S f => ?_ | refine S.su3 (by rfl) fun _ S f => ?_ | refine S.su4 (by rfl) fun _ S f => ?_ | refine S.su5 (by rfl) fun _ S f => ?_ | refine ⟨by decide, ?_⟩); try dsimp only [List.set_cons_zero, List.set_cons_succ, cond_true, cond_false, Bool.not_true, Bool.not_false]))
  have bt : Byt (endP g xs) := bx.drop _
  have le : (endP g xs).length = 88 := by unfold endP; rw [List.length_drop]; omega
  refine (Read_c (it.ext S.ext) bt).mono ?_
  rintro ⟨⟨(k1 : Int), (k2 : Int), (k3 : Int), (k4 : Int), (k5 : Int), (k6 : Int), ⟨⟩⟩, ⟨sa, sn, sc⟩, (e6 : Int), ⟨⟩⟩ w6 ⟨x6, -, hok, hno⟩
  dsimp only at hok hno ⊢
  by_cases hO : okR (endP g xs)
  case neg =>
    obtain ⟨h1, -, h3⟩ := hno le hO
    have S := S.stepE x6
    subst h3
    (repeat ((first | refine S.newB fun _ _ S f _ => ?_ | refine S.la0 rfl ?_ | refine S.la1 rfl ?_ | refine S.la2 rfl ?_ | refine S.la3 rfl ?_ | refine S.la4 rfl ?_ | refine S.la5 rfl ?_ | refine S.ld0 rfl rfl ?_ | refine S.ld1 rfl rfl ?_ | refine S.ld2 rfl rfl ?_ | refine S.ld3 rfl rfl ?_ | refine S.ld4 rfl rfl ?_ | refine S.ld5 rfl rfl ?_ | refine S.st0 (by rfl) fun _ S f => ?_ | refine S.st1 (by rfl) fun _ S f => ?_ | refine S.st2 (by rfl) fun _ S f => ?_ | refine S.st3 (by rfl) fun _ S f => ?_ | refine S.st4 (by rfl) fun _ S f => ?_ | refine S.st5 (by rfl) fun _ S f => ?_ | refine S.su0 (by rfl) fun _ S f => ?_ | refine S.su1 (by rfl) fun _ S f => ?_ | refine S.su2 (by rfl) fun _ S f => ?_ | refine S.su3 (by rfl) fun _ S f => ?_ | refine S.su4 (by rfl) fun _ S f => ?_ | refine S.su5 (by rfl) fun _ S f => ?_ | refine ⟨by decide, ?_⟩); try dsimp only [List.set_cons_zero, List.set_cons_succ, cond_true, cond_false, Bool.not_true, Bool.not_false]))
    exact ⟨S.ext, fun h => absurd hL h, fun _ _ => ⟨rfl, rfl⟩, fun _ h => absurd h hO⟩
  obtain ⟨h1, h2, h3⟩ := hok le hO
  subst h3
  have h1 : (k1, k2, k3, k4, k5, k6, ()) = (hdOf (endP g xs)).tup := h1
  simp only [Prod.mk.injEq, and_true] at h1
  obtain ⟨rfl, rfl, rfl, rfl, rfl, rfl⟩ := h1
  have l2 := h2.ints.len
  rw [part_length (by omega) (by omega)] at l2
  have S := S.res h2
  dsimp only at S l2
  subst l2
  (repeat ((first | refine S.newB fun _ _ S f _ => ?_ | refine S.la0 rfl ?_ | refine S.la1 rfl ?_ | refine S.la2 rfl ?_ | refine S.la3 rfl ?_ | refine S.la4 rfl ?_ | refine S.la5 rfl ?_ | refine S.ld0 rfl rfl ?_ | refine S.ld1 rfl rfl ?_ | refine S.ld2 rfl rfl ?_ | refine S.ld3 rfl rfl ?_ | refine S.ld4 rfl rfl ?_ | refine S.ld5 rfl rfl ?_ | refine S.st0 (by rfl) fun _ S f => ?_ | refine S.st1 (by rfl) fun _ S f => ?_ | refine S.st2 (by rfl) fun _ S f => ?_ | refine S.st3 (by rfl) fun _ S f => ?_ | refine S.st4 (by rfl) fun _ S f => ?_ | refine S.st5 (by rfl) fun _ S f => ?_ | refine S.su0 (by rfl) fun _ S f => ?_ | refine S.su1 (by rfl) fun _ S f => ?_ | refine S.su2 (by rfl) fun _ S f => ?_ | refine S.su3 (by rfl) fun _ S f => ?_ | refine S.su4 (by rfl) fun _ S f => ?_ | refine S.su5 (by rfl) fun _ S f => ?_ | refine ⟨by decide, ?_⟩); try dsimp only [List.set_cons_zero, List.set_cons_succ, cond_true, cond_false, Bool.not_true, Bool.not_false]))
  have hne1 := S.ne 0 3 (by omega) rfl rfl
  have hne2 := S.ne 2 3 (by omega) rfl rfl
  refine S.regX (fun k => k = b3) fun D hD hkeep Sd T => ?_
  refine ⟨hD _ Sd.bl0 hne1, Sd.la0 rfl ⟨by decide, hD _ Sd.bl2 hne2, Sd.ld2 rfl rfl ⟨by decide, hD _ Sd.bl2 hne2, Sd.ld2 rfl rfl ?_⟩⟩⟩
  dsimp only
  refine T.newB fun b7 w7 T f _ => ⟨hkeep _ T.fr.any, ?_⟩
  have T := T.asOwn (sz := 1) (n := 0) rfl (by omega) oneAll.nil
  have lp := ip.len
  have lp' : (pays g xs).length = g.s.toNat := by rw [List.length_take]; have := hL.2; omega
  refine T.ab0 (xs := []) (ip.ext (Sd.ext.trans T.ext)) (by omega) fun a8 c8 w8 T f8 => ⟨hkeep _ T.fr.any, ?_⟩
  refine (Committed_c (it.ext (Sd.ext.trans T.ext)) bt).mono ?_
  rintro ⟨(r9 : Bool), ⟨⟩⟩ w9 ⟨h9, x9⟩
  dsimp only at h9 ⊢
  subst h9
  have T := T.stepE x9
  refine ⟨hkeep _ T.fr.any, ?_⟩
  have S := Sd.frame0 T
  dsimp only [List.cons_append, List.nil_append] at S
  refine S.st4 (by rfl) fun w10 S f10 => ⟨hkeep _ (T.fr.any.trans f10), S.la4 rfl ?_⟩
  refine ⟨S.ext, fun h => absurd hL h, fun _ h => absurd hO h, fun _ _ => ⟨rfl, ⟨a8, 0 + pn, c8⟩, ⟨sa, 80 - 48, sc⟩, rfl, by show 0 + pn = _; omega, rfl, ?_⟩⟩
  exact S.sel2 0 1 rfl rfl

theorem PDone_c {w : World} {g : Geo} {a : Option Addr} {n c : Nat} {kind : Int} {xs : List Int} (hx : Ints w .u8 a n c xs) (bx : Byt xs) :
    CallV Try.prog 24 #[g.val, .slice a n c, .int .i64 kind] w [.agg [.int .i64, .int .i64, .int .i64, .int .u32, .int .u64, .int .u64, .sl, .sl, .bool], .one .bool] fun r w' =>
      Ext w w' ∧ (¬ (lenP g xs ∧ okR (endP g xs) ∧ comm (endP g xs) = true ∧ (hdOf (endP g xs)).k = kind) → r.1 = zPg ∧ r.2.1 = false) ∧ ((lenP g xs ∧ okR (endP g xs) ∧ comm (endP g xs) = true ∧ (hdOf (endP g xs)).k = kind) → r.2.1 = true ∧ PgIs w w' g xs r.1) := by
  apply page_Done.vc
  unfold page_Done.P
  have S := Sep.start NoB w
  (repeat ((first | refine S.newB fun _ _ S f _ => ?_ | refine S.la0 rfl ?_ | refine S.la1 rfl ?_ | refine S.la2 rfl ?_ | refine S.la3 rfl ?_ | refine S.la4 rfl ?_ | refine S.la5 rfl ?_ | refine S.ld0 rfl rfl ?_ | refine S.ld1 rfl rfl ?_ | refine S.ld2 rfl rfl ?_ | refine S.ld3 rfl rfl ?_ | refine S.ld4 rfl rfl ?_ | refine S.ld5 rfl rfl ?_ | refine S.st0 (by rfl) fun _ S f => ?_ | refine S.st1 (by rfl) fun _ S f => ?_ | refine S.st2 (by rfl) fun _ S f => ?_ | refine S.st3 (by rfl) fun _ S f => ?_ | refine S.st4 (by rfl) fun _ S f => ?_ | refine S.st5 (by rfl) fun _ S f => ?_ | refine S.su0 (by rfl) fun _ S f => ?_ | refine S.su1 (by rfl) fun _ S f => ?_ | refine S.su2 (by rfl) fun _ S f => ?_ | refine S.su3 (by rfl) fun _ S f => ?_ | refine S.su4 (by rfl) fun _ S f => ?_ | refine S.su5 (by rfl) fun _ S f => ?_ | refine ⟨by decide, ?_⟩); try dsimp only [List.set_cons_zero, List.set_cons_succ, cond_true, cond_false, Bool.not_true, Bool.not_false]))
  refine (PRead_c (g := g) (hx.ext S.ext) bx).mono ?_
  rintro ⟨⟨(k1 : Int), (k2 : Int), (k3 : Int), (k4 : Int), (k5 : Int), (k6 : Int), ⟨sa, sn, sc⟩, ⟨ta, tn, tc⟩, (d : Bool), ⟨⟩⟩, (e2 : Int), ⟨⟩⟩ w2 ⟨x2, h1, h2, h3⟩
  dsimp only at h1 h2 h3 ⊢
  by_cases hL : lenP g xs
  case neg =>
    obtain ⟨q1, q2⟩ := h1 hL
    have S := S.stepE x2
    subst q2
    (repeat ((first | refine S.newB fun _ _ S f _ => ?_ | refine S.la0 rfl ?_ | refine S.la1 rfl ?_ | refine S.la2 rfl ?_ | refine S.la3 rfl ?_ | refine S.la4 rfl ?_ | refine S.la5 rfl ?_ | refine S.ld0 rfl rfl ?_ | refine S.ld1 rfl rfl ?_ | refine S.ld2 rfl rfl ?_ | refine S.ld3 rfl rfl ?_ | refine S.ld4 rfl rfl ?_ | refine S.ld5 rfl rfl ?_ | refine S.st0 (by rfl) fun _ S f => ?_ | refine S.st1 (by rfl) fun _ S f => ?_ | refine S.st2 (by rfl) fun _ S f => ?_ | refine S.st3 (by rfl) fun _ S f => ?_ | refine S.st4 (by rfl) fun _ S f => ?_ | refine S.st5 (by rfl) fun _ S f => ?_ | refine S.su0 (by rfl) fun _ S f => ?_ | refine S.su1 (by rfl) fun _ S f => ?_ | refine S.su2 (by rfl) fun _ S f => ?_ | refine S.su3 (by rfl) fun _ S f => ?_ | refine S.su4 (by rfl) fun _ S f => ?_ | refine S.su5 (by rfl) fun _ S f => ?_ | refine ⟨by decide, ?_⟩); try dsimp only [List.set_cons_zero, List.set_cons_succ, cond_true, cond_false, Bool.not_true, Bool.not_false]))
    exact ⟨S.ext, fun _ => ⟨rfl, rfl⟩, fun h => absurd h.1 hL⟩
  by_cases hO : okR (endP g xs)
  case neg =>
    obtain ⟨q1, q2⟩ := h2 hL hO
    have S := S.stepE x2
    subst q2
    (repeat ((first | refine S.newB fun _ _ S f _ => ?_ | refine S.la0 rfl ?_ | refine S.la1 rfl ?_ | refine S.la2 rfl ?_ | refine S.la3 rfl ?_ | refine S.la4 rfl ?_ | refine S.la5 rfl ?_ | refine S.ld0 rfl rfl ?_ | refine S.ld1 rfl rfl ?_ | refine S.ld2 rfl rfl ?_ | refine S.ld3 rfl rfl ?_ | refine S.ld4 rfl rfl ?_ | refine S.ld5 rfl rfl ?_ | refine S.st0 (by rfl) fun _ S f => ?_ | refine S.st1 (by rfl) fun _ S f => ?_ | refine S.st2 (by rfl) fun _ S f => ?_ | refine S.st3 (by rfl) fun _ S f => ?_ | refine S.st4 (by rfl) fun _ S f => ?_ | refine S.st5 (by rfl) fun _ S f => ?_ | refine S.su0 (by rfl) fun _ S f => ?_ | refine S.su1 (by rfl) fun _ S f => ?_ | refine S.su2 (by rfl) fun _ S f => ?_ | refine S.su3 (by rfl) fun _ S f => ?_ | refine S.su4 (by rfl) fun _ S f => ?_ | refine S.su5 (by rfl) fun _ S f => ?_ | refine ⟨by decide, ?_⟩); try dsimp only [List.set_cons_zero, List.set_cons_succ, cond_true, cond_false, Bool.not_true, Bool.not_false]))
    exact ⟨S.ext, fun _ => ⟨rfl, rfl⟩, fun h => absurd h.2.1 hO⟩
  obtain ⟨q1, s, t, q2, ln, lt, T⟩ := h3 hL hO
  have S := S.frame0 T
  dsimp only [List.cons_append, List.nil_append] at S
  obtain ⟨s1, s2, s3⟩ := s
  obtain ⟨t1, t2, t3⟩ := t
  cases q2
  dsimp only at S
  subst q1
  (repeat ((first | refine S.newB fun _ _ S f _ => ?_ | refine S.la0 rfl ?_ | refine S.la1 rfl ?_ | refine S.la2 rfl ?_ | refine S.la3 rfl ?_ | refine S.la4 rfl ?_ | refine S.la5 rfl ?_ | refine S.ld0 rfl rfl ?_ | refine S.ld1 rfl rfl ?_ | refine S.ld2 rfl rfl ?_ | refine S.ld3 rfl rfl ?_ | refine S.ld4 rfl rfl ?_ | refine S.ld5 rfl rfl ?_ | refine S.st0 (by rfl) fun _ S f => ?_ | refine S.st1 (by rfl) fun _ S f => ?_ | refine S.st2 (by rfl) fun _ S f => ?_ | refine S.st3 (by rfl) fun _ S f => ?_ | refine S.st4 (by rfl) fun _ S f => ?_ | refine S.st5 (by rfl) fun _ S f => ?_ | refine S.su0 (by rfl) fun _ S f => ?_ | refine S.su1 (by rfl) fun _ S f => ?_ | refine S.su2 (by rfl) fun _ S f => ?_ | refine S.su3 (by rfl) fun _ S f => ?_ | refine S.su4 (by rfl) fun _ S f => ?_ | refine S.su5 (by rfl) fun _ S f => ?_ | refine ⟨by decide, ?_⟩); try dsimp only [List.set_cons_zero, List.set_cons_succ, cond_true, cond_false, Bool.not_true, Bool.not_false]))
  refine cond_of (fun hc => ?_) (fun hc => ?_)
  · (repeat ((first | refine S.newB fun _ _ S f _ => ?_ | refine S.la0 rfl ?_ | refine S.la1 rfl ?_ | refine S.la2 rfl ?_ | refine S.la3 rfl ?_ | refine S.la4 rfl ?_ | refine S.la5 rfl ?_ | refine S.ld0 rfl rfl ?_ | refine S.ld1 rfl rfl ?_ | refine S.ld2 rfl rfl ?_ | refine S.ld3 rfl rfl ?_ | refine S.ld4 rfl rfl ?_ | refine S.ld5 rfl rfl ?_ | refine S.st0 (by rfl) fun _ S f => ?_ | refine S.st1 (by rfl) fun _ S f => ?_ | refine S.st2 (by rfl) fun _ S f => ?_ | refine S.st3 (by rfl) fun _ S f => ?_ | refine S.st4 (by rfl) fun _ S f => ?_ | refine S.st5 (by rfl) fun _ S f => ?_ | refine S.su0 (by rfl) fun _ S f => ?_ | refine S.su1 (by rfl) fun _ S f => ?_ | refine S.su2 (by rfl) fun _ S f => ?_ | refine S.su3 (by rfl) fun _ S f => ?_ | refine S.su4 (by rfl) fun _ S f => ?_ | refine S.su5 (by rfl) fun _ S f => ?_ | refine ⟨by decide, ?_⟩); try dsimp only [List.set_cons_zero, List.set_cons_succ, cond_true, cond_false, Bool.not_true, Bool.not_false]))
    exact ⟨S.ext, fun _ => ⟨rfl, rfl⟩, fun h => by rw [h.2.2.1] at hc; cases hc⟩
  (repeat ((first | refine S.newB fun _ _ S f _ => ?_ | refine S.la0 rfl ?_ | refine S.la1 rfl ?_ | refine S.la2 rfl ?_ | refine S.la3 rfl ?_ | refine S.la4 rfl ?_ | refine S.la5 rfl ?_ | refine S.ld0 rfl rfl ?_ | refine S.ld1 rfl rfl ?_ | refine S.ld2 rfl rfl ?_ | refine S.ld3 rfl rfl ?_ | refine S.ld4 rfl rfl ?_ | refine S.ld5 rfl rfl ?_ | refine S.st0 (by rfl) fun _ S f => ?_ | refine S.st1 (by rfl) fun _ S f => ?_ | refine S.st2 (by rfl) fun _ S f => ?_ | refine S.st3 (by rfl) fun _ S f => ?_ | refine S.st4 (by rfl) fun _ S f => ?_ | refine S.st5 (by rfl) fun _ S f => ?_ | refine S.su0 (by rfl) fun _ S f => ?_ | refine S.su1 (by rfl) fun _ S f => ?_ | refine S.su2 (by rfl) fun _ S f => ?_ | refine S.su3 (by rfl) fun _ S f => ?_ | refine S.su4 (by rfl) fun _ S f => ?_ | refine S.su5 (by rfl) fun _ S f => ?_ | refine ⟨by decide, ?_⟩); try dsimp only [List.set_cons_zero, List.set_cons_succ, cond_true, cond_false, Bool.not_true, Bool.not_false]))
  refine cond_ne (fun hk => ?_) (fun hk => ?_)
  · (repeat ((first | refine S.newB fun _ _ S f _ => ?_ | refine S.la0 rfl ?_ | refine S.la1 rfl ?_ | refine S.la2 rfl ?_ | refine S.la3 rfl ?_ | refine S.la4 rfl ?_ | refine S.la5 rfl ?_ | refine S.ld0 rfl rfl ?_ | refine S.ld1 rfl rfl ?_ | refine S.ld2 rfl rfl ?_ | refine S.ld3 rfl rfl ?_ | refine S.ld4 rfl rfl ?_ | refine S.ld5 rfl rfl ?_ | refine S.st0 (by rfl) fun _ S f => ?_ | refine S.st1 (by rfl) fun _ S f => ?_ | refine S.st2 (by rfl) fun _ S f => ?_ | refine S.st3 (by rfl) fun _ S f => ?_ | refine S.st4 (by rfl) fun _ S f => ?_ | refine S.st5 (by rfl) fun _ S f => ?_ | refine S.su0 (by rfl) fun _ S f => ?_ | refine S.su1 (by rfl) fun _ S f => ?_ | refine S.su2 (by rfl) fun _ S f => ?_ | refine S.su3 (by rfl) fun _ S f => ?_ | refine S.su4 (by rfl) fun _ S f => ?_ | refine S.su5 (by rfl) fun _ S f => ?_ | refine ⟨by decide, ?_⟩); try dsimp only [List.set_cons_zero, List.set_cons_succ, cond_true, cond_false, Bool.not_true, Bool.not_false]))
    exact ⟨S.ext, fun _ => ⟨rfl, rfl⟩, fun h => absurd h.2.2.2 hk⟩
  (repeat ((first | refine S.newB fun _ _ S f _ => ?_ | refine S.la0 rfl ?_ | refine S.la1 rfl ?_ | refine S.la2 rfl ?_ | refine S.la3 rfl ?_ | refine S.la4 rfl ?_ | refine S.la5 rfl ?_ | refine S.ld0 rfl rfl ?_ | refine S.ld1 rfl rfl ?_ | refine S.ld2 rfl rfl ?_ | refine S.ld3 rfl rfl ?_ | refine S.ld4 rfl rfl ?_ | refine S.ld5 rfl rfl ?_ | refine S.st0 (by rfl) fun _ S f => ?_ | refine S.st1 (by rfl) fun _ S f => ?_ | refine S.st2 (by rfl) fun _ S f => ?_ | refine S.st3 (by rfl) fun _ S f => ?_ | refine S.st4 (by rfl) fun _ S f => ?_ | refine S.st5 (by rfl) fun _ S f => ?_ | refine S.su0 (by rfl) fun _ S f => ?_ | refine S.su1 (by rfl) fun _ S f => ?_ | refine S.su2 (by rfl) fun _ S f => ?_ | refine S.su3 (by rfl) fun _ S f => ?_ | refine S.su4 (by rfl) fun _ S f => ?_ | refine S.su5 (by rfl) fun _ S f => ?_ | refine ⟨by decide, ?_⟩); try dsimp only [List.set_cons_zero, List.set_cons_succ, cond_true, cond_false, Bool.not_true, Bool.not_false]))
  refine ⟨S.ext, fun h => absurd ⟨hL, hO, by simpa using hc, hk⟩ h, fun h => ⟨rfl, ⟨_, _, _⟩, ⟨_, _, _⟩, rfl, ln, lt, S.sel2 1 1 rfl rfl⟩⟩

end Go.Proofs.Ytfpkaebmiojicaa.Vc

/-! The contracts of layer 15 (page): the document's, and small ones. -/
namespace Go.Proofs.Ytfpkaebmiojicaa.Vc
open Go Go.Eng Go.RowKit
set_option linter.unusedVariables false
set_option linter.unusedSimpArgs false

abbrev PgU : Type := Int × Int × Int × Int × Int × Int × SlV × SlV × Bool × Bool × Unit
abbrev zPu : PgU := ((0 : Int), (0 : Int), (0 : Int), (0 : Int), (0 : Int), (0 : Int), (⟨none, 0, 0⟩ : SlV), (⟨none, 0, 0⟩ : SlV), false, false, ())
abbrev pgU (h : Hd) (s t : SlV) (d : Bool) : PgU := (h.k, h.n, h.c, h.l, h.e, h.t, s, t, d, true, ())

theorem rPRead_c {w0 w : World} {g : Geo} {a : Option Addr} {n c : Nat} {xs : List Int} (hx : Ints w0 .u8 a n c xs) (e0 : Ext w0 w) (bx : Byt xs) (hL : lenP g xs) :
    CallV Try.prog 28 #[g.val, .slice a n c] w [.agg [.int .i64, .int .i64, .int .i64, .int .u32, .int .u64, .int .u64, .sl, .sl, .bool, .bool]] fun r w' =>
      Ext w w' ∧ (¬ okR (endP g xs) → r.1 = zPu) ∧ (okR (endP g xs) → ∃ s t : SlV, r.1 = pgU (hdOf (endP g xs)) s t (comm (endP g xs)) ∧ Ints w0 .u8 s.a s.n s.c (pays g xs) ∧ Ints w0 .u8 t.a t.n t.c (tags g xs)) := by
  apply ref15_Read.vc
  unfold ref15_Read.P
  have lx := hx.len
  have hc := hx.cap
  have hs := hL.1.sec
  have hl := hL.2
  have S := Sep.start NoB w
  refine S.newB fun b1 w1 S f _ => ?_
  refine S.newB fun b3 w2 S f _ => ?_
  (repeat ((first | refine S.newB fun _ _ S f _ => ?_ | refine S.la0 rfl ?_ | refine S.la1 rfl ?_ | refine S.la2 rfl ?_ | refine S.la3 rfl ?_ | refine S.la4 rfl ?_ | refine S.la5 rfl ?_ | refine S.ld0 rfl rfl ?_ | refine S.ld1 rfl rfl ?_ | refine S.ld2 rfl rfl ?_ | refine S.ld3 rfl rfl ?_ | refine S.ld4 rfl rfl ?_ | refine S.ld5 rfl rfl ?_ | refine S.st0 (by rfl) fun _ S f => ?_ | refine S.st1 (by rfl) fun _ S f => ?_ | refine S.st2 (by rfl) fun _ S f => ?_ | refine S.st3 (by rfl) fun _ S f => ?_ | refine S.st4 (by rfl) fun _ S f => ?_ | refine S.st5 (by rfl) fun _ S f => ?_ | refine S.su0 (by rfl) fun _ S f => ?_ | refine S.su1 (by rfl) fun _ S f => ?_ | refine S.su2 (by rfl) fun _ S f => ?_ | refine S.su3 (by rfl) fun _ S f => ?_ | refine S.su4 (by rfl) fun _ S f => ?_ | refine S.su5 (by rfl) fun _ S f => ?_ | refine ⟨by decide, ?_⟩); try dsimp only [List.set_cons_zero, List.set_cons_succ, cond_true, cond_false, Bool.not_true, Bool.not_false]))
  refine ⟨⟨by omega, by omega⟩, ?_⟩
  intro a6 ha6
  have i6 := hx.sub (l := g.s.toNat) (hh := n) (m := c) (by omega) (by omega) (by omega) ha6
  rw [List.take_of_length_le (by rw [List.length_drop]; omega)] at i6
  have i6 : Ints w0 .u8 a6 (n - g.s.toNat) (c - g.s.toNat) (endP g xs) := i6
  have bt : Byt (endP g xs) := bx.drop _
  have le : (endP g xs).length = 88 := by unfold endP; rw [List.length_drop]; omega
  refine (rRead_c (i6.ext (e0.trans S.ext)) bt (by omega)).mono ?_
  rintro ⟨⟨(k1 : Int), (k2 : Int), (k3 : Int), (k4 : Int), (k5 : Int), (k6 : Int), ⟨⟩⟩, (o : Bool), ⟨⟩⟩ w3 ⟨x3, hok, hno⟩
  dsimp only at hok hno ⊢
  have S := S.stepE x3
  by_cases hO : okR (endP g xs)
  case neg =>
    obtain ⟨-, h2⟩ := hno hO
    subst h2
    (repeat ((first | refine S.newB fun _ _ S f _ => ?_ | refine S.la0 rfl ?_ | refine S.la1 rfl ?_ | refine S.la2 rfl ?_ | refine S.la3 rfl ?_ | refine S.la4 rfl ?_ | refine S.la5 rfl ?_ | refine S.ld0 rfl rfl ?_ | refine S.ld1 rfl rfl ?_ | refine S.ld2 rfl rfl ?_ | refine S.ld3 rfl rfl ?_ | refine S.ld4 rfl rfl ?_ | refine S.ld5 rfl rfl ?_ | refine S.st0 (by rfl) fun _ S f => ?_ | refine S.st1 (by rfl) fun _ S f => ?_ | refine S.st2 (by rfl) fun _ S f => ?_ | refine S.st3 (by rfl) fun _ S f => ?_ | refine S.st4 (by rfl) fun _ S f => ?_ | refine S.st5 (by rfl) fun _ S f => ?_ | refine S.su0 (by rfl) fun _ S f => ?_ | refine S.su1 (by rfl) fun _ S f => ?_ | refine S.su2 (by rfl) fun _ S f => ?_ | refine S.su3 (by rfl) fun _ S f => ?_ | refine S.su4 (by rfl) fun _ S f => ?_ | refine S.su5 (by rfl) fun _ S f => ?_ | refine ⟨by decide, ?_⟩); try dsimp only [List.set_cons_zero, List.set_cons_succ, cond_true, cond_false, Bool.not_true, Bool.not_false]))
    exact ⟨S.ext, fun _ => rfl, fun h => absurd h hO⟩
  obtain ⟨h1, h2⟩ := hok hO
  subst h2
  have h1 : (k1, k2, k3, k4, k5, k6, ()) = (hdOf (endP g xs)).tup := h1
  simp only [Prod.mk.injEq, and_true] at h1
  obtain ⟨rfl, rfl, rfl, rfl, rfl, rfl⟩ := h1
  (repeat ((first | refine S.newB fun _ _ S f _ => ?_ | refine S.la0 rfl ?_ | refine S.la1 rfl ?_ | refine S.la2 rfl ?_ | refine S.la3 rfl ?_ | refine S.la4 rfl ?_ | refine S.la5 rfl ?_ | refine S.ld0 rfl rfl ?_ | refine S.ld1 rfl rfl ?_ | refine S.ld2 rfl rfl ?_ | refine S.ld3 rfl rfl ?_ | refine S.ld4 rfl rfl ?_ | refine S.ld5 rfl rfl ?_ | refine S.st0 (by rfl) fun _ S f => ?_ | refine S.st1 (by rfl) fun _ S f => ?_ | refine S.st2 (by rfl) fun _ S f => ?_ | refine S.st3 (by rfl) fun _ S f => ?_ | refine S.st4 (by rfl) fun _ S f => ?_ | refine S.st5 (by rfl) fun _ S f => ?_ | refine S.su0 (by rfl) fun _ S f => ?_ | refine S.su1 (by rfl) fun _ S f => ?_ | refine S.su2 (by rfl) fun _ S f => ?_ | refine S.su3 (by rfl) fun _ S f => ?_ | refine S.su4 (by rfl) fun _ S f => ?_ | refine S.su5 (by rfl) fun _ S f => ?_ | refine ⟨by decide, ?_⟩); try dsimp only [List.set_cons_zero, List.set_cons_succ, cond_true, cond_false, Bool.not_true, Bool.not_false]))
  have hne0 := S.ne 0 1 (by omega) rfl rfl
  have hne1 := S.ne 1 2 (by omega) rfl rfl
  refine S.regX (fun k => k = b3) fun D hD hkeep Sd T => ?_
  refine ⟨hD _ Sd.bl0 hne0, Sd.la0 rfl ⟨hD _ Sd.bl2 (fun e => hne1 e.symm), Sd.ld2 rfl rfl ⟨⟨by omega, by omega⟩, ?_⟩⟩⟩
  intro a17 ha17
  refine ⟨⟨by omega, by omega, by omega⟩, ?_⟩
  intro a18 ha18
  have i17 := hx.sub (l := 0) (hh := g.s.toNat) (m := c) (by omega) (by omega) (by omega) ha17
  rw [List.drop_zero, Nat.sub_zero] at i17
  have i18 := sub_part i6 (i := 48) (j := 80) (m := c - g.s.toNat) (by omega) (by omega) (by omega) ha18
  refine (rCommitted_c (i6.ext (e0.trans Sd.ext)) (by omega)).mono ?_
  rintro ⟨(r9 : Bool), ⟨⟩⟩ w9 ⟨h9, x9⟩
  dsimp only at h9 ⊢
  subst h9
  have S := Sd.stepE x9
  refine ⟨hkeep _ (Fr.of x9).any, ?_⟩
  refine S.st1 (by rfl) fun w10 S f10 => ⟨hkeep _ ((Fr.of x9).any.trans f10), S.la1 rfl ?_⟩
  exact ⟨S.ext, fun h => absurd hO h, fun _ => ⟨_, _, rfl, i17, i18⟩⟩

theorem rPDone_c {w0 w : World} {g : Geo} {a : Option Addr} {n c : Nat} {kind : Int} {xs : List Int} (hx : Ints w0 .u8 a n c xs) (e0 : Ext w0 w) (bx : Byt xs) (hL : lenP g xs) :
    CallV Try.prog 29 #[g.val, .slice a n c, .int .i64 kind] w [.agg [.int .i64, .int .i64, .int .i64, .int .u32, .int .u64, .int .u64, .sl, .sl, .bool, .bool]] fun r w' =>
      Ext w w' ∧ (¬ (okR (endP g xs) ∧ comm (endP g xs) = true ∧ (hdOf (endP g xs)).k = kind) → r.1 = zPu) ∧
      ((okR (endP g xs) ∧ comm (endP g xs) = true ∧ (hdOf (endP g xs)).k = kind) → ∃ s t : SlV, r.1 = pgU (hdOf (endP g xs)) s t (comm (endP g xs)) ∧ Ints w0 .u8 s.a s.n s.c (pays g xs) ∧ Ints w0 .u8 t.a t.n t.c (tags g xs)) := by
  apply ref15_Done.vc
  unfold ref15_Done.P
  have S := Sep.start NoB w
  (repeat ((first | refine S.newB fun _ _ S f _ => ?_ | refine S.la0 rfl ?_ | refine S.la1 rfl ?_ | refine S.la2 rfl ?_ | refine S.la3 rfl ?_ | refine S.la4 rfl ?_ | refine S.la5 rfl ?_ | refine S.ld0 rfl rfl ?_ | refine S.ld1 rfl rfl ?_ | refine S.ld2 rfl rfl ?_ | refine S.ld3 rfl rfl ?_ | refine S.ld4 rfl rfl ?_ | refine S.ld5 rfl rfl ?_ | refine S.st0 (by rfl) fun _ S f => ?_ | refine S.st1 (by rfl) fun _ S f => ?_ | refine S.st2 (by rfl) fun _ S f => ?_ | refine S.st3 (by rfl) fun _ S f => ?_ | refine S.st4 (by rfl) fun _ S f => ?_ | refine S.st5 (by rfl) fun _ S f => ?_ | refine S.su0 (by rfl) fun _ S f => ?_ | refine S.su1 (by rfl) fun _ S f => ?_ | refine S.su2 (by rfl) fun _ S f => ?_ | refine S.su3 (by rfl) fun _ S f => ?_ | refine S.su4 (by rfl) fun _ S f => ?_ | refine S.su5 (by rfl) fun _ S f => ?_ | refine ⟨by decide, ?_⟩); try dsimp only [List.set_cons_zero, List.set_cons_succ, cond_true, cond_false, Bool.not_true, Bool.not_false]))
  refine (rPRead_c (g := g) hx (e0.trans S.ext) bx hL).mono ?_
  rintro ⟨⟨(k1 : Int), (k2 : Int), (k3 : Int), (k4 : Int), (k5 : Int), (k6 : Int), ⟨sa, sn, sc⟩, ⟨ta, tn, tc⟩, (d : Bool), (o : Bool), ⟨⟩⟩, ⟨⟩⟩ w2 ⟨x2, h2, h3⟩
  dsimp only at h2 h3 ⊢
  have S := S.stepE x2
  by_cases hO : okR (endP g xs)
  case neg =>
    have q1 := h2 hO
    cases q1
    (repeat ((first | refine S.newB fun _ _ S f _ => ?_ | refine S.la0 rfl ?_ | refine S.la1 rfl ?_ | refine S.la2 rfl ?_ | refine S.la3 rfl ?_ | refine S.la4 rfl ?_ | refine S.la5 rfl ?_ | refine S.ld0 rfl rfl ?_ | refine S.ld1 rfl rfl ?_ | refine S.ld2 rfl rfl ?_ | refine S.ld3 rfl rfl ?_ | refine S.ld4 rfl rfl ?_ | refine S.ld5 rfl rfl ?_ | refine S.st0 (by rfl) fun _ S f => ?_ | refine S.st1 (by rfl) fun _ S f => ?_ | refine S.st2 (by rfl) fun _ S f => ?_ | refine S.st3 (by rfl) fun _ S f => ?_ | refine S.st4 (by rfl) fun _ S f => ?_ | refine S.st5 (by rfl) fun _ S f => ?_ | refine S.su0 (by rfl) fun _ S f => ?_ | refine S.su1 (by rfl) fun _ S f => ?_ | refine S.su2 (by rfl) fun _ S f => ?_ | refine S.su3 (by rfl) fun _ S f => ?_ | refine S.su4 (by rfl) fun _ S f => ?_ | refine S.su5 (by rfl) fun _ S f => ?_ | refine ⟨by decide, ?_⟩); try dsimp only [List.set_cons_zero, List.set_cons_succ, cond_true, cond_false, Bool.not_true, Bool.not_false]))
    exact ⟨S.ext, fun _ => rfl, fun h => absurd h.1 hO⟩
  obtain ⟨s, t, q2, is, it⟩ := h3 hO
  cases q2
  (repeat ((first | refine S.newB fun _ _ S f _ => ?_ | refine S.la0 rfl ?_ | refine S.la1 rfl ?_ | refine S.la2 rfl ?_ | refine S.la3 rfl ?_ | refine S.la4 rfl ?_ | refine S.la5 rfl ?_ | refine S.ld0 rfl rfl ?_ | refine S.ld1 rfl rfl ?_ | refine S.ld2 rfl rfl ?_ | refine S.ld3 rfl rfl ?_ | refine S.ld4 rfl rfl ?_ | refine S.ld5 rfl rfl ?_ | refine S.st0 (by rfl) fun _ S f => ?_ | refine S.st1 (by rfl) fun _ S f => ?_ | refine S.st2 (by rfl) fun _ S f => ?_ | refine S.st3 (by rfl) fun _ S f => ?_ | refine S.st4 (by rfl) fun _ S f => ?_ | refine S.st5 (by rfl) fun _ S f => ?_ | refine S.su0 (by rfl) fun _ S f => ?_ | refine S.su1 (by rfl) fun _ S f => ?_ | refine S.su2 (by rfl) fun _ S f => ?_ | refine S.su3 (by rfl) fun _ S f => ?_ | refine S.su4 (by rfl) fun _ S f => ?_ | refine S.su5 (by rfl) fun _ S f => ?_ | refine ⟨by decide, ?_⟩); try dsimp only [List.set_cons_zero, List.set_cons_succ, cond_true, cond_false, Bool.not_true, Bool.not_false]))
  refine cond_of (fun hc => ?_) (fun hc => ?_)
  · (repeat ((first | refine S.newB fun _ _ S f _ => ?_ | refine S.la0 rfl ?_ | refine S.la1 rfl ?_ | refine S.la2 rfl ?_ | refine S.la3 rfl ?_ | refine S.la4 rfl ?_ | refine S.la5 rfl ?_ | refine S.ld0 rfl rfl ?_ | refine S.ld1 rfl rfl ?_ | refine S.ld2 rfl rfl ?_ | refine S.ld3 rfl rfl ?_ | refine S.ld4 rfl rfl ?_ | refine S.ld5 rfl rfl ?_ | refine S.st0 (by rfl) fun _ S f => ?_ | refine S.st1 (by rfl) fun _ S f => ?_ | refine S.st2 (by rfl) fun _ S f => ?_ | refine S.st3 (by rfl) fun _ S f => ?_ | refine S.st4 (by rfl) fun _ S f => ?_ | refine S.st5 (by rfl) fun _ S f => ?_ | refine S.su0 (by rfl) fun _ S f => ?_ | refine S.su1 (by rfl) fun _ S f => ?_ | refine S.su2 (by rfl) fun _ S f => ?_ | refine S.su3 (by rfl) fun _ S f => ?_ | refine S.su4 (by rfl) fun _ S f => ?_ | refine S.su5 (by rfl) fun _ S f => ?_ | refine ⟨by decide, ?_⟩); try dsimp only [List.set_cons_zero, List.set_cons_succ, cond_true, cond_false, Bool.not_true, Bool.not_false]))
    exact ⟨S.ext, fun _ => rfl, fun h => by rw [h.2.1] at hc; cases hc⟩
  (repeat ((first | refine S.newB fun _ _ S f _ => ?_ | refine S.la0 rfl ?_ | refine S.la1 rfl ?_ | refine S.la2 rfl ?_ | refine S.la3 rfl ?_ | refine S.la4 rfl ?_ | refine S.la5 rfl ?_ | refine S.ld0 rfl rfl ?_ | refine S.ld1 rfl rfl ?_ | refine S.ld2 rfl rfl ?_ | refine S.ld3 rfl rfl ?_ | refine S.ld4 rfl rfl ?_ | refine S.ld5 rfl rfl ?_ | refine S.st0 (by rfl) fun _ S f => ?_ | refine S.st1 (by rfl) fun _ S f => ?_ | refine S.st2 (by rfl) fun _ S f => ?_ | refine S.st3 (by rfl) fun _ S f => ?_ | refine S.st4 (by rfl) fun _ S f => ?_ | refine S.st5 (by rfl) fun _ S f => ?_ | refine S.su0 (by rfl) fun _ S f => ?_ | refine S.su1 (by rfl) fun _ S f => ?_ | refine S.su2 (by rfl) fun _ S f => ?_ | refine S.su3 (by rfl) fun _ S f => ?_ | refine S.su4 (by rfl) fun _ S f => ?_ | refine S.su5 (by rfl) fun _ S f => ?_ | refine ⟨by decide, ?_⟩); try dsimp only [List.set_cons_zero, List.set_cons_succ, cond_true, cond_false, Bool.not_true, Bool.not_false]))
  refine cond_ne (fun hk => ?_) (fun hk => ?_)
  · (repeat ((first | refine S.newB fun _ _ S f _ => ?_ | refine S.la0 rfl ?_ | refine S.la1 rfl ?_ | refine S.la2 rfl ?_ | refine S.la3 rfl ?_ | refine S.la4 rfl ?_ | refine S.la5 rfl ?_ | refine S.ld0 rfl rfl ?_ | refine S.ld1 rfl rfl ?_ | refine S.ld2 rfl rfl ?_ | refine S.ld3 rfl rfl ?_ | refine S.ld4 rfl rfl ?_ | refine S.ld5 rfl rfl ?_ | refine S.st0 (by rfl) fun _ S f => ?_ | refine S.st1 (by rfl) fun _ S f => ?_ | refine S.st2 (by rfl) fun _ S f => ?_ | refine S.st3 (by rfl) fun _ S f => ?_ | refine S.st4 (by rfl) fun _ S f => ?_ | refine S.st5 (by rfl) fun _ S f => ?_ | refine S.su0 (by rfl) fun _ S f => ?_ | refine S.su1 (by rfl) fun _ S f => ?_ | refine S.su2 (by rfl) fun _ S f => ?_ | refine S.su3 (by rfl) fun _ S f => ?_ | refine S.su4 (by rfl) fun _ S f => ?_ | refine S.su5 (by rfl) fun _ S f => ?_ | refine ⟨by decide, ?_⟩); try dsimp only [List.set_cons_zero, List.set_cons_succ, cond_true, cond_false, Bool.not_true, Bool.not_false]))
    exact ⟨S.ext, fun _ => rfl, fun h => absurd h.2.2 hk⟩
  (repeat ((first | refine S.newB fun _ _ S f _ => ?_ | refine S.la0 rfl ?_ | refine S.la1 rfl ?_ | refine S.la2 rfl ?_ | refine S.la3 rfl ?_ | refine S.la4 rfl ?_ | refine S.la5 rfl ?_ | refine S.ld0 rfl rfl ?_ | refine S.ld1 rfl rfl ?_ | refine S.ld2 rfl rfl ?_ | refine S.ld3 rfl rfl ?_ | refine S.ld4 rfl rfl ?_ | refine S.ld5 rfl rfl ?_ | refine S.st0 (by rfl) fun _ S f => ?_ | refine S.st1 (by rfl) fun _ S f => ?_ | refine S.st2 (by rfl) fun _ S f => ?_ | refine S.st3 (by rfl) fun _ S f => ?_ | refine S.st4 (by rfl) fun _ S f => ?_ | refine S.st5 (by rfl) fun _ S f => ?_ | refine S.su0 (by rfl) fun _ S f => ?_ | refine S.su1 (by rfl) fun _ S f => ?_ | refine S.su2 (by rfl) fun _ S f => ?_ | refine S.su3 (by rfl) fun _ S f => ?_ | refine S.su4 (by rfl) fun _ S f => ?_ | refine S.su5 (by rfl) fun _ S f => ?_ | refine ⟨by decide, ?_⟩); try dsimp only [List.set_cons_zero, List.set_cons_succ, cond_true, cond_false, Bool.not_true, Bool.not_false]))
  exact ⟨S.ext, fun h => absurd ⟨hO, by simpa using hc, hk⟩ h, fun h => ⟨_, _, rfl, is, it⟩⟩

theorem and8_nat (x y : Nat) (hx : x < 256) (hy : y < 256) : Go.bits .and .u8 (x : Int) (y : Int) = ((x &&& y : Nat) : Int) := by
  rw [bits8]
  simp only [ofInt8 x hx, ofInt8 y hy, BitVec.toNat_and, BitVec.toNat_ofNat, Nat.mod_eq_of_lt hx, Nat.mod_eq_of_lt hy, Nat.reducePow, u8_wrap]
  have : x &&& y < 256 := Nat.and_lt_two_pow (n := 8) x hy
  omega
theorem and8_full {a b : Int} (ha : 0 ≤ a ∧ a < 256) (hb : 0 ≤ b ∧ b < 256) : Go.bits .and .u8 a b = 255 ↔ a = 255 ∧ b = 255 := by
  obtain ⟨⟨x, hx⟩, rfl⟩ := byte_nat ha
  obtain ⟨⟨y, hy⟩, rfl⟩ := byte_nat hb
  rw [and8_nat x y hx hy]
  have h1 : x &&& y ≤ x := Nat.and_le_left
  have h2 : x &&& y ≤ y := Nat.and_le_right
  constructor
  · intro h; dsimp only at *; omega
  · rintro ⟨h, h'⟩
    dsimp only at *
    have e1 : x = 255 := by omega
    have e2 : y = 255 := by omega
    subst e1; subst e2; rfl

theorem Blank_c {w : World} {a : Option Addr} {n c : Nat} {xs : List Int} (hx : Ints w .u8 a n c xs) (bx : Byt xs) : CallV Try.prog 25 #[.slice a n c] w [.one .bool] fun r w' => r.1 = decide (xs = List.replicate xs.length 255) ∧ w' = w := by
  apply page_Blank.vc
  unfold page_Blank.P
  have lx := hx.len
  have lim := hx.lim
  refine Loop1 (fun (y : Int × Int × Unit) w' => ∃ i : Nat, y.2.1 = (i : Int) ∧ i ≤ n ∧ (0 ≤ y.1 ∧ y.1 < 256) ∧ (y.1 = 255 ↔ xs.take i = List.replicate i 255) ∧ w' = w) (fun (y : Int × Int × Unit) _ => ((n : Int) - y.2.1).toNat) ⟨0, rfl, by omega, by decide, ⟨fun _ => rfl, fun _ => rfl⟩, rfl⟩ ?_
  rintro ⟨(y : Int), (z : Int), ⟨⟩⟩ w' ⟨i, hz, hi, hy, hall, rfl⟩
  dsimp only at hz hy hall ⊢
  subst hz
  refine cond_d (fun hlt => ?_) (fun hge => ?_)
  · refine hx.idx (by omega) hlt ?_
    rw [Int.toNat_natCast]
    have hb := bx.getD i
    refine ⟨Rng.i64 (by omega) (by omega), ⟨i + 1, by push_cast; rfl, by omega, bits8_byt _ _ _, ?_, rfl⟩, by omega⟩
    show Go.bits .and .u8 y _ = 255 ↔ _
    rw [and8_full hy hb, hall, List.take_succ_eq_append_getElem (by omega), List.replicate_succ', getD_get (by omega)]
    constructor
    · rintro ⟨h1, h2⟩; rw [h1, h2]
    · intro h
      have := List.append_inj h (by rw [List.length_take, List.length_replicate]; omega)
      exact ⟨this.1, by simpa using this.2⟩
  · have : i = n := by omega
    subst this
    rw [List.take_of_length_le (by omega), ← lx] at hall
    refine ⟨?_, rfl⟩
    show (y == 255) = _
    by_cases h : y = 255
    · rw [decide_eq_true (hall.1 h), h]; rfl
    · rw [decide_eq_false (fun hh => h (hall.2 hh))]; simpa using h

theorem same15_c {w : World} {g h : Hd} {s t s' t' : SlV} {d d' o : Bool} {xs ts xs' ts' : List Int} (i1 : Ints w .u8 s.a s.n s.c xs) (i2 : Ints w .u8 t.a t.n t.c ts) (i3 : Ints w .u8 s'.a s'.n s'.c xs') (i4 : Ints w .u8 t'.a t'.n t'.c ts') :
    CallV Try.prog 27 #[.agg #[.int .i64 g.k, .int .i64 g.n, .int .i64 g.c, .int .u32 g.l, .int .u64 g.e, .int .u64 g.t, .slice s.a s.n s.c, .slice t.a t.n t.c, .bool d],
      .agg #[.int .i64 h.k, .int .i64 h.n, .int .i64 h.c, .int .u32 h.l, .int .u64 h.e, .int .u64 h.t, .slice s'.a s'.n s'.c, .slice t'.a t'.n t'.c, .bool d', .bool o]] w [.one .bool] fun r w' => Ext w w' ∧ (g = h → d = d' → xs = xs' → ts = ts' → r.1 = true) := by
  apply law15_same.vc
  unfold law15_same.P
  have S := Sep.start NoB w
  refine S.newB fun b1 w1 S f _ => ?_
  refine S.newB fun b3 w2 S f _ => ?_
  refine S.lb1 (o := 0) rfl ?_
  refine S.lb0 (o := 0) rfl ?_
  refine eqHd (g := g) (h := h) ?_
  refine cond_of (fun hh => ?_) (fun hh => ⟨S.ext, fun q => by subst q; simp at hh⟩)
  (repeat ((first | refine S.newB fun _ _ S f _ => ?_ | refine S.la0 rfl ?_ | refine S.la1 rfl ?_ | refine S.la2 rfl ?_ | refine S.la3 rfl ?_ | refine S.la4 rfl ?_ | refine S.la5 rfl ?_ | refine S.ld0 rfl rfl ?_ | refine S.ld1 rfl rfl ?_ | refine S.ld2 rfl rfl ?_ | refine S.ld3 rfl rfl ?_ | refine S.ld4 rfl rfl ?_ | refine S.ld5 rfl rfl ?_ | refine S.st0 (by rfl) fun _ S f => ?_ | refine S.st1 (by rfl) fun _ S f => ?_ | refine S.st2 (by rfl) fun _ S f => ?_ | refine S.st3 (by rfl) fun _ S f => ?_ | refine S.st4 (by rfl) fun _ S f => ?_ | refine S.st5 (by rfl) fun _ S f => ?_ | refine S.su0 (by rfl) fun _ S f => ?_ | refine S.su1 (by rfl) fun _ S f => ?_ | refine S.su2 (by rfl) fun _ S f => ?_ | refine S.su3 (by rfl) fun _ S f => ?_ | refine S.su4 (by rfl) fun _ S f => ?_ | refine S.su5 (by rfl) fun _ S f => ?_ | refine ⟨by decide, ?_⟩); try dsimp only [List.set_cons_zero, List.set_cons_succ, cond_true, cond_false, Bool.not_true, Bool.not_false]))
  refine cond_of (fun hd => ?_) (fun hd => ⟨S.ext, fun _ q => by subst q; simp at hd⟩)
  (repeat ((first | refine S.newB fun _ _ S f _ => ?_ | refine S.la0 rfl ?_ | refine S.la1 rfl ?_ | refine S.la2 rfl ?_ | refine S.la3 rfl ?_ | refine S.la4 rfl ?_ | refine S.la5 rfl ?_ | refine S.ld0 rfl rfl ?_ | refine S.ld1 rfl rfl ?_ | refine S.ld2 rfl rfl ?_ | refine S.ld3 rfl rfl ?_ | refine S.ld4 rfl rfl ?_ | refine S.ld5 rfl rfl ?_ | refine S.st0 (by rfl) fun _ S f => ?_ | refine S.st1 (by rfl) fun _ S f => ?_ | refine S.st2 (by rfl) fun _ S f => ?_ | refine S.st3 (by rfl) fun _ S f => ?_ | refine S.st4 (by rfl) fun _ S f => ?_ | refine S.st5 (by rfl) fun _ S f => ?_ | refine S.su0 (by rfl) fun _ S f => ?_ | refine S.su1 (by rfl) fun _ S f => ?_ | refine S.su2 (by rfl) fun _ S f => ?_ | refine S.su3 (by rfl) fun _ S f => ?_ | refine S.su4 (by rfl) fun _ S f => ?_ | refine S.su5 (by rfl) fun _ S f => ?_ | refine ⟨by decide, ?_⟩); try dsimp only [List.set_cons_zero, List.set_cons_succ, cond_true, cond_false, Bool.not_true, Bool.not_false]))
  refine (SameBytes_c (i1.ext S.ext) (i3.ext S.ext)).mono ?_
  rintro ⟨(r3 : Bool), ⟨⟩⟩ w3 ⟨h3, x3⟩
  dsimp only at h3 ⊢
  subst h3
  have S := S.stepE x3
  refine cond_d (fun hx => ?_) (fun hx => ⟨S.ext, fun _ _ q => absurd q hx⟩)
  (repeat ((first | refine S.newB fun _ _ S f _ => ?_ | refine S.la0 rfl ?_ | refine S.la1 rfl ?_ | refine S.la2 rfl ?_ | refine S.la3 rfl ?_ | refine S.la4 rfl ?_ | refine S.la5 rfl ?_ | refine S.ld0 rfl rfl ?_ | refine S.ld1 rfl rfl ?_ | refine S.ld2 rfl rfl ?_ | refine S.ld3 rfl rfl ?_ | refine S.ld4 rfl rfl ?_ | refine S.ld5 rfl rfl ?_ | refine S.st0 (by rfl) fun _ S f => ?_ | refine S.st1 (by rfl) fun _ S f => ?_ | refine S.st2 (by rfl) fun _ S f => ?_ | refine S.st3 (by rfl) fun _ S f => ?_ | refine S.st4 (by rfl) fun _ S f => ?_ | refine S.st5 (by rfl) fun _ S f => ?_ | refine S.su0 (by rfl) fun _ S f => ?_ | refine S.su1 (by rfl) fun _ S f => ?_ | refine S.su2 (by rfl) fun _ S f => ?_ | refine S.su3 (by rfl) fun _ S f => ?_ | refine S.su4 (by rfl) fun _ S f => ?_ | refine S.su5 (by rfl) fun _ S f => ?_ | refine ⟨by decide, ?_⟩); try dsimp only [List.set_cons_zero, List.set_cons_succ, cond_true, cond_false, Bool.not_true, Bool.not_false]))
  refine (SameBytes_c (i2.ext S.ext) (i4.ext S.ext)).mono ?_
  rintro ⟨(r4 : Bool), ⟨⟩⟩ w4 ⟨h4, x4⟩
  dsimp only at h4 ⊢
  exact ⟨S.ext.trans x4, fun _ _ _ q => by rw [h4]; exact decide_eq_true q⟩

theorem mkL_byt {g : Geo} {h : Hd} {xs ts : List Int} (hg : h.rng) (hR : HRight h) (bx : Byt xs) (bt : Byt ts) : Byt (mkL g h xs ts) := by
  unfold mkL payL
  refine Byt.append ?_ (endL_byt hg hR bt)
  split
  · exact Byt.replicate (by omega) (by omega) _
  · exact bx
theorem intsNil {w : World} : Ints w .u8 none 0 0 [] := ⟨rfl, Nat.le_refl _, by omega, .inl ⟨rfl, rfl⟩⟩

theorem awake15_c {w : World} : CallV Try.prog 18 #[] w [.one .bool] fun r w' => r.1 = true ∧ Ext w w' := by
  apply law15_awake.vc
  unfold law15_awake.P
  have S := Sep.start NoB w
  (repeat ((first | refine S.newB fun _ _ S f _ => ?_ | refine S.la0 rfl ?_ | refine S.la1 rfl ?_ | refine S.la2 rfl ?_ | refine S.la3 rfl ?_ | refine S.la4 rfl ?_ | refine S.la5 rfl ?_ | refine S.ld0 rfl rfl ?_ | refine S.ld1 rfl rfl ?_ | refine S.ld2 rfl rfl ?_ | refine S.ld3 rfl rfl ?_ | refine S.ld4 rfl rfl ?_ | refine S.ld5 rfl rfl ?_ | refine S.st0 (by rfl) fun _ S f => ?_ | refine S.st1 (by rfl) fun _ S f => ?_ | refine S.st2 (by rfl) fun _ S f => ?_ | refine S.st3 (by rfl) fun _ S f => ?_ | refine S.st4 (by rfl) fun _ S f => ?_ | refine S.st5 (by rfl) fun _ S f => ?_ | refine S.su0 (by rfl) fun _ S f => ?_ | refine S.su1 (by rfl) fun _ S f => ?_ | refine S.su2 (by rfl) fun _ S f => ?_ | refine S.su3 (by rfl) fun _ S f => ?_ | refine S.su4 (by rfl) fun _ S f => ?_ | refine S.su5 (by rfl) fun _ S f => ?_ | refine ⟨by decide, ?_⟩); try dsimp only [List.set_cons_zero, List.set_cons_succ, cond_true, cond_false, Bool.not_true, Bool.not_false]))
  refine (Make_c (g := ⟨7, 10, 64, 0, 1, 1⟩) (h := ⟨1, 0, 0, 0, 0, 0⟩) (by unfold Hd.rng; dsimp only; omega) intsNil intsNil).mono ?_
  rintro ⟨⟨sa, sn, sc⟩, (e2 : Int), ⟨⟩⟩ w2 ⟨x2, hh, -⟩
  obtain ⟨h2, h2'⟩ := hh (by decide +kernel)
  clear hh
  dsimp only at h2 h2' ⊢
  subst h2'
  have l2 := h2.ints.len
  have S := S.stepE x2
  have lm : (mkL ⟨7, 10, 64, 0, 1, 1⟩ ⟨1, 0, 0, 0, 0, 0⟩ [] []).length = 152 := by decide +kernel
  rw [lm] at l2
  dsimp only at l2
  subst l2
  refine cond_t rfl (cond_t rfl ?_)
  have bm : Byt (mkL ⟨7, 10, 64, 0, 1, 1⟩ ⟨1, 0, 0, 0, 0, 0⟩ [] []) := mkL_byt (by unfold Hd.rng; dsimp only; omega) (by decide) Byt.nil Byt.nil
  refine (Blank_c h2.ints bm).mono ?_
  rintro ⟨(r3 : Bool), ⟨⟩⟩ w3 ⟨h3, rfl⟩
  dsimp only at h3 ⊢
  refine cond_t (by rw [h3]; decide +kernel) ?_
  refine (Blank_c intsNil Byt.nil).mono ?_
  rintro ⟨(r3 : Bool), ⟨⟩⟩ w3 ⟨h3, rfl⟩
  dsimp only at h3 ⊢
  exact ⟨by rw [h3]; rfl, S.ext⟩

end Go.Proofs.Ytfpkaebmiojicaa.Vc
