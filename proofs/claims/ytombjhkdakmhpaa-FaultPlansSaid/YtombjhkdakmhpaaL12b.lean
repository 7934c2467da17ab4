/- The law FaultPlans of layer 12: each call gives true, and what it read stays. -/
import Derived.Test.YtombjhkdakmhpaaC12e
import Derived.Test.YtombjhkdakmhpaaL12a
import Derived.Test.YtombjhkdakmhpaaVP12t
import Derived.Test.YtombjhkdakmhpaaVP12
import Derived.Test.YtombjhkdakmhpaaOpenS
namespace Go.Proofs.Ytombjhkdakmhpaa.Vc
open Go Go.Eng Go.RowKit
set_option linter.unusedVariables false
set_option linter.unusedSimpArgs false

/-- Bytes that may be written: what they are is not told. -/
def Wr (w : World) (B T : Nat) (s : SlV) : Prop := s.n = 0 ∨ ∃ b cs, s.a = some ⟨b, 0, none⟩ ∧ B ≤ b ∧ b < T ∧ w.heap[b]? = some (.cells cs 5 (0, 0)) ∧ s.n ≤ cs.size ∧ ∀ k, k < s.n → ∃ x, cs[k]? = some (.int .u8 x)
theorem Own_wr {w : World} {B T : Nat} {a : Option Addr} {n c : Nat} {xs : List Int} (h : Own w B 5 1 a n c (xs.map (Value.int .u8))) (hT : w.heap.size ≤ T) : Wr w B T ⟨a, n, c⟩ := by
  have hl := h.len
  rw [List.length_map, Nat.mul_one] at hl
  rcases h.at_ with ⟨h1, h2, h3⟩ | ⟨b, cs, h1, h2, h3, h4, h5⟩
  · refine .inl ?_
    have := List.map_eq_nil_iff.1 h3
    subst this
    exact hl.symm
  · refine .inr ⟨b, cs, h1, h2, Nat.lt_of_lt_of_le (Array.getElem?_eq_some_iff.1 h3).1 hT, h3, by have := h.cap; show n ≤ _; omega, fun k hk => ?_⟩
    dsimp only at hk
    refine ⟨xs.getD k 0, ?_⟩
    have : (cs.toList.take (xs.map (Value.int .u8)).length)[k]? = (xs.map (Value.int .u8))[k]? := by rw [h5]
    rw [List.getElem?_take, if_pos (by rw [List.length_map]; omega), List.getElem?_map] at this
    rw [← Array.getElem?_toList, this, List.getD_eq_getElem?_getD, List.getElem?_eq_getElem (by omega)]
    rfl
theorem Wr.heap {w w' : World} {B T : Nat} {s : SlV} (h : Wr w B T s) (e : ∀ k, B ≤ k → k < T → w'.heap[k]? = w.heap[k]?) : Wr w' B T s := by
  rcases h with h | ⟨b, cs, h1, h2, hT, h3, h4⟩
  · exact .inl h
  · exact .inr ⟨b, cs, h1, h2, hT, by rw [e b h2 hT]; exact h3, h4⟩
theorem Wr.set {w : World} {B T : Nat} {s : SlV} (h : Wr w B T s) (b o : Nat) (x : Int) : Wr (w.setCells b o [.int .u8 x]) B T s := by
  rcases h with h | ⟨b', cs, h1, h2, hT, h3, h4, h5⟩
  · exact .inl h
  · by_cases hb : b' = b
    · subst hb
      refine .inr ⟨b', _, h1, h2, hT, setCells_heap _ _ _ _ _ _ _ h3, by rw [splice_size]; exact h4, fun k hk => ?_⟩
      obtain ⟨y, hy⟩ := h5 k hk
      simp only [splice, Array.getElem?_setIfInBounds]
      split
      · split
        · exact ⟨x, rfl⟩
        · rename_i h6 h7; subst h6; rw [Array.getElem?_eq_none (by omega)] at hy; cases hy
      · exact ⟨y, hy⟩
    · exact .inr ⟨b', cs, h1, h2, hT, by rw [setCells_other _ _ _ _ _ hb]; exact h3, h4, h5⟩
/-- A byte is read, and written. -/
theorem Wr.store {w : World} {B T : Nat} {s : SlV} (h : Wr w B T s) {i : Int} (h0 : 0 ≤ i) (h1 : i < (s.n : Int)) {K : Int → World → Prop} (f : Int → Int)
    (hk : ∀ x w' b, w' = w.setCells b i.toNat [.int .u8 (f x)] → B ≤ b → b < T → s.a = some ⟨b, 0, none⟩ → K x w') :
    (0 ≤ i ∧ i < (s.n : Int)) ∧ ∃ q, s.a = some q ∧ LoadS w (q.add (i.toNat * 1)) (.int .u8) fun (x : Int) => (0 ≤ i ∧ i < (s.n : Int)) ∧ ∃ q, s.a = some q ∧ StoreV w (q.add (i.toNat * 1)) [.int .u8 (f x)] (K x) := by
  rcases h with h | ⟨b, cs, h2, h3, hT, h4, h5, h6⟩
  · omega
  · obtain ⟨x, hx⟩ := h6 i.toNat (by omega)
    have hadd : (⟨b, 0, none⟩ : Addr).add (i.toNat * 1) = ⟨b, i.toNat, none⟩ := by simp [Addr.add_lit]
    refine ⟨⟨h0, h1⟩, _, h2, x, ?_, ⟨h0, h1⟩, _, h2, ?_⟩
    · rw [hadd]
      unfold World.cell?
      rw [h4]
      have hx' : cs[0 + i.toNat]? = some (.int .u8 x) := by rw [Nat.zero_add]; exact hx
      simp only [Nat.zero_add]
      exact hx
    · rw [hadd]
      refine ⟨rfl, Free.of_heap h4 (by simp; omega), ?_⟩
      rintro w' rfl
      exact hk x _ b rfl h3 hT h2

theorem RdC_nth {w : World} {a : Option Addr} {l : List TF.T} (h : RdC w a (l.flatMap TF.vs)) {i : Nat} (hi : i < l.length) : ∃ q, a = some q ∧ CellsAt w (q.add (i * 3)) (TF.vs l[i]) := by
  rcases h with ⟨_, h2⟩ | ⟨q, hq, hc⟩
  · have := flat_len (fun z => TF.vs_length z) l
    have h3 := Nat.mul_pos (show 0 < l.length by omega) (show 0 < TF.n by decide)
    rw [h2, List.length_nil] at this
    omega
  · exact ⟨q, hq, CellsAt.nth (fun z => TF.vs_length z) hc (List.getElem?_eq_getElem hi)⟩

structure PInv (w5 w6 w7 w' : World) (x c d : SlP TF.T) : Prop where
  old : Ext w5 w'
  new : Kp (fun k => w6.heap.size ≤ k) w7 w'
  size : w7.heap.size ≤ w'.heap.size
  arr : RdG w' (fun k => k < w6.heap.size) c.a (c.l.flatMap TF.vs)
  msk : ∀ f ∈ c.l, Wr w' w5.heap.size w6.heap.size ⟨f.2.2.1.a, f.2.2.1.n, f.2.2.1.c⟩

theorem plans_tail {w w5 w6 w7 : World} {G : Nat → Prop} {x c d : SlP TF.T} (hx : LF.rd w G x) (e5 : Ext w w5) (hc : CopyR w5 w6 c (fds x)) (hd : CopyR w6 w7 d (fds x)) :
    law12_FaultPlans.T w7 x.n (⟨c.a, c.n, c.c⟩, ()) (⟨d.a, d.n, d.c⟩, ()) x.a (fun r w' => r.1 = true ∧ Ext w w') := by
  unfold law12_FaultPlans.T
  have hl := LF_len hx
  have lc : c.l.length = x.n := by have h := hc.dat; rw [← hl, ← h]; exact (List.length_map ..).symm
  have ld : d.l.length = x.n := by have h := hd.dat; rw [← hl, ← h]; exact (List.length_map ..).symm
  have nc : c.n = x.n := by have := hc.len; omega
  have nd : d.n = x.n := by have := hd.len; omega
  have hlim := LF_lim hx
  have e7 : Ext w6 w7 := hd.ext
  have ne6 : ∀ f ∈ c.l, ∀ p q : Addr, c.a = some p → f.2.2.1.a = some q → p.block ≠ q.block := fun f hf => (hc.msk f hf).ne
  refine Loop1 (fun (y : Int × Unit) w' => ∃ i : Nat, y.1 = (i : Int) ∧ i ≤ x.n ∧ PInv w5 w6 w7 w' x c d) (fun (y : Int × Unit) _ => ((x.n : Int) - y.1).toNat) ⟨0, rfl, by omega, ?_⟩ ?_
  · refine ⟨hc.ext.trans e7, fun k _ _ => rfl, Nat.le_refl _, ?_, fun f hf => ?_⟩
    · have h1 : RdG w6 (fun k => k < w6.heap.size) c.a (c.l.flatMap TF.vs) := by
        rcases hc.own.rd with h | ⟨p, h1, h2⟩
        · exact .inl h
        · exact .inr ⟨p, h1, h2, fun _ => hc.own.lt p h1⟩
      exact h1.kp fun k hk _ => e7.block k hk
    · exact (Own_wr (hc.msk f hf).own (Nat.le_refl _)).heap fun k _ hk => e7.block k hk
  rintro ⟨(z : Int), ⟨⟩⟩ w1 ⟨i, hz, hi, hP⟩
  dsimp only at hz ⊢
  subst hz
  refine cond_d (fun hlt => ?_) (fun hge => ?_)
  · have hil : i < c.l.length := by omega
    have hmem : c.l[i] ∈ c.l := List.getElem_mem hil
    refine Loop1 (fun (y : Int × Unit) w' => ∃ k : Nat, y.1 = (k : Int) ∧ k ≤ c.l[i].2.2.1.n ∧ PInv w5 w6 w7 w' x c d) (fun (y : Int × Unit) _ => ((c.l[i].2.2.1.n : Int) - y.1).toNat) ⟨0, rfl, by omega, hP⟩ ?_
    rintro ⟨(z : Int), ⟨⟩⟩ w2 ⟨k, hz, hk, hP⟩
    dsimp only at hz ⊢
    subst hz
    obtain ⟨q, hq, hcell⟩ := RdC_nth hP.arr.rdc hil
    refine ⟨⟨by omega, by omega⟩, q, hq, ldp (p := q.add (i * 3)) hcell 2 (h := .sl) (x := ⟨c.l[i].2.2.1.a, c.l[i].2.2.1.n, c.l[i].2.2.1.c⟩) rfl ?_⟩
    refine cond_d (fun hlt2 => ?_) (fun hge2 => ?_)
    · refine ⟨⟨by omega, by omega⟩, q, hq, ldp (p := q.add (i * 3)) hcell 2 (h := .sl) (x := ⟨c.l[i].2.2.1.a, c.l[i].2.2.1.n, c.l[i].2.2.1.c⟩) rfl ?_⟩
      refine (hP.msk _ hmem).store (i := (k : Int)) (by omega) hlt2 (fun x => Go.bits .xor .u8 x 255) fun x3 w3 b hw3 hB hT ha => ?_
      dsimp only at ha hlt2
      have lim := (hc.msk _ hmem).own.lim
      have hother : ∀ j, j ≠ b → w3.heap[j]? = w2.heap[j]? := fun j hj => by rw [hw3]; exact setCells_other _ _ _ _ _ hj
      have hsz : w3.heap.size = w2.heap.size := by rw [hw3]; exact (setCells_rest _ _ _ _).2.2.2
      refine ⟨Rng.i64 (by omega) (by omega), ⟨k + 1, by push_cast; rfl, by omega, ?_⟩, by omega⟩
      refine ⟨Below.trans hP.old (by rw [hw3]; exact Bel.setCells (Below.refl _ _) hB _ _), fun j hj hj7 => ?_, by have := hP.size; omega, ?_, fun f hf => ?_⟩
      · rw [hother j (by omega)]; exact hP.new j hj hj7
      · rcases hP.arr with h | ⟨p, h1, h2, h3⟩
        · exact .inl h
        · exact .inr ⟨p, h1, cells_kp h2 fun _ => hother _ (ne6 _ hmem p _ h1 ha), h3⟩
      · rw [hw3]; exact (hP.msk f hf).set _ _ _
    · refine DrawV.old w2 fun D hD hkeep => ?_
      have E2 : Ext w w2 := e5.trans hP.old
      have xd := Ext.drew w2
      have hx2 : LF.rd w2.drew G x := Ty.rd_ext (E2.trans xd) _ hx
      have hd2 : LF.rd w2.drew (fun k => w6.heap.size ≤ k) d := Ty.rd_kp (w := w7) (fun j hj hj7 => hP.new j hj hj7) _ hd.rd
      obtain ⟨qd, yd, hqd, hyd, hcd, hrd, -, hbd⟩ := LF_nth hd2 (Int.natCast_nonneg i) (by omega)
      obtain ⟨qx, yx, hqx, hyx, hcx, hrx, -, hbx⟩ := LF_nth hx2 (Int.natCast_nonneg i) hlt
      have Dd : ∀ o, D ((qd.add o)).block := fun o => by rw [add_block]; exact hD _ hbd
      have Dx : ∀ o, D ((qx.add o)).block := fun o => by rw [add_block]; exact hD _ hbx
      have Dd2 : ∀ o o', D (((qd.add o).add o')).block := fun o o' => by rw [add_block]; exact Dd o
      have Dx2 : ∀ o o', D (((qx.add o).add o')).block := fun o o' => by rw [add_block]; exact Dx o
      have heq : (yd.1, yd.2.1, yd.2.2.1.l, ()) = ((yx.1, yx.2.1, yx.2.2.1.l, ()) : FD) := by
        have h1 := LF_get hyd
        have h2 := LF_get hyx
        rw [hd.dat] at h1
        exact Option.some.inj (h1.symm.trans h2)
      simp only [Prod.mk.injEq, and_true] at heq
      obtain ⟨q1, q2, q3⟩ := heq
      have bd : (0 ≤ (i : Int) ∧ (i : Int) < ((d.n : Nat) : Int)) := ⟨by omega, by omega⟩
      have bx : (0 ≤ (i : Int) ∧ (i : Int) < ((x.n : Nat) : Int)) := ⟨by omega, hlt⟩
      refine ⟨bd, qd, hqd, Dd _, ldp0 hcd (h := .int .i64) (x := yd.1) rfl ⟨bx, qx, hqx, Dx _, ldp0 hcx (h := .int .i64) (x := yx.1) rfl ?_⟩⟩
      refine cond_ne (fun h => absurd q1 h) fun _ => ?_
      refine ⟨bd, qd, hqd, Dd2 _ _, ldp hcd 1 (h := .bool) (x := yd.2.1) rfl ⟨bx, qx, hqx, Dx2 _ _, ldp hcx 1 (h := .bool) (x := yx.2.1) rfl ?_⟩⟩
      refine cond_f (by rw [q2]; simp) ?_
      refine ⟨bd, qd, hqd, Dd2 _ _, ldp hcd 2 (h := .sl) (x := ⟨yd.2.2.1.a, yd.2.2.1.n, yd.2.2.1.c⟩) rfl ⟨bx, qx, hqx, Dx2 _ _, ldp hcx 2 (h := .sl) (x := ⟨yx.2.2.1.a, yx.2.2.1.n, yx.2.2.1.c⟩) rfl ?_⟩⟩
      refine (SameBytes_c (Ty.ints hrd.2.2.1) (Ty.ints hrx.2.2.1)).mono ?_
      rintro ⟨(r3 : Bool), ⟨⟩⟩ w3 ⟨h3, e3⟩
      dsimp only at h3 ⊢
      have X3 := xd.trans e3
      refine ⟨hkeep _ X3, cond_f (by rw [h3, decide_eq_true q3]; rfl) ⟨Rng.i64 (by omega) (by omega), ⟨i + 1, by push_cast; rfl, by omega, ?_⟩, by omega⟩⟩
      have hs2 := hP.size
      have hs7 := e7.size
      refine ⟨hP.old.trans X3, fun j hj hj7 => ?_, Nat.le_trans hP.size X3.size, hP.arr.kp fun j hj hj2 => X3.block j hj2, fun f hf => (hP.msk f hf).heap fun j _ hj => X3.block j (by omega)⟩
      rw [X3.block j (by omega)]; exact hP.new j hj hj7
  · exact awake12_c.mono fun r w' ⟨h, e⟩ => ⟨h, e5.trans (hP.old.trans e)⟩

theorem FaultPlans_of {w : World} {a : Option Addr} {n c : Nat} {n1 : Int} {l : List TF.T} (g : LF.ok w ⟨a, n, c, l⟩) (big : LF.big ⟨a, n, c, l⟩) (g1 : Rng .i64 n1) :
    CallV Try.prog 9 #[.slice a n c, .int .i64 n1] w [.one .bool] fun r w' => r.1 = true ∧ Ext w w' := by
  have hx := LF.rd_of g
  have hm : mFit (fds ⟨a, n, c, l⟩) := by
    intro f hf
    obtain ⟨y, hy, rfl⟩ := List.mem_map.1 hf
    rw [TF_dat]
    have h1 := (big.2 y hy).2.2.1.1
    have h2 := (g.2.2.2.2 y hy).2.2.1.1
    show y.2.2.1.l.length ≤ _
    omega
  generalize hX : (⟨a, n, c, l⟩ : SlP TF.T) = x at hx hm
  obtain ⟨rfl, rfl, rfl⟩ : a = x.a ∧ n = x.n ∧ c = x.c := by subst hX; exact ⟨rfl, rfl, rfl⟩
  clear hX big g
  have hl := LF_len hx
  refine law12_FaultPlans.vc _ _ _ _ _ _ ?_
  unfold law12_FaultPlans.P
  have aw : ∀ {w' : World}, Ext w w' → CallV Try.prog 21 #[] w' [.one .bool] fun r w3 => r.1 = true ∧ Ext w w3 := fun he => awake12_c.mono fun r w3 ⟨h, e⟩ => ⟨h, he.trans e⟩
  refine cond_d (fun _ => aw (Ext.refl _)) (fun h100 => ?_)
  have J : ∀ {S : World → Prop} {K : Bool × Unit → World → Prop} {b : Prop}, (∀ w', S w' → K (false, ()) w') → ∀ (v : Bool × Unit) w', v.1 = false ∧ S w' → K v w' := fun h ⟨v, _⟩ w' ⟨h1, h2⟩ => by
    dsimp only at h1
    subst h1
    exact h w' h2
  refine ⟨fun (v : Bool × Unit) w' => v.1 = false ∧ Ext w w', ?_, ?_⟩
  · rintro ⟨(v : Bool), ⟨⟩⟩ w1 ⟨hv, e1⟩
    dsimp only at hv ⊢
    subst hv
    refine cond_f rfl ?_
    have hx1 := Ty.rd_ext e1 _ hx
    refine (At_c hx1 hm).mono ?_
    rintro ⟨⟨(f1 : Int), (f2 : Bool), ⟨ma, mn, mc⟩, ⟨⟩⟩, (o : Bool), ⟨⟩⟩ w2 ⟨e2, hA⟩
    dsimp only at hA ⊢
    refine newF fun b8 w3 e3 hb => ?_
    refine hb.store 0 (by simp) fun w4 hb4 bel4 but4 _ => ?_
    have X4 : Ext w2 w4 := Below.trans e3 bel4
    have E4 : Ext w w4 := e1.trans (e2.trans X4)
    have hx4 := Ty.rd_ext E4 _ hx
    refine (rAt_c (n := n1) hx4).mono ?_
    rintro ⟨(r5 : Int), ⟨⟩⟩ w5 ⟨h5, rfl⟩
    dsimp only at h5 ⊢
    have hbd := hb4.lt
    refine cond_f (b := !(o == decide (r5 ≥ 0))) ?_ ?_
    · cases hat : atI (fds x) n1 with
      | none =>
        have : atF (fds x) n1 = none := by
          unfold atF atI at *
          rw [List.findIdx?_eq_none_iff] at hat
          exact List.find?_eq_none.2 fun f hf => by simpa using hat f hf
        rw [this] at hA
        rw [hat] at h5
        dsimp only at h5 hA
        rw [hA.1, h5]; rfl
      | some i =>
        obtain ⟨hi, h6, h7⟩ := List.findIdx?_eq_some_iff_getElem.1 hat
        have : atF (fds x) n1 = some (fds x)[i] := (find_step (fun j f hj hf => by
          have hjl := (List.getElem?_eq_some_iff.1 hf).1
          have := h7 j hj
          rw [List.getElem?_eq_getElem hjl] at hf
          cases hf
          simpa using this) (List.getElem?_eq_getElem hi) (by simpa using h6)).1
        rw [this] at hA
        rw [hat] at h5
        dsimp only at h5 hA
        rw [hA.1, h5]
        have : decide ((i : Int) ≥ 0) = true := by simp
        rw [this]; rfl
    refine ⟨fun (v : Bool × Unit) w' => v.1 = false ∧ Ext w w', ?_, ?_⟩
    · rintro ⟨(v : Bool), ⟨⟩⟩ w6 ⟨hv, e6⟩
      dsimp only at hv ⊢
      subst hv
      refine cond_f rfl ?_
      have hx6 := Ty.rd_ext e6 _ hx
      refine (Copy_c hx6 hm (by omega)).mono ?_
      rintro ⟨_, ⟨⟩⟩ w7 ⟨yc, h7, hc⟩
      dsimp only at h7
      subst h7
      have hcm : mFit (fds yc) := by rw [hc.dat]; exact hm
      have ncl : yc.n = x.n := by have h1 := hc.len; have h2 := hc.dat; rw [← hl, ← h2]; show _ = (List.map _ _).length; rw [List.length_map]; exact h1.symm
      refine (Copy_c hc.rd hcm (by omega)).mono ?_
      rintro ⟨_, ⟨⟩⟩ w8 ⟨yd, h8, hd⟩
      dsimp only at h8
      subst h8
      rw [hc.dat] at hd
      have ndl : yd.n = x.n := by have h1 := hd.len; have h2 := hd.dat; rw [← hl, ← h2]; show _ = (List.map _ _).length; rw [List.length_map]; exact h1.symm
      refine cond_ne (fun h => absurd (by dsimp only; omega) h) fun _ => cond_ne (fun h => absurd (by dsimp only; omega) h) fun _ => ?_
      exact plans_tail (c := yc) (d := yd) hx e6 hc hd
    · refine DrawV.old w5 fun D hD hkeep => ?_
      have xd := Ext.drew w5
      have hbd4 := hb4.ext xd
      have Db := hD _ hbd
      cases hat : atI (fds x) n1 with
      | none =>
        have : atF (fds x) n1 = none := by
          unfold atF atI at *
          rw [List.findIdx?_eq_none_iff] at hat
          exact List.find?_eq_none.2 fun f hf => by simpa using hat f hf
        rw [this] at hA
        dsimp only at hA
        obtain ⟨rfl, h9⟩ := hA
        cases h9
        refine cond_f rfl (cond_t rfl ⟨Db, hbd4.ld (i := 0) (h := .int .i64) (x := (0 : Int)) rfl (cond_f rfl ⟨Db, hbd4.ld (i := 1) (h := .bool) (x := false) rfl (cond_f rfl ⟨Db, hbd4.ld (i := 2) (h := .sl) (x := ⟨none, 0, 0⟩) rfl ⟨by simp, E4.trans xd⟩⟩)⟩)⟩)
      | some i =>
        obtain ⟨hi, h6, h7⟩ := List.findIdx?_eq_some_iff_getElem.1 hat
        have hfi : atF (fds x) n1 = some (fds x)[i] := (find_step (fun j f hj hf => by
          have hjl := (List.getElem?_eq_some_iff.1 hf).1
          have := h7 j hj
          rw [List.getElem?_eq_getElem hjl] at hf
          cases hf
          simpa using this) (List.getElem?_eq_getElem hi) (by simpa using h6)).1
        rw [hfi] at hA
        rw [hat] at h5
        dsimp only at h5 hA
        obtain ⟨rfl, a1, a2, a3⟩ := hA
        subst h5
        have hin : (i : Int) < ((x.n : Nat) : Int) := by omega
        obtain ⟨q, y, hq, hy, hcx, hrx, -, hbx⟩ := LF_nth (Ty.rd_ext xd _ hx4) (Int.natCast_nonneg i) hin
        have hdy := LF_get hy
        rw [Int.toNat_natCast, List.getElem?_eq_getElem hi] at hdy
        have hdy := Option.some.inj hdy
        rw [hdy] at a1 a2 a3 h6
        dsimp only at a1 a2 a3 h6
        have Dx2 : ∀ o o', D (((q.add o).add o')).block := fun o o' => by rw [add_block, add_block]; exact hD _ hbx
        have bx : (0 ≤ (i : Int) ∧ (i : Int) < ((x.n : Nat) : Int)) := ⟨by omega, hin⟩
        refine cond_t rfl ⟨Db, hbd4.ld (i := 0) (h := .int .i64) (x := f1) rfl (cond_ne (fun h => absurd (by rw [a1]; simpa using h6) h) fun _ => ?_)⟩
        refine ⟨Db, hbd4.ld (i := 1) (h := .bool) (x := f2) rfl ⟨bx, q, hq, Dx2 _ _, ldp hcx 1 (h := .bool) (x := y.2.1) rfl (cond_f (by rw [a2]; simp) ?_)⟩⟩
        refine ⟨Db, hbd4.ld (i := 2) (h := .sl) (x := ⟨ma, mn, mc⟩) rfl ⟨bx, q, hq, Dx2 _ _, ldp hcx 2 (h := .sl) (x := ⟨y.2.2.1.a, y.2.2.1.n, y.2.2.1.c⟩) rfl ?_⟩⟩
        refine (SameBytes_c (a3.ints.ext (X4.trans xd)) (Ty.ints hrx.2.2.1)).mono ?_
        rintro ⟨(r10 : Bool), ⟨⟩⟩ w10 ⟨h10, e10⟩
        dsimp only at h10 ⊢
        refine ⟨hkeep _ (xd.trans e10), cond_f (by rw [h10]; simp) (cond_f rfl ⟨rfl, E4.trans (xd.trans e10)⟩)⟩
  · refine (FCheck_c hx).mono ?_
    rintro ⟨(r1 : Int), ⟨⟩⟩ w1 ⟨h1, e1⟩
    dsimp only at h1 ⊢
    refine (rRight12_c (Ty.rd_ext e1 _ hx)).mono ?_
    rintro ⟨(r2 : Bool), ⟨⟩⟩ w2 ⟨h2, rfl⟩
    dsimp only at h2 ⊢
    subst h1
    subst h2
    by_cases hR : FRight (fds x)
    · refine cond_f (by rw [if_pos hR, decide_eq_true hR]; rfl) ?_
      refine (rRight12_c (Ty.rd_ext e1 _ hx)).mono ?_
      rintro ⟨(r2 : Bool), ⟨⟩⟩ w2 ⟨h2, rfl⟩
      dsimp only at h2 ⊢
      exact cond_f (by rw [h2, decide_eq_true hR]; rfl) ⟨rfl, e1⟩
    · refine cond_f (by rw [if_neg hR, decide_eq_false hR]; rfl) ?_
      refine (rRight12_c (Ty.rd_ext e1 _ hx)).mono ?_
      rintro ⟨(r2 : Bool), ⟨⟩⟩ w2 ⟨h2, rfl⟩
      dsimp only at h2 ⊢
      refine cond_t (by rw [h2, decide_eq_false hR]; rfl) ?_
      refine (FCheck_c (Ty.rd_ext e1 _ hx)).mono ?_
      rintro ⟨(r3 : Int), ⟨⟩⟩ w3 ⟨h3, e3⟩
      dsimp only at h3 ⊢
      exact ⟨by rw [h3, if_neg hR]; rfl, e1.trans e3⟩

end Go.Proofs.Ytombjhkdakmhpaa.Vc
