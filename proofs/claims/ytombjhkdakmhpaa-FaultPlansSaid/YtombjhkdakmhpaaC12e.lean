/- The contract of Copy of layer 12 (fault): a plan in new memory. -/
import Derived.Test.YtombjhkdakmhpaaC12d
import Derived.Test.YtombjhkdakmhpaaLib3
namespace Go.Proofs.Ytombjhkdakmhpaa.Vc
open Go Go.Eng Go.RowKit
set_option linter.unusedVariables false
set_option linter.unusedSimpArgs false

/-- A mask of one's own, in a block apart from a list's. -/
structure MaskOk (w : World) (B : Nat) (a : Option Addr) (f : TF.T) : Prop where
  own : Own w B 5 1 f.2.2.1.a f.2.2.1.n f.2.2.1.c (f.2.2.1.l.map (Value.int .u8))
  byt : Byt f.2.2.1.l
  ne : ∀ p q, a = some p → f.2.2.1.a = some q → p.block ≠ q.block
  at_ : Rng .i64 f.1
structure CopyR (w w' : World) (y : SlP TF.T) (l : List FD) : Prop where
  ext : Ext w w'
  own : Own w' w.heap.size 45 3 y.a y.n y.c (y.l.flatMap TF.vs)
  len : y.l.length = y.n
  dat : fds y = l
  msk : ∀ f ∈ y.l, MaskOk w' w.heap.size y.a f

theorem rngU8 {x : Int} (h : 0 ≤ x ∧ x < 256) : Rng .u8 x := Rng.u8 h.1 (by omega)
theorem Own_in {w : World} {B : Nat} {e : TypeId} {sz : Nat} {a : Option Addr} {n c : Nat} {vs : List Value} (h : Own w B e sz a n c vs) : RdG w (fun k => B ≤ k) a vs := by
  rcases h.at_ with ⟨h1, _, h2⟩ | ⟨b, cs, h1, h2, _⟩
  · exact .inl ⟨h1, h2⟩
  · rcases h.rd with ⟨h3, _⟩ | ⟨p, h3, h4⟩
    · rw [h1] at h3; cases h3
    · refine .inr ⟨p, h3, h4, fun _ => ?_⟩
      rw [h1] at h3; cases h3; exact h2
theorem CopyR.rd {w w' : World} {y : SlP TF.T} {l : List FD} (h : CopyR w w' y l) : LF.rd w' (fun k => w.heap.size ≤ k) y := by
  have hml : maxLen = 9223372036854775807 := by decide
  refine ⟨h.len, h.own.cap, by have := h.own.lim; omega, Own_in h.own, fun f hf => ?_⟩
  have m := h.msk f hf
  refine ⟨m.at_, trivial, ⟨by have := m.own.len; simpa using this, m.own.cap, by have := m.own.lim; omega, ?_, fun z hz => rngU8 (m.byt z hz)⟩, trivial⟩
  rw [show f.2.2.1.l.flatMap (Ty.int .u8).vs = f.2.2.1.l.map (Value.int .u8) from flat_ints .u8 _]
  exact Own_in m.own

theorem oneF (f : TF.T) : oneAll (TF.vs f) := fun u hu => by
  have hu : u ∈ [Value.int .i64 f.1, .bool f.2.1, .slice f.2.2.1.a f.2.2.1.n f.2.2.1.c] := hu
  simp only [List.mem_cons, List.not_mem_nil, or_false] at hu
  rcases hu with rfl | rfl | rfl <;> rfl

theorem Copy_c {w : World} {G : Nat → Prop} {x : SlP TF.T} (hx : LF.rd w G x) (hm : mFit (fds x)) (hn : x.n ≤ 1000) : CallV Try.prog 34 #[.slice x.a x.n x.c] w [.one .sl] fun r w' => ∃ y : SlP TF.T, r.1 = (⟨y.a, y.n, y.c⟩ : SlV) ∧ CopyR w w' y (fds x) := by
  refine fault_Copy.vc _ _ _ _ _ ?_
  unfold fault_Copy.P
  have hl := LF_len hx
  refine Loop1 (fun (y : SlV × Int × Unit) w' => ∃ (i : Nat) (L : List TF.T), y.2.1 = (i : Int) ∧ i ≤ x.n ∧ CopyR w w' ⟨y.1.a, y.1.n, y.1.c, L⟩ ((fds x).take i) ∧ y.1.n = i) (fun (y : SlV × Int × Unit) _ => ((x.n : Int) - y.2.1).toNat)
    ⟨0, [], rfl, by omega, ⟨Ext.refl _, Own.nil _ _ _ _, rfl, rfl, fun f hf => (List.not_mem_nil hf).elim⟩, rfl⟩ ?_
  rintro ⟨⟨sa, sn, sc⟩, (z : Int), ⟨⟩⟩ w2 ⟨i, L, hz, hi, hC, hsn⟩
  dsimp only at hz hC hsn ⊢
  subst hz
  subst hsn
  have e2 := hC.ext
  refine cond_d (fun hlt => ?_) (fun hge => ?_)
  · obtain ⟨q, y, hq, hy, hc, hr, -⟩ := LF_nth (Ty.rd_ext e2 _ hx) (Int.natCast_nonneg sn) hlt
    have hdy := LF_get hy
    rw [Int.toNat_natCast] at hdy
    have hmy := hm.at hdy
    have hly := TF_len hr
    dsimp only at hmy
    refine ⟨⟨by omega, hlt⟩, q, hq, ldF hc ?_⟩
    refine newF fun b6 w7 e7 hb => ?_
    refine hb.store 0 (by simp) fun w8 hb8 bel8 _ _ => ?_
    have x8 : Ext w2 w8 := Below.trans e7 bel8
    refine newU fun b9 w9 e9 o9 => ?_
    refine (hb8.ext e9).ld (i := 2) (h := .sl) (x := ⟨y.2.2.1.a, y.2.2.1.n, y.2.2.1.c⟩) rfl ?_
    dsimp only
    refine appM (xs := []) o9 (Ty.ints (Ty.rd_ext (x8.trans e9) _ hr.2.2.1)) e9.size (by omega) fun a' c' w10 o10 b10 m10 _ => ?_
    have x10 : Ext w8 w10 := Below.trans e9 b10
    have hb10 := hb8.ext x10
    have hlt8 : b6 < w8.heap.size := hb8.lt
    have hblk : ∀ p, a' = some p → w8.heap.size ≤ p.block := o10.ge
    refine hb10.store 2 (by simp) fun w11 hb11 bel11 but11 _ => ?_
    have o11 := o10.other (w' := w11) (fun p hp => but11 _ (by have := hblk p hp; omega))
    have X11 : Ext w2 w11 := Below.trans (Ext.trans x8 x10) bel11
    generalize hf' : ((y.1, y.2.1, ⟨a', 0 + y.2.2.1.n, c', y.2.2.1.l⟩, ()) : TF.T) = f'
    have hvs : TF.vs f' = [.int .i64 y.1, .bool y.2.1, .slice a' (0 + y.2.2.1.n) c'] := by rw [← hf']; rfl
    refine ldF (f := f') (by rw [hvs]; exact hb11.cells) ?_
    subst hf'
    dsimp only
    refine newBox (vs := [.int .i64 y.1, .bool y.2.1, .slice a' (0 + y.2.2.1.n) c']) fun b12 w12 e12 hb12 => ?_
    have X12 : Ext w2 w12 := X11.trans e12
    have o12 := hC.own.ext X12
    generalize hf' : ((y.1, y.2.1, ⟨a', 0 + y.2.2.1.n, c', y.2.2.1.l⟩, ()) : TF.T) = f' at hvs
    refine AppS.of (news := TF.vs f') (by rw [hvs]; rfl) (.inr ⟨_, rfl, by rw [hvs]; exact hb12.cells⟩) ?_
    refine AppV.own o12 (Nat.le_trans e2.size X12.size) (by rw [hvs]; rfl) (oneF f') (by omega) (by omega) fun a13 c13 w13 o13 b13 but13 m13 => ?_
    have hsa : ∀ p, sa = some p → p.block < w2.heap.size := hC.own.lt
    have hmlt : ∀ f ∈ L, ∀ p, f.2.2.1.a = some p → p.block < w2.heap.size := fun f hf => (hC.msk f hf).own.lt
    refine ⟨Rng.i64 (by omega) (by have hlim := LF_lim hx; omega), ⟨sn + 1, L ++ [f'], by push_cast; rfl, by omega, ⟨Below.trans (Ext.trans e2 X12) b13, ?_, ?_, ?_, ?_⟩, rfl⟩, by omega⟩
    · show Own w13 _ _ 3 a13 (sn + 1) c13 ((L ++ [f']).flatMap TF.vs)
      rw [List.flatMap_append, List.flatMap_singleton]
      exact o13
    · have := hC.len
      simp only at this
      rw [List.length_append, this]; rfl
    · have hd := hC.dat
      show (L ++ [f']).map TF.dat = _
      have hd' : L.map TF.dat = (fds x).take sn := hd
      rw [List.map_append, hd', List.take_add_one, hdy, List.map_singleton, TF_dat, ← hf']
      rfl
    · intro f hf
      have hnew := m13.ne
      rcases List.mem_append.1 hf with h | h
      · have m := hC.msk f h
        refine ⟨but13.own (m.own.ext X12) (m.ne), m.byt, fun p q hp hq => ?_, m.at_⟩
        have := hmlt f h q hq
        exact hnew p q hp (Nat.lt_of_lt_of_le this X12.size) fun p' hp' => m.ne p' q hp' hq
      · rw [List.mem_singleton.1 h, ← hf']
        have hq' : ∀ q : Addr, a' = some q → w2.heap.size ≤ q.block ∧ q.block < w12.heap.size := by
          intro q hq
          have h1 := hblk q hq
          have h2 := x8.size
          have h3 := o11.lt q hq
          have h4 := e12.size
          omega
        have hne : ∀ p q, sa = some p → a' = some q → p.block ≠ q.block := by
          intro p q hp hq
          have h1 := hsa p hp
          have h2 := hq' q hq
          omega
        refine ⟨?_, show Byt y.2.2.1.l from Ty.byt hr.2.2.1, fun p q hp hq => hnew p q hp (hq' q hq).2 fun p' hp' => hne p' q hp' hq, hr.1⟩
        have := but13.own (o11.ext e12) hne
        rw [List.nil_append] at this
        exact this.mono (by have := e2.size; have := x8.size; omega)
  · have : sn = x.n := by omega
    refine ⟨⟨sa, sn, sc, L⟩, rfl, ?_⟩
    rw [List.take_of_length_le (by omega)] at hC
    exact hC

end Go.Proofs.Ytombjhkdakmhpaa.Vc
