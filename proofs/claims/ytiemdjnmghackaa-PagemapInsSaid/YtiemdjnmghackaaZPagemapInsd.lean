/- Texts in one: Plain laws of layer 22 (pagemap): the map and the document's list. The contracts of layer 22 (pagemap): a spot, put. The sort of the library, told in parts. The contracts of layer 22 (pagemap): places, sorted. A map's entry, set. The contracts of layer 22 (pagemap): a namespace less, a place moved, data. The contracts of layer 22 (pagemap): does the program answer. Spots are the same where all that they tell is. The plans of functions as plain statements, printed by wip/tools/vcgen.py; the kernel holds each to the code. The contracts of layer 22 (pagemap): a change, by the program and by the document. The contracts of layer 22 (pagemap): a change, by both. The contracts of layer 22 (pagemap): does a map tell what the document's does. -/
import Derived.Shelf.SlSortCmp.NoneTotal
import Derived.Shelf.SlSortCmp.SmallK
import Derived.Tactics
import Derived.KernelRfl
import Derived.Test.YtiemdjnmghackaaChecked
import Derived.Tactics2
import Derived.Laws.Small
import Derived.Laws.StructEq
import Derived.Laws.Tables
import Derived.Test.YtiemdjnmghackaaZPagemapInsc

/-! Plain laws of layer 22 (pagemap): the map and the document's list. -/
namespace Go.Proofs.Ytiemdjnmghackaa.Vc
open Go Go.Eng Go.RowKit
set_option linter.unusedVariables false
set_option linter.unusedSimpArgs false

def Rc.key (c : Rc) : Int × Int := (c.ns, c.lba)
structure RelX (X : List (SlP Ce)) (z : Sz) (L : List Rc) : Prop where
  ok : XOk X
  sz : ∀ ns, z.get ns = ((getX X ns).n : Int)
  nd : (L.map Rc.key).Nodup
  mem : ∀ c : Rc, c ∈ L ↔ (0 ≤ c.ns ∧ c.ns < 4) ∧ 0 ≤ c.lba ∧ (getX X c.ns).l[c.lba.toNat]? = some ⟨true, c.s⟩
def canL (ns : Int) : Nat → List Ce → List Rc
  | _, [] => []
  | j, c :: l => if c.has = true then ⟨ns, j, c.s⟩ :: canL ns (j + 1) l else canL ns (j + 1) l
theorem canL_cnt (ns : Int) (p : Sp → Bool) : ∀ (l : List Ce) (j : Nat), (canL ns j l).countP (fun c => p c.s) = l.countP fun c => c.has && p c.s
  | [], j => rfl
  | c :: l, j => by
    unfold canL
    have ih := canL_cnt ns p l (j + 1)
    by_cases h : c.has = true
    · rw [if_pos h, List.countP_cons, List.countP_cons, ih, h]
      rfl
    · rw [if_neg h, ih, List.countP_cons]
      have : c.has = false := by simpa using h
      rw [this]
      rfl
theorem canL_mem (ns : Int) (c : Rc) : ∀ (l : List Ce) (j : Nat), c ∈ canL ns j l ↔ c.ns = ns ∧ ∃ i : Nat, c.lba = (j : Int) + i ∧ l[i]? = some ⟨true, c.s⟩
  | [], j => ⟨fun h => (List.not_mem_nil h).elim, fun ⟨_, i, _, h⟩ => by simp at h⟩
  | d :: l, j => by
    have ih := canL_mem ns c l (j + 1)
    unfold canL
    have tl : (∃ i : Nat, c.lba = ((j + 1 : Nat) : Int) + i ∧ l[i]? = some ⟨true, c.s⟩) → ∃ i : Nat, c.lba = (j : Int) + i ∧ (d :: l)[i]? = some ⟨true, c.s⟩ := fun ⟨i, h1, h2⟩ => ⟨i + 1, by push_cast at h1 ⊢; omega, by rw [List.getElem?_cons_succ]; exact h2⟩
    have back : ∀ i : Nat, c.lba = (j : Int) + i → (d :: l)[i]? = some ⟨true, c.s⟩ → (i = 0 ∧ d = ⟨true, c.s⟩) ∨ ∃ i : Nat, c.lba = ((j + 1 : Nat) : Int) + i ∧ l[i]? = some ⟨true, c.s⟩ := fun i h1 h2 => by
      cases i with
      | zero => exact .inl ⟨rfl, by simpa using h2⟩
      | succ i => exact .inr ⟨i, by push_cast at h1 ⊢; omega, by rw [List.getElem?_cons_succ] at h2; exact h2⟩
    by_cases h : d.has = true
    · rw [if_pos h, List.mem_cons, ih]
      constructor
      · rintro (e | ⟨e, h2⟩)
        · subst e
          exact ⟨rfl, 0, by simp, by obtain ⟨a, b⟩ := d; cases h; rfl⟩
        · exact ⟨e, tl h2⟩
      · rintro ⟨e, i, h1, h2⟩
        rcases back i h1 h2 with ⟨h3, h4⟩ | h3
        · subst h3
          refine .inl ?_
          obtain ⟨a, b, s⟩ := c
          rw [h4]
          simp at h1 e ⊢
          exact ⟨e, h1⟩
        · exact .inr ⟨e, h3⟩
    · rw [if_neg h, ih]
      refine and_congr_right fun e => ⟨tl, fun ⟨i, h1, h2⟩ => ?_⟩
      rcases back i h1 h2 with ⟨h3, h4⟩ | h3
      · rw [h4] at h; exact absurd rfl h
      · exact h3
theorem canL_ge (ns : Int) : ∀ (l : List Ce) (j : Nat), ∀ c ∈ canL ns j l, c.ns = ns ∧ (j : Int) ≤ c.lba := fun l j c hc => by
  obtain ⟨h1, i, h2, -⟩ := (canL_mem ns c l j).1 hc
  exact ⟨h1, by omega⟩
theorem canL_nd (ns : Int) : ∀ (l : List Ce) (j : Nat), (canL ns j l).Pairwise fun a b => a ≠ b
  | [], j => .nil
  | c :: l, j => by
    have ih := canL_nd ns l (j + 1)
    unfold canL
    split
    · refine List.pairwise_cons.2 ⟨fun d hd e => ?_, ih⟩
      have := (canL_ge ns l (j + 1) d hd).2
      rw [← e] at this
      push_cast at this
      have : ((j : Int) + 1) ≤ (j : Int) := this
      omega
    · exact ih
def canX (X : List (SlP Ce)) : List Rc := canL 0 0 (getX X 0).l ++ (canL 1 0 (getX X 1).l ++ (canL 2 0 (getX X 2).l ++ canL 3 0 (getX X 3).l))
theorem flatX_four {X : List (SlP Ce)} (hX : X.length = 4) : flatX X = (getX X 0).l ++ ((getX X 1).l ++ ((getX X 2).l ++ (getX X 3).l)) := by
  match X, hX with
  | [a, b, c, d], _ => simp [flatX, getX]
theorem canX_cnt {X : List (SlP Ce)} (hX : X.length = 4) (p : Sp → Bool) : (canX X).countP (fun c => p c.s) = (flatX X).countP fun c => c.has && p c.s := by
  rw [flatX_four hX]
  unfold canX
  simp only [List.countP_append, canL_cnt]
theorem canX_mem {X : List (SlP Ce)} (c : Rc) : c ∈ canX X ↔ (0 ≤ c.ns ∧ c.ns < 4) ∧ 0 ≤ c.lba ∧ (getX X c.ns).l[c.lba.toNat]? = some ⟨true, c.s⟩ := by
  unfold canX
  simp only [List.mem_append, canL_mem]
  constructor
  · rintro (⟨e, i, h1, h2⟩ | ⟨e, i, h1, h2⟩ | ⟨e, i, h1, h2⟩ | ⟨e, i, h1, h2⟩) <;>
    · rw [e]
      refine ⟨by omega, by omega, ?_⟩
      rw [show c.lba.toNat = i by omega]
      exact h2
  · rintro ⟨h1, h2, h3⟩
    have hl : c.lba = ((0 : Nat) : Int) + (c.lba.toNat : Nat) := by omega
    have : c.ns = 0 ∨ c.ns = 1 ∨ c.ns = 2 ∨ c.ns = 3 := by omega
    rcases this with e | e | e | e <;> rw [e] at h3
    · exact .inl ⟨e, _, hl, h3⟩
    · exact .inr (.inl ⟨e, _, hl, h3⟩)
    · exact .inr (.inr (.inl ⟨e, _, hl, h3⟩))
    · exact .inr (.inr (.inr ⟨e, _, hl, h3⟩))
theorem canX_nd (X : List (SlP Ce)) : (canX X).Nodup := by
  unfold canX
  have dis : ∀ {a b : Int} {l m : List Ce}, a ≠ b → ∀ x ∈ canL a 0 l, ∀ y ∈ canL b 0 m, x ≠ y := fun h x hx y hy e => by
    have h1 := (canL_ge _ _ _ x hx).1
    have h2 := (canL_ge _ _ _ y hy).1
    rw [e] at h1
    exact h (h1.symm.trans h2)
  have d2 : ∀ {a b c : Int} {l m n : List Ce}, a ≠ b → a ≠ c → ∀ x ∈ canL a 0 l, ∀ y ∈ canL b 0 m ++ canL c 0 n, x ≠ y := fun h1 h2 x hx y hy => (List.mem_append.1 hy).elim (dis h1 x hx y) (dis h2 x hx y)
  refine List.nodup_append.2 ⟨canL_nd _ _ _, List.nodup_append.2 ⟨canL_nd _ _ _, List.nodup_append.2 ⟨canL_nd _ _ _, canL_nd _ _ _, dis (by decide)⟩, d2 (by decide) (by decide)⟩, fun x hx y hy => (List.mem_append.1 hy).elim (dis (by decide) x hx y) (d2 (by decide) (by decide) x hx y)⟩
section
variable {X : List (SlP Ce)} {z : Sz} {L : List Rc}
theorem RelX.perm (h : RelX X z L) : L.Perm (canX X) := by
  have hn : L.Nodup := (List.pairwise_map.1 h.nd).imp fun {a b} h e => h (by rw [e])
  exact (List.perm_ext_iff_of_nodup hn (canX_nd X)).2 fun c => (h.mem c).trans (canX_mem c).symm
theorem RelX.cnt (h : RelX X z L) (k : Int × Int) : (cntR L k : Int) = cntX X k := by
  unfold cntR cntX cntC
  rw [h.perm.countP_eq, canX_cnt h.ok.four (fun s => decide ((s.b, s.p) = k))]
  rfl
theorem RelX.len (h : RelX X z L) (h4 : ∀ ns, (getX X ns).n ≤ 40) : L.length ≤ 160 := by
  have h1 := h.perm.length_eq
  have h2 := canX_cnt h.ok.four (fun _ => true)
  rw [List.countP_true] at h2
  have h3 := List.countP_le_length (p := fun c : Ce => c.has && true) (l := flatX X)
  have h5 : (flatX X).length ≤ 160 := by
    rw [flatX_four h.ok.four]
    simp only [List.length_append]
    have a := h.ok.get 0; have b := h.ok.get 1; have c := h.ok.get 2; have d := h.ok.get 3
    have a' := h4 0; have b' := h4 1; have c' := h4 2; have d' := h4 3
    omega
  omega
theorem canL_cnt2 (ns n : Int) (p : Sp → Bool) : ∀ (l : List Ce) (j : Nat), (canL ns j l).countP (fun c => decide (c.ns = n) && p c.s) = if ns = n then l.countP (fun c => c.has && p c.s) else 0
  | [], j => by split <;> rfl
  | c :: l, j => by
    unfold canL
    have ih := canL_cnt2 ns n p l (j + 1)
    by_cases h : c.has = true
    · rw [if_pos h, List.countP_cons, ih]
      by_cases e : ns = n
      · subst e; rw [if_pos rfl, if_pos rfl, List.countP_cons, h]; simp
      · rw [if_neg e, if_neg e]; simp [e]
    · rw [if_neg h, ih]
      have : c.has = false := by simpa using h
      split
      · rw [List.countP_cons, this]; rfl
      · rfl
/-- How many sectors of a namespace have data. -/
def datC (X : List (SlP Ce)) (n : Int) : Nat := (getX X n).l.countP fun c => c.has && decide (c.s.h.k = 1)
theorem RelX.dat (h : RelX X z L) (n : Int) : datR L n = datC X n := by
  have e : datR L n = (canX X).countP (fun c => decide (c.ns = n) && decide (c.s.h.k = 1)) := by
    unfold datR
    rw [h.perm.countP_eq]
    congr 1
    funext c
    simp
  rw [e]
  unfold canX datC
  simp only [List.countP_append, canL_cnt2 _ _ (fun s => decide (s.h.k = 1))]
  by_cases hn : 0 ≤ n ∧ n < 4
  · have : n = 0 ∨ n = 1 ∨ n = 2 ∨ n = 3 := by omega
    rcases this with e | e | e | e <;> subst e <;> simp
  · rw [if_neg (by omega), if_neg (by omega), if_neg (by omega), if_neg (by omega)]
    have : (getX X n).l = [] := by unfold getX; rw [if_neg hn]; rfl
    rw [this]
    rfl
/-- What the list tells of a sector is what the map does. -/
theorem RelX.at (h : RelX X z L) {ns lba : Int} : ((∀ c ∈ L, ¬ isK ns lba c) → (getC X ns lba).has = false) ∧ ∀ c ∈ L, isK ns lba c → getC X ns lba = ⟨true, c.s⟩ := by
  have hg : ∀ {c : Ce}, (0 ≤ ns ∧ ns < 4) → 0 ≤ lba → (getX X ns).l[lba.toNat]? = some c → getC X ns lba = c := fun {c} h1 h2 h3 => by
    have := (List.getElem?_eq_some_iff.1 h3).1
    rw [(h.ok.get ns).1] at this
    unfold getC
    rw [if_pos (by omega), List.getD_eq_getElem?_getD, h3]
    rfl
  refine ⟨fun hno => Bool.eq_false_iff.2 fun hh => ?_, fun c hc hk => ?_⟩
  · unfold getC at hh
    split at hh
    · rename_i hl
      have hns : 0 ≤ ns ∧ ns < 4 := by
        refine Classical.byContradiction fun e => ?_
        have : (getX X ns).n = 0 := by unfold getX; rw [if_neg e]; rfl
        omega
      have hlt : lba.toNat < (getX X ns).l.length := by rw [(h.ok.get ns).1]; omega
      rw [List.getD_eq_getElem?_getD, List.getElem?_eq_getElem hlt] at hh
      refine hno ⟨ns, lba, (getX X ns).l[lba.toNat].s⟩ ((h.mem _).2 ⟨hns, hl.1, ?_⟩) ⟨rfl, rfl⟩
      rw [List.getElem?_eq_getElem hlt]
      have hh : (getX X ns).l[lba.toNat].has = true := hh
      show some (getX X ns).l[lba.toNat] = some ⟨true, (getX X ns).l[lba.toNat].s⟩
      generalize (getX X ns).l[lba.toNat] = d at hh ⊢
      obtain ⟨a, b⟩ := d
      cases hh
      rfl
    · cases hh
  · obtain ⟨h1, h2, h3⟩ := (h.mem c).1 hc
    obtain ⟨e1, e2⟩ := hk
    rw [e1] at h1 h3
    rw [e2] at h2 h3
    exact hg h1 h2 h3
theorem okRS (h : RelX X z L) (s : Sp) : okR z s ↔ okS X s := by
  unfold okR okS
  rw [h.sz]
  constructor
  · rintro ⟨-, h2⟩; exact h2
  · intro h2
    refine ⟨?_, h2⟩
    refine Classical.byContradiction fun e => ?_
    have : (getX X s.h.n).n = 0 := by unfold getX; rw [if_neg e]; rfl
    omega
theorem sl_n {Y : List (SlP Ce)} (hY : Y.length = 4) (hX : X.length = 4) (h : Y.map slC = X.map slC) (ns : Int) : (getX Y ns).n = (getX X ns).n := by
  by_cases hn : 0 ≤ ns ∧ ns < 4
  · have h1 : (Y.map slC)[ns.toNat]? = (X.map slC)[ns.toNat]? := by rw [h]
    rw [List.getElem?_map, List.getElem?_map, getX_at hY hn, getX_at hX hn] at h1
    have h2 := Option.some.inj h1
    unfold slC at h2
    injection h2 with e1 e2 e3
  · unfold getX
    rw [if_neg hn, if_neg hn]
theorem addR_mem (s : Sp) (c : Rc) : ∀ i : Nat, c ∈ addR L s i ↔ ∃ t : Nat, t < i ∧ c = ⟨s.h.n, s.h.l + t, s⟩ ∧ ¬ ∃ d ∈ L, isK s.h.n (s.h.l + t) d
  | 0 => ⟨fun h => (List.not_mem_nil h).elim, fun ⟨t, h, _⟩ => by omega⟩
  | i + 1 => by
    have ih := addR_mem s c i
    unfold addR
    split
    · rename_i h1
      rw [ih]
      exact ⟨fun ⟨t, h2, h3⟩ => ⟨t, by omega, h3⟩, fun ⟨t, h2, h3, h4⟩ => by
        by_cases e : t = i
        · subst e; exact absurd h1 h4
        · exact ⟨t, by omega, h3, h4⟩⟩
    · rename_i h1
      rw [List.mem_append, ih, List.mem_singleton]
      constructor
      · rintro (⟨t, h2, h3⟩ | h2)
        · exact ⟨t, by omega, h3⟩
        · exact ⟨i, by omega, h2, h1⟩
      · rintro ⟨t, h2, h3, h4⟩
        by_cases e : t = i
        · subst e; exact .inr h3
        · exact .inl ⟨t, by omega, h3, h4⟩
theorem addR_nd (s : Sp) : ∀ i : Nat, ((addR L s i).map Rc.key).Nodup
  | 0 => .nil
  | i + 1 => by
    have ih := addR_nd s i
    unfold addR
    split
    · exact ih
    · rw [List.map_append, List.nodup_append]
      refine ⟨ih, by simp, fun a ha b hb e => ?_⟩
      simp [Rc.key] at hb
      obtain ⟨c, hc, rfl⟩ := List.mem_map.1 ha
      obtain ⟨t, ht, rfl, -⟩ := (addR_mem s c i).1 hc
      rw [hb] at e
      have := congrArg Prod.snd e
      simp [Rc.key] at this
      omega
theorem updR_key (s : Sp) (c : Rc) : (updR s c).key = c.key := by unfold updR; split <;> rfl
theorem RelX.put {s : Sp} (h : RelX X z L) (hs : okR z s) (hl : 0 ≤ s.h.l) : RelX (putP s X s.h.c.toNat).1 z (putR L s) := by
  obtain ⟨hn, hk, h1, h2, h3⟩ := hs
  rw [h.sz] at h2 h3
  have I := putP_inv (s := s) h.ok hn s.h.c.toNat (by omega)
  generalize (putP s X s.h.c.toNat).1 = Y at I ⊢
  generalize (putP s X s.h.c.toNat).2 = M at I
  have inr : ∀ c : Rc, 0 ≤ c.lba → (spR s c ↔ c.ns = s.h.n ∧ s.h.l.toNat ≤ c.lba.toNat ∧ c.lba.toNat < s.h.l.toNat + s.h.c.toNat) := fun c hc => by
    unfold spR
    exact ⟨fun k => ⟨k.1, by omega, by omega⟩, fun k => ⟨k.1, by omega, by omega⟩⟩
  refine ⟨I.ok, fun ns => by rw [h.sz, sl_n I.ok.four h.ok.four I.sl], ?_, fun c => ?_⟩
  · unfold putR
    rw [List.map_append, List.map_map, show Rc.key ∘ updR s = Rc.key from funext fun c => updR_key s c, List.nodup_append]
    refine ⟨h.nd, addR_nd s _, fun a ha b hb e => ?_⟩
    obtain ⟨d, hd, rfl⟩ := List.mem_map.1 ha
    obtain ⟨c, hc, rfl⟩ := List.mem_map.1 hb
    obtain ⟨t, ht, rfl, hno⟩ := (addR_mem s c _).1 hc
    exact hno ⟨d, hd, congrArg Prod.fst e, congrArg Prod.snd e⟩
  · unfold putR
    rw [List.mem_append, List.mem_map, addR_mem]
    constructor
    · rintro (⟨d, hd, rfl⟩ | ⟨t, ht, rfl, hno⟩)
      · obtain ⟨h4, h5, h6⟩ := (h.mem d).1 hd
        have e1 : (updR s d).ns = d.ns := congrArg Prod.fst (updR_key s d)
        have e2 : (updR s d).lba = d.lba := congrArg Prod.snd (updR_key s d)
        rw [e1, e2, I.cell]
        refine ⟨h4, h5, ?_⟩
        by_cases hsp : spR s d
        · rw [if_pos ((inr d h5).1 hsp), h6]
          show some (putC s ⟨true, d.s⟩) = _
          unfold putC updR
          by_cases hnw : newH s d.s
          · rw [if_neg (fun k => k.2 hnw), if_pos ⟨hsp, hnw⟩]
          · rw [if_pos ⟨rfl, hnw⟩, if_neg (fun k => hnw k.2)]
        · rw [if_neg (fun k => hsp ((inr d h5).2 k)), h6]
          unfold updR
          rw [if_neg (fun k => hsp k.1)]
      · show (0 ≤ s.h.n ∧ s.h.n < 4) ∧ 0 ≤ s.h.l + (t : Int) ∧ (getX Y s.h.n).l[(s.h.l + (t : Int)).toNat]? = some ⟨true, s⟩
        refine ⟨hn, by omega, ?_⟩
        rw [I.cell, if_pos ⟨rfl, by omega, by omega⟩]
        have hlt : (s.h.l + (t : Int)).toNat < (getX X s.h.n).l.length := by rw [(h.ok.get _).1]; omega
        rw [List.getElem?_eq_getElem hlt]
        show some (putC s _) = _
        unfold putC
        rw [if_neg]
        rintro ⟨hh, -⟩
        refine hno ⟨⟨s.h.n, s.h.l + t, (getX X s.h.n).l[(s.h.l + (t : Int)).toNat].s⟩, (h.mem _).2 ⟨hn, by show 0 ≤ s.h.l + (t : Int); omega, ?_⟩, rfl, rfl⟩
        show (getX X s.h.n).l[(s.h.l + (t : Int)).toNat]? = _
        rw [List.getElem?_eq_getElem hlt]
        generalize (getX X s.h.n).l[(s.h.l + (t : Int)).toNat] = d at hh ⊢
        obtain ⟨a, b⟩ := d
        cases hh
        rfl
    · rintro ⟨h4, h5, h6⟩
      rw [I.cell] at h6
      by_cases hsp : spR s c
      · rw [if_pos ((inr c h5).1 hsp)] at h6
        obtain ⟨d, hd, he⟩ := Option.map_eq_some_iff.1 h6
        unfold putC at he
        split at he
        · rename_i hh
          subst he
          exact .inl ⟨c, (h.mem c).2 ⟨h4, h5, hd⟩, by unfold updR; rw [if_neg (fun k => hh.2 k.2)]⟩
        · rename_i hh
          have hcs : s = c.s := by injection he
          by_cases hd1 : d.has = true
          · refine .inl ⟨⟨c.ns, c.lba, d.s⟩, (h.mem _).2 ⟨h4, h5, ?_⟩, ?_⟩
            · rw [hd]
              obtain ⟨a, b⟩ := d
              cases hd1
              rfl
            · unfold updR
              rw [if_pos ⟨hsp, Classical.byContradiction fun e => hh ⟨hd1, e⟩⟩]
              obtain ⟨x1, x2, x3⟩ := c
              dsimp only at hcs ⊢
              rw [hcs]
          · refine .inr ⟨(c.lba - s.h.l).toNat, by have := hsp.2; omega, ?_, ?_⟩
            · obtain ⟨x1, x2, x3⟩ := c
              have a1 : x1 = s.h.n := hsp.1
              have a2 : s.h.l ≤ x2 := hsp.2.1
              have a3 : x3 = s := hcs.symm
              rw [a1, a3, show s.h.l + (((x2 - s.h.l).toNat : Nat) : Int) = x2 by omega]
            · rintro ⟨e, he, hke⟩
              obtain ⟨-, -, h9⟩ := (h.mem e).1 he
              have b1 : e.ns = c.ns := hke.1.trans hsp.1.symm
              have b2 : e.lba = c.lba := by have := hke.2; have := hsp.2.1; omega
              rw [b1, b2, hd] at h9
              rw [Option.some.inj h9] at hd1
              exact hd1 rfl
      · rw [if_neg (fun k => hsp ((inr c h5).2 k))] at h6
        exact .inl ⟨c, (h.mem c).2 ⟨h4, h5, h6⟩, by unfold updR; rw [if_neg (fun k => hsp k.1)]⟩
/-- What the sort makes of the places is what the document tells. -/
theorem told_eq {Y : List (SlP Ce)} {z2 : Sz} {K : List Rc} {G M L' : List (Int × Int)} (h : RelX X z L) (h2 : RelX Y z2 K) (hnd : M.Nodup) (hm : ∀ k, k ∈ M ↔ 1 ≤ cntX X k ∧ cntX Y k = 0) (hG : Gone L K G) (hp : L'.Perm M) (hs : L'.Pairwise fun x y => ¬ plL' y x) : L' = G := by
  have hGn : G.Nodup := hG.so.imp fun {a b} h e => by rw [e] at h; unfold plL' at h; omega
  have hmem : ∀ k, k ∈ G ↔ k ∈ M := fun k => by
    rw [hG.mem, hm, ← h.cnt, ← h2.cnt]
    have : (∃ c ∈ L, c.pl = k) ↔ 0 < cntR L k := by
      unfold cntR
      rw [List.countP_pos_iff]
      simp
    rw [this]
    omega
  have hpg : L'.Perm G := hp.trans ((List.perm_ext_iff_of_nodup hnd hGn).2 fun k => (hmem k).symm)
  refine List.Perm.eq_of_pairwise (le := fun x y => ¬ plL' y x) (fun a b _ _ h1 h2 => ?_) hs (hG.so.imp fun {a b} h k => by unfold plL' at h k; omega) hpg
  unfold plL' at h1 h2
  exact Prod.ext (by omega) (by omega)
/-! ### A namespace less -/
theorem filt_nd {p : Rc → Bool} (h : (L.map Rc.key).Nodup) : ((L.filter p).map Rc.key).Nodup := h.sublist ((List.filter_sublist (l := L)).map _)
theorem clr_get (n ns : Int) : (z.clr n).get ns = if ns = n then 0 else z.get ns := by
  unfold Sz.clr Sz.get
  dsimp only
  by_cases h0 : ns = 0
  · subst h0; rw [if_pos rfl, if_pos rfl]; split <;> split <;> first | rfl | omega
  · rw [if_neg h0, if_neg h0]
    by_cases h1 : ns = 1
    · subst h1; rw [if_pos rfl, if_pos rfl]; split <;> split <;> first | rfl | omega
    · rw [if_neg h1, if_neg h1]
      by_cases h2 : ns = 2
      · subst h2; rw [if_pos rfl, if_pos rfl]; split <;> split <;> first | rfl | omega
      · rw [if_neg h2, if_neg h2]
        by_cases h3 : ns = 3
        · subst h3; rw [if_pos rfl, if_pos rfl]; split <;> split <;> first | rfl | omega
        · rw [if_neg h3, if_neg h3]; split <;> rfl
theorem getX_put {X : List (SlP Ce)} (hX : X.length = 4) {ns : Int} (hn : 0 ≤ ns ∧ ns < 4) {x : SlP Ce} (ns' : Int) : getX (X.set ns.toNat x) ns' = if ns' = ns then x else getX X ns' := by
  by_cases hn' : 0 ≤ ns' ∧ ns' < 4
  · have h1 := getX_at (X := X.set ns.toNat x) (by rw [List.length_set]; exact hX) hn'
    rw [List.getElem?_set] at h1
    by_cases h : ns' = ns
    · subst h
      rw [if_pos rfl, if_pos (by omega)] at h1
      rw [if_pos rfl]
      exact (Option.some.inj h1).symm
    · rw [if_neg (by omega), getX_at hX hn'] at h1
      rw [if_neg h]
      exact (Option.some.inj h1).symm
  · have h : ns' ≠ ns := fun e => hn' (e ▸ hn)
    rw [if_neg h]
    unfold getX
    rw [if_neg hn', if_neg hn']
theorem RelX.drop {n : Int} (h : RelX X z L) (hn : 0 ≤ n ∧ n < 4) : RelX (X.set n.toNat noC) (z.clr n) (L.filter fun c => decide (c.ns ≠ n)) := by
  have g := fun ns => getX_put h.ok.four hn (x := noC) ns
  refine ⟨⟨by rw [List.length_set]; exact h.ok.four, fun x hx => (List.mem_or_eq_of_mem_set hx).elim (h.ok.len x) fun e => by rw [e]; exact ⟨rfl, Nat.zero_le _⟩⟩, fun ns => ?_, filt_nd h.nd, fun c => ?_⟩
  · rw [clr_get, g]
    split
    · rfl
    · exact h.sz ns
  · rw [List.mem_filter, h.mem, g]
    by_cases e : c.ns = n
    · rw [if_pos e]
      constructor
      · rintro ⟨-, h2⟩; simp [e] at h2
      · rintro ⟨-, -, h2⟩
        have h2 : ([] : List Ce)[c.lba.toNat]? = some ⟨true, c.s⟩ := h2
        simp at h2
    · rw [if_neg e]
      exact ⟨fun h => h.1, fun h => ⟨h, by simpa using e⟩⟩
theorem cntX_drop {n : Int} (hX : X.length = 4) (hn : 0 ≤ n ∧ n < 4) (k : Int × Int) : cntX (X.set n.toNat noC) k = cntX X k - cntC (getX X n).l k := by
  unfold cntX
  obtain ⟨m1, m2⟩ := flat_mid (f := fun x : SlP Ce => x.l) (z := noC) (getX_at hX hn)
  have h1 : flatX X = _ := m1
  have h2 : flatX (X.set n.toNat noC) = _ := m2
  rw [h1, h2]
  unfold cntC
  simp only [List.countP_append]
  have : (noC : SlP Ce).l = [] := rfl
  rw [this]
  push_cast
  simp
  omega
/-! ### A namespace more -/
def Sz.put (z : Sz) (n v : Int) : Sz := ⟨if n = 0 then v else z.a, if n = 1 then v else z.b, if n = 2 then v else z.c, if n = 3 then v else z.d⟩
theorem put_get (n v ns : Int) (hn : 0 ≤ n ∧ n < 4) : (z.put n v).get ns = if ns = n then v else z.get ns := by
  unfold Sz.put Sz.get
  dsimp only
  by_cases h0 : ns = 0
  · subst h0; rw [if_pos rfl, if_pos rfl]; split <;> split <;> first | rfl | omega
  · rw [if_neg h0, if_neg h0]
    by_cases h1 : ns = 1
    · subst h1; rw [if_pos rfl, if_pos rfl]; split <;> split <;> first | rfl | omega
    · rw [if_neg h1, if_neg h1]
      by_cases h2 : ns = 2
      · subst h2; rw [if_pos rfl, if_pos rfl]; split <;> split <;> first | rfl | omega
      · rw [if_neg h2, if_neg h2]
        by_cases h3 : ns = 3
        · subst h3; rw [if_pos rfl, if_pos rfl]; split <;> split <;> first | rfl | omega
        · rw [if_neg h3, if_neg h3, if_neg (by omega)]
theorem RelX.add {n : Int} {v : Nat} {x : SlP Ce} (h : RelX X z L) (hn : 0 ≤ n ∧ n < 4) (h0 : (getX X n).n = 0) (hx : x.l = List.replicate v Ce0) (hxn : x.n = v) (hv : v ≤ 65535) : RelX (X.set n.toNat x) (z.put n v) L := by
  have g := fun ns => getX_put h.ok.four hn (x := x) ns
  have h0l : (getX X n).l = [] := List.length_eq_zero_iff.1 (by rw [(h.ok.get n).1, h0])
  refine ⟨⟨by rw [List.length_set]; exact h.ok.four, fun y hy => (List.mem_or_eq_of_mem_set hy).elim (h.ok.len y) fun e => by rw [e, hx, hxn]; exact ⟨by simp, hv⟩⟩, fun ns => ?_, h.nd, fun c => ?_⟩
  · rw [put_get n v ns hn, g]
    split
    · rw [hxn]
    · exact h.sz ns
  · rw [h.mem, g]
    by_cases e : c.ns = n
    · rw [if_pos e, e, h0l, hx]
      constructor
      · rintro ⟨-, -, h2⟩; simp at h2
      · rintro ⟨-, -, h2⟩
        rw [List.getElem?_replicate] at h2
        split at h2
        · have := congrArg Ce.has (Option.some.inj h2)
          cases this
        · cases h2
    · rw [if_neg e]
/-! ### A place moved -/
def movC (f t : Int × Int) (o : Hh) (c : Ce) : Ce := if c.has = true ∧ c.pl = f then ⟨true, ⟨t.1, t.2, c.s.h, o⟩⟩ else c
def movX (f t : Int × Int) (o : Hh) (X : List (SlP Ce)) : List (SlP Ce) := X.map fun x => ⟨x.a, x.n, x.c, x.l.map (movC f t o)⟩
theorem getX_mov (f t : Int × Int) (o : Hh) (ns : Int) (hX : X.length = 4) : getX (movX f t o X) ns = ⟨(getX X ns).a, (getX X ns).n, (getX X ns).c, (getX X ns).l.map (movC f t o)⟩ := by
  by_cases hn : 0 ≤ ns ∧ ns < 4
  · have h1 := getX_at (X := movX f t o X) (by unfold movX; rw [List.length_map]; exact hX) hn
    unfold movX at h1
    rw [List.getElem?_map, getX_at hX hn] at h1
    exact (Option.some.inj h1).symm
  · unfold getX
    rw [if_neg hn, if_neg hn]
    rfl
theorem movX_ok {f t : Int × Int} {o : Hh} (h : XOk X) : XOk (movX f t o X) := ⟨by unfold movX; rw [List.length_map]; exact h.four, fun x hx => by
  obtain ⟨y, hy, rfl⟩ := List.mem_map.1 hx
  have := h.len y hy
  exact ⟨by show (y.l.map _).length = _; rw [List.length_map]; exact this.1, this.2⟩⟩
theorem RelX.move {f t : Int × Int} {o : Hh} (h : RelX X z L) : RelX (movX f t o X) z (L.map (movR f t o)) := by
  have hk : ∀ c : Rc, (movR f t o c).key = c.key := fun c => by unfold movR; split <;> rfl
  refine ⟨movX_ok h.ok, fun ns => by rw [getX_mov _ _ _ _ h.ok.four]; exact h.sz ns, ?_, fun c => ?_⟩
  · rw [List.map_map, show Rc.key ∘ movR f t o = Rc.key from funext hk]
    exact h.nd
  · rw [List.mem_map, getX_mov _ _ _ _ h.ok.four]
    show _ ↔ _ ∧ _ ∧ ((getX X c.ns).l.map (movC f t o))[c.lba.toNat]? = _
    rw [List.getElem?_map]
    constructor
    · rintro ⟨d, hd, rfl⟩
      obtain ⟨h1, h2, h3⟩ := (h.mem d).1 hd
      have e1 : (movR f t o d).ns = d.ns := congrArg Prod.fst (hk d)
      have e2 : (movR f t o d).lba = d.lba := congrArg Prod.snd (hk d)
      rw [e1, e2, h3]
      refine ⟨h1, h2, ?_⟩
      show some (movC f t o ⟨true, d.s⟩) = _
      unfold movC movR
      by_cases e : d.pl = f
      · rw [if_pos e, if_pos ⟨rfl, e⟩]
      · rw [if_neg e, if_neg (fun k => e k.2)]
    · rintro ⟨h1, h2, h3⟩
      obtain ⟨d, hd, he⟩ := Option.map_eq_some_iff.1 h3
      have hh : d.has = true := by
        unfold movC at he
        split at he
        · rename_i k; exact k.1
        · rw [he]
      refine ⟨⟨c.ns, c.lba, d.s⟩, (h.mem _).2 ⟨h1, h2, ?_⟩, ?_⟩
      · rw [hd]
        obtain ⟨a, b⟩ := d
        cases hh
        rfl
      · unfold movC at he
        unfold movR
        by_cases e : d.pl = f
        · rw [if_pos ⟨hh, e⟩] at he
          rw [if_pos e]
          have : (⟨t.1, t.2, d.s.h, o⟩ : Sp) = c.s := by injection he
          obtain ⟨x1, x2, x3⟩ := c
          dsimp only at this ⊢
          rw [this]
        · rw [if_neg (fun k => e k.2)] at he
          rw [if_neg e, he]
theorem cntC_mov (f t : Int × Int) (o : Hh) (k : Int × Int) : ∀ l : List Ce, (cntC (l.map (movC f t o)) k : Int) = cntC l k - (if k = f then (cntC l f : Int) else 0) + (if k = t then (cntC l f : Int) else 0)
  | [] => by simp [cntC]
  | c :: l => by
    have ih := cntC_mov f t o k l
    unfold cntC at ih ⊢
    rw [List.map_cons, List.countP_cons, List.countP_cons, List.countP_cons]
    have h1 : isP k (movC f t o c) = if isP f c = true then decide (t = k) else isP k c := by
      unfold movC isP
      by_cases hh : c.has = true
      · by_cases hp : c.pl = f
        · rw [if_pos ⟨hh, hp⟩, if_pos (by simp [hh, hp])]; rfl
        · rw [if_neg (fun e => hp e.2), if_neg (by simp [hp])]
      · rw [if_neg (fun e => hh e.1), if_neg (by simp [hh])]
    have h2 : isP f c = true → (isP k c = true ↔ k = f) := fun h => by
      unfold isP at h ⊢
      rw [Bool.and_eq_true, decide_eq_true_iff] at h
      rw [h.1, h.2]
      simp
      exact eq_comm
    rw [h1]
    by_cases hf : isP f c = true
    · rw [if_pos hf, if_pos hf]
      by_cases hk : k = f
      · rw [if_pos ((h2 hf).2 hk)]
        rw [if_pos hk] at ih ⊢
        by_cases ht : k = t
        · rw [if_pos ht] at ih ⊢
          rw [if_pos (by simpa using ht.symm)]
          push_cast
          omega
        · rw [if_neg ht] at ih ⊢
          rw [if_neg (by simpa using fun e => ht e.symm)]
          push_cast
          omega
      · rw [if_neg (fun e => hk ((h2 hf).1 e))]
        rw [if_neg hk] at ih ⊢
        by_cases ht : k = t
        · rw [if_pos ht] at ih ⊢
          rw [if_pos (by simpa using ht.symm)]
          push_cast
          omega
        · rw [if_neg ht] at ih ⊢
          rw [if_neg (by simpa using fun e => ht e.symm)]
          push_cast
          omega
    · rw [if_neg hf, if_neg hf]
      by_cases hk : k = f
      · rw [if_pos hk] at ih ⊢
        by_cases ht : k = t
        · rw [if_pos ht] at ih ⊢
          push_cast
          omega
        · rw [if_neg ht] at ih ⊢
          push_cast
          omega
      · rw [if_neg hk] at ih ⊢
        by_cases ht : k = t
        · rw [if_pos ht] at ih ⊢
          push_cast
          omega
        · rw [if_neg ht] at ih ⊢
          push_cast
          omega
theorem cntX_mov (f t : Int × Int) (o : Hh) (k : Int × Int) : cntX (movX f t o X) k = cntX X k - (if k = f then cntX X f else 0) + (if k = t then cntX X f else 0) := by
  unfold cntX
  have : flatX (movX f t o X) = (flatX X).map (movC f t o) := by
    unfold flatX movX
    rw [List.flatMap_map, List.map_flatMap]
  rw [this]
  exact cntC_mov f t o k _
end
end Go.Proofs.Ytiemdjnmghackaa.Vc

/-! The contracts of layer 22 (pagemap): a spot, put. -/
namespace Go.Proofs.Ytiemdjnmghackaa.Vc
open Go Go.Eng Go.RowKit
set_option linter.unusedVariables false
set_option linter.unusedSimpArgs false

abbrev ownsA (X : List (SlP Ce)) : Asr := StarA (X.map ownC)
abbrev boxP (p r : Nat) (X : List (SlP Ce)) : Asr := BoxA p 117 (X.map slC ++ [.map (some r)])
section
variable {E : Nat → Prop} {w0 w : World} {p r : Nat} {X : List (SlP Ce)} {m : Int × Int → Int} {Rs : List Asr}
theorem toQ (S : Sep E w0 w [boxP p r X, MapF r m, ownsA X]) : Sep E w0 w (PmQ p r X m []) := by
  have h := (((S.sel [2, 0, 0] rfl).unfold (Rs := X.map ownC) (Ts := [boxP p r X, MapF r m])).perm List.perm_append_comm)
  show Sep E w0 w (_ :: _ :: (X.map ownC ++ []))
  rw [List.append_nil]
  exact h
theorem fromQ (S : Sep E w0 w (PmQ p r X m [])) : Sep E w0 w [boxP p r X, MapF r m, ownsA X] := by
  have S : Sep E w0 w ([boxP p r X, MapF r m] ++ X.map ownC) := by
    have S : Sep E w0 w (_ :: _ :: (X.map ownC ++ [])) := S
    rw [List.append_nil] at S
    exact S
  exact ((S.perm List.perm_append_comm).fold (Rs := X.map ownC)).sel [1, 1, 0] rfl
theorem owns_nth (hX : X.length = 4) {ns : Int} (hn : 0 ≤ ns ∧ ns < 4) : (X.map ownC)[ns.toNat]? = some (ownC (getX X ns)) := by
  rw [List.getElem?_map, getX_at hX hn]; rfl
/-- A cell that is read. -/
theorem cellR (hX : X.length = 4) {ns : Int} (hn : 0 ≤ ns ∧ ns < 4) (i : Nat) (S : Sep E w0 w Rs) (hi : Rs[i]? = some (ownsA X)) {j : Int} (h0 : 0 ≤ j) (h1 : j < ((getX X ns).n : Int)) :
    ∃ q x, (getX X ns).a = some q ∧ (getX X ns).l[j.toNat]? = some x ∧ CellsAt w (q.add (j.toNat * 15)) x.vs ∧ q.block < w.heap.size := by
  have S := (S.perm (perm_front hi)).unfold (Rs := X.map ownC)
  have hi2 : (X.map ownC ++ Rs.eraseIdx i)[ns.toNat]? = some (ownC (getX X ns)) := by
    have := owns_nth hX hn
    rw [List.getElem?_append_left (List.getElem?_eq_some_iff.1 this).1, this]
  obtain ⟨q, x, hq, hx, hc⟩ := S.nthF (f := Ce.vs) (m := 15) ns.toNat hi2 Ce_len (by decide) h0 h1
  exact ⟨q, x, hq, hx, hc, (S.own ns.toNat hi2).lt q hq⟩
/-- A cell that is written. -/
theorem cellW (hX : X.length = 4) {ns : Int} (hn : 0 ≤ ns ∧ ns < 4) (i : Nat) (S : Sep E w0 w Rs) (hi : Rs[i]? = some (ownsA X)) {q : Addr} (hq : (getX X ns).a = some q) {j : Nat} (hj : j < (getX X ns).n) (c : Ce) {K : World → Prop}
    (hk : ∀ w', Sep E w0 w' (Rs.set i (ownsA (setX X ns j c))) → Fr (fun k => k = q.block) w w' → K w') : StoreV w (q.add (j * 15)) c.vs K := by
  have S1 := (S.perm (perm_front hi)).unfold (Rs := X.map ownC)
  have h4 := owns_nth hX hn
  have S2 : Sep E w0 w (ownC (getX X ns) :: ((X.map ownC).eraseIdx ns.toNat ++ Rs.eraseIdx i)) := S1.perm ((perm_front h4).append_right (Rs.eraseIdx i))
  obtain ⟨q2, hq2, h⟩ := S2.putF (f := Ce.vs) (m := 15) Ce_len Ce_one (by decide) (j := (j : Int)) ⟨by omega, by omega⟩ c (K := K) fun w' S3 f3 => hk w' (by
    rw [Int.toNat_natCast] at S3
    have S4 : Sep E w0 w' ((X.map ownC).set ns.toNat (ownC ⟨(getX X ns).a, (getX X ns).n, (getX X ns).c, (getX X ns).l.set j c⟩) ++ Rs.eraseIdx i) := S3.perm (((perm_set h4).append_right (Rs.eraseIdx i)))
    rw [← List.map_set (f := ownC)] at S4
    exact (S4.fold (Rs := (setX X ns j c).map ownC)).perm (perm_set hi)) (f3.mono fun k ⟨q3, hq3, hk⟩ => by rw [hq] at hq3; cases hq3; exact hk)
  rw [hq] at hq2
  cases hq2
  rw [Int.toNat_natCast] at h
  exact h
theorem ld4P (hX : X.length = 4) (i : Nat) (S : Sep E w0 w Rs) (hi : Rs[i]? = some (boxP p r X)) {K : Option Nat → Prop} (hk : K (some r)) : LoadS w ((⟨p, 0, none⟩ : Addr).add 4) .map K := by
  rw [show (⟨p, 0, none⟩ : Addr).add 4 = ⟨p, 4, none⟩ by simp [Addr.add_lit]]
  refine S.ld i hi (j := 4) (h := .map) (some r) ?_ hk
  rw [List.getElem?_append_right (by rw [List.length_map, hX]; omega), List.length_map, hX]
  rfl
theorem bv4 (hX : X.length = 4) : (X.map slC ++ [Value.map (some r)])[4]? = some (.map (some r)) := by
  rw [List.getElem?_append_right (by rw [List.length_map, hX]; omega), List.length_map, hX]
  rfl
/-- What the sort of places makes of them. -/
def Told (T : List (Int × Int) → List (Int × Int) → Prop) (L : List (Int × Int)) : Prop := ∀ {E : Nat → Prop} {w0 w : World} {Rs : List Asr} {a : Option Addr} {n c : Nat}, Sep E w0 w (outA a n c L :: Rs) →
  CallV Try.prog 79 #[.slice a n c] w [.one .sl] fun rr w' => ∃ L', T L L' ∧ rr.1 = (⟨a, n, c⟩ : SlV) ∧ Sep E w0 w' (outA a n c L' :: Rs)
theorem Told.nil {T : List (Int × Int) → List (Int × Int) → Prop} (hT : T [] []) : Told T [] := fun {E w0 w Rs a n c} S => by
  have hl := (S.own 0 rfl).len
  have hn : n = 0 := by simp at hl; omega
  subst hn
  refine told0_c.mono ?_
  rintro ⟨_, ⟨⟩⟩ w1 ⟨h1, rfl⟩
  exact ⟨[], hT, h1, S⟩
theorem Put22_c {s : Sp} {T : List (Int × Int) → List (Int × Int) → Prop} (hl : 0 ≤ s.h.l ∧ s.h.l < 4294967296) (hX : XOk X) (hT : okS X s → Told T (putP s X s.h.c.toNat).2) (S : Sep E w0 w [boxP p r X, MapF r (cntX X), ownsA X]) :
    CallV Try.prog 39 #[.pointer (some ⟨p, 0, none⟩), s.val] w [.one .sl, .one (.int .i64)] fun rr w' => (¬ okS X s → rr.1 = (⟨none, 0, 0⟩ : SlV) ∧ rr.2.1 = (2 : Int) ∧ Sep E w0 w' [boxP p r X, MapF r (cntX X), ownsA X]) ∧
      (okS X s → rr.2.1 = (0 : Int) ∧ ∃ (L' : List (Int × Int)), T (putP s X s.h.c.toNat).2 L' ∧ Sep E w0 w' [outA rr.1.a rr.1.n rr.1.c L', boxP p r (putP s X s.h.c.toNat).1, MapF r (cntX (putP s X s.h.c.toNat).1), ownsA (putP s X s.h.c.toNat).1]) := by
  apply pagemap_Map_Put.vc
  unfold pagemap_Map_Put.P
  refine S.newB fun b1 w1 S f1 _ => ?_
  refine S.la0 rfl ?_
  refine (speaks22_c (s := s) hl hX.four (by have := (hX.get s.h.n).2; omega) (toQ (S.sel [1, 1, 1] rfl))).mono ?_
  rintro ⟨⟨ra, rn, rc⟩, ⟨⟩⟩ w2 ⟨x2, h2, h2'⟩
  dsimp only at h2 h2' ⊢
  have S := S.stepE x2
  by_cases hok : okS X s
  case neg =>
    have h := h2' hok
    cases h
    exact cond_t rfl ⟨fun _ => ⟨rfl, rfl, S.tail⟩, fun h => absurd h hok⟩
  have h := h2 hok
  cases h
  clear h2 h2'
  obtain ⟨hkd, hc1, hc2, hc3⟩ := hok
  have hns : 0 ≤ s.h.n ∧ s.h.n < 4 := by
    refine Classical.byContradiction fun h => ?_
    have : (getX X s.h.n).n = 0 := by unfold getX; rw [if_neg h]; rfl
    omega
  have hgn := (hX.get s.h.n).2
  refine cond_eq (fun h => ?_) (fun _ => ?_)
  · exfalso
    have h : ((s.h.c.toNat : Nat) : Int) = 0 := h
    omega
  have S := S.nilOwn 55 2
  obtain ⟨q0, hq0⟩ : ∃ q0, (getX X s.h.n).a = some q0 := by
    obtain ⟨q, _, hq, _⟩ := cellR hX.four hns 4 S rfl (j := 0) (by omega) (by omega)
    exact ⟨q, hq⟩
  have hput : ∀ i : Nat, XOk (putP s X i).1 ∧ (putP s X i).1.map slC = X.map slC := by
    intro i
    induction i with
    | zero => exact ⟨hX, rfl⟩
    | succ i ih => exact ⟨stepP_ok ih.1, (stepP_sl ih.1 hns).trans ih.2⟩
  have hsl : ∀ i : Nat, (getX (putP s X i).1 s.h.n).a = (getX X s.h.n).a ∧ (getX (putP s X i).1 s.h.n).n = (getX X s.h.n).n ∧ (getX (putP s X i).1 s.h.n).c = (getX X s.h.n).c := by
    intro i
    have h1 : ((putP s X i).1.map slC)[s.h.n.toNat]? = (X.map slC)[s.h.n.toNat]? := by rw [(hput i).2]
    rw [List.getElem?_map, List.getElem?_map, getX_at (hput i).1.four hns, getX_at hX.four hns] at h1
    have h2 := Option.some.inj h1
    unfold slC at h2
    injection h2 with e1 e2 e3
    exact ⟨e1, e2, e3⟩
  refine Loop1 (fun (v : SlV × Int × Unit) w' => ∃ i : Nat, v.2.1 = (i : Int) ∧ (i : Int) ≤ s.h.c ∧ v.1.n ≤ i ∧ Sep E w0 w' [outA v.1.a v.1.n v.1.c (putP s X i).2, BoxA b1 61 s.vs, boxP p r (putP s X i).1, MapF r (cntX (putP s X i).1), ownsA (putP s X i).1])
    (fun (v : SlV × Int × Unit) _ => (s.h.c - v.2.1).toNat) ⟨0, rfl, by omega, Nat.le_refl _, S⟩ ?_
  clear S
  rintro ⟨⟨oa, on, oc⟩, (v : Int), ⟨⟩⟩ w3 ⟨i, hv, hi, hon, S⟩
  dsimp only at hv hon S ⊢
  subst hv
  have hcn : ((s.h.c.toNat : Nat) : Int) = s.h.c := by omega
  refine cond_d (fun hlt => ?_) (fun hge => ?_)
  case refine_2 =>
    have hie : i = s.h.c.toNat := by omega
    subst hie
    refine (hT ⟨hkd, hc1, hc2, hc3⟩ S).mono ?_
    rintro ⟨_, ⟨⟩⟩ w4 ⟨L', hL', hr, S⟩
    dsimp only at hr
    subst hr
    exact ⟨fun h => absurd ⟨hkd, hc1, hc2, hc3⟩ h, fun _ => ⟨rfl, L', hL', S.sel [0, 1, 1, 1] rfl⟩⟩
  obtain ⟨hXi, hbx⟩ := hput i
  obtain ⟨g1, g2, g3⟩ := hsl i
  generalize hXX : (putP s X i).1 = Y at S hXi hbx g1 g2 g3
  generalize hLL : (putP s X i).2 = L at S
  have hst : putP s X (i + 1) = stepP s (s.h.l.toNat + i) (Y, L) := by
    show stepP _ _ (putP s X i) = _
    rw [← hXX, ← hLL]
  have hj : 0 ≤ s.h.l + (i : Int) ∧ s.h.l + (i : Int) < ((getX Y s.h.n).n : Int) := by omega
  have hjn : (s.h.l + (i : Int)).toNat = s.h.l.toNat + i := by omega
  obtain ⟨q, x, hq, hx, hcx, hqb⟩ := cellR hXi.four hns 4 S rfl hj.1 hj.2
  rw [g1, hq0] at hq
  cases hq
  rw [hjn] at hx hcx
  have hadd : (q0.add (s.h.l.toNat * 15)).add (((i : Int)).toNat * 15) = q0.add ((s.h.l.toNat + i) * 15) := by rw [add_add, Int.toNat_natCast, Nat.add_mul]
  have bnd : 0 ≤ (i : Int) ∧ (i : Int) < ((s.h.c.toNat : Nat) : Int) := by omega
  refine ⟨bnd, q0.add (s.h.l.toNat * 15), by rw [hq0]; rfl, x.tup, by rw [hadd]; exact hcx, ?_⟩
  refine S.newB fun b11 w4 S f4 _ => ?_
  refine S.st0 (by rfl) fun w5 S f5 => ?_
  have hgx : (getX Y s.h.n).l.getD (s.h.l.toNat + i) Ce0 = x := by rw [List.getD_eq_getElem?_getD, hx]; rfl
  have r1 : Rng .i64 ((i : Int) + 1) := Rng.i64 (by omega) (by omega)
  have Q : ∀ {w' : World} {v : SlV × Int × Unit}, v.2.1 = (i : Int) + 1 → v.1.n ≤ i + 1 → Sep E w0 w' [outA v.1.a v.1.n v.1.c (stepP s (s.h.l.toNat + i) (Y, L)).2, BoxA b1 61 s.vs, boxP p r (stepP s (s.h.l.toNat + i) (Y, L)).1, MapF r (cntX (stepP s (s.h.l.toNat + i) (Y, L)).1), ownsA (stepP s (s.h.l.toNat + i) (Y, L)).1] →
      (∃ j : Nat, v.2.1 = (j : Int) ∧ (j : Int) ≤ s.h.c ∧ v.1.n ≤ j ∧ Sep E w0 w' [outA v.1.a v.1.n v.1.c (putP s X j).2, BoxA b1 61 s.vs, boxP p r (putP s X j).1, MapF r (cntX (putP s X j).1), ownsA (putP s X j).1]) ∧ (s.h.c - v.2.1).toNat < (s.h.c - (i : Int)).toNat := fun {w' v} h1 h2 h3 =>
    ⟨⟨i + 1, by rw [h1]; push_cast; rfl, by push_cast; omega, h2, by rw [hst]; exact h3⟩, by rw [h1]; omega⟩
  /- what is done where the spot is put -/
  have hbd : ∀ k, 0 ≤ cntX Y k ∧ cntX Y k ≤ 262140 := cntX_le hXi
  refine S.ld0 (j := 0) rfl rfl (cond_of (fun hh => ?_) (fun hh => ?_))
  · have hh : x.has = true := hh
    refine S.la2 rfl (S.lb0 (o := 1) rfl ?_)
    refine (Newer22_c (a := s) (b := x.s)).mono ?_
    rintro ⟨(rn2 : Bool), ⟨⟩⟩ w6 ⟨h6, x6⟩
    dsimp only at h6 ⊢
    subst h6
    have S := S.stepE x6
    by_cases hnw : newH s x.s
    case neg =>
      refine cond_t (by rw [decide_eq_false hnw]; rfl) ⟨r1, Q (v := (⟨oa, on, oc⟩, (i : Int) + 1, ())) rfl (Nat.le_succ_of_le hon) ?_⟩
      have e : stepP s (s.h.l.toNat + i) (Y, L) = (Y, L) := by unfold stepP; dsimp only; rw [hgx, if_pos ⟨hh, hnw⟩]
      rw [e]
      exact S.sel [1, 1, 1, 1, 1] rfl
    refine cond_f (by rw [decide_eq_true hnw]; rfl) ?_
    have e : stepP s (s.h.l.toNat + i) (Y, L) = (setX Y s.h.n (s.h.l.toNat + i) ⟨true, s⟩, if x.has = true ∧ cntX (setX Y s.h.n (s.h.l.toNat + i) ⟨true, s⟩) x.pl = 0 then L ++ [x.pl] else L) := by unfold stepP; dsimp only; rw [hgx, if_neg (fun k => k.2 hnw)]
    have S := S.sel [4, 0, 0, 0, 0, 0] rfl
    refine Sep.regC [_] S fun G D hG T S hDt hDo hkeep back => ?_
    have hGr : G r := by
      obtain ⟨F, ⟨h1, l, cc, h2, -⟩, h3⟩ := T.get (i := 0) rfl
      exact (h3 r h1).1.resolve_right (fun h => by have := (Array.getElem?_eq_some_iff.1 h2).1; omega)
    have hk2 := fun w' (f : Fr (fun k => k = r) _ w') => hkeep w' (f.mono fun k hk => by subst hk; exact hGr)
    have rv : Rng .i64 (cntX Y (s.b, s.p) + 1) := Rng.i64 (by have := hbd (s.b, s.p); omega) (by have := hbd (s.b, s.p); omega)
    refine ⟨by rw [add_block]; exact hDt 3 _ _ _ rfl, ld4P hXi.four 4 S rfl ⟨hDt 2 _ _ _ rfl, S.lb3 (o := 0) rfl ⟨?_, ?_⟩⟩⟩
    · refine T.incA (k := (s.b, s.p)) (fun x => x + 1) 0 rfl hk2 rv fun w7 T f7 => ?_
      have S := back _ _ T
      dsimp only [List.set_cons_zero, List.cons_append, List.nil_append] at S
      refine S.la3 rfl ⟨bnd, q0.add (s.h.l.toNat * 15), by rw [hq0]; rfl, ?_⟩
      rw [hadd]
      refine cellW hXi.four hns 5 S rfl (by rw [g1, hq0]) (j := s.h.l.toNat + i) (by omega) ⟨true, s⟩ fun w8 S f8 => ?_
      dsimp only [List.set_cons_succ, List.set_cons_zero] at S
      have S := S.sel [4, 0, 1, 0, 0, 0] rfl
      refine S.la3 rfl ?_
      obtain ⟨hm1, hmm, hL⟩ := put_m hXi hns hx s L
      have hbY : Y.map slC = (setX Y s.h.n (s.h.l.toNat + i) ⟨true, s⟩).map slC := (setX_sl hXi.four hns).symm
      refine Sep.call [_, _, _] (Ts := [_, _, _]) S (fun G SG => lose22_c (c := x) (bv4 hXi.four) hm1 (by omega) SG) fun G fr rr w9 hr => ?_
      obtain ⟨a9, n9, c9, m9, hr1, hn9, hm9, S9⟩ := hr
      have hm9 : m9 = cntX (setX Y s.h.n (s.h.l.toNat + i) ⟨true, s⟩) := funext fun k => (hm9 k).trans (hmm k)
      subst hm9
      have S := fr _ _ S9
      rw [hL] at S
      obtain ⟨rr1, ⟨⟩⟩ := rr
      dsimp only at hr1
      subst hr1
      refine ⟨r1, Q (v := (⟨a9, n9, c9⟩, (i : Int) + 1, ())) rfl (by dsimp only; omega) ?_⟩
      rw [e]
      show Sep E w0 w9 [_, _, BoxA p _ ((setX Y s.h.n (s.h.l.toNat + i) ⟨true, s⟩).map slC ++ _), _, _]
      rw [← hbY]
      exact S.sel [2, 3, 0, 0, 1] rfl
    · refine T.incB (k := (s.b, s.p)) (fun x => x + 1) 0 rfl hk2 rv fun w7 T f7 => ?_
      have S := back _ _ T
      dsimp only [List.set_cons_zero, List.cons_append, List.nil_append] at S
      refine S.la3 rfl ⟨bnd, q0.add (s.h.l.toNat * 15), by rw [hq0]; rfl, ?_⟩
      rw [hadd]
      refine cellW hXi.four hns 5 S rfl (by rw [g1, hq0]) (j := s.h.l.toNat + i) (by omega) ⟨true, s⟩ fun w8 S f8 => ?_
      dsimp only [List.set_cons_succ, List.set_cons_zero] at S
      have S := S.sel [4, 0, 1, 0, 0, 0] rfl
      refine S.la3 rfl ?_
      obtain ⟨hm1, hmm, hL⟩ := put_m hXi hns hx s L
      have hbY : Y.map slC = (setX Y s.h.n (s.h.l.toNat + i) ⟨true, s⟩).map slC := (setX_sl hXi.four hns).symm
      refine Sep.call [_, _, _] (Ts := [_, _, _]) S (fun G SG => lose22_c (c := x) (bv4 hXi.four) hm1 (by omega) SG) fun G fr rr w9 hr => ?_
      obtain ⟨a9, n9, c9, m9, hr1, hn9, hm9, S9⟩ := hr
      have hm9 : m9 = cntX (setX Y s.h.n (s.h.l.toNat + i) ⟨true, s⟩) := funext fun k => (hm9 k).trans (hmm k)
      subst hm9
      have S := fr _ _ S9
      rw [hL] at S
      obtain ⟨rr1, ⟨⟩⟩ := rr
      dsimp only at hr1
      subst hr1
      refine ⟨r1, Q (v := (⟨a9, n9, c9⟩, (i : Int) + 1, ())) rfl (by dsimp only; omega) ?_⟩
      rw [e]
      show Sep E w0 w9 [_, _, BoxA p _ ((setX Y s.h.n (s.h.l.toNat + i) ⟨true, s⟩).map slC ++ _), _, _]
      rw [← hbY]
      exact S.sel [2, 3, 0, 0, 1] rfl
  · have hh : x.has = false := hh
    have e : stepP s (s.h.l.toNat + i) (Y, L) = (setX Y s.h.n (s.h.l.toNat + i) ⟨true, s⟩, if x.has = true ∧ cntX (setX Y s.h.n (s.h.l.toNat + i) ⟨true, s⟩) x.pl = 0 then L ++ [x.pl] else L) := by unfold stepP; dsimp only; rw [hgx, if_neg (fun k => by rw [hh] at k; cases k.1)]
    have S := S.sel [4, 0, 0, 0, 0, 0] rfl
    refine Sep.regC [_] S fun G D hG T S hDt hDo hkeep back => ?_
    have hGr : G r := by
      obtain ⟨F, ⟨h1, l, cc, h2, -⟩, h3⟩ := T.get (i := 0) rfl
      exact (h3 r h1).1.resolve_right (fun h => by have := (Array.getElem?_eq_some_iff.1 h2).1; omega)
    have hk2 := fun w' (f : Fr (fun k => k = r) _ w') => hkeep w' (f.mono fun k hk => by subst hk; exact hGr)
    have rv : Rng .i64 (cntX Y (s.b, s.p) + 1) := Rng.i64 (by have := hbd (s.b, s.p); omega) (by have := hbd (s.b, s.p); omega)
    refine ⟨by rw [add_block]; exact hDt 3 _ _ _ rfl, ld4P hXi.four 4 S rfl ⟨hDt 2 _ _ _ rfl, S.lb3 (o := 0) rfl ⟨?_, ?_⟩⟩⟩
    · refine T.incA (k := (s.b, s.p)) (fun x => x + 1) 0 rfl hk2 rv fun w7 T f7 => ?_
      have S := back _ _ T
      dsimp only [List.set_cons_zero, List.cons_append, List.nil_append] at S
      refine S.la3 rfl ⟨bnd, q0.add (s.h.l.toNat * 15), by rw [hq0]; rfl, ?_⟩
      rw [hadd]
      refine cellW hXi.four hns 5 S rfl (by rw [g1, hq0]) (j := s.h.l.toNat + i) (by omega) ⟨true, s⟩ fun w8 S f8 => ?_
      dsimp only [List.set_cons_succ, List.set_cons_zero] at S
      have S := S.sel [4, 0, 1, 0, 0, 0] rfl
      refine S.la3 rfl ?_
      obtain ⟨hm1, hmm, hL⟩ := put_m hXi hns hx s L
      have hbY : Y.map slC = (setX Y s.h.n (s.h.l.toNat + i) ⟨true, s⟩).map slC := (setX_sl hXi.four hns).symm
      refine Sep.call [_, _, _] (Ts := [_, _, _]) S (fun G SG => lose22_c (c := x) (bv4 hXi.four) hm1 (by omega) SG) fun G fr rr w9 hr => ?_
      obtain ⟨a9, n9, c9, m9, hr1, hn9, hm9, S9⟩ := hr
      have hm9 : m9 = cntX (setX Y s.h.n (s.h.l.toNat + i) ⟨true, s⟩) := funext fun k => (hm9 k).trans (hmm k)
      subst hm9
      have S := fr _ _ S9
      rw [hL] at S
      obtain ⟨rr1, ⟨⟩⟩ := rr
      dsimp only at hr1
      subst hr1
      refine ⟨r1, Q (v := (⟨a9, n9, c9⟩, (i : Int) + 1, ())) rfl (by dsimp only; omega) ?_⟩
      rw [e]
      show Sep E w0 w9 [_, _, BoxA p _ ((setX Y s.h.n (s.h.l.toNat + i) ⟨true, s⟩).map slC ++ _), _, _]
      rw [← hbY]
      exact S.sel [2, 3, 0, 0, 1] rfl
    · refine T.incB (k := (s.b, s.p)) (fun x => x + 1) 0 rfl hk2 rv fun w7 T f7 => ?_
      have S := back _ _ T
      dsimp only [List.set_cons_zero, List.cons_append, List.nil_append] at S
      refine S.la3 rfl ⟨bnd, q0.add (s.h.l.toNat * 15), by rw [hq0]; rfl, ?_⟩
      rw [hadd]
      refine cellW hXi.four hns 5 S rfl (by rw [g1, hq0]) (j := s.h.l.toNat + i) (by omega) ⟨true, s⟩ fun w8 S f8 => ?_
      dsimp only [List.set_cons_succ, List.set_cons_zero] at S
      have S := S.sel [4, 0, 1, 0, 0, 0] rfl
      refine S.la3 rfl ?_
      obtain ⟨hm1, hmm, hL⟩ := put_m hXi hns hx s L
      have hbY : Y.map slC = (setX Y s.h.n (s.h.l.toNat + i) ⟨true, s⟩).map slC := (setX_sl hXi.four hns).symm
      refine Sep.call [_, _, _] (Ts := [_, _, _]) S (fun G SG => lose22_c (c := x) (bv4 hXi.four) hm1 (by omega) SG) fun G fr rr w9 hr => ?_
      obtain ⟨a9, n9, c9, m9, hr1, hn9, hm9, S9⟩ := hr
      have hm9 : m9 = cntX (setX Y s.h.n (s.h.l.toNat + i) ⟨true, s⟩) := funext fun k => (hm9 k).trans (hmm k)
      subst hm9
      have S := fr _ _ S9
      rw [hL] at S
      obtain ⟨rr1, ⟨⟩⟩ := rr
      dsimp only at hr1
      subst hr1
      refine ⟨r1, Q (v := (⟨a9, n9, c9⟩, (i : Int) + 1, ())) rfl (by dsimp only; omega) ?_⟩
      rw [e]
      show Sep E w0 w9 [_, _, BoxA p _ ((setX Y s.h.n (s.h.l.toNat + i) ⟨true, s⟩).map slC ++ _), _, _]
      rw [← hbY]
      exact S.sel [2, 3, 0, 0, 1] rfl
end
end Go.Proofs.Ytiemdjnmghackaa.Vc

/-! The sort of the library, told in parts. -/
namespace Go.Eng
open Go Go.RowKit
set_option linter.unusedVariables false
set_option linter.unusedSimpArgs false

theorem flat_get {α : Type} {enc : α → List Value} {k : Nat} (hk : ∀ x, (enc x).length = k) : ∀ (l : List α) (i j : Nat), j < k → (l.flatMap enc)[i * k + j]? = (l[i]?).bind fun x => (enc x)[j]?
  | [], i, j, h => by simp
  | x :: l, 0, j, h => by
    simp only [List.flatMap_cons, Nat.zero_mul, Nat.zero_add, List.getElem?_cons_zero, Option.bind_some]
    exact List.getElem?_append_left (by rw [hk]; exact h)
  | x :: l, i + 1, j, h => by
    simp only [List.flatMap_cons, List.getElem?_cons_succ]
    rw [List.getElem?_append_right (by rw [hk, Nat.succ_mul]; omega), hk, show (i + 1) * k + j - k = i * k + j by rw [Nat.succ_mul]; omega]
    exact flat_get hk l i j h
theorem flat_len {α : Type} {enc : α → List Value} {k : Nat} (hk : ∀ x, (enc x).length = k) (l : List α) : (l.flatMap enc).length = l.length * k := by
  induction l with
  | nil => simp
  | cons x l ih => simp only [List.flatMap_cons, List.length_append, hk, ih, List.length_cons, Nat.succ_mul]; omega
theorem flatK_list {α : Type} [Inhabited α] {enc : α → List Value} {k : Nat} (hk : ∀ x, (enc x).length = k) (d : Array α) : (Go.Sort.flatK enc k d).toList = d.toList.flatMap enc := by
  have hl : (Go.Sort.flatK enc k d).toList.length = (d.toList.flatMap enc).length := by simp [flat_len hk]
  refine List.ext_getElem? fun t => ?_
  by_cases h : t < d.size * k
  · have k0 : 0 < k := by rcases Nat.eq_zero_or_pos k with e | e; · subst e; simp at h
                          · exact e
    have h1 : t / k < d.size := (Nat.div_lt_iff_lt_mul k0).2 h
    have h2 : t % k < k := Nat.mod_lt _ k0
    have e := Go.Sort.get_flatK enc k d t h
    have e1 := flat_get hk d.toList (t / k) (t % k) h2
    rw [show t / k * k + t % k = t by rw [Nat.mul_comm]; exact Nat.div_add_mod t k] at e1
    rw [e1]
    have e2 : d.toList[t / k]? = some d[t / k]! := by simp [h1]
    rw [e2, Option.bind_some]
    have e3 : t % k < (enc d[t / k]!).length := by rw [hk]; exact h2
    rw [List.getElem?_eq_getElem e3]
    have h3 : t < (Go.Sort.flatK enc k d).size := by simpa using h
    rw [Array.getElem?_toList, Array.getElem?_eq_getElem h3]
    rw [getElem!_pos _ t h3, getElem!_pos _ (t % k) e3] at e
    rw [e]
  · rw [List.getElem?_eq_none (by rw [hl, flat_len hk]; simpa using h), List.getElem?_eq_none (by rw [flat_len hk]; simpa using h)]
theorem insInner_size {α : Type} [Inhabited α] (lt : α → α → Bool) (a : Nat) : ∀ (j : Nat) (d : Array α), (Go.Sort.insInner lt a j d).size = d.size
  | 0, d => rfl
  | j + 1, d => by
    unfold Go.Sort.insInner
    split
    · rw [insInner_size lt a j, Go.Sort.swp_size]
    · rfl
theorem insOuter_size {α : Type} [Inhabited α] (lt : α → α → Bool) (a b : Nat) : ∀ (n i : Nat) (d : Array α), b - i = n → (Go.Sort.insOuter lt a b i d).size = d.size
  | 0, i, d, h => by unfold Go.Sort.insOuter; rw [if_neg (by omega)]
  | n + 1, i, d, h => by
    unfold Go.Sort.insOuter
    rw [if_pos (by omega), insOuter_size lt a b n (i + 1) _ (by omega), insInner_size]
theorem insSort_size {α : Type} [Inhabited α] (lt : α → α → Bool) (d : Array α) (a b : Nat) : (Go.Sort.insertionSort lt d a b).size = d.size := insOuter_size lt a b _ _ d rfl
theorem sortedIn_pw {α : Type} [Inhabited α] {lt : α → α → Bool} {d : Array α} (h : Go.Sort.SortedIn lt 0 d.size d) : d.toList.Pairwise fun x y => lt y x = false := by
  rw [List.pairwise_iff_getElem]
  intro i j hi hj hij
  have hj' : j < d.size := by simpa using hj
  have hi' : i < d.size := by omega
  have := h i j (Nat.zero_le _) hij hj'
  rw [getElem!_pos d i hi', getElem!_pos d j hj'] at this
  simpa using this
section
variable {α : Type} [Inhabited α] {enc : α → List Value} {k : Nat} {w : World} {b : Nat} {e : TypeId} {n c : Nat}
theorem Own.holdsK (hk : ∀ x, (enc x).length = k) {d : Array α} (h : Own w 0 e k (some ⟨b, 0, none⟩) n c (d.toList.flatMap enc)) : Go.Sort.HoldsK enc k w b 0 d := by
  intro j hj
  rcases h.at_ with ⟨h1, _, _⟩ | ⟨b', cs, h1, _, h2, h3, h4⟩
  · cases h1
  cases h1
  rw [Go.Sort.size_flatK] at hj
  have hl : j < (d.toList.flatMap enc).length := by rw [flat_len hk]; simpa using hj
  have e1 : cs.toList[j]? = (Go.Sort.flatK enc k d).toList[j]? := by
    rw [flatK_list hk, ← h4, List.getElem?_take, if_pos (by rw [flat_len hk] at hl ⊢; exact hl)]
  have hj' : j < (Go.Sort.flatK enc k d).size := by simpa using hj
  rw [Array.getElem?_toList, Array.getElem?_toList, Array.getElem?_eq_getElem hj'] at e1
  refine ⟨?_, ?_⟩
  · simp only [World.cell?, h2, Nat.zero_add, id]
    rw [getElem!_pos _ j hj']
    simpa using e1
  · simp [World.frozen?, h2]
theorem sortWorldK_own (hk : ∀ x, (enc x).length = k) (h1 : ∀ x, ∀ v ∈ enc x, v.oneCell' = true) {L : List α} (h : Own w 0 e k (some ⟨b, 0, none⟩) n c (L.flatMap enc)) {d : Array α} (hd : d.size = L.length) (m : Nat) (os : Array Obj) :
    Own (Go.Proofs.sortWorldK enc k w b 0 m d os) 0 e k (some ⟨b, 0, none⟩) n c (d.toList.flatMap enc) ∧ Fr (fun x => x = b) w (Go.Proofs.sortWorldK enc k w b 0 m d os) := by
  have hlen : (d.toList.flatMap enc).length = (L.flatMap enc).length := by rw [flat_len hk, flat_len hk]; simp [hd]
  rcases h.at_ with ⟨e1, _, _⟩ | ⟨b', cs, e1, e0, e2, e3, e4⟩
  · cases e1
  cases e1
  have hb : b < w.heap.size := (Array.getElem?_eq_some_iff.1 e2).1
  have hh : ∀ x, x < w.heap.size → (Go.Proofs.sortWorldK enc k w b 0 m d os).heap[x]? = if x = b then some (Obj.cells (Go.Sort.putCells id 0 (Go.Sort.flatK enc k d) cs) e (0, 0)) else w.heap[x]? := by
    intro x hx
    unfold Go.Proofs.sortWorldK
    rw [Go.Sort.heap_grow_old _ _ (by unfold Go.Sort.putRowK; rw [Go.Sort.size_putRow]; exact hx)]
    show (w.heap.modify b _)[x]? = _
    rw [Array.getElem?_modify]
    by_cases hx' : x = b
    · subst hx'; simp [e2, Go.Sort.onCells]
    · rw [if_neg hx', if_neg (fun h => hx' h.symm)]
  refine ⟨⟨hlen.trans h.len, h.cap, h.lim, ?_, .inr ⟨b, _, rfl, e0, by rw [hh b hb, if_pos rfl], by simp [Go.Sort.putCells, e3], ?_⟩⟩, ⟨rfl, rfl, rfl, ?_, fun x hx hn => ?_⟩⟩
  · intro v hv
    obtain ⟨x, _, hx⟩ := List.mem_flatMap.1 hv
    exact h1 x v hx
  · refine List.ext_getElem? fun t => ?_
    rw [List.getElem?_take]
    by_cases ht : t < (d.toList.flatMap enc).length
    · rw [if_pos ht, ← flatK_list hk]
      have ht' : t < (Go.Sort.flatK enc k d).size := by rw [flat_len hk] at ht; simpa using ht
      have htc : t < cs.size := by
        have := congrArg List.length e4
        rw [List.length_take, ← hlen] at this
        exact Nat.lt_of_lt_of_le ht (by have h5 := Nat.min_le_right (d.toList.flatMap enc).length cs.toList.length; have h6 : cs.toList.length = cs.size := rfl; rw [this] at h5; exact h5)
      simp only [Go.Sort.putCells, Array.getElem?_toList, Array.getElem?_mapIdx, Array.getElem?_eq_getElem htc, Option.map_some]
      rw [if_pos ⟨Nat.zero_le _, by omega⟩, Array.getElem?_eq_getElem ht']
      simp only [Nat.sub_zero, id]
      rw [getElem!_pos _ t ht']
    · rw [if_neg ht, List.getElem?_eq_none (Nat.le_of_not_lt ht)]
  · unfold Go.Proofs.sortWorldK Go.Sort.putRowK
    rw [Go.Sort.size_grow, Go.Sort.size_putRow]
    exact Nat.le_add_right _ _
  · rw [hh x hx, if_neg hn]
/-- A slice, sorted. -/
theorem Sep.sorted {E : Nat → Prop} {w0 : World} {Rs : List Asr} (hk : ∀ x, (enc x).length = k) (h1 : ∀ x, ∀ v ∈ enc x, v.oneCell' = true) {L : List α} (S : Sep E w0 w (OwnA e k (some ⟨b, 0, none⟩) n c (L.flatMap enc) :: Rs)) {d : Array α} (hd : d.size = L.length) (m : Nat) (os : Array Obj) :
    Sep E w0 (Go.Proofs.sortWorldK enc k w b 0 m d os) (OwnA e k (some ⟨b, 0, none⟩) n c (d.toList.flatMap enc) :: Rs) := by
  obtain ⟨F, ⟨ho, hF⟩, h3, h4⟩ := S.step (i := 0) rfl
  obtain ⟨o', fr⟩ := sortWorldK_own hk h1 ho hd m os
  exact h4 _ F (OwnA e k (some ⟨b, 0, none⟩) n c (d.toList.flatMap enc)) ⟨o', hF⟩ (fr.mono fun x hx => by subst hx; exact hF ⟨x, 0, none⟩ rfl) fun x hx => ⟨.inl hx, Nat.lt_of_lt_of_le (h3 x hx) fr.size⟩
end
end Go.Eng

/-! The contracts of layer 22 (pagemap): places, sorted. -/
namespace Go.Proofs
open Go.Shelf Go.RowKit Go.Lib Go.Sort
def Try.plC (x y : Int × Int) : Int := if (x.1 != y.1) = true then wrap64 (x.1 - y.1) else wrap64 (x.2 - y.2)
set_option maxHeartbeats 1000000 in
theorem Try.less_walk (x y : Int × Int) (W : World) : Calls Try.prog 91 #[.agg #[.int .i64 x.1, .int .i64 x.2], .agg #[.int .i64 y.1, .int .i64 y.2]] W fun e w' => e = .returned (.int .i64 (Try.plC x y)) ∧ ∃ q os', w' = grow (W.drewN q) os' := by
  go_enter Try.func91, Try.ntmps91
  go_wp2
  all_goals rename_i h
  all_goals go_ret
  all_goals exact ⟨by unfold Try.plC; rw [h]; rfl, 0, _, by rw [alloc_eq_grow, alloc_eq_grow, grow_grow]; rfl⟩
end Go.Proofs
namespace Go.Proofs.Ytiemdjnmghackaa.Vc
open Go Go.Eng Go.RowKit Go.Shelf Go.Proofs
set_option linter.unusedVariables false
set_option linter.unusedSimpArgs false
theorem plV_one1 (x : Int × Int) : ∀ v ∈ plV x, v.oneCell' = true := fun v hv => by simp at hv; rcases hv with rfl | rfl <;> rfl
theorem less_enters : ∀ args w, (callFunc 91 args).run Try.prog w = .ok (.enter 91 args) w := enters_of Try.func91 (by kernel_rfl) rfl
theorem hlen22 (n : Nat) (W : World) (h : n ≤ 12) : Calls Try.prog (Try.srtP_ren.f 15) #[.int .u64 n] W fun e w' => (∃ l : Int, e = .returned (.int .i64 l)) ∧ w' = W :=
  (Any.bits_Len (SlLaysF0.n15.bits (P := Try.prog) (ρ := Try.srtP_ren) { Try.srtP with }) n W (by omega) (by omega)).mono fun _ _ ⟨he, hw⟩ => ⟨⟨_, he⟩, hw⟩
/-- Places, few of them, sorted somehow. -/
theorem sortFew_c {E : Nat → Prop} {w0 w : World} {Rs : List Asr} {b n c : Nat} {L : List (Int × Int)} (hn : n ≤ 12) (S : Sep E w0 w (outA (some ⟨b, 0, none⟩) n c L :: Rs)) :
    CallV Try.prog 99 #[.slice (some ⟨b, 0, none⟩) n c, .func (.func 91) #[] #[]] w [] fun _ w' => ∃ L', Sep E w0 w' (outA (some ⟨b, 0, none⟩) n c L' :: Rs) := by
  have o := S.own 0 rfl
  have hL : L.length = n := by have := o.len; rw [flat_len plV_len] at this; omega
  have h := AnyQ.slices_SortFunc_small Try.srtP 2 Try.isAgg55 Try.sizeOf55 plV plV_len plV_one1 Try.plC 91 #[] b 0 c L.toArray w less_enters (fun _ _ _ _ x y => Try.less_walk x y _) (Own.holdsK plV_len (d := L.toArray) o) (o.lt _ rfl) (by simpa [hL] using hn) hlen22
  rw [show L.toArray.size = n by simpa using hL] at h
  refine h.mono fun e w' ⟨he, m, os, hw⟩ => ⟨(), he, ?_⟩
  subst hw
  have hs : (Go.Sort.insertionSort (ltOf Try.plC) L.toArray 0 n).size = L.length := by rw [insSort_size]; rfl
  exact ⟨_, S.sorted plV_len plV_one1 hs m os⟩
/-- Places that are not far off. -/
def Bd (k : Int × Int) : Prop := -1000 < k.1 ∧ k.1 < 1000 ∧ -1000 < k.2 ∧ k.2 < 1000
def plL (x y : Int × Int) : Prop := x.1 < y.1 ∨ x.1 = y.1 ∧ x.2 < y.2
abbrev BdT := { k : Int × Int // Bd k }
instance : Inhabited BdT := ⟨⟨(0, 0), by unfold Bd; decide⟩⟩
theorem wrap64_in {z : Int} (h : -10000 < z ∧ z < 10000) : wrap64 z = z := by
  unfold wrap64; omega
theorem plC_lt0 (x y : Int × Int) (hx : Bd x) (hy : Bd y) : Try.plC x y < 0 ↔ plL x y := by
  unfold Bd at hx hy
  unfold Try.plC plL
  rw [wrap64_in (by omega), wrap64_in (by omega)]
  by_cases h : x.1 = y.1
  · rw [if_neg (by simp [h])]; omega
  · rw [if_pos (by simpa using h)]; omega
def cfB (x y : BdT) : Int := Try.plC x.1 y.1
def encB (x : BdT) : List Value := plV x.1
theorem encB_len (x : BdT) : (encB x).length = 2 := rfl
theorem encB_one (x : BdT) : ∀ v ∈ encB x, v.oneCell' = true := fun v hv => plV_one1 x.1 v hv
theorem plC_lt (x y : BdT) : ltOf cfB x y = true ↔ plL x.1 y.1 := by
  unfold ltOf
  rw [decide_eq_true_iff]
  exact plC_lt0 x.1 y.1 x.2 y.2
theorem plC_swo : Go.Sort.SWO (ltOf cfB) where
  irrefl x := Bool.eq_false_iff.2 fun h => by have := (plC_lt x x).1 h; unfold plL at this; omega
  trans x y z h1 h2 := by rw [plC_lt] at *; unfold plL at *; omega
  ntrans x y z h1 h2 := by
    rw [Bool.eq_false_iff, Ne, plC_lt] at *; unfold plL at *; omega
/-- Places, sorted. -/
theorem sortAll_c {E : Nat → Prop} {w0 w : World} {Rs : List Asr} {b n c : Nat} {L : List (Int × Int)} (hB : ∀ k ∈ L, Bd k) (hn : n ≤ 1000000) (S : Sep E w0 w (outA (some ⟨b, 0, none⟩) n c L :: Rs)) :
    CallV Try.prog 99 #[.slice (some ⟨b, 0, none⟩) n c, .func (.func 91) #[] #[]] w [] fun _ w' => ∃ L', (L'.Perm L ∧ L'.Pairwise fun x y => ¬ plL y x) ∧ Sep E w0 w' (outA (some ⟨b, 0, none⟩) n c L' :: Rs) := by
  obtain ⟨M, rfl⟩ : ∃ M : List BdT, L = M.map (·.1) := ⟨L.pmap Subtype.mk hB, by rw [List.map_pmap]; simp⟩
  have e : ∀ M : List BdT, (M.map (·.1)).flatMap plV = M.flatMap encB := fun M => by rw [List.flatMap_map]; rfl
  have o := S.own 0 rfl
  have hL : M.length = n := by have := o.len; rw [flat_len plV_len] at this; simp at this; omega
  unfold outA at S
  rw [e] at S o
  have h := AnyQ.slices_SortFunc Try.srtP 2 Try.isAgg55 Try.sizeOf55 encB encB_len encB_one cfB plC_swo 91 #[] b 0 c M.toArray w less_enters (fun _ _ _ _ x y => Try.less_walk x.1 y.1 _) (Own.holdsK encB_len (d := M.toArray) o) (o.lt _ rfl) (by simp [hL]; omega)
  rw [show M.toArray.size = n by simpa using hL] at h
  refine h.mono fun e' w' ⟨he, d', m, os, hp, hs, hw⟩ => ⟨(), he, ?_⟩
  subst hw
  have hsz : d'.size = M.length := by simpa using hp.1
  refine ⟨d'.toList.map (·.1), ⟨?_, ?_⟩, ?_⟩
  · have := hp.2.2
    rw [show n = d'.size by omega, Array.extract_size, show d'.size = M.toArray.size by simpa using hsz, Array.extract_size] at this
    exact this.map _
  · rw [List.pairwise_map]
    have := sortedIn_pw (d := d') (by rw [hsz, hL]; exact hs)
    exact this.imp fun {x y} h => fun k => by rw [(plC_lt y x).2 k] at h; cases h
  · unfold outA
    rw [e]
    exact S.sorted encB_len encB_one hsz m os
section
variable {T : List (Int × Int) → List (Int × Int) → Prop} {L : List (Int × Int)}
/-- Of few places all that is told is that there are some. -/
theorem Told.few (hL : L.length ≤ 12) : Told (fun _ _ => True) L := fun {E w0 w Rs a n c} S => by
  have o := S.own 0 rfl
  have hn : L.length = n := by have := o.len; rw [flat_len plV_len] at this; omega
  rcases o.at_ with ⟨h1, h2, h3⟩ | ⟨b, cs, h1, -⟩
  · have h0 : n = 0 := by rw [← hn]; cases L with | nil => rfl | cons x l => cases h3
    subst h0
    exact (Told.nil (T := fun _ _ => True) trivial) (by have : L = [] := List.length_eq_zero_iff.1 hn; subst this; exact S)
  · subst h1
    apply pagemap_told.vc
    unfold pagemap_told.P
    refine (sortFew_c (by omega) S).mono ?_
    rintro ⟨⟩ w1 ⟨L', S⟩
    exact ⟨L', trivial, rfl, S⟩
/-- Places that are not far off, sorted. -/
theorem Told.all (hB : ∀ k ∈ L, Bd k) (hl : L.length ≤ 1000000) : Told (fun L L' => L'.Perm L ∧ L'.Pairwise fun x y => ¬ plL y x) L := fun {E w0 w Rs a n c} S => by
  have o := S.own 0 rfl
  have hn : L.length = n := by have := o.len; rw [flat_len plV_len] at this; omega
  rcases o.at_ with ⟨h1, h2, h3⟩ | ⟨b, cs, h1, -⟩
  · have h0 : L = [] := by cases L with | nil => rfl | cons x l => cases h3
    subst h0
    exact (Told.nil (T := fun L L' => L'.Perm L ∧ L'.Pairwise fun x y => ¬ plL y x) ⟨.refl _, .nil⟩) S
  · subst h1
    apply pagemap_told.vc
    unfold pagemap_told.P
    refine (sortAll_c hB (by omega) S).mono ?_
    rintro ⟨⟩ w1 ⟨L', h, S⟩
    exact ⟨L', h, rfl, S⟩
end
end Go.Proofs.Ytiemdjnmghackaa.Vc

/-! A map's entry, set. -/
namespace Go.Proofs.Ytiemdjnmghackaa.Vc
open Go Go.Eng Go.RowKit
set_option linter.unusedVariables false
set_option linter.unusedSimpArgs false
section
variable {w : World} {r : Nat} {l : List ME} {c : Nat} {k : Int × Int}
theorem run_upd (v : Int) (hb : w.heap[r]? = some (.map (l.map ME.e).toArray c)) : ∃ l' c', (Instr.mapUpdate 113 (.map (some r)) (kV k) (.int .i64 v)).run Try.prog w = .ok () (setM w r (.map (l'.map ME.e).toArray c')) ∧
    (MOk l c → MOk l' c' ∧ ∀ k', getM l' k' = updM (getM l) k v k') := by
  have hu : Try.prog.underlying 113 = some (.map 55 3) := by kernel_rfl
  cases hf : fndM k l 0 with
  | none =>
    refine ⟨l ++ [⟨k, v, c⟩], c + 1, ?_, fun h => ⟨⟨?_, ?_, ?_⟩, ?_⟩⟩
    · simp only [Instr.mapUpdate, Sem.run_bind, run_underlying hu, Result.andThen_ok, run_getM hb, run_chk, run_find, hf, Option.map_none, run_setM _ hb, Sem.run_pure]
      have e : (l.map ME.e).toArray.push (⟨kV k, .int .i64 v, c⟩ : MapEntry) = ((l ++ [(⟨k, v, c⟩ : ME)]).map ME.e).toArray := by simp
      rw [e]
    · rw [List.map_append]
      refine List.nodup_append.2 ⟨h.kn, by simp, ?_⟩
      intro a ha b hb2 e
      obtain ⟨x, hx, rfl⟩ := List.mem_map.1 ha
      have hb2 : b = k := by simpa using hb2
      subst hb2
      exact fndM_none.1 hf x hx e
    · rw [List.map_append]
      refine List.nodup_append.2 ⟨h.bn, by simp, ?_⟩
      intro a ha b hb2 e
      obtain ⟨x, hx, rfl⟩ := List.mem_map.1 ha
      have hb2 : b = c := by simpa using hb2
      subst hb2
      have := h.bc x hx
      omega
    · intro x hx
      rcases List.mem_append.1 hx with hx | hx
      · have := h.bc x hx; omega
      · rw [List.mem_singleton.1 hx]; exact Nat.lt_succ_self _
    · intro k'
      unfold getM updM
      rw [fndM_app]
      by_cases hk2 : k' = k
      · subst hk2
        rw [hf, if_pos rfl]
        dsimp only
        rw [if_pos rfl]
      · rw [if_neg hk2]
        show _ = (match fndM k' l 0 with | some r => r.2 | none => 0)
        cases hf' : fndM k' l 0 with
        | some q => rfl
        | none =>
          dsimp only
          rw [if_neg (fun e => hk2 e.symm)]
  | some q =>
    obtain ⟨i, v0⟩ := q
    obtain ⟨-, x, hx, hk, hv⟩ := fndM_some hf
    rw [Nat.sub_zero] at hx
    have hxe : ((l.map ME.e).toArray)[i]? = some x.e := by rw [List.getElem?_toArray, List.getElem?_map, hx]; rfl
    have hil : i < l.length := (List.getElem?_eq_some_iff.1 hx).1
    have hm : (l.map ME.e).toArray.modify i (fun e => { e with key := kV k, val := .int .i64 v }) = ((l.set i ⟨x.k, v, x.b⟩).map ME.e).toArray := by
      apply Array.ext_getElem?
      intro j
      rw [Array.getElem?_modify, List.getElem?_toArray, List.getElem?_toArray, List.getElem?_map, List.getElem?_map, List.getElem?_set]
      by_cases hij : i = j
      · subst hij
        rw [if_pos rfl, if_pos rfl, if_pos hil, hx, ← hk]
        rfl
      · rw [if_neg hij, if_neg hij]
    have hs : (Instr.keyThatStays (kV k) (kV k)).run Try.prog w = .ok (kV k) w := by simp only [Instr.keyThatStays, same_bits, if_true, Sem.run_pure]
    have hk2 : ((((l.map ME.e).toArray)[i]?).map (·.key)).getD (kV k) = kV k := by rw [hxe, ← hk]; rfl
    refine ⟨l.set i ⟨x.k, v, x.b⟩, c, ?_, fun hM => ?_⟩
    · simp only [Instr.mapUpdate, Sem.run_bind, run_underlying hu, Result.andThen_ok, run_getM hb, run_chk, run_find, hf, Option.map_some, hk2, hs, hm, run_setM _ hb, Sem.run_pure]
    · obtain ⟨l', hr, g1, g2⟩ := run_sto (v := v) hM (List.mem_of_getElem? hx) hb
      have hkk : (l.set i ⟨x.k, v, x.b⟩).map (·.k) = l.map (·.k) := by
        rw [List.map_set]; exact List.set_getElem?_self' (by rw [List.getElem?_map, hx]; rfl)
      have hbb : (l.set i ⟨x.k, v, x.b⟩).map (·.b) = l.map (·.b) := by
        rw [List.map_set]; exact List.set_getElem?_self' (by rw [List.getElem?_map, hx]; rfl)
      have hM' : MOk (l.set i ⟨x.k, v, x.b⟩) c := ⟨by rw [hkk]; exact hM.kn, by rw [hbb]; exact hM.bn, fun y hy => by
        rcases List.mem_or_eq_of_mem_set hy with h | h
        · exact hM.bc y h
        · rw [h]; exact hM.bc x (List.mem_of_getElem? hx)⟩
      refine ⟨hM', fun k' => ?_⟩
      unfold updM
      by_cases he : k' = k
      · rw [if_pos he, he, ← hk]
        exact hM'.get (x := ⟨x.k, v, x.b⟩) (List.mem_set hil _)
      · rw [if_neg he]
        rcases getM_cases hM k' with ⟨y, hy, rfl, h2⟩ | ⟨h1, h2⟩
        · rw [h2]
          refine hM'.get (x := y) ?_
          obtain ⟨j, hj⟩ := List.getElem?_of_mem hy
          refine List.mem_of_getElem? (i := j) ?_
          rw [List.getElem?_set, if_neg (fun e => ?_), hj]
          subst e
          rw [hx] at hj
          cases hj
          exact he hk
        · rw [h2]
          refine getM_none fun y hy => ?_
          rcases List.mem_or_eq_of_mem_set hy with h | h
          · exact h1 y h
          · rw [h]; exact fun e => he (e.symm.trans hk)
end
section
variable {E : Nat → Prop} {w0 w : World} {Rs : List Asr} {r : Nat} {m : Int × Int → Int} {k : Int × Int}
theorem _root_.Go.Eng.Sep.updM (S : Sep E w0 w Rs) (i : Nat) (hi : Rs[i]? = some (MapF r m)) {v : Int} {K : World → Prop} (hk : ∀ w', Sep E w0 w' (Rs.set i (MapF r (Vc.updM m k v))) → Fr (fun k => k = r) w w' → K w') :
    RunU Try.prog (Instr.mapUpdate 113 (.map (some r)) (kV k) (.int .i64 v)) w K := by
  obtain ⟨F, ⟨hF, l, c, h1, h2, h3⟩, hb⟩ := S.get hi
  have hlt := (hb r hF).2
  obtain ⟨l', c', hr, hM⟩ := run_upd (k := k) v h1
  obtain ⟨g1, g2⟩ := hM h2
  refine ⟨_, hr, hk _ (S.mstep hi (P := fun _ => True) (fun F h => ⟨h.1, trivial⟩) hlt fun w' F hF hw => ⟨hF, l', c', hw, g1, fun k' => ?_⟩) (setM_fr hlt).1⟩
  rw [g2]
  unfold Vc.updM
  split
  · rfl
  · exact h3 k'
end
end Go.Proofs.Ytiemdjnmghackaa.Vc

/-! The contracts of layer 22 (pagemap): a namespace less, a place moved, data. -/
namespace Go.Proofs.Ytiemdjnmghackaa.Vc
open Go Go.Eng Go.RowKit
set_option linter.unusedVariables false
set_option linter.unusedSimpArgs false

theorem cntX_ge {X : List (SlP Ce)} (hX : X.length = 4) {n : Int} (hn : 0 ≤ n ∧ n < 4) (k : Int × Int) : (cntC (getX X n).l k : Int) ≤ cntX X k := by
  have h1 := cntX_drop hX hn k
  have h2 : 0 ≤ cntX (X.set n.toNat noC) k := by unfold cntX; exact Int.natCast_nonneg _
  omega
theorem cntC_take {l : List Ce} {i : Nat} {c : Ce} (hc : l[i]? = some c) (k : Int × Int) : (cntC (l.take (i + 1)) k : Int) = cntC (l.take i) k + (if isP k c = true then 1 else 0) := by
  unfold cntC
  rw [List.take_add_one, hc, List.countP_append]
  show ((List.countP _ _ + List.countP _ [c] : Nat) : Int) = _
  rw [List.countP_cons, List.countP_nil]
  split <;> simp
theorem cntC_take_le (l : List Ce) (i : Nat) (k : Int × Int) : cntC (l.take i) k ≤ cntC l k := (List.take_sublist i l).countP_le
section
variable {E : Nat → Prop} {w0 w : World} {p r : Nat} {X : List (SlP Ce)} {m : Int × Int → Int} {Rs : List Asr}
/-- Some cells of a sector's spot are written. -/
theorem cellP (hX : X.length = 4) {ns : Int} (hn : 0 ≤ ns ∧ ns < 4) (i : Nat) (S : Sep E w0 w Rs) (hi : Rs[i]? = some (ownsA X)) {q : Addr} (hq : (getX X ns).a = some q) {j : Nat} (hj : j < (getX X ns).n) {x : Ce} (hx : (getX X ns).l[j]? = some x) (k : Nat) (c : Ce) {news : List Value} (hl : k + news.length ≤ 15) (hy : c.vs = x.vs.take k ++ (news ++ x.vs.drop (k + news.length))) {K : World → Prop}
    (hk : ∀ w', Sep E w0 w' (Rs.set i (ownsA (setX X ns j c))) → Fr (fun k => k = q.block) w w' → K w') : StoreV w ((q.add (j * 15)).add k) news K := by
  have S1 := (S.perm (perm_front hi)).unfold (Rs := X.map ownC)
  have h4 := owns_nth hX hn
  have S2 : Sep E w0 w (ownC (getX X ns) :: ((X.map ownC).eraseIdx ns.toNat ++ Rs.eraseIdx i)) := S1.perm ((perm_front h4).append_right (Rs.eraseIdx i))
  obtain ⟨q2, hq2, h⟩ := S2.stF (f := Ce.vs) (m := 15) Ce_len Ce_one (by decide) (j := (j : Int)) ⟨by omega, by omega⟩ k (x := x) (y := c) (by rw [Int.toNat_natCast]; exact hx) hl hy (K := K) fun w' S3 f3 => hk w' (by
    rw [Int.toNat_natCast] at S3
    have S4 : Sep E w0 w' ((X.map ownC).set ns.toNat (ownC ⟨(getX X ns).a, (getX X ns).n, (getX X ns).c, (getX X ns).l.set j c⟩) ++ Rs.eraseIdx i) := S3.perm (((perm_set h4).append_right (Rs.eraseIdx i)))
    rw [← List.map_set (f := ownC)] at S4
    exact (S4.fold (Rs := (setX X ns j c).map ownC)).perm (perm_set hi)) (f3.mono fun k ⟨q3, hq3, hk⟩ => by rw [hq] at hq3; cases hq3; exact hk)
  rw [hq] at hq2
  cases hq2
  rw [Int.toNat_natCast] at h
  exact h
theorem Drop22_c {ns : Int} {T : List (Int × Int) → List (Int × Int) → Prop} (hX : XOk X) (hT : ∀ M : List (Int × Int), M.Nodup → (∀ k, k ∈ M ↔ 1 ≤ cntX X k ∧ cntX (X.set ns.toNat noC) k = 0) → Told T M) (S : Sep E w0 w [boxP p r X, MapF r (cntX X), ownsA X]) :
    CallV Try.prog 47 #[.pointer (some ⟨p, 0, none⟩), .int .i64 ns] w [.one .sl, .one (.int .i64)] fun rr w' => ((getX X ns).n = 0 → rr.1 = (⟨none, 0, 0⟩ : SlV) ∧ rr.2.1 = (2 : Int) ∧ Sep E w0 w' [boxP p r X, MapF r (cntX X), ownsA X]) ∧
      ((getX X ns).n ≠ 0 → rr.2.1 = (0 : Int) ∧ ∃ (M L' : List (Int × Int)), M.Nodup ∧ (∀ k, k ∈ M ↔ 1 ≤ cntX X k ∧ cntX (X.set ns.toNat noC) k = 0) ∧ T M L' ∧ Sep E w0 w' [outA rr.1.a rr.1.n rr.1.c L', boxP p r (X.set ns.toNat noC), MapF r (cntX (X.set ns.toNat noC)), ownsA (X.set ns.toNat noC)]) := by
  apply pagemap_Map_Drop.vc
  unfold pagemap_Map_Drop.P
  refine (own22_c (ns := ns) hX.four (toQ S)).mono ?_
  rintro ⟨_, ⟨⟩⟩ w1 ⟨h1, rfl⟩
  dsimp only at h1
  subst h1
  dsimp only
  refine cond_eq (fun h0 => ?_) (fun h0 => ?_)
  · have h0 : (getX X ns).n = 0 := by have h0 : (((getX X ns).n : Nat) : Int) = 0 := h0; omega
    exact ⟨fun _ => ⟨rfl, rfl, S⟩, fun h => absurd h0 h⟩
  have h0 : (getX X ns).n ≠ 0 := by have h0 : (((getX X ns).n : Nat) : Int) ≠ 0 := h0; omega
  have hn : 0 ≤ ns ∧ ns < 4 := by
    refine Classical.byContradiction fun e => h0 ?_
    unfold getX; rw [if_neg e]; rfl
  have hln := hX.get ns
  have S := S.nilOwn 55 2
  refine Loop1 (fun (v : SlV × Int × Unit) w' => ∃ (i : Nat) (M : List (Int × Int)) (m : Int × Int → Int), v.2.1 = (i : Int) ∧ i ≤ (getX X ns).n ∧ v.1.n ≤ i ∧ M.Nodup ∧ (∀ k, m k = cntX X k - cntC ((getX X ns).l.take i) k) ∧ (∀ k, k ∈ M ↔ 1 ≤ cntX X k ∧ m k = 0) ∧ Sep E w0 w' [outA v.1.a v.1.n v.1.c M, boxP p r X, MapF r m, ownsA X])
    (fun (v : SlV × Int × Unit) _ => (((getX X ns).n : Int) - v.2.1).toNat) ⟨0, [], cntX X, rfl, by omega, Nat.le_refl _, .nil, fun k => by rw [List.take_zero]; show _ = cntX X k - 0; omega, fun k => ⟨fun h => (List.not_mem_nil h).elim, fun h => by omega⟩, S⟩ ?_
  clear S
  rintro ⟨⟨oa, on, oc⟩, (v : Int), ⟨⟩⟩ w2 ⟨i, M, m, hv, hi, hon, hnd, hm, hM, S⟩
  dsimp only at hv hon S ⊢
  subst hv
  refine cond_d (fun hlt => ?_) (fun hge => ?_)
  · obtain ⟨q, x, hq, hx, hcx, hqb⟩ := cellR hX.four hn 3 S rfl (j := (i : Int)) (by omega) hlt
    rw [Int.toNat_natCast] at hx
    refine ⟨⟨by omega, hlt⟩, q, hq, x.tup, hcx, ?_⟩
    refine S.newB fun b8 w3 S f3 _ => ?_
    refine S.st0 (by rfl) fun w4 S f4 => S.la0 rfl ?_
    have hct := fun k => cntC_take hx k
    have hle := fun k => cntC_take_le (getX X ns).l (i + 1) k
    have hge := fun k => cntX_ge hX.four hn k
    have hup := fun k => cntX_le hX k
    have isC : ∀ k, isP k x = true ↔ x.has = true ∧ x.pl = k := fun k => by unfold isP; simp
    have hm1 : x.has = true → 1 ≤ m x.pl ∧ m x.pl ≤ 1000000 := fun hh => by
      have h2 := hct x.pl
      rw [if_pos ((isC _).2 ⟨hh, rfl⟩)] at h2
      have h3 := hle x.pl
      have h4 := hge x.pl
      have h5 := hup x.pl
      rw [hm]
      omega
    have S := S.sel [2, 2, 1, 0, 0] rfl
    refine Sep.call [_, _, _] (Ts := [_, _]) S (fun G SG => lose22_c (c := x) (bv4 hX.four) hm1 (by omega) SG) fun G fr rr w5 hr => ?_
    obtain ⟨a9, n9, c9, m9, hr1, hn9, hm9, S9⟩ := hr
    have S := fr _ _ S9
    obtain ⟨rr1, ⟨⟩⟩ := rr
    dsimp only at hr1
    subst hr1
    have hmk : ∀ k, m9 k = m k - (if isP k x = true then 1 else 0) := fun k => by
      rw [hm9]
      unfold losM
      by_cases hh : x.has = true
      · rw [if_pos hh]
        unfold updM
        by_cases h : k = (x.s.b, x.s.p)
        · rw [if_pos h, h, if_pos ((isC _).2 ⟨hh, rfl⟩)]
        · rw [if_neg h, if_neg (fun e => h ((isC _).1 e).2.symm)]; omega
      · rw [if_neg hh, if_neg (fun e => hh ((isC _).1 e).1)]; omega
    have hMk : ∀ k, k ∈ losL m x M ↔ 1 ≤ cntX X k ∧ m9 k = 0 := fun k => by
      rw [hmk]
      by_cases hp : isP k x = true
      · rw [if_pos hp]
        obtain ⟨hh, rfl⟩ := (isC k).1 hp
        have h1 := hm1 hh
        have h2 : x.pl ∉ M := fun h => by have := ((hM _).1 h).2; omega
        have h3 : 1 ≤ cntX X x.pl := by
          have := hm x.pl
          omega
        unfold losL
        by_cases h4 : 0 < m (x.s.b, x.s.p) - 1
        · rw [if_neg (fun e => e.2 h4)]
          exact ⟨fun h => absurd h h2, fun h => by have h5 := h.2; have h4 : 0 < m x.pl - 1 := h4; omega⟩
        · rw [if_pos ⟨hh, h4⟩]
          have h4 : ¬ 0 < m x.pl - 1 := h4
          exact ⟨fun _ => ⟨h3, by omega⟩, fun _ => List.mem_append_right _ (List.mem_singleton.2 rfl)⟩
      · rw [if_neg hp, Int.sub_zero, ← hM]
        unfold losL
        split
        · rename_i h4
          rw [List.mem_append, List.mem_singleton]
          exact ⟨fun h => h.elim id fun e => absurd ((isC k).2 ⟨h4.1, e.symm⟩) hp, .inl⟩
        · exact Iff.rfl
    have hMn : (losL m x M).Nodup := by
      unfold losL
      split
      · rename_i h4
        rw [List.nodup_append]
        refine ⟨hnd, by simp, fun a ha b hb e => ?_⟩
        have hb : b = x.pl := List.mem_singleton.1 hb
        have h1 := hm1 h4.1
        rw [e, hb] at ha
        have := ((hM _).1 ha).2
        omega
      · exact hnd
    refine ⟨Rng.i64 (by omega) (by omega), ⟨i + 1, _, m9, by push_cast; rfl, by omega, by dsimp only; omega, hMn, fun k => by rw [hmk, hm, hct]; omega, hMk, S.sel [2, 0, 0, 1] rfl⟩, by omega⟩
  have hie : i = (getX X ns).n := by omega
  subst hie
  rw [List.take_of_length_le (by omega)] at hm
  have hmm : m = cntX (X.set ns.toNat noC) := funext fun k => by rw [hm, cntX_drop hX.four hn]
  subst hmm
  refine ⟨hn, ?_⟩
  have hl : ns.toNat < X.length := by have := hX.four; omega
  rw [Nat.mul_one, show (⟨p, 0, none⟩ : Addr).add ns.toNat = ⟨p, ns.toNat, none⟩ by simp [Addr.add_lit]]
  refine S.storeR1 (i := 1) rfl (j := ns.toNat) (by rw [List.length_append, List.length_map]; omega) fun w3 S f3 => ?_
  have e1 : (X.map slC ++ [Value.map (some r)]).set ns.toNat (.slice none 0 0) = (X.set ns.toNat noC).map slC ++ [.map (some r)] := by
    rw [List.set_append_left _ _ (by rw [List.length_map]; exact hl), List.map_set]
    rfl
  have S : Sep E w0 w3 [outA oa on oc M, BoxA p 117 ((X.map slC ++ [Value.map (some r)]).set ns.toNat (.slice none 0 0)), MapF r (cntX (X.set ns.toNat noC)), ownsA X] := S
  rw [e1] at S
  have S1 := (((S.sel [3, 0, 0, 0] rfl).unfold (Rs := X.map ownC) (Ts := [_, _, _])).nilOwn 120 15)
  have S2 := S1.swapIn (i := ns.toNat) (R := ownC (getX X ns)) (by
    have := owns_nth hX.four hn
    rw [List.getElem?_append_left (List.getElem?_eq_some_iff.1 this).1, this])
  rw [List.set_append_left _ _ (by rw [List.length_map]; exact hl)] at S2
  have S3 : Sep E w0 w3 ((X.map ownC).set ns.toNat (ownC noC) ++ [outA oa on oc M, boxP p r (X.set ns.toNat noC), MapF r (cntX (X.set ns.toNat noC))]) := S2
  rw [← List.map_set (f := ownC)] at S3
  have S4 := (S3.fold (Rs := (X.set ns.toNat noC).map ownC)).sel [1, 1, 1, 0] rfl
  refine (hT M hnd hM S4).mono ?_
  rintro ⟨_, ⟨⟩⟩ w4 ⟨L', hL', hr, S⟩
  dsimp only at hr
  subst hr
  exact ⟨fun h => absurd h h0, fun _ => ⟨rfl, M, L', hnd, hM, hL', S⟩⟩
theorem Data22_c {ns : Int} (hX : XOk X) (S : Sep E w0 w [boxP p r X, MapF r m, ownsA X]) : CallV Try.prog 50 #[.pointer (some ⟨p, 0, none⟩), .int .i64 ns] w [.one (.int .i64)] fun rr w' => Ext w w' ∧ rr.1 = (datC X ns : Int) := by
  apply pagemap_Map_Data.vc
  unfold pagemap_Map_Data.P
  refine (own22_c (ns := ns) hX.four (toQ S)).mono ?_
  rintro ⟨_, ⟨⟩⟩ w1 ⟨h1, rfl⟩
  dsimp only at h1
  subst h1
  dsimp only
  have hln := hX.get ns
  refine Loop1 (fun (v : Int × Int × Unit) w' => ∃ (i : Nat), v.2.1 = (i : Int) ∧ i ≤ (getX X ns).n ∧ v.1 = (((getX X ns).l.take i).countP (fun c => c.has && decide (c.s.h.k = 1)) : Int) ∧ Ext w1 w')
    (fun (v : Int × Int × Unit) _ => (((getX X ns).n : Int) - v.2.1).toNat) ⟨0, rfl, by omega, rfl, Ext.refl w1⟩ ?_
  rintro ⟨(d : Int), (v : Int), ⟨⟩⟩ w2 ⟨i, hv, hi, hd, x2⟩
  dsimp only at hv hd ⊢
  subst hv
  refine cond_d (fun hlt => ?_) (fun hge => ?_)
  · have hn : 0 ≤ ns ∧ ns < 4 := by
      refine Classical.byContradiction fun e => ?_
      have : (getX X ns).n = 0 := by unfold getX; rw [if_neg e]; rfl
      omega
    have S := S.stepE x2
    obtain ⟨q, x, hq, hx, hcx, hqb⟩ := cellR hX.four hn 2 S rfl (j := (i : Int)) (by omega) hlt
    rw [Int.toNat_natCast] at hx
    have T := Sep.start NoB w2
    refine ⟨⟨by omega, hlt⟩, q, hq, x.tup, hcx, ?_⟩
    refine T.newB fun b8 w3 T f3 _ => ?_
    refine T.st0 (by rfl) fun w4 T f4 => ?_
    have hct : ((getX X ns).l.take (i + 1)).countP (fun c => c.has && decide (c.s.h.k = 1)) = ((getX X ns).l.take i).countP (fun c => c.has && decide (c.s.h.k = 1)) + (if (x.has && decide (x.s.h.k = 1)) = true then 1 else 0) := by
      rw [List.take_add_one, hx, List.countP_append]
      show _ + List.countP _ [x] = _
      rw [List.countP_cons, List.countP_nil, Nat.zero_add]
    have hle : ((getX X ns).l.take i).countP (fun c => c.has && decide (c.s.h.k = 1)) ≤ i := Nat.le_trans List.countP_le_length (by rw [List.length_take]; omega)
    have rg : Rng .i64 ((i : Int) + 1) := Rng.i64 (by omega) (by omega)
    have xx := x2.trans T.ext
    refine T.ld0 (j := 0) rfl rfl (cond_of (fun (hh : x.has = true) => ?_) (fun (hh : x.has = false) => ?_))
    · refine T.ld0 (j := 3) rfl rfl (cond_eq (fun (h : x.s.h.k = 1) => ?_) (fun (h : x.s.h.k ≠ 1) => ?_))
      · rw [if_pos (by rw [hh, decide_eq_true h]; rfl)] at hct
        exact ⟨Rng.i64 (by omega) (by omega), rg, ⟨i + 1, by push_cast; rfl, by omega, by rw [hct, hd]; push_cast; rfl, xx⟩, by omega⟩
      · rw [if_neg (by rw [hh, decide_eq_false h]; decide)] at hct
        exact ⟨rg, ⟨i + 1, by push_cast; rfl, by omega, by rw [hct, hd]; rfl, xx⟩, by omega⟩
    · rw [if_neg (by rw [hh]; simp)] at hct
      exact ⟨rg, ⟨i + 1, by push_cast; rfl, by omega, by rw [hct, hd]; rfl, xx⟩, by omega⟩
  · refine ⟨x2, ?_⟩
    rw [List.take_of_length_le (by omega)] at hd
    exact hd
/-- Some of a map's sectors are moved. -/
structure MovI (f t : Int × Int) (o : Hh) (X : List (SlP Ce)) (a : Int) (b : Nat) (Y : List (SlP Ce)) : Prop where
  ok : XOk Y
  sl : Y.map slC = X.map slC
  cell : ∀ (ns : Int) (j : Nat), (0 ≤ ns ∧ ns < 4) → (getX Y ns).l[j]? = if ns < a ∨ (ns = a ∧ j < b) then ((getX X ns).l[j]?).map (movC f t o) else (getX X ns).l[j]?
theorem sl_all {Y : List (SlP Ce)} (hY : Y.length = 4) (hX : X.length = 4) (h : Y.map slC = X.map slC) (ns : Int) : (getX Y ns).a = (getX X ns).a ∧ (getX Y ns).n = (getX X ns).n ∧ (getX Y ns).c = (getX X ns).c := by
  by_cases hn : 0 ≤ ns ∧ ns < 4
  · have h1 : (Y.map slC)[ns.toNat]? = (X.map slC)[ns.toNat]? := by rw [h]
    rw [List.getElem?_map, List.getElem?_map, getX_at hY hn, getX_at hX hn] at h1
    have h2 := Option.some.inj h1
    unfold slC at h2
    injection h2 with e1 e2 e3
    exact ⟨e1, e2, e3⟩
  · unfold getX
    rw [if_neg hn, if_neg hn]
    exact ⟨rfl, rfl, rfl⟩
theorem MovI.end {f t : Int × Int} {o : Hh} {Y : List (SlP Ce)} (hX : XOk X) (h : MovI f t o X 4 0 Y) : Y = movX f t o X := by
  refine List.ext_getElem? fun i => ?_
  have hm : (movX f t o X).length = 4 := by unfold movX; rw [List.length_map]; exact hX.four
  by_cases hi : i < 4
  · have hn : 0 ≤ (i : Int) ∧ (i : Int) < 4 := by omega
    have e1 := getX_at h.ok.four hn
    have e2 := getX_at hm hn
    rw [Int.toNat_natCast] at e1 e2
    rw [e1, e2, getX_mov _ _ _ _ hX.four]
    obtain ⟨a1, a2, a3⟩ := sl_all h.ok.four hX.four h.sl (i : Int)
    have a4 : (getX Y (i : Int)).l = (getX X (i : Int)).l.map (movC f t o) := by
      refine List.ext_getElem? fun j => ?_
      rw [h.cell _ _ hn, if_pos (.inl hn.2), List.getElem?_map]
    rw [← a1, ← a2, ← a3, ← a4]
  · rw [List.getElem?_eq_none (by have := h.ok.four; omega), List.getElem?_eq_none (by omega)]
theorem MovI.nil {f t : Int × Int} {o : Hh} (hX : XOk X) : MovI f t o X 0 0 X := ⟨hX, rfl, fun ns j hn => by rw [if_neg (by omega)]⟩
theorem MovI.next {f t : Int × Int} {o : Hh} {Y : List (SlP Ce)} {a : Int} (hX : XOk X) (h : MovI f t o X a (getX X a).n Y) : MovI f t o X (a + 1) 0 Y := ⟨h.ok, h.sl, fun ns j hn => by
  rw [h.cell ns j hn]
  by_cases h1 : ns < a
  · rw [if_pos (.inl h1), if_pos (.inl (by omega))]
  · by_cases h2 : ns = a
    · subst h2
      by_cases h3 : j < (getX X ns).n
      · rw [if_pos (.inr ⟨rfl, h3⟩), if_pos (.inl (by omega))]
      · have : (getX X ns).l[j]? = none := List.getElem?_eq_none (by rw [(hX.get ns).1]; omega)
        rw [this]
        split <;> split <;> rfl
    · rw [if_neg (by omega), if_neg (by omega)]⟩
theorem MovI.skip {f t : Int × Int} {o : Hh} {Y : List (SlP Ce)} {a : Int} {b : Nat} (h : MovI f t o X a b Y) {c : Ce} (hc : (getX X a).l[b]? = some c) (he : movC f t o c = c) : MovI f t o X a (b + 1) Y := ⟨h.ok, h.sl, fun ns j hn => by
  rw [h.cell ns j hn]
  by_cases h1 : ns = a ∧ j = b
  · obtain ⟨rfl, rfl⟩ := h1
    rw [if_neg (by omega), if_pos (by omega), hc]
    exact congrArg some he.symm
  · by_cases h2 : ns < a ∨ ns = a ∧ j < b
    · rw [if_pos h2, if_pos (by omega)]
    · rw [if_neg h2, if_neg (by omega)]⟩
theorem MovI.put {f t : Int × Int} {o : Hh} {Y : List (SlP Ce)} {a : Int} {b : Nat} (h : MovI f t o X a b Y) (ha : 0 ≤ a ∧ a < 4) {c : Ce} (hc : (getX X a).l[b]? = some c) : MovI f t o X a (b + 1) (setX Y a b (movC f t o c)) := ⟨h.ok.set, (setX_sl h.ok.four ha).trans h.sl, fun ns j hn => by
  rw [getX_l_set h.ok.four ha]
  have hy : (getX Y a).l[b]? = some c := by rw [h.cell a b ha, if_neg (by omega), hc]
  by_cases e : ns = a
  · subst e
    rw [if_pos rfl, List.getElem?_set]
    by_cases e2 : b = j
    · subst e2
      rw [if_pos rfl, if_pos (List.getElem?_eq_some_iff.1 hy).1, if_pos (by omega), hc]
      rfl
    · rw [if_neg e2, h.cell ns j hn]
      by_cases h2 : ns < ns ∨ ns = ns ∧ j < b
      · rw [if_pos h2, if_pos (by omega)]
      · rw [if_neg h2, if_neg (by omega)]
  · rw [if_neg e, h.cell ns j hn]
    by_cases h2 : ns < a
    · rw [if_pos (.inl h2), if_pos (.inl h2)]
    · rw [if_neg (by omega), if_neg (by omega)]⟩
attribute [local irreducible] cntX
theorem Move22_c {f t : Int × Int} {o : Hh} (hX : XOk X) (S : Sep E w0 w [boxP p r X, MapF r (cntX X), ownsA X]) : CallV Try.prog 49 #[.pointer (some ⟨p, 0, none⟩), .agg #[.int .i64 f.1, .int .i64 f.2], .agg #[.int .i64 t.1, .int .i64 t.2], o.val] w [.one (.int .i64)] fun rr w' =>
    (f ≠ t ∧ 0 < cntX X t → rr.1 = (2 : Int) ∧ Sep E w0 w' [boxP p r X, MapF r (cntX X), ownsA X]) ∧ (¬ (f ≠ t ∧ 0 < cntX X t) → rr.1 = (0 : Int) ∧ Sep E w0 w' [boxP p r (movX f t o X), MapF r (cntX (movX f t o X)), ownsA (movX f t o X)]) := by
  apply pagemap_Map_Move.vc
  unfold pagemap_Map_Move.P
  refine S.newB fun b1 w1 S f1 _ => ?_
  refine S.newB fun b3 w1 S f1 _ => ?_
  refine S.newB (vs := o.vs) fun b5 w1 S f1 _ => ?_
  have hlb : ∀ {w' : World} {E' : Nat → Prop} {wz : World} {A : List Asr}, Sep E' wz w' A → ∀ (i : Nat), A[i]? = some (boxP p r X) → ((⟨p, 0, none⟩ : Addr).add 4).block < w'.heap.size := fun S i hi => by rw [add_block]; exact S.lt i hi
  have hcn := cntX_le hX
  refine S.reg fun D hD hkeep S U => ⟨hD _ S.bl2, S.la2 rfl ⟨hD _ S.bl1, S.la1 rfl (eqPl ?_)⟩⟩
  have hft : ∀ {P : Prop} [Decidable P], (P ↔ f = t) → decide P = decide (f = t) := fun h => decide_eq_decide.2 h
  rw [hft (show _ ↔ f = t from ⟨fun h => Prod.ext h.1 h.2, fun h => by rw [h]; exact ⟨rfl, rfl⟩⟩)]
  by_cases hne : f = t
  case neg =>
    rw [decide_eq_false hne]
    have hp1 := hlb S 3 rfl
    refine cond_t rfl ⟨hD _ hp1, ld4P hX.four 3 S rfl ⟨hD _ S.bl1, S.la1 rfl ?_⟩⟩
    refine S.lookM (k := t) 4 rfl ?_
    refine ⟨hkeep _ U.fr, ?_⟩
    refine cond_d (fun (hg : cntX X t > 0) => ⟨fun _ => ⟨rfl, S.sel [3, 3, 3] rfl⟩, fun h => absurd ⟨hne, hg⟩ h⟩) (fun (hg : ¬ cntX X t > 0) => ?_)
    have hno : ¬ (f ≠ t ∧ 0 < cntX X t) := fun h => hg h.2
    clear hD hkeep U
    refine S.reg fun D hD hkeep S U => ?_
    have hp1 := hlb S 3 rfl
    refine ⟨hD _ hp1, ld4P hX.four 3 S rfl ⟨hD _ S.bl2, S.la2 rfl ?_⟩⟩
    refine S.lookM (k := f) 4 rfl ?_
    refine ⟨hkeep _ U.fr, ?_⟩
    clear hD hkeep U
    have hsl := (S.cells 3 rfl).take 4
    rw [List.take_append_of_le_length (by rw [List.length_map, hX.four]; exact Nat.le_refl _), List.take_of_length_le (by rw [List.length_map, hX.four]; exact Nat.le_refl _)] at hsl
    have h4 : X.map slC = [.slice (getX X 0).a (getX X 0).n (getX X 0).c, .slice (getX X 1).a (getX X 1).n (getX X 1).c, .slice (getX X 2).a (getX X 2).n (getX X 2).c, .slice (getX X 3).a (getX X 3).n (getX X 3).c] := by
      have := hX.four
      match X, this with
      | [a, b, c, d], _ => rfl
    rw [h4] at hsl
    refine ⟨(⟨(getX X 0).a, (getX X 0).n, (getX X 0).c⟩, ⟨(getX X 1).a, (getX X 1).n, (getX X 1).c⟩, ⟨(getX X 2).a, (getX X 2).n, (getX X 2).c⟩, ⟨(getX X 3).a, (getX X 3).n, (getX X 3).c⟩, ()), hsl, ?_⟩
    clear hsl
    refine Loop1 (fun (v : Int × Unit) w' => ∃ (a : Int) (Y : List (SlP Ce)), v.1 = a ∧ (0 ≤ a ∧ a ≤ 4) ∧ MovI f t o X a 0 Y ∧ Sep E w0 w' [BoxA b5 59 o.vs, BoxA b3 55 [.int .i64 t.1, .int .i64 t.2], BoxA b1 55 [.int .i64 f.1, .int .i64 f.2], boxP p r X, MapF r (cntX X), ownsA Y])
      (fun (v : Int × Unit) _ => (4 - v.1).toNat) ⟨0, X, rfl, by omega, .nil hX, S⟩ ?_
    clear S
    rintro ⟨(v : Int), ⟨⟩⟩ w2 ⟨a, Y, hv, ha, hY, S⟩
    dsimp only at hv ⊢
    subst hv
    refine cond_d (fun hlt => ?_) (fun hge => ?_)
    · have hn : 0 ≤ v ∧ v < 4 := ⟨ha.1, hlt⟩
      refine ⟨hn, ⟨(getX X v).a, (getX X v).n, (getX X v).c⟩, ?_, ?_⟩
      · have : v = 0 ∨ v = 1 ∨ v = 2 ∨ v = 3 := by omega
        rcases this with e | e | e | e <;> subst e <;> rfl
      dsimp only
      have hln := hX.get v
      refine Loop1 (fun (u : Int × Unit) w' => ∃ (i : Nat) (Y : List (SlP Ce)), u.1 = (i : Int) ∧ i ≤ (getX X v).n ∧ MovI f t o X v i Y ∧ Sep E w0 w' [BoxA b5 59 o.vs, BoxA b3 55 [.int .i64 t.1, .int .i64 t.2], BoxA b1 55 [.int .i64 f.1, .int .i64 f.2], boxP p r X, MapF r (cntX X), ownsA Y])
        (fun (u : Int × Unit) _ => (((getX X v).n : Int) - u.1).toNat) ⟨0, Y, rfl, by omega, hY, S⟩ ?_
      clear S hY
      rintro ⟨(u : Int), ⟨⟩⟩ w3 ⟨i, Y, hu, hi, hY, S⟩
      dsimp only at hu ⊢
      subst hu
      obtain ⟨g1, g2, g3⟩ := sl_all hY.ok.four hX.four hY.sl v
      refine cond_d (fun hlt2 => ?_) (fun hge2 => ?_)
      · have rg : Rng .i64 ((i : Int) + 1) := Rng.i64 (by omega) (by omega)
        obtain ⟨q, x, hq, hx, hcx, hqb⟩ := cellR hY.ok.four hn 5 S rfl (j := (i : Int)) (by omega) (by rw [g2]; exact hlt2)
        rw [Int.toNat_natCast] at hx
        have hxX : (getX X v).l[i]? = some x := by rw [hY.cell v i hn, if_neg (by omega)] at hx; exact hx
        refine ⟨⟨by omega, hlt2⟩, q, g1 ▸ hq, x.tup, hcx, ?_⟩
        refine S.newB fun b30 w4 S f4 _ => ?_
        refine S.st0 (by rfl) fun w5 S f5 => ?_
        have skip : movC f t o x = x → Rng .i64 ((i : Int) + 1) ∧ (∃ (i' : Nat) (Y : List (SlP Ce)), (i : Int) + 1 = (i' : Int) ∧ i' ≤ (getX X v).n ∧ MovI f t o X v i' Y ∧ Sep E w0 w5 [BoxA b5 59 o.vs, BoxA b3 55 [.int .i64 t.1, .int .i64 t.2], BoxA b1 55 [.int .i64 f.1, .int .i64 f.2], boxP p r X, MapF r (cntX X), ownsA Y]) ∧ (((getX X v).n : Int) - ((i : Int) + 1)).toNat < (((getX X v).n : Int) - (i : Int)).toNat := fun he =>
          ⟨rg, ⟨i + 1, Y, by push_cast; rfl, by omega, hY.skip hxX he, S.sel [1, 1, 1, 1, 1, 1] rfl⟩, by omega⟩
        refine S.ld0 (j := 0) rfl rfl (cond_of (fun (hh : x.has = true) => ?_) (fun (hh : x.has = false) => skip (by unfold movC; rw [if_neg (fun e => by rw [hh] at e; cases e.1)])))
        refine S.lb0 (o := 1) rfl (S.la3 rfl (eqPl (cond_d (fun e => ?_) (fun e => skip (by unfold movC; rw [if_neg (fun k => e ⟨by have := congrArg Prod.fst k.2; exact this, by have := congrArg Prod.snd k.2; exact this⟩)])))))
        have hxf : x.pl = f := Prod.ext e.1 e.2
        have hmv : movC f t o x = ⟨true, ⟨t.1, t.2, x.s.h, o⟩⟩ := by unfold movC; rw [if_pos ⟨hh, hxf⟩]
        have S := S.sel [6, 0, 0, 0, 0, 0, 0] rfl
        refine Sep.regC [_] S fun G D hG T S hDt hDo hkeep back => ?_
        refine ⟨hDt 2 _ _ _ rfl, S.la3 rfl ⟨hDt 1 _ _ _ rfl, S.la2 rfl ⟨⟨by omega, hlt2⟩, q, g1 ▸ hq, ?_⟩⟩⟩
        rw [Int.toNat_natCast]
        have hin : i < (getX Y v).n := by rw [g2]; omega
        refine cellP hY.ok.four hn 0 T rfl hq hin hx 1 ⟨x.has, ⟨t.1, t.2, x.s.h, x.s.o⟩⟩ (by show 1 + 2 ≤ 15; decide) rfl fun w6 T f6 => ⟨hkeep _ T.fr, ⟨by omega, hlt2⟩, q, g1 ▸ hq, ?_⟩
        have hY2 : XOk (setX Y v i ⟨x.has, ⟨t.1, t.2, x.s.h, x.s.o⟩⟩) := hY.ok.set
        have gs := setX_get hY.ok.four hn (j := i) (c := ⟨x.has, ⟨t.1, t.2, x.s.h, x.s.o⟩⟩) v
        rw [if_pos rfl] at gs
        have hil : i < (getX Y v).l.length := (List.getElem?_eq_some_iff.1 hx).1
        rw [add_add (q.add _)]
        refine cellP hY2.four hn 0 T rfl (by rw [gs]; exact hq) (by rw [gs]; exact hin) (x := ⟨x.has, ⟨t.1, t.2, x.s.h, x.s.o⟩⟩) (by rw [gs]; show ((getX Y v).l.set i _)[i]? = _; rw [List.getElem?_set, if_pos rfl, if_pos hil]) (1 + 8) ⟨x.has, ⟨t.1, t.2, x.s.h, o⟩⟩ (by show 1 + 8 + 6 ≤ 15; decide) rfl fun w7 T f7 => ⟨hkeep _ T.fr, rg, ⟨i + 1, _, by push_cast; rfl, by omega, hY.put hn hxX, ?_⟩, by omega⟩
        have e2 : setX (setX Y v i ⟨x.has, ⟨t.1, t.2, x.s.h, x.s.o⟩⟩) v i ⟨x.has, ⟨t.1, t.2, x.s.h, o⟩⟩ = setX Y v i (movC f t o x) := by
          rw [hmv, hh]
          unfold setX
          rw [List.set_set]
          have gs' := gs
          unfold setX at gs'
          rw [hh] at gs'
          rw [gs', List.set_set]
        have S := back _ _ T
        dsimp only [List.set_cons_zero] at S
        rw [e2] at S
        exact S.sel [2, 2, 2, 2, 2, 0] rfl
      · have hie : i = (getX X v).n := by omega
        subst hie
        exact ⟨Rng.i64 (by omega) (by omega), ⟨v + 1, Y, rfl, by omega, hY.next hX, S⟩, by omega⟩
    have hv4 : v = 4 := by omega
    subst hv4
    have hYe := hY.end hX
    subst hYe
    have hm : ∀ k, cntX (movX f t o X) k = _ := fun k => cntX_mov f t o k
    have hbx : boxP p r X = boxP p r (movX f t o X) := by
      show BoxA p _ (X.map slC ++ _) = BoxA p _ ((movX f t o X).map slC ++ _)
      rw [hY.sl]
    rw [hbx] at S
    have hX2 : XOk (movX f t o X) := hY.ok
    refine cond_d (fun (hg : cntX X f > 0) => ?_) (fun (hg : ¬ cntX X f > 0) => ?_)
    case refine_2 =>
      have hcf := (hcn f).1
      have e : cntX X = cntX (movX f t o X) := funext fun k => by
        rw [hm, show cntX X f = 0 by omega]
        split <;> split <;> omega
      rw [e] at S
      exact ⟨fun h => absurd h hno, fun _ => ⟨rfl, S.sel [3, 3, 3] rfl⟩⟩
    refine S.la2 rfl (S.la1 rfl (eqPl ?_))
    rw [hft (show _ ↔ f = t from ⟨fun h => Prod.ext h.1 h.2, fun h => by rw [h]; exact ⟨rfl, rfl⟩⟩)]
    rw [decide_eq_false hne]
    refine cond_t rfl ?_
    have S := S.sel [4, 0, 0, 0, 0, 0] rfl
    refine Sep.regC [_] S fun G D hG T S hDt hDo hkeep back => ?_
    refine ⟨by rw [add_block]; exact hDt 3 _ _ _ rfl, ld4P hX2.four 4 S rfl ⟨hDt 1 _ _ _ rfl, S.la2 rfl ?_⟩⟩
    refine T.updM (k := t) 0 rfl fun w3 T f3 => ?_
    refine ⟨hkeep _ T.fr, ?_⟩
    have S := back _ _ T
    dsimp only [List.set_cons_zero, List.cons_append, List.nil_append] at S
    refine Sep.regC [_] S fun G D hG T S hDt hDo hkeep back => ?_
    refine ⟨by rw [add_block]; exact hDt 3 _ _ _ rfl, ld4P hX2.four 4 S rfl ⟨hDt 2 _ _ _ rfl, S.la3 rfl ?_⟩⟩
    refine T.delM (k := f) 0 rfl fun w4 T f4 => ?_
    refine ⟨hkeep _ T.fr, ?_⟩
    have S := back _ _ T
    dsimp only [List.set_cons_zero, List.cons_append, List.nil_append] at S
    have e : updM (updM (cntX X) t (cntX X f)) f 0 = cntX (movX f t o X) := funext fun k => by
      rw [hm]
      unfold updM
      have hct := (hcn t).1
      by_cases h1 : k = f
      · rw [if_pos h1, if_pos h1, if_neg (fun e => hne (h1.symm.trans e)), h1]; omega
      · rw [if_neg h1, if_neg h1]
        by_cases h2 : k = t
        · rw [if_pos h2, if_pos h2, h2, show cntX X t = 0 by omega]; omega
        · rw [if_neg h2, if_neg h2]; omega
    rw [e] at S
    exact ⟨fun h => absurd h hno, fun _ => ⟨rfl, S.sel [4, 0, 3] rfl⟩⟩
  rw [decide_eq_true hne]
  refine cond_f rfl ?_
  have hno : ¬ (f ≠ t ∧ 0 < cntX X t) := fun h => h.1 hne
  clear hD hkeep U
  refine S.reg fun D hD hkeep S U => ?_
  have hp1 := hlb S 3 rfl
  refine ⟨hD _ hp1, ld4P hX.four 3 S rfl ⟨hD _ S.bl2, S.la2 rfl ?_⟩⟩
  refine S.lookM (k := f) 4 rfl ?_
  refine ⟨hkeep _ U.fr, ?_⟩
  clear hD hkeep U
  have hsl := (S.cells 3 rfl).take 4
  rw [List.take_append_of_le_length (by rw [List.length_map, hX.four]; exact Nat.le_refl _), List.take_of_length_le (by rw [List.length_map, hX.four]; exact Nat.le_refl _)] at hsl
  have h4 : X.map slC = [.slice (getX X 0).a (getX X 0).n (getX X 0).c, .slice (getX X 1).a (getX X 1).n (getX X 1).c, .slice (getX X 2).a (getX X 2).n (getX X 2).c, .slice (getX X 3).a (getX X 3).n (getX X 3).c] := by
    have := hX.four
    match X, this with
    | [a, b, c, d], _ => rfl
  rw [h4] at hsl
  refine ⟨(⟨(getX X 0).a, (getX X 0).n, (getX X 0).c⟩, ⟨(getX X 1).a, (getX X 1).n, (getX X 1).c⟩, ⟨(getX X 2).a, (getX X 2).n, (getX X 2).c⟩, ⟨(getX X 3).a, (getX X 3).n, (getX X 3).c⟩, ()), hsl, ?_⟩
  clear hsl
  refine Loop1 (fun (v : Int × Unit) w' => ∃ (a : Int) (Y : List (SlP Ce)), v.1 = a ∧ (0 ≤ a ∧ a ≤ 4) ∧ MovI f t o X a 0 Y ∧ Sep E w0 w' [BoxA b5 59 o.vs, BoxA b3 55 [.int .i64 t.1, .int .i64 t.2], BoxA b1 55 [.int .i64 f.1, .int .i64 f.2], boxP p r X, MapF r (cntX X), ownsA Y])
    (fun (v : Int × Unit) _ => (4 - v.1).toNat) ⟨0, X, rfl, by omega, .nil hX, S⟩ ?_
  clear S
  rintro ⟨(v : Int), ⟨⟩⟩ w2 ⟨a, Y, hv, ha, hY, S⟩
  dsimp only at hv ⊢
  subst hv
  refine cond_d (fun hlt => ?_) (fun hge => ?_)
  · have hn : 0 ≤ v ∧ v < 4 := ⟨ha.1, hlt⟩
    refine ⟨hn, ⟨(getX X v).a, (getX X v).n, (getX X v).c⟩, ?_, ?_⟩
    · have : v = 0 ∨ v = 1 ∨ v = 2 ∨ v = 3 := by omega
      rcases this with e | e | e | e <;> subst e <;> rfl
    dsimp only
    have hln := hX.get v
    refine Loop1 (fun (u : Int × Unit) w' => ∃ (i : Nat) (Y : List (SlP Ce)), u.1 = (i : Int) ∧ i ≤ (getX X v).n ∧ MovI f t o X v i Y ∧ Sep E w0 w' [BoxA b5 59 o.vs, BoxA b3 55 [.int .i64 t.1, .int .i64 t.2], BoxA b1 55 [.int .i64 f.1, .int .i64 f.2], boxP p r X, MapF r (cntX X), ownsA Y])
      (fun (u : Int × Unit) _ => (((getX X v).n : Int) - u.1).toNat) ⟨0, Y, rfl, by omega, hY, S⟩ ?_
    clear S hY
    rintro ⟨(u : Int), ⟨⟩⟩ w3 ⟨i, Y, hu, hi, hY, S⟩
    dsimp only at hu ⊢
    subst hu
    obtain ⟨g1, g2, g3⟩ := sl_all hY.ok.four hX.four hY.sl v
    refine cond_d (fun hlt2 => ?_) (fun hge2 => ?_)
    · have rg : Rng .i64 ((i : Int) + 1) := Rng.i64 (by omega) (by omega)
      obtain ⟨q, x, hq, hx, hcx, hqb⟩ := cellR hY.ok.four hn 5 S rfl (j := (i : Int)) (by omega) (by rw [g2]; exact hlt2)
      rw [Int.toNat_natCast] at hx
      have hxX : (getX X v).l[i]? = some x := by rw [hY.cell v i hn, if_neg (by omega)] at hx; exact hx
      refine ⟨⟨by omega, hlt2⟩, q, g1 ▸ hq, x.tup, hcx, ?_⟩
      refine S.newB fun b30 w4 S f4 _ => ?_
      refine S.st0 (by rfl) fun w5 S f5 => ?_
      have skip : movC f t o x = x → Rng .i64 ((i : Int) + 1) ∧ (∃ (i' : Nat) (Y : List (SlP Ce)), (i : Int) + 1 = (i' : Int) ∧ i' ≤ (getX X v).n ∧ MovI f t o X v i' Y ∧ Sep E w0 w5 [BoxA b5 59 o.vs, BoxA b3 55 [.int .i64 t.1, .int .i64 t.2], BoxA b1 55 [.int .i64 f.1, .int .i64 f.2], boxP p r X, MapF r (cntX X), ownsA Y]) ∧ (((getX X v).n : Int) - ((i : Int) + 1)).toNat < (((getX X v).n : Int) - (i : Int)).toNat := fun he =>
        ⟨rg, ⟨i + 1, Y, by push_cast; rfl, by omega, hY.skip hxX he, S.sel [1, 1, 1, 1, 1, 1] rfl⟩, by omega⟩
      refine S.ld0 (j := 0) rfl rfl (cond_of (fun (hh : x.has = true) => ?_) (fun (hh : x.has = false) => skip (by unfold movC; rw [if_neg (fun e => by rw [hh] at e; cases e.1)])))
      refine S.lb0 (o := 1) rfl (S.la3 rfl (eqPl (cond_d (fun e => ?_) (fun e => skip (by unfold movC; rw [if_neg (fun k => e ⟨by have := congrArg Prod.fst k.2; exact this, by have := congrArg Prod.snd k.2; exact this⟩)])))))
      have hxf : x.pl = f := Prod.ext e.1 e.2
      have hmv : movC f t o x = ⟨true, ⟨t.1, t.2, x.s.h, o⟩⟩ := by unfold movC; rw [if_pos ⟨hh, hxf⟩]
      have S := S.sel [6, 0, 0, 0, 0, 0, 0] rfl
      refine Sep.regC [_] S fun G D hG T S hDt hDo hkeep back => ?_
      refine ⟨hDt 2 _ _ _ rfl, S.la3 rfl ⟨hDt 1 _ _ _ rfl, S.la2 rfl ⟨⟨by omega, hlt2⟩, q, g1 ▸ hq, ?_⟩⟩⟩
      rw [Int.toNat_natCast]
      have hin : i < (getX Y v).n := by rw [g2]; omega
      refine cellP hY.ok.four hn 0 T rfl hq hin hx 1 ⟨x.has, ⟨t.1, t.2, x.s.h, x.s.o⟩⟩ (by show 1 + 2 ≤ 15; decide) rfl fun w6 T f6 => ⟨hkeep _ T.fr, ⟨by omega, hlt2⟩, q, g1 ▸ hq, ?_⟩
      have hY2 : XOk (setX Y v i ⟨x.has, ⟨t.1, t.2, x.s.h, x.s.o⟩⟩) := hY.ok.set
      have gs := setX_get hY.ok.four hn (j := i) (c := ⟨x.has, ⟨t.1, t.2, x.s.h, x.s.o⟩⟩) v
      rw [if_pos rfl] at gs
      have hil : i < (getX Y v).l.length := (List.getElem?_eq_some_iff.1 hx).1
      rw [add_add (q.add _)]
      refine cellP hY2.four hn 0 T rfl (by rw [gs]; exact hq) (by rw [gs]; exact hin) (x := ⟨x.has, ⟨t.1, t.2, x.s.h, x.s.o⟩⟩) (by rw [gs]; show ((getX Y v).l.set i _)[i]? = _; rw [List.getElem?_set, if_pos rfl, if_pos hil]) (1 + 8) ⟨x.has, ⟨t.1, t.2, x.s.h, o⟩⟩ (by show 1 + 8 + 6 ≤ 15; decide) rfl fun w7 T f7 => ⟨hkeep _ T.fr, rg, ⟨i + 1, _, by push_cast; rfl, by omega, hY.put hn hxX, ?_⟩, by omega⟩
      have e2 : setX (setX Y v i ⟨x.has, ⟨t.1, t.2, x.s.h, x.s.o⟩⟩) v i ⟨x.has, ⟨t.1, t.2, x.s.h, o⟩⟩ = setX Y v i (movC f t o x) := by
        rw [hmv, hh]
        unfold setX
        rw [List.set_set]
        have gs' := gs
        unfold setX at gs'
        rw [hh] at gs'
        rw [gs', List.set_set]
      have S := back _ _ T
      dsimp only [List.set_cons_zero] at S
      rw [e2] at S
      exact S.sel [2, 2, 2, 2, 2, 0] rfl
    · have hie : i = (getX X v).n := by omega
      subst hie
      exact ⟨Rng.i64 (by omega) (by omega), ⟨v + 1, Y, rfl, by omega, hY.next hX, S⟩, by omega⟩
  have hv4 : v = 4 := by omega
  subst hv4
  have hYe := hY.end hX
  subst hYe
  have hm : ∀ k, cntX (movX f t o X) k = _ := fun k => cntX_mov f t o k
  have hbx : boxP p r X = boxP p r (movX f t o X) := by
    show BoxA p _ (X.map slC ++ _) = BoxA p _ ((movX f t o X).map slC ++ _)
    rw [hY.sl]
  rw [hbx] at S
  have hX2 : XOk (movX f t o X) := hY.ok
  refine cond_d (fun (hg : cntX X f > 0) => ?_) (fun (hg : ¬ cntX X f > 0) => ?_)
  case refine_2 =>
    have hcf := (hcn f).1
    have e : cntX X = cntX (movX f t o X) := funext fun k => by
      rw [hm, show cntX X f = 0 by omega]
      split <;> split <;> omega
    rw [e] at S
    exact ⟨fun h => absurd h hno, fun _ => ⟨rfl, S.sel [3, 3, 3] rfl⟩⟩
  refine S.la2 rfl (S.la1 rfl (eqPl ?_))
  rw [hft (show _ ↔ f = t from ⟨fun h => Prod.ext h.1 h.2, fun h => by rw [h]; exact ⟨rfl, rfl⟩⟩)]
  rw [decide_eq_true hne]
  refine cond_f rfl ?_
  have e : cntX X = cntX (movX f t o X) := funext fun k => by
    rw [hm, hne]
    split <;> omega
  rw [e] at S
  exact ⟨fun h => absurd h hno, fun _ => ⟨rfl, S.sel [3, 3, 3] rfl⟩⟩
end
end Go.Proofs.Ytiemdjnmghackaa.Vc

/-! The contracts of layer 22 (pagemap): does the program answer. -/
namespace Go.Proofs.Ytiemdjnmghackaa.Vc
open Go Go.Eng Go.RowKit
set_option linter.unusedVariables false
set_option linter.unusedSimpArgs false

abbrev X0 : List (SlP Ce) := [noC, noC, noC, noC]
theorem X0_ok : XOk X0 := ⟨rfl, fun x hx => by simp at hx; rw [hx]; exact ⟨rfl, Nat.zero_le _⟩⟩
theorem X0_cnt : cntX X0 = fun _ => 0 := rfl
theorem cnt_new {X : List (SlP Ce)} (hX : X.length = 4) {ns : Int} (hn : 0 ≤ ns ∧ ns < 4) {x : SlP Ce} {n : Nat} (hx : x.l = List.replicate n Ce0) (h0 : (getX X ns).l = []) : cntX (X.set ns.toNat x) = cntX X := by
  funext k
  unfold cntX
  obtain ⟨m1, m2⟩ := flat_mid (f := fun x : SlP Ce => x.l) (z := x) (getX_at hX hn)
  have h1 : flatX X = _ := m1
  have h2 : flatX (X.set ns.toNat x) = _ := m2
  rw [h1, h2, hx, h0]
  unfold cntC
  simp only [List.countP_append, List.countP_replicate]
  have : isP k Ce0 = false := rfl
  rw [this]
  simp
theorem ok_new {X : List (SlP Ce)} (h : XOk X) {i : Nat} {x : SlP Ce} (hx : x.l.length = x.n ∧ x.n ≤ 65535) : XOk (X.set i x) :=
  ⟨by rw [List.length_set]; exact h.four, fun y hy => (List.mem_or_eq_of_mem_set hy).elim (h.len y) fun e => by rw [e]; exact hx⟩
theorem getX_set {X : List (SlP Ce)} (hX : X.length = 4) {ns : Int} (hn : 0 ≤ ns ∧ ns < 4) {x : SlP Ce} (ns' : Int) : getX (X.set ns.toNat x) ns' = if ns' = ns then x else getX X ns' := by
  by_cases hn' : 0 ≤ ns' ∧ ns' < 4
  · have h1 := getX_at (X := X.set ns.toNat x) (by rw [List.length_set]; exact hX) hn'
    rw [List.getElem?_set] at h1
    by_cases h : ns' = ns
    · subst h
      rw [if_pos rfl, if_pos (by omega)] at h1
      rw [if_pos rfl]
      exact (Option.some.inj h1).symm
    · rw [if_neg (by omega), getX_at hX hn'] at h1
      rw [if_neg h]
      exact (Option.some.inj h1).symm
  · have h : ns' ≠ ns := fun e => hn' (e ▸ hn)
    rw [if_neg h]
    unfold getX
    rw [if_neg hn', if_neg hn']
abbrev spA : Sp := ⟨0, 0, ⟨1, 1, 1, 3, 0, 0⟩, ⟨0, 0, 0, 0, 0, 0⟩⟩
theorem awake22_c {w : World} : CallV Try.prog 36 #[] w [.one .bool] fun r w' => r.1 = true ∧ Ext w w' := by
  apply law22_awake.vc
  unfold law22_awake.P
  refine New22_c.mono ?_
  rintro ⟨_, ⟨⟩⟩ w1 ⟨p, rr, hp, S⟩
  dsimp only at hp
  subst hp
  refine (Add22_c (ns := 1) (size := 5) rfl S).mono ?_
  rintro ⟨(e : Int), ⟨⟩⟩ w2 ⟨he, -, hA⟩
  have h0 : addE X0 1 5 = 0 := by decide
  obtain ⟨x, hxl, hxn, S⟩ := hA h0
  dsimp only at he
  rw [h0] at he
  subst he
  have hx1 : XOk (X0.set 1 x) := ok_new X0_ok (i := 1) ⟨by rw [hxl, hxn]; rfl, by rw [hxn]; decide⟩
  have hg : getX (X0.set 1 x) 1 = x := getX_set (X := X0) rfl (ns := 1) ⟨by decide, by decide⟩ 1
  have hc : cntX (X0.set 1 x) = fun _ => 0 := (cnt_new (X := X0) rfl (ns := 1) ⟨by decide, by decide⟩ hxl rfl).trans X0_cnt
  have S := fromQ S
  have S : Sep NoB w w2 [boxP p rr (X0.set 1 x), MapF rr (fun _ => 0), ownsA (X0.set 1 x)] := S
  rw [← hc] at S
  have hput : putP spA (X0.set 1 x) 1 = (setX (X0.set 1 x) 1 3 ⟨true, spA⟩, []) := by
    show stepP spA 3 (X0.set 1 x, []) = _
    unfold stepP
    dsimp only
    have : (getX (X0.set 1 x) 1).l.getD 3 Ce0 = Ce0 := by rw [hg, hxl]; rfl
    rw [this, if_neg (fun k => by cases k.1), if_neg (fun k => by cases k.1)]
  have hok : okS (X0.set 1 x) spA := by
    unfold okS
    rw [show spA.h.n = 1 from rfl, hg, hxn]
    decide
  refine (Put22_c (s := spA) (T := fun a b => b = a) ⟨by decide, by decide⟩ hx1 (fun _ => by show Told _ (putP spA (X0.set 1 x) 1).2; rw [hput]; exact @Told.nil (fun a b => b = a) rfl) S).mono ?_
  rintro ⟨⟨oa, on, oc⟩, (e : Int), ⟨⟩⟩ w3 ⟨-, hP⟩
  obtain ⟨he, L', -, S⟩ := hP hok
  dsimp only at he
  subst he
  have S : Sep NoB w w3 [_, boxP p rr (putP spA (X0.set 1 x) 1).1, MapF rr (cntX (putP spA (X0.set 1 x) 1).1), ownsA (putP spA (X0.set 1 x) 1).1] := S
  rw [hput] at S
  have hx2 : XOk (setX (X0.set 1 x) 1 3 ⟨true, spA⟩) := hx1.set
  have S := toQ S.tail
  have hg2 : getX (setX (X0.set 1 x) 1 3 ⟨true, spA⟩) 1 = ⟨x.a, x.n, x.c, x.l.set 3 ⟨true, spA⟩⟩ := by
    rw [setX_get hx1.four ⟨by decide, by decide⟩ 1, if_pos rfl, hg]
  have hgc : getC (setX (X0.set 1 x) 1 3 ⟨true, spA⟩) 1 3 = ⟨true, spA⟩ := by
    unfold getC
    rw [hg2, if_pos (by rw [hxn]; decide), hxl]
    rfl
  refine (Get22_c (ns := 1) (i := 3) hx2.four S).mono ?_
  rintro ⟨_, (b : Bool), ⟨⟩⟩ w4 ⟨h4, h4', x4⟩
  dsimp only at h4 h4'
  rw [hgc] at h4 h4'
  subst h4; subst h4'
  have S := S.stepE x4
  have T := Sep.start NoB w4
  refine T.newB fun b9 w5 T f5 _ => ?_
  refine T.st0 (by rfl) fun w6 T f6 => cond_t rfl (cond_t rfl (cond_t rfl ?_))
  have S := S.stepE T.ext
  refine (Size22_c (ns := 1) hx2.four S).mono ?_
  rintro ⟨(n : Int), ⟨⟩⟩ w7 ⟨h7, rfl⟩
  dsimp only at h7 ⊢
  rw [hg2] at h7
  subst h7
  rw [hxn]
  exact ⟨rfl, S.ext⟩
end Go.Proofs.Ytiemdjnmghackaa.Vc

/-! Spots are the same where all that they tell is. -/
namespace Go.Proofs.Ytiemdjnmghackaa.Vc
open Go Go.Eng Go.RowKit
set_option linter.unusedVariables false
set_option linter.unusedSimpArgs false

set_option maxRecDepth 100000 in
theorem eqPl1 (a1 a2 b1 b2 : Int) (w : World) : (Op.equalIn 9999 55 (.agg #[.int .i64 a1, .int .i64 a2]) (.agg #[.int .i64 b1, .int .i64 b2])).run Try.prog w = .ok (a1 == b1 && a2 == b2) w := by
  have u1 := Try.underlying3
  have v1 := Try.isAgg3
  have z1 := Try.sizeOf3
  have hS : Try.prog.underlying 55 = some (.struct (Try.prog.fieldsOf 55)) := by kernel_rfl
  rw [show (9999 : Nat) = 9998 + 1 from rfl, run_equalIn_agg w 9998 55 _ _ hS (by kernel_rfl)]
  simp only [Program.fieldsOf, Try.underlying55]
  go_simp
  repeat' split
  all_goals simp_all
set_option maxRecDepth 100000 in
theorem eqHh1 (a b : Hh) (w : World) : (Op.equalIn 9999 59 a.val b.val).run Try.prog w = .ok (a.k == b.k && (a.n == b.n && (a.c == b.c && (a.l == b.l && (a.e == b.e && a.t == b.t))))) w := by
  have u1 := Try.underlying3
  have v1 := Try.isAgg3
  have z1 := Try.sizeOf3
  have u2 := Try.underlying56
  have v2 := Try.isAgg56
  have z2 := Try.sizeOf56
  have u3 := Try.underlying57
  have v3 := Try.isAgg57
  have z3 := Try.sizeOf57
  have hS : Try.prog.underlying 59 = some (.struct (Try.prog.fieldsOf 59)) := by kernel_rfl
  rw [show (9999 : Nat) = 9998 + 1 from rfl, run_equalIn_agg w 9998 59 _ _ hS (by kernel_rfl)]
  simp only [Program.fieldsOf, Try.underlying59]
  go_simp
  repeat' split
  all_goals simp_all
set_option maxRecDepth 100000 in
theorem eqSp0 (a b : Sp) (w : World) : (Op.equalIn 10000 61 a.val b.val).run Try.prog w = .ok (a.b == b.b && (a.p == b.p && (a.h.k == b.h.k && (a.h.n == b.h.n && (a.h.c == b.h.c && (a.h.l == b.h.l && (a.h.e == b.h.e && (a.h.t == b.h.t && (a.o.k == b.o.k && (a.o.n == b.o.n && (a.o.c == b.o.c && (a.o.l == b.o.l && (a.o.e == b.o.e && a.o.t == b.o.t))))))))))))) w := by
  have h1 := fun w => eqPl1 a.b a.p b.b b.p w
  have h2 := fun w => eqHh1 a.h b.h w
  have h3 := fun w => eqHh1 a.o b.o w
  have u1 := Try.underlying59
  have v1 := Try.isAgg59
  have z1 := Try.sizeOf59
  have u2 := Try.underlying55
  have v2 := Try.isAgg55
  have z2 := Try.sizeOf55
  have hS : Try.prog.underlying 61 = some (.struct (Try.prog.fieldsOf 61)) := by kernel_rfl
  rw [show (10000 : Nat) = 9999 + 1 from rfl, run_equalIn_agg w 9999 61 _ _ hS (by kernel_rfl)]
  simp only [Program.fieldsOf, Try.underlying61]
  go_simp
  repeat' split
  all_goals simp_all
set_option maxRecDepth 100000 in
theorem eqRp0 (a b : Sp) (w : World) : (Op.equalIn 10000 64 a.val b.val).run Try.prog w = .ok (a.b == b.b && (a.p == b.p && (a.h.k == b.h.k && (a.h.n == b.h.n && (a.h.c == b.h.c && (a.h.l == b.h.l && (a.h.e == b.h.e && (a.h.t == b.h.t && (a.o.k == b.o.k && (a.o.n == b.o.n && (a.o.c == b.o.c && (a.o.l == b.o.l && (a.o.e == b.o.e && a.o.t == b.o.t))))))))))))) w := by
  have h1 := fun w => eqPl1 a.b a.p b.b b.p w
  have h2 := fun w => eqHh1 a.h b.h w
  have h3 := fun w => eqHh1 a.o b.o w
  have u1 := Try.underlying59
  have v1 := Try.isAgg59
  have z1 := Try.sizeOf59
  have u2 := Try.underlying55
  have v2 := Try.isAgg55
  have z2 := Try.sizeOf55
  have hS : Try.prog.underlying 64 = some (.struct (Try.prog.fieldsOf 64)) := by kernel_rfl
  rw [show (10000 : Nat) = 9999 + 1 from rfl, run_equalIn_agg w 9999 64 _ _ hS (by kernel_rfl)]
  simp only [Program.fieldsOf, Try.underlying64]
  go_simp
  repeat' split
  all_goals simp_all
deriving instance DecidableEq for Hh
deriving instance DecidableEq for Sp
theorem eqSp_chain (a b : Sp) : (a.b == b.b && (a.p == b.p && (a.h.k == b.h.k && (a.h.n == b.h.n && (a.h.c == b.h.c && (a.h.l == b.h.l && (a.h.e == b.h.e && (a.h.t == b.h.t && (a.o.k == b.o.k && (a.o.n == b.o.n && (a.o.c == b.o.c && (a.o.l == b.o.l && (a.o.e == b.o.e && a.o.t == b.o.t))))))))))))) = decide (a = b) := by
  apply Bool.eq_iff_iff.2
  obtain ⟨a1, a2, ⟨a3, a4, a5, a6, a7, a8⟩, ⟨a9, a10, a11, a12, a13, a14⟩⟩ := a
  obtain ⟨b1, b2, ⟨b3, b4, b5, b6, b7, b8⟩, ⟨b9, b10, b11, b12, b13, b14⟩⟩ := b
  simp [and_assoc]
theorem eqSp {a b : Sp} {K : Bool → Prop} (hk : K (decide (a = b))) : AggEq Try.prog 61 a.vs.toArray b.vs.toArray K :=
  ⟨_, fun w => eqSp0 a b w, by kernel_rfl, by rw [eqSp_chain]; exact hk⟩
theorem eqRp {a b : Sp} {K : Bool → Prop} (hk : K (decide (a = b))) : AggEq Try.prog 64 a.vs.toArray b.vs.toArray K :=
  ⟨_, fun w => eqRp0 a b w, by kernel_rfl, by rw [eqSp_chain]; exact hk⟩
end Go.Proofs.Ytiemdjnmghackaa.Vc

/-! The plans of functions as plain statements, printed by wip/tools/vcgen.py; the kernel holds each to the code. -/
namespace Go.Proofs.Ytiemdjnmghackaa.Vc
open Go Go.Eng
set_option linter.unusedVariables false

/-! ### nepenthe/nepenthelaw22.places: function 83 -/
-- loop 0 carries 5: .one (.int .i64)
def law22_places.A : Ann := .two .no (.two .no (.two (.two .no (.one (.loop [4, 5, 11, 12, 13, 14, 15, 16, 17, 18, 19, 20, 21, 22, 23, 24, 25] [(5, .one (.int .i64))] (.two .no (.two (.one (.two (.draw (.take 0 (.take 1 (.take 2 (.take 3 (.take 4 (.take 5 (.take 6 (.take 7 (.take 8 (.done))))))))))) .no)) .no))))) .no))
def law22_places.P (a0 : Option Addr) (n0 c0 : Nat) (a1 : Option Addr) (n1 c1 : Nat) (w : World) (K : Bool × Unit → World → Prop) : Prop :=
  cond (((n0 : Nat) : Int) != ((n1 : Nat) : Int))
  (K (false, ()) w)
  (LoopV [.one (.int .i64)] ((0 : Int), ()) w fun (z1 : Int × Unit) w2 (K3 : Int × Unit → World → Prop) =>
  cond (decide (z1.1 < ((n0 : Nat) : Int)))
  (DrawV fun D4 =>
  (0 ≤ z1.1 ∧ z1.1 < ((n0 : Nat) : Int)) ∧ ∃ q5 : Addr, a0 = some q5 ∧
  (D4 (q5.add (z1.1.toNat * 2)).block ∧ LoadA w2.drew (q5.add (z1.1.toNat * 2)) [.int .i64, .int .i64] fun (x6 : Int × Int × Unit) =>
  (0 ≤ z1.1 ∧ z1.1 < ((n1 : Nat) : Int)) ∧ ∃ q7 : Addr, a1 = some q7 ∧
  (D4 (q7.add (z1.1.toNat * 2)).block ∧ LoadA w2.drew (q7.add (z1.1.toNat * 2)) [.int .i64, .int .i64] fun (x8 : Int × Int × Unit) =>
  AggEq Try.prog 55 #[.int .i64 x6.1, .int .i64 x6.2.1] #[.int .i64 x8.1, .int .i64 x8.2.1] fun e9 =>
  cond (!e9)
  (K (false, ()) w2.drew)
  (Rng .i64 (z1.1 + 1) ∧
  K3 (z1.1 + 1, ()) w2.drew))))
  (K (true, ()) w2))
theorem law22_places.vc (a0 : Option Addr) (n0 c0 : Nat) (a1 : Option Addr) (n1 c1 : Nat) (w : World) (K : Bool × Unit → World → Prop) (h : law22_places.P a0 n0 c0 a1 n1 c1 w K) : CallV Try.prog 83 #[.slice a0 n0 c0, .slice a1 n1 c1] w [.one .bool] K := by
  have e : vcFun Try.prog okf false Try.f83 law22_places.A #[.slice a0 n0 c0, .slice a1 n1 c1] w [.one .bool] K = law22_places.P a0 n0 c0 a1 n1 c1 w K := by kernel_rfl
  exact vcFun.calls okf_ok follows Try.func83 (e.symm ▸ h)

/-! ### nepenthe/nepenthelaw22.add: function 81 -/
def law22_add.A : Ann := .no
def law22_add.P (p0 : Addr) (p1_0 : Int) (p1_1 : Int) (p1_2 : Int) (p1_3 : Int) (a1_4 : Option Addr) (n1_4 c1_4 : Nat) (p2_0 : Int) (p2_1 : Int) (p2_2 : Int) (p2_3 : Int) (p2_4 : Int) (p2_5 : Int) (p2_6 : Int) (p2_7 : Int) (p2_8 : Int) (p2_9 : Int) (p2_10 : Int) (p2_11 : Int) (p2_12 : Int) (p2_13 : Int) (p2_14 : Int) (p2_15 : Int) (p2_16 : Int) (p2_17 : Int) (p2_18 : Int) (w : World) (K : (Int × Int × Int × Int × SlV × Unit) × Bool × Unit → World → Prop) : Prop :=
  NewV #[.int .i64 p1_0, .int .i64 p1_1, .int .i64 p1_2, .int .i64 p1_3, .slice a1_4 n1_4 c1_4] 81 w fun b1 w2 =>
  NewV #[.int .i64 p2_0, .int .i64 p2_1, .int .i64 p2_2, .int .i64 p2_3, .int .i64 p2_4, .int .i64 p2_5, .int .i64 p2_6, .int .i64 p2_7, .int .u32 p2_8, .int .u64 p2_9, .int .u64 p2_10, .int .i64 p2_11, .int .i64 p2_12, .int .i64 p2_13, .int .u32 p2_14, .int .u64 p2_15, .int .u64 p2_16, .int .i64 p2_17, .int .i64 p2_18] 84 w2 fun b3 w4 =>
  NewV #[.int .i64 0, .int .i64 0, .int .i64 0, .int .i64 0, .slice none 0 0] 81 w4 fun b5 w6 =>
  LoadS w6 ⟨b3, 1, none⟩ (.int .i64) fun (x7 : Int) =>
  LoadS w6 ⟨b3, 2, none⟩ (.int .i64) fun (x8 : Int) =>
  CallV Try.prog 38 #[.pointer (some p0), .int .i64 x7, .int .i64 x8] w6 [.one (.int .i64)] fun (r9 : Int × Unit) w10 =>
  LoadS w10 ⟨b3, 1, none⟩ (.int .i64) fun (x11 : Int) =>
  cond (decide (x11 < 0))
  (LoadA w10 ⟨b1, 0, none⟩ [.int .i64, .int .i64, .int .i64, .int .i64, .sl] fun (x12 : Int × Int × Int × Int × SlV × Unit) =>
  StoreV w10 ⟨b5, 0, none⟩ [.int .i64 x12.1, .int .i64 x12.2.1, .int .i64 x12.2.2.1, .int .i64 x12.2.2.2.1, .slice x12.2.2.2.2.1.a x12.2.2.2.2.1.n x12.2.2.2.2.1.c] fun w13 =>
  LoadA w13 ⟨b5, 0, none⟩ [.int .i64, .int .i64, .int .i64, .int .i64, .sl] fun (x14 : Int × Int × Int × Int × SlV × Unit) =>
  K ((x14.1, x14.2.1, x14.2.2.1, x14.2.2.2.1, x14.2.2.2.2.1, ()), (r9.1 == 2), ()) w13)
  (LoadS w10 ⟨b3, 1, none⟩ (.int .i64) fun (x15 : Int) =>
  cond (decide (x15 > 3))
  (LoadA w10 ⟨b1, 0, none⟩ [.int .i64, .int .i64, .int .i64, .int .i64, .sl] fun (x16 : Int × Int × Int × Int × SlV × Unit) =>
  StoreV w10 ⟨b5, 0, none⟩ [.int .i64 x16.1, .int .i64 x16.2.1, .int .i64 x16.2.2.1, .int .i64 x16.2.2.2.1, .slice x16.2.2.2.2.1.a x16.2.2.2.2.1.n x16.2.2.2.2.1.c] fun w17 =>
  LoadA w17 ⟨b5, 0, none⟩ [.int .i64, .int .i64, .int .i64, .int .i64, .sl] fun (x18 : Int × Int × Int × Int × SlV × Unit) =>
  K ((x18.1, x18.2.1, x18.2.2.1, x18.2.2.2.1, x18.2.2.2.2.1, ()), (r9.1 == 2), ()) w17)
  (LoadS w10 ⟨b3, 2, none⟩ (.int .i64) fun (x19 : Int) =>
  cond (decide (x19 < 1))
  (LoadA w10 ⟨b1, 0, none⟩ [.int .i64, .int .i64, .int .i64, .int .i64, .sl] fun (x20 : Int × Int × Int × Int × SlV × Unit) =>
  StoreV w10 ⟨b5, 0, none⟩ [.int .i64 x20.1, .int .i64 x20.2.1, .int .i64 x20.2.2.1, .int .i64 x20.2.2.2.1, .slice x20.2.2.2.2.1.a x20.2.2.2.2.1.n x20.2.2.2.2.1.c] fun w21 =>
  LoadA w21 ⟨b5, 0, none⟩ [.int .i64, .int .i64, .int .i64, .int .i64, .sl] fun (x22 : Int × Int × Int × Int × SlV × Unit) =>
  K ((x22.1, x22.2.1, x22.2.2.1, x22.2.2.2.1, x22.2.2.2.2.1, ()), (r9.1 == 2), ()) w21)
  (LoadS w10 ⟨b3, 2, none⟩ (.int .i64) fun (x23 : Int) =>
  cond (decide (x23 > 65535))
  (LoadA w10 ⟨b1, 0, none⟩ [.int .i64, .int .i64, .int .i64, .int .i64, .sl] fun (x24 : Int × Int × Int × Int × SlV × Unit) =>
  StoreV w10 ⟨b5, 0, none⟩ [.int .i64 x24.1, .int .i64 x24.2.1, .int .i64 x24.2.2.1, .int .i64 x24.2.2.2.1, .slice x24.2.2.2.2.1.a x24.2.2.2.2.1.n x24.2.2.2.2.1.c] fun w25 =>
  LoadA w25 ⟨b5, 0, none⟩ [.int .i64, .int .i64, .int .i64, .int .i64, .sl] fun (x26 : Int × Int × Int × Int × SlV × Unit) =>
  K ((x26.1, x26.2.1, x26.2.2.1, x26.2.2.2.1, x26.2.2.2.2.1, ()), (r9.1 == 2), ()) w25)
  (LoadS w10 ⟨b3, 1, none⟩ (.int .i64) fun (x27 : Int) =>
  (0 ≤ x27 ∧ x27 < (4 : Int)) ∧
  LoadS w10 ((⟨b1, 0, none⟩ : Addr).add (x27.toNat * 1)) (.int .i64) fun (x28 : Int) =>
  cond (decide (x28 > 0))
  (LoadA w10 ⟨b1, 0, none⟩ [.int .i64, .int .i64, .int .i64, .int .i64, .sl] fun (x29 : Int × Int × Int × Int × SlV × Unit) =>
  StoreV w10 ⟨b5, 0, none⟩ [.int .i64 x29.1, .int .i64 x29.2.1, .int .i64 x29.2.2.1, .int .i64 x29.2.2.2.1, .slice x29.2.2.2.2.1.a x29.2.2.2.2.1.n x29.2.2.2.2.1.c] fun w30 =>
  LoadA w30 ⟨b5, 0, none⟩ [.int .i64, .int .i64, .int .i64, .int .i64, .sl] fun (x31 : Int × Int × Int × Int × SlV × Unit) =>
  K ((x31.1, x31.2.1, x31.2.2.1, x31.2.2.2.1, x31.2.2.2.2.1, ()), (r9.1 == 11), ()) w30)
  (LoadS w10 ⟨b3, 1, none⟩ (.int .i64) fun (x32 : Int) =>
  LoadS w10 ⟨b3, 2, none⟩ (.int .i64) fun (x33 : Int) =>
  (0 ≤ x32 ∧ x32 < (4 : Int)) ∧
  StoreV w10 ((⟨b1, 0, none⟩ : Addr).add (x32.toNat * 1)) [.int .i64 x33] fun w34 =>
  LoadA w34 ⟨b1, 0, none⟩ [.int .i64, .int .i64, .int .i64, .int .i64, .sl] fun (x35 : Int × Int × Int × Int × SlV × Unit) =>
  StoreV w34 ⟨b5, 0, none⟩ [.int .i64 x35.1, .int .i64 x35.2.1, .int .i64 x35.2.2.1, .int .i64 x35.2.2.2.1, .slice x35.2.2.2.2.1.a x35.2.2.2.2.1.n x35.2.2.2.2.1.c] fun w36 =>
  LoadA w36 ⟨b5, 0, none⟩ [.int .i64, .int .i64, .int .i64, .int .i64, .sl] fun (x37 : Int × Int × Int × Int × SlV × Unit) =>
  K ((x37.1, x37.2.1, x37.2.2.1, x37.2.2.2.1, x37.2.2.2.2.1, ()), (r9.1 == 0), ()) w36)))))
theorem law22_add.vc (p0 : Addr) (p1_0 : Int) (p1_1 : Int) (p1_2 : Int) (p1_3 : Int) (a1_4 : Option Addr) (n1_4 c1_4 : Nat) (p2_0 : Int) (p2_1 : Int) (p2_2 : Int) (p2_3 : Int) (p2_4 : Int) (p2_5 : Int) (p2_6 : Int) (p2_7 : Int) (p2_8 : Int) (p2_9 : Int) (p2_10 : Int) (p2_11 : Int) (p2_12 : Int) (p2_13 : Int) (p2_14 : Int) (p2_15 : Int) (p2_16 : Int) (p2_17 : Int) (p2_18 : Int) (w : World) (K : (Int × Int × Int × Int × SlV × Unit) × Bool × Unit → World → Prop) (h : law22_add.P p0 p1_0 p1_1 p1_2 p1_3 a1_4 n1_4 c1_4 p2_0 p2_1 p2_2 p2_3 p2_4 p2_5 p2_6 p2_7 p2_8 p2_9 p2_10 p2_11 p2_12 p2_13 p2_14 p2_15 p2_16 p2_17 p2_18 w K) : CallV Try.prog 81 #[.pointer (some p0), .agg #[.int .i64 p1_0, .int .i64 p1_1, .int .i64 p1_2, .int .i64 p1_3, .slice a1_4 n1_4 c1_4], .agg #[.int .i64 p2_0, .int .i64 p2_1, .int .i64 p2_2, .int .i64 p2_3, .int .i64 p2_4, .int .i64 p2_5, .int .i64 p2_6, .int .i64 p2_7, .int .u32 p2_8, .int .u64 p2_9, .int .u64 p2_10, .int .i64 p2_11, .int .i64 p2_12, .int .i64 p2_13, .int .u32 p2_14, .int .u64 p2_15, .int .u64 p2_16, .int .i64 p2_17, .int .i64 p2_18]] w [.agg [.int .i64, .int .i64, .int .i64, .int .i64, .sl], .one .bool] K := by
  have e : vcFun Try.prog okf false Try.f81 law22_add.A #[.pointer (some p0), .agg #[.int .i64 p1_0, .int .i64 p1_1, .int .i64 p1_2, .int .i64 p1_3, .slice a1_4 n1_4 c1_4], .agg #[.int .i64 p2_0, .int .i64 p2_1, .int .i64 p2_2, .int .i64 p2_3, .int .i64 p2_4, .int .i64 p2_5, .int .i64 p2_6, .int .i64 p2_7, .int .u32 p2_8, .int .u64 p2_9, .int .u64 p2_10, .int .i64 p2_11, .int .i64 p2_12, .int .i64 p2_13, .int .u32 p2_14, .int .u64 p2_15, .int .u64 p2_16, .int .i64 p2_17, .int .i64 p2_18]] w [.agg [.int .i64, .int .i64, .int .i64, .int .i64, .sl], .one .bool] K = law22_add.P p0 p1_0 p1_1 p1_2 p1_3 a1_4 n1_4 c1_4 p2_0 p2_1 p2_2 p2_3 p2_4 p2_5 p2_6 p2_7 p2_8 p2_9 p2_10 p2_11 p2_12 p2_13 p2_14 p2_15 p2_16 p2_17 p2_18 w K := by kernel_rfl
  exact vcFun.calls okf_ok follows Try.func81 (e.symm ▸ h)

/-! ### nepenthe/nepenthelaw22.step: function 42 -/
def law22_step.A : Ann := .two .no (.two (.two .no (.one (.two .no (.two .no (.two .no (.two (.two .no (.two .no (.two .no (.two (.draw (.take 0 (.take 1 (.take 2 (.take 3 (.take 4 (.take 5 (.eff 6 (.take 7 (.eff 8 (.take 9 (.done)))))))))))) .no)))) (.two .no (.two (.two .no (.two (.two (.draw (.take 0 (.take 1 (.take 2 (.eff 3 (.eff 4 (.take 5 (.done)))))))) .no) (.two (.draw (.take 0 (.take 1 (.take 2 (.both 3 (.both 4 (.take 5 (.take 6 (.take 7 (.eff 8 (.eff 9 (.take 10 (.done))))))) 8 (.eff 4 (.take 5 (.take 6 (.take 7 (.eff 9 (.take 10 (.done)))))))) 8 (.eff 3 (.eff 4 (.take 5 (.take 6 (.take 7 (.eff 9 (.take 10 (.done))))))))))))) (.two (.draw (.take 0 (.take 1 (.take 2 (.take 3 (.take 4 (.take 5 (.eff 6 (.take 7 (.eff 8 (.take 9 (.done)))))))))))) .no)))) .no)))))))) .no)
def law22_step.P (p0 : Addr) (p1_0 : Int) (p1_1 : Int) (p1_2 : Int) (p1_3 : Int) (a1_4 : Option Addr) (n1_4 c1_4 : Nat) (p2_0 : Int) (p2_1 : Int) (p2_2 : Int) (p2_3 : Int) (p2_4 : Int) (p2_5 : Int) (p2_6 : Int) (p2_7 : Int) (p2_8 : Int) (p2_9 : Int) (p2_10 : Int) (p2_11 : Int) (p2_12 : Int) (p2_13 : Int) (p2_14 : Int) (p2_15 : Int) (p2_16 : Int) (p2_17 : Int) (p2_18 : Int) (w : World) (K : (Int × Int × Int × Int × SlV × Unit) × Bool × Unit → World → Prop) : Prop :=
  NewV #[.int .i64 p1_0, .int .i64 p1_1, .int .i64 p1_2, .int .i64 p1_3, .slice a1_4 n1_4 c1_4] 81 w fun b1 w2 =>
  NewV #[.int .i64 p2_0, .int .i64 p2_1, .int .i64 p2_2, .int .i64 p2_3, .int .i64 p2_4, .int .i64 p2_5, .int .i64 p2_6, .int .i64 p2_7, .int .u32 p2_8, .int .u64 p2_9, .int .u64 p2_10, .int .i64 p2_11, .int .i64 p2_12, .int .i64 p2_13, .int .u32 p2_14, .int .u64 p2_15, .int .u64 p2_16, .int .i64 p2_17, .int .i64 p2_18] 84 w2 fun b3 w4 =>
  NewV #[.int .i64 0, .int .i64 0, .int .i64 0, .int .i64 0, .slice none 0 0] 81 w4 fun b5 w6 =>
  LoadS w6 ⟨b3, 0, none⟩ (.int .i64) fun (x7 : Int) =>
  cond (x7 == 1)
  (LoadA w6 ⟨b1, 0, none⟩ [.int .i64, .int .i64, .int .i64, .int .i64, .sl] fun (x8 : Int × Int × Int × Int × SlV × Unit) =>
  LoadA w6 ⟨b3, 0, none⟩ [.int .i64, .int .i64, .int .i64, .int .i64, .int .i64, .int .i64, .int .i64, .int .i64, .int .u32, .int .u64, .int .u64, .int .i64, .int .i64, .int .i64, .int .u32, .int .u64, .int .u64, .int .i64, .int .i64] fun (x9 : Int × Int × Int × Int × Int × Int × Int × Int × Int × Int × Int × Int × Int × Int × Int × Int × Int × Int × Int × Unit) =>
  CallV Try.prog 81 #[.pointer (some p0), .agg #[.int .i64 x8.1, .int .i64 x8.2.1, .int .i64 x8.2.2.1, .int .i64 x8.2.2.2.1, .slice x8.2.2.2.2.1.a x8.2.2.2.2.1.n x8.2.2.2.2.1.c], .agg #[.int .i64 x9.1, .int .i64 x9.2.1, .int .i64 x9.2.2.1, .int .i64 x9.2.2.2.1, .int .i64 x9.2.2.2.2.1, .int .i64 x9.2.2.2.2.2.1, .int .i64 x9.2.2.2.2.2.2.1, .int .i64 x9.2.2.2.2.2.2.2.1, .int .u32 x9.2.2.2.2.2.2.2.2.1, .int .u64 x9.2.2.2.2.2.2.2.2.2.1, .int .u64 x9.2.2.2.2.2.2.2.2.2.2.1, .int .i64 x9.2.2.2.2.2.2.2.2.2.2.2.1, .int .i64 x9.2.2.2.2.2.2.2.2.2.2.2.2.1, .int .i64 x9.2.2.2.2.2.2.2.2.2.2.2.2.2.1, .int .u32 x9.2.2.2.2.2.2.2.2.2.2.2.2.2.2.1, .int .u64 x9.2.2.2.2.2.2.2.2.2.2.2.2.2.2.2.1, .int .u64 x9.2.2.2.2.2.2.2.2.2.2.2.2.2.2.2.2.1, .int .i64 x9.2.2.2.2.2.2.2.2.2.2.2.2.2.2.2.2.2.1, .int .i64 x9.2.2.2.2.2.2.2.2.2.2.2.2.2.2.2.2.2.2.1]] w6 [.agg [.int .i64, .int .i64, .int .i64, .int .i64, .sl], .one .bool] fun (r10 : (Int × Int × Int × Int × SlV × Unit) × Bool × Unit) w11 =>
  StoreV w11 ⟨b5, 0, none⟩ [.int .i64 r10.1.1, .int .i64 r10.1.2.1, .int .i64 r10.1.2.2.1, .int .i64 r10.1.2.2.2.1, .slice r10.1.2.2.2.2.1.a r10.1.2.2.2.2.1.n r10.1.2.2.2.2.1.c] fun w12 =>
  LoadA w12 ⟨b5, 0, none⟩ [.int .i64, .int .i64, .int .i64, .int .i64, .sl] fun (x13 : Int × Int × Int × Int × SlV × Unit) =>
  K ((x13.1, x13.2.1, x13.2.2.1, x13.2.2.2.1, x13.2.2.2.2.1, ()), r10.2.1, ()) w12)
  (cond (x7 == 2)
  (LoadS w6 ⟨b3, 1, none⟩ (.int .i64) fun (x14 : Int) =>
  CallV Try.prog 47 #[.pointer (some p0), .int .i64 x14] w6 [.one .sl, .one (.int .i64)] fun (r15 : SlV × Int × Unit) w16 =>
  LoadS w16 ⟨b3, 1, none⟩ (.int .i64) fun (x17 : Int) =>
  cond (decide (x17 < 0))
  (LoadA w16 ⟨b1, 0, none⟩ [.int .i64, .int .i64, .int .i64, .int .i64, .sl] fun (x18 : Int × Int × Int × Int × SlV × Unit) =>
  cond (r15.2.1 == 2)
  (StoreV w16 ⟨b5, 0, none⟩ [.int .i64 x18.1, .int .i64 x18.2.1, .int .i64 x18.2.2.1, .int .i64 x18.2.2.2.1, .slice x18.2.2.2.2.1.a x18.2.2.2.2.1.n x18.2.2.2.2.1.c] fun w19 =>
  LoadA w19 ⟨b5, 0, none⟩ [.int .i64, .int .i64, .int .i64, .int .i64, .sl] fun (x20 : Int × Int × Int × Int × SlV × Unit) =>
  K ((x20.1, x20.2.1, x20.2.2.1, x20.2.2.2.1, x20.2.2.2.2.1, ()), (((r15.1.n : Nat) : Int) == 0), ()) w19)
  (StoreV w16 ⟨b5, 0, none⟩ [.int .i64 x18.1, .int .i64 x18.2.1, .int .i64 x18.2.2.1, .int .i64 x18.2.2.2.1, .slice x18.2.2.2.2.1.a x18.2.2.2.2.1.n x18.2.2.2.2.1.c] fun w21 =>
  LoadA w21 ⟨b5, 0, none⟩ [.int .i64, .int .i64, .int .i64, .int .i64, .sl] fun (x22 : Int × Int × Int × Int × SlV × Unit) =>
  K ((x22.1, x22.2.1, x22.2.2.1, x22.2.2.2.1, x22.2.2.2.2.1, ()), false, ()) w21))
  (LoadS w16 ⟨b3, 1, none⟩ (.int .i64) fun (x23 : Int) =>
  cond (decide (x23 > 3))
  (LoadA w16 ⟨b1, 0, none⟩ [.int .i64, .int .i64, .int .i64, .int .i64, .sl] fun (x24 : Int × Int × Int × Int × SlV × Unit) =>
  cond (r15.2.1 == 2)
  (StoreV w16 ⟨b5, 0, none⟩ [.int .i64 x24.1, .int .i64 x24.2.1, .int .i64 x24.2.2.1, .int .i64 x24.2.2.2.1, .slice x24.2.2.2.2.1.a x24.2.2.2.2.1.n x24.2.2.2.2.1.c] fun w25 =>
  LoadA w25 ⟨b5, 0, none⟩ [.int .i64, .int .i64, .int .i64, .int .i64, .sl] fun (x26 : Int × Int × Int × Int × SlV × Unit) =>
  K ((x26.1, x26.2.1, x26.2.2.1, x26.2.2.2.1, x26.2.2.2.2.1, ()), (((r15.1.n : Nat) : Int) == 0), ()) w25)
  (StoreV w16 ⟨b5, 0, none⟩ [.int .i64 x24.1, .int .i64 x24.2.1, .int .i64 x24.2.2.1, .int .i64 x24.2.2.2.1, .slice x24.2.2.2.2.1.a x24.2.2.2.2.1.n x24.2.2.2.2.1.c] fun w27 =>
  LoadA w27 ⟨b5, 0, none⟩ [.int .i64, .int .i64, .int .i64, .int .i64, .sl] fun (x28 : Int × Int × Int × Int × SlV × Unit) =>
  K ((x28.1, x28.2.1, x28.2.2.1, x28.2.2.2.1, x28.2.2.2.2.1, ()), false, ()) w27))
  (LoadS w16 ⟨b3, 1, none⟩ (.int .i64) fun (x29 : Int) =>
  (0 ≤ x29 ∧ x29 < (4 : Int)) ∧
  LoadS w16 ((⟨b1, 0, none⟩ : Addr).add (x29.toNat * 1)) (.int .i64) fun (x30 : Int) =>
  cond (x30 == 0)
  (LoadA w16 ⟨b1, 0, none⟩ [.int .i64, .int .i64, .int .i64, .int .i64, .sl] fun (x31 : Int × Int × Int × Int × SlV × Unit) =>
  cond (r15.2.1 == 2)
  (StoreV w16 ⟨b5, 0, none⟩ [.int .i64 x31.1, .int .i64 x31.2.1, .int .i64 x31.2.2.1, .int .i64 x31.2.2.2.1, .slice x31.2.2.2.2.1.a x31.2.2.2.2.1.n x31.2.2.2.2.1.c] fun w32 =>
  LoadA w32 ⟨b5, 0, none⟩ [.int .i64, .int .i64, .int .i64, .int .i64, .sl] fun (x33 : Int × Int × Int × Int × SlV × Unit) =>
  K ((x33.1, x33.2.1, x33.2.2.1, x33.2.2.2.1, x33.2.2.2.2.1, ()), (((r15.1.n : Nat) : Int) == 0), ()) w32)
  (StoreV w16 ⟨b5, 0, none⟩ [.int .i64 x31.1, .int .i64 x31.2.1, .int .i64 x31.2.2.1, .int .i64 x31.2.2.2.1, .slice x31.2.2.2.2.1.a x31.2.2.2.2.1.n x31.2.2.2.2.1.c] fun w34 =>
  LoadA w34 ⟨b5, 0, none⟩ [.int .i64, .int .i64, .int .i64, .int .i64, .sl] fun (x35 : Int × Int × Int × Int × SlV × Unit) =>
  K ((x35.1, x35.2.1, x35.2.2.1, x35.2.2.2.1, x35.2.2.2.2.1, ()), false, ()) w34))
  (LoadA w16 ⟨b1, 0, none⟩ [.int .i64, .int .i64, .int .i64, .int .i64, .sl] fun (x36 : Int × Int × Int × Int × SlV × Unit) =>
  LoadS w16 ⟨b3, 1, none⟩ (.int .i64) fun (x37 : Int) =>
  CallV Try.prog 82 #[.agg #[.int .i64 x36.1, .int .i64 x36.2.1, .int .i64 x36.2.2.1, .int .i64 x36.2.2.2.1, .slice x36.2.2.2.2.1.a x36.2.2.2.2.1.n x36.2.2.2.2.1.c], .int .i64 x37] w16 [.agg [.int .i64, .int .i64, .int .i64, .int .i64, .sl], .one .sl] fun (r38 : (Int × Int × Int × Int × SlV × Unit) × SlV × Unit) w39 =>
  NewV #[.int .i64 0, .int .i64 0, .int .i64 0, .int .i64 0, .slice none 0 0] 81 w39 fun b40 w41 =>
  StoreV w41 ⟨b40, 0, none⟩ [.int .i64 r38.1.1, .int .i64 r38.1.2.1, .int .i64 r38.1.2.2.1, .int .i64 r38.1.2.2.2.1, .slice r38.1.2.2.2.2.1.a r38.1.2.2.2.2.1.n r38.1.2.2.2.2.1.c] fun w42 =>
  DrawV fun D43 =>
  (D43 b40 ∧ LoadA w42.drew ⟨b40, 0, none⟩ [.int .i64, .int .i64, .int .i64, .int .i64, .sl] fun (x44 : Int × Int × Int × Int × SlV × Unit) =>
  cond (r15.2.1 == 0)
  (CallV Try.prog 83 #[.slice r15.1.a r15.1.n r15.1.c, .slice r38.2.1.a r38.2.1.n r38.2.1.c] w42.drew [.one .bool] fun (r45 : Bool × Unit) w46 =>
  KeepOn D43 w42.drew w46 ∧
  StoreV w46 ⟨b5, 0, none⟩ [.int .i64 x44.1, .int .i64 x44.2.1, .int .i64 x44.2.2.1, .int .i64 x44.2.2.2.1, .slice x44.2.2.2.2.1.a x44.2.2.2.2.1.n x44.2.2.2.2.1.c] fun w47 =>
  KeepOn D43 w42.drew w47 ∧
  LoadA w47 ⟨b5, 0, none⟩ [.int .i64, .int .i64, .int .i64, .int .i64, .sl] fun (x48 : Int × Int × Int × Int × SlV × Unit) =>
  K ((x48.1, x48.2.1, x48.2.2.1, x48.2.2.2.1, x48.2.2.2.2.1, ()), r45.1, ()) w47)
  (StoreV w42.drew ⟨b5, 0, none⟩ [.int .i64 x44.1, .int .i64 x44.2.1, .int .i64 x44.2.2.1, .int .i64 x44.2.2.2.1, .slice x44.2.2.2.2.1.a x44.2.2.2.2.1.n x44.2.2.2.2.1.c] fun w49 =>
  KeepOn D43 w42.drew w49 ∧
  LoadA w49 ⟨b5, 0, none⟩ [.int .i64, .int .i64, .int .i64, .int .i64, .sl] fun (x50 : Int × Int × Int × Int × SlV × Unit) =>
  K ((x50.1, x50.2.1, x50.2.2.1, x50.2.2.2.1, x50.2.2.2.2.1, ()), false, ()) w49))))))
  (cond (x7 == 3)
  (LoadA w6 ⟨b3, 3, none⟩ [.int .i64, .int .i64, .int .i64, .int .i64, .int .i64, .int .u32, .int .u64, .int .u64, .int .i64, .int .i64, .int .i64, .int .u32, .int .u64, .int .u64] fun (x51 : Int × Int × Int × Int × Int × Int × Int × Int × Int × Int × Int × Int × Int × Int × Unit) =>
  CallV Try.prog 39 #[.pointer (some p0), .agg #[.int .i64 x51.1, .int .i64 x51.2.1, .int .i64 x51.2.2.1, .int .i64 x51.2.2.2.1, .int .i64 x51.2.2.2.2.1, .int .u32 x51.2.2.2.2.2.1, .int .u64 x51.2.2.2.2.2.2.1, .int .u64 x51.2.2.2.2.2.2.2.1, .int .i64 x51.2.2.2.2.2.2.2.2.1, .int .i64 x51.2.2.2.2.2.2.2.2.2.1, .int .i64 x51.2.2.2.2.2.2.2.2.2.2.1, .int .u32 x51.2.2.2.2.2.2.2.2.2.2.2.1, .int .u64 x51.2.2.2.2.2.2.2.2.2.2.2.2.1, .int .u64 x51.2.2.2.2.2.2.2.2.2.2.2.2.2.1]] w6 [.one .sl, .one (.int .i64)] fun (r52 : SlV × Int × Unit) w53 =>
  DrawV fun D54 =>
  (D54 b1 ∧ LoadA w53.drew ⟨b1, 0, none⟩ [.int .i64, .int .i64, .int .i64, .int .i64, .sl] fun (x55 : Int × Int × Int × Int × SlV × Unit) =>
  (D54 b3 ∧ LoadA w53.drew ⟨b3, 3, none⟩ [.int .i64, .int .i64, .int .i64, .int .i64, .int .i64, .int .u32, .int .u64, .int .u64, .int .i64, .int .i64, .int .i64, .int .u32, .int .u64, .int .u64] fun (x56 : Int × Int × Int × Int × Int × Int × Int × Int × Int × Int × Int × Int × Int × Int × Unit) =>
  CallV Try.prog 35 #[.agg #[.int .i64 x56.1, .int .i64 x56.2.1, .int .i64 x56.2.2.1, .int .i64 x56.2.2.2.1, .int .i64 x56.2.2.2.2.1, .int .u32 x56.2.2.2.2.2.1, .int .u64 x56.2.2.2.2.2.2.1, .int .u64 x56.2.2.2.2.2.2.2.1, .int .i64 x56.2.2.2.2.2.2.2.2.1, .int .i64 x56.2.2.2.2.2.2.2.2.2.1, .int .i64 x56.2.2.2.2.2.2.2.2.2.2.1, .int .u32 x56.2.2.2.2.2.2.2.2.2.2.2.1, .int .u64 x56.2.2.2.2.2.2.2.2.2.2.2.2.1, .int .u64 x56.2.2.2.2.2.2.2.2.2.2.2.2.2.1]] w53.drew [.agg [.int .i64, .int .i64, .int .i64, .int .i64, .int .i64, .int .u32, .int .u64, .int .u64, .int .i64, .int .i64, .int .i64, .int .u32, .int .u64, .int .u64]] fun (r57 : (Int × Int × Int × Int × Int × Int × Int × Int × Int × Int × Int × Int × Int × Int × Unit) × Unit) w58 =>
  KeepOn D54 w53.drew w58 ∧
  CallV Try.prog 84 #[.agg #[.int .i64 x55.1, .int .i64 x55.2.1, .int .i64 x55.2.2.1, .int .i64 x55.2.2.2.1, .slice x55.2.2.2.2.1.a x55.2.2.2.2.1.n x55.2.2.2.2.1.c], .agg #[.int .i64 r57.1.1, .int .i64 r57.1.2.1, .int .i64 r57.1.2.2.1, .int .i64 r57.1.2.2.2.1, .int .i64 r57.1.2.2.2.2.1, .int .u32 r57.1.2.2.2.2.2.1, .int .u64 r57.1.2.2.2.2.2.2.1, .int .u64 r57.1.2.2.2.2.2.2.2.1, .int .i64 r57.1.2.2.2.2.2.2.2.2.1, .int .i64 r57.1.2.2.2.2.2.2.2.2.2.1, .int .i64 r57.1.2.2.2.2.2.2.2.2.2.2.1, .int .u32 r57.1.2.2.2.2.2.2.2.2.2.2.2.1, .int .u64 r57.1.2.2.2.2.2.2.2.2.2.2.2.2.1, .int .u64 r57.1.2.2.2.2.2.2.2.2.2.2.2.2.2.1]] w58 [.one .bool] fun (r59 : Bool × Unit) w60 =>
  KeepOn D54 w53.drew w60 ∧
  cond (!r59.1)
  (LoadA w60 ⟨b1, 0, none⟩ [.int .i64, .int .i64, .int .i64, .int .i64, .sl] fun (x61 : Int × Int × Int × Int × SlV × Unit) =>
  cond (r52.2.1 == 2)
  (StoreV w60 ⟨b5, 0, none⟩ [.int .i64 x61.1, .int .i64 x61.2.1, .int .i64 x61.2.2.1, .int .i64 x61.2.2.2.1, .slice x61.2.2.2.2.1.a x61.2.2.2.2.1.n x61.2.2.2.2.1.c] fun w62 =>
  LoadA w62 ⟨b5, 0, none⟩ [.int .i64, .int .i64, .int .i64, .int .i64, .sl] fun (x63 : Int × Int × Int × Int × SlV × Unit) =>
  K ((x63.1, x63.2.1, x63.2.2.1, x63.2.2.2.1, x63.2.2.2.2.1, ()), (((r52.1.n : Nat) : Int) == 0), ()) w62)
  (StoreV w60 ⟨b5, 0, none⟩ [.int .i64 x61.1, .int .i64 x61.2.1, .int .i64 x61.2.2.1, .int .i64 x61.2.2.2.1, .slice x61.2.2.2.2.1.a x61.2.2.2.2.1.n x61.2.2.2.2.1.c] fun w64 =>
  LoadA w64 ⟨b5, 0, none⟩ [.int .i64, .int .i64, .int .i64, .int .i64, .sl] fun (x65 : Int × Int × Int × Int × SlV × Unit) =>
  K ((x65.1, x65.2.1, x65.2.2.1, x65.2.2.2.1, x65.2.2.2.2.1, ()), false, ()) w64))
  (DrawV fun D66 =>
  (D66 b1 ∧ LoadA w60.drew ⟨b1, 0, none⟩ [.int .i64, .int .i64, .int .i64, .int .i64, .sl] fun (x67 : Int × Int × Int × Int × SlV × Unit) =>
  (D66 b3 ∧ LoadA w60.drew ⟨b3, 3, none⟩ [.int .i64, .int .i64, .int .i64, .int .i64, .int .i64, .int .u32, .int .u64, .int .u64, .int .i64, .int .i64, .int .i64, .int .u32, .int .u64, .int .u64] fun (x68 : Int × Int × Int × Int × Int × Int × Int × Int × Int × Int × Int × Int × Int × Int × Unit) =>
  ((CallV Try.prog 35 #[.agg #[.int .i64 x68.1, .int .i64 x68.2.1, .int .i64 x68.2.2.1, .int .i64 x68.2.2.2.1, .int .i64 x68.2.2.2.2.1, .int .u32 x68.2.2.2.2.2.1, .int .u64 x68.2.2.2.2.2.2.1, .int .u64 x68.2.2.2.2.2.2.2.1, .int .i64 x68.2.2.2.2.2.2.2.2.1, .int .i64 x68.2.2.2.2.2.2.2.2.2.1, .int .i64 x68.2.2.2.2.2.2.2.2.2.2.1, .int .u32 x68.2.2.2.2.2.2.2.2.2.2.2.1, .int .u64 x68.2.2.2.2.2.2.2.2.2.2.2.2.1, .int .u64 x68.2.2.2.2.2.2.2.2.2.2.2.2.2.1]] w60.drew [.agg [.int .i64, .int .i64, .int .i64, .int .i64, .int .i64, .int .u32, .int .u64, .int .u64, .int .i64, .int .i64, .int .i64, .int .u32, .int .u64, .int .u64]] fun (r69 : (Int × Int × Int × Int × Int × Int × Int × Int × Int × Int × Int × Int × Int × Int × Unit) × Unit) w70 =>
  KeepOn D66 w60.drew w70 ∧
  ((CallV Try.prog 85 #[.agg #[.int .i64 x67.1, .int .i64 x67.2.1, .int .i64 x67.2.2.1, .int .i64 x67.2.2.2.1, .slice x67.2.2.2.2.1.a x67.2.2.2.2.1.n x67.2.2.2.2.1.c], .agg #[.int .i64 r69.1.1, .int .i64 r69.1.2.1, .int .i64 r69.1.2.2.1, .int .i64 r69.1.2.2.2.1, .int .i64 r69.1.2.2.2.2.1, .int .u32 r69.1.2.2.2.2.2.1, .int .u64 r69.1.2.2.2.2.2.2.1, .int .u64 r69.1.2.2.2.2.2.2.2.1, .int .i64 r69.1.2.2.2.2.2.2.2.2.1, .int .i64 r69.1.2.2.2.2.2.2.2.2.2.1, .int .i64 r69.1.2.2.2.2.2.2.2.2.2.2.1, .int .u32 r69.1.2.2.2.2.2.2.2.2.2.2.2.1, .int .u64 r69.1.2.2.2.2.2.2.2.2.2.2.2.2.1, .int .u64 r69.1.2.2.2.2.2.2.2.2.2.2.2.2.2.1]] w70 [.agg [.int .i64, .int .i64, .int .i64, .int .i64, .sl], .one .sl] fun (r71 : (Int × Int × Int × Int × SlV × Unit) × SlV × Unit) w72 =>
  KeepOn D66 w60.drew w72 ∧
  NewV #[.int .i64 0, .int .i64 0, .int .i64 0, .int .i64 0, .slice none 0 0] 81 w72 fun b73 w74 =>
  KeepOn D66 w60.drew w74 ∧
  StoreV w74 ⟨b73, 0, none⟩ [.int .i64 r71.1.1, .int .i64 r71.1.2.1, .int .i64 r71.1.2.2.1, .int .i64 r71.1.2.2.2.1, .slice r71.1.2.2.2.2.1.a r71.1.2.2.2.2.1.n r71.1.2.2.2.2.1.c] fun w75 =>
  KeepOn D66 w60.drew w75 ∧
  DrawV fun D76 =>
  (D76 b73 ∧ LoadA w75.drew ⟨b73, 0, none⟩ [.int .i64, .int .i64, .int .i64, .int .i64, .sl] fun (x77 : Int × Int × Int × Int × SlV × Unit) =>
  cond (r52.2.1 == 0)
  (CallV Try.prog 83 #[.slice r52.1.a r52.1.n r52.1.c, .slice r71.2.1.a r71.2.1.n r71.2.1.c] w75.drew [.one .bool] fun (r78 : Bool × Unit) w79 =>
  KeepOn D76 w75.drew w79 ∧
  StoreV w79 ⟨b5, 0, none⟩ [.int .i64 x77.1, .int .i64 x77.2.1, .int .i64 x77.2.2.1, .int .i64 x77.2.2.2.1, .slice x77.2.2.2.2.1.a x77.2.2.2.2.1.n x77.2.2.2.2.1.c] fun w80 =>
  KeepOn D76 w75.drew w80 ∧
  LoadA w80 ⟨b5, 0, none⟩ [.int .i64, .int .i64, .int .i64, .int .i64, .sl] fun (x81 : Int × Int × Int × Int × SlV × Unit) =>
  K ((x81.1, x81.2.1, x81.2.2.1, x81.2.2.2.1, x81.2.2.2.2.1, ()), r78.1, ()) w80)
  (StoreV w75.drew ⟨b5, 0, none⟩ [.int .i64 x77.1, .int .i64 x77.2.1, .int .i64 x77.2.2.1, .int .i64 x77.2.2.2.1, .slice x77.2.2.2.2.1.a x77.2.2.2.2.1.n x77.2.2.2.2.1.c] fun w82 =>
  KeepOn D76 w75.drew w82 ∧
  LoadA w82 ⟨b5, 0, none⟩ [.int .i64, .int .i64, .int .i64, .int .i64, .sl] fun (x83 : Int × Int × Int × Int × SlV × Unit) =>
  K ((x83.1, x83.2.1, x83.2.2.1, x83.2.2.2.1, x83.2.2.2.2.1, ()), false, ()) w82))) ∧
  (NewV #[.int .i64 0, .int .i64 0, .int .i64 0, .int .i64 0, .slice none 0 0] 81 w70 fun b84 w85 =>
  KeepOn D66 w60.drew w85 ∧
  CallV Try.prog 85 #[.agg #[.int .i64 x67.1, .int .i64 x67.2.1, .int .i64 x67.2.2.1, .int .i64 x67.2.2.2.1, .slice x67.2.2.2.2.1.a x67.2.2.2.2.1.n x67.2.2.2.2.1.c], .agg #[.int .i64 r69.1.1, .int .i64 r69.1.2.1, .int .i64 r69.1.2.2.1, .int .i64 r69.1.2.2.2.1, .int .i64 r69.1.2.2.2.2.1, .int .u32 r69.1.2.2.2.2.2.1, .int .u64 r69.1.2.2.2.2.2.2.1, .int .u64 r69.1.2.2.2.2.2.2.2.1, .int .i64 r69.1.2.2.2.2.2.2.2.2.1, .int .i64 r69.1.2.2.2.2.2.2.2.2.2.1, .int .i64 r69.1.2.2.2.2.2.2.2.2.2.2.1, .int .u32 r69.1.2.2.2.2.2.2.2.2.2.2.2.1, .int .u64 r69.1.2.2.2.2.2.2.2.2.2.2.2.2.1, .int .u64 r69.1.2.2.2.2.2.2.2.2.2.2.2.2.2.1]] w85 [.agg [.int .i64, .int .i64, .int .i64, .int .i64, .sl], .one .sl] fun (r86 : (Int × Int × Int × Int × SlV × Unit) × SlV × Unit) w87 =>
  KeepOn D66 w60.drew w87 ∧
  StoreV w87 ⟨b84, 0, none⟩ [.int .i64 r86.1.1, .int .i64 r86.1.2.1, .int .i64 r86.1.2.2.1, .int .i64 r86.1.2.2.2.1, .slice r86.1.2.2.2.2.1.a r86.1.2.2.2.2.1.n r86.1.2.2.2.2.1.c] fun w88 =>
  KeepOn D66 w60.drew w88 ∧
  DrawV fun D89 =>
  (D89 b84 ∧ LoadA w88.drew ⟨b84, 0, none⟩ [.int .i64, .int .i64, .int .i64, .int .i64, .sl] fun (x90 : Int × Int × Int × Int × SlV × Unit) =>
  cond (r52.2.1 == 0)
  (CallV Try.prog 83 #[.slice r52.1.a r52.1.n r52.1.c, .slice r86.2.1.a r86.2.1.n r86.2.1.c] w88.drew [.one .bool] fun (r91 : Bool × Unit) w92 =>
  KeepOn D89 w88.drew w92 ∧
  StoreV w92 ⟨b5, 0, none⟩ [.int .i64 x90.1, .int .i64 x90.2.1, .int .i64 x90.2.2.1, .int .i64 x90.2.2.2.1, .slice x90.2.2.2.2.1.a x90.2.2.2.2.1.n x90.2.2.2.2.1.c] fun w93 =>
  KeepOn D89 w88.drew w93 ∧
  LoadA w93 ⟨b5, 0, none⟩ [.int .i64, .int .i64, .int .i64, .int .i64, .sl] fun (x94 : Int × Int × Int × Int × SlV × Unit) =>
  K ((x94.1, x94.2.1, x94.2.2.1, x94.2.2.2.1, x94.2.2.2.2.1, ()), r91.1, ()) w93)
  (StoreV w88.drew ⟨b5, 0, none⟩ [.int .i64 x90.1, .int .i64 x90.2.1, .int .i64 x90.2.2.1, .int .i64 x90.2.2.2.1, .slice x90.2.2.2.2.1.a x90.2.2.2.2.1.n x90.2.2.2.2.1.c] fun w95 =>
  KeepOn D89 w88.drew w95 ∧
  LoadA w95 ⟨b5, 0, none⟩ [.int .i64, .int .i64, .int .i64, .int .i64, .sl] fun (x96 : Int × Int × Int × Int × SlV × Unit) =>
  K ((x96.1, x96.2.1, x96.2.2.1, x96.2.2.2.1, x96.2.2.2.2.1, ()), false, ()) w95))))) ∧
  (NewV #[.int .i64 0, .int .i64 0, .int .i64 0, .int .i64 0, .slice none 0 0] 81 w60.drew fun b97 w98 =>
  KeepOn D66 w60.drew w98 ∧
  CallV Try.prog 35 #[.agg #[.int .i64 x68.1, .int .i64 x68.2.1, .int .i64 x68.2.2.1, .int .i64 x68.2.2.2.1, .int .i64 x68.2.2.2.2.1, .int .u32 x68.2.2.2.2.2.1, .int .u64 x68.2.2.2.2.2.2.1, .int .u64 x68.2.2.2.2.2.2.2.1, .int .i64 x68.2.2.2.2.2.2.2.2.1, .int .i64 x68.2.2.2.2.2.2.2.2.2.1, .int .i64 x68.2.2.2.2.2.2.2.2.2.2.1, .int .u32 x68.2.2.2.2.2.2.2.2.2.2.2.1, .int .u64 x68.2.2.2.2.2.2.2.2.2.2.2.2.1, .int .u64 x68.2.2.2.2.2.2.2.2.2.2.2.2.2.1]] w98 [.agg [.int .i64, .int .i64, .int .i64, .int .i64, .int .i64, .int .u32, .int .u64, .int .u64, .int .i64, .int .i64, .int .i64, .int .u32, .int .u64, .int .u64]] fun (r99 : (Int × Int × Int × Int × Int × Int × Int × Int × Int × Int × Int × Int × Int × Int × Unit) × Unit) w100 =>
  KeepOn D66 w60.drew w100 ∧
  CallV Try.prog 85 #[.agg #[.int .i64 x67.1, .int .i64 x67.2.1, .int .i64 x67.2.2.1, .int .i64 x67.2.2.2.1, .slice x67.2.2.2.2.1.a x67.2.2.2.2.1.n x67.2.2.2.2.1.c], .agg #[.int .i64 r99.1.1, .int .i64 r99.1.2.1, .int .i64 r99.1.2.2.1, .int .i64 r99.1.2.2.2.1, .int .i64 r99.1.2.2.2.2.1, .int .u32 r99.1.2.2.2.2.2.1, .int .u64 r99.1.2.2.2.2.2.2.1, .int .u64 r99.1.2.2.2.2.2.2.2.1, .int .i64 r99.1.2.2.2.2.2.2.2.2.1, .int .i64 r99.1.2.2.2.2.2.2.2.2.2.1, .int .i64 r99.1.2.2.2.2.2.2.2.2.2.2.1, .int .u32 r99.1.2.2.2.2.2.2.2.2.2.2.2.1, .int .u64 r99.1.2.2.2.2.2.2.2.2.2.2.2.2.1, .int .u64 r99.1.2.2.2.2.2.2.2.2.2.2.2.2.2.1]] w100 [.agg [.int .i64, .int .i64, .int .i64, .int .i64, .sl], .one .sl] fun (r101 : (Int × Int × Int × Int × SlV × Unit) × SlV × Unit) w102 =>
  KeepOn D66 w60.drew w102 ∧
  StoreV w102 ⟨b97, 0, none⟩ [.int .i64 r101.1.1, .int .i64 r101.1.2.1, .int .i64 r101.1.2.2.1, .int .i64 r101.1.2.2.2.1, .slice r101.1.2.2.2.2.1.a r101.1.2.2.2.2.1.n r101.1.2.2.2.2.1.c] fun w103 =>
  KeepOn D66 w60.drew w103 ∧
  DrawV fun D104 =>
  (D104 b97 ∧ LoadA w103.drew ⟨b97, 0, none⟩ [.int .i64, .int .i64, .int .i64, .int .i64, .sl] fun (x105 : Int × Int × Int × Int × SlV × Unit) =>
  cond (r52.2.1 == 0)
  (CallV Try.prog 83 #[.slice r52.1.a r52.1.n r52.1.c, .slice r101.2.1.a r101.2.1.n r101.2.1.c] w103.drew [.one .bool] fun (r106 : Bool × Unit) w107 =>
  KeepOn D104 w103.drew w107 ∧
  StoreV w107 ⟨b5, 0, none⟩ [.int .i64 x105.1, .int .i64 x105.2.1, .int .i64 x105.2.2.1, .int .i64 x105.2.2.2.1, .slice x105.2.2.2.2.1.a x105.2.2.2.2.1.n x105.2.2.2.2.1.c] fun w108 =>
  KeepOn D104 w103.drew w108 ∧
  LoadA w108 ⟨b5, 0, none⟩ [.int .i64, .int .i64, .int .i64, .int .i64, .sl] fun (x109 : Int × Int × Int × Int × SlV × Unit) =>
  K ((x109.1, x109.2.1, x109.2.2.1, x109.2.2.2.1, x109.2.2.2.2.1, ()), r106.1, ()) w108)
  (StoreV w103.drew ⟨b5, 0, none⟩ [.int .i64 x105.1, .int .i64 x105.2.1, .int .i64 x105.2.2.1, .int .i64 x105.2.2.2.1, .slice x105.2.2.2.2.1.a x105.2.2.2.2.1.n x105.2.2.2.2.1.c] fun w110 =>
  KeepOn D104 w103.drew w110 ∧
  LoadA w110 ⟨b5, 0, none⟩ [.int .i64, .int .i64, .int .i64, .int .i64, .sl] fun (x111 : Int × Int × Int × Int × SlV × Unit) =>
  K ((x111.1, x111.2.1, x111.2.2.1, x111.2.2.2.1, x111.2.2.2.2.1, ()), false, ()) w110))))))))))
  (LoadA w6 ⟨b3, 3, none⟩ [.int .i64, .int .i64] fun (x112 : Int × Int × Unit) =>
  LoadA w6 ⟨b3, 17, none⟩ [.int .i64, .int .i64] fun (x113 : Int × Int × Unit) =>
  LoadA w6 ⟨b3, 11, none⟩ [.int .i64, .int .i64, .int .i64, .int .u32, .int .u64, .int .u64] fun (x114 : Int × Int × Int × Int × Int × Int × Unit) =>
  CallV Try.prog 49 #[.pointer (some p0), .agg #[.int .i64 x112.1, .int .i64 x112.2.1], .agg #[.int .i64 x113.1, .int .i64 x113.2.1], .agg #[.int .i64 x114.1, .int .i64 x114.2.1, .int .i64 x114.2.2.1, .int .u32 x114.2.2.2.1, .int .u64 x114.2.2.2.2.1, .int .u64 x114.2.2.2.2.2.1]] w6 [.one (.int .i64)] fun (r115 : Int × Unit) w116 =>
  LoadA w116 ⟨b3, 3, none⟩ [.int .i64, .int .i64] fun (x117 : Int × Int × Unit) =>
  LoadA w116 ⟨b3, 17, none⟩ [.int .i64, .int .i64] fun (x118 : Int × Int × Unit) =>
  AggEq Try.prog 55 #[.int .i64 x117.1, .int .i64 x117.2.1] #[.int .i64 x118.1, .int .i64 x118.2.1] fun e119 =>
  cond (!e119)
  (LoadA w116 ⟨b1, 0, none⟩ [.int .i64, .int .i64, .int .i64, .int .i64, .sl] fun (x120 : Int × Int × Int × Int × SlV × Unit) =>
  LoadA w116 ⟨b3, 17, none⟩ [.int .i64, .int .i64] fun (x121 : Int × Int × Unit) =>
  CallV Try.prog 44 #[.agg #[.int .i64 x120.1, .int .i64 x120.2.1, .int .i64 x120.2.2.1, .int .i64 x120.2.2.2.1, .slice x120.2.2.2.2.1.a x120.2.2.2.2.1.n x120.2.2.2.2.1.c], .agg #[.int .i64 x121.1, .int .i64 x121.2.1]] w116 [.one (.int .i64)] fun (r122 : Int × Unit) w123 =>
  cond (decide (r122.1 > 0))
  (LoadA w123 ⟨b1, 0, none⟩ [.int .i64, .int .i64, .int .i64, .int .i64, .sl] fun (x124 : Int × Int × Int × Int × SlV × Unit) =>
  StoreV w123 ⟨b5, 0, none⟩ [.int .i64 x124.1, .int .i64 x124.2.1, .int .i64 x124.2.2.1, .int .i64 x124.2.2.2.1, .slice x124.2.2.2.2.1.a x124.2.2.2.2.1.n x124.2.2.2.2.1.c] fun w125 =>
  LoadA w125 ⟨b5, 0, none⟩ [.int .i64, .int .i64, .int .i64, .int .i64, .sl] fun (x126 : Int × Int × Int × Int × SlV × Unit) =>
  K ((x126.1, x126.2.1, x126.2.2.1, x126.2.2.2.1, x126.2.2.2.2.1, ()), (r115.1 == 2), ()) w125)
  (LoadA w123 ⟨b1, 0, none⟩ [.int .i64, .int .i64, .int .i64, .int .i64, .sl] fun (x127 : Int × Int × Int × Int × SlV × Unit) =>
  LoadA w123 ⟨b3, 3, none⟩ [.int .i64, .int .i64] fun (x128 : Int × Int × Unit) =>
  LoadA w123 ⟨b3, 17, none⟩ [.int .i64, .int .i64] fun (x129 : Int × Int × Unit) =>
  LoadA w123 ⟨b3, 11, none⟩ [.int .i64, .int .i64, .int .i64, .int .u32, .int .u64, .int .u64] fun (x130 : Int × Int × Int × Int × Int × Int × Unit) =>
  CallV Try.prog 86 #[.agg #[.int .i64 x127.1, .int .i64 x127.2.1, .int .i64 x127.2.2.1, .int .i64 x127.2.2.2.1, .slice x127.2.2.2.2.1.a x127.2.2.2.2.1.n x127.2.2.2.2.1.c], .agg #[.int .i64 x128.1, .int .i64 x128.2.1], .agg #[.int .i64 x129.1, .int .i64 x129.2.1], .agg #[.int .i64 x130.1, .int .i64 x130.2.1, .int .i64 x130.2.2.1, .int .u32 x130.2.2.2.1, .int .u64 x130.2.2.2.2.1, .int .u64 x130.2.2.2.2.2.1]] w123 [.agg [.int .i64, .int .i64, .int .i64, .int .i64, .sl]] fun (r131 : (Int × Int × Int × Int × SlV × Unit) × Unit) w132 =>
  StoreV w132 ⟨b5, 0, none⟩ [.int .i64 r131.1.1, .int .i64 r131.1.2.1, .int .i64 r131.1.2.2.1, .int .i64 r131.1.2.2.2.1, .slice r131.1.2.2.2.2.1.a r131.1.2.2.2.2.1.n r131.1.2.2.2.2.1.c] fun w133 =>
  LoadA w133 ⟨b5, 0, none⟩ [.int .i64, .int .i64, .int .i64, .int .i64, .sl] fun (x134 : Int × Int × Int × Int × SlV × Unit) =>
  K ((x134.1, x134.2.1, x134.2.2.1, x134.2.2.2.1, x134.2.2.2.2.1, ()), (r115.1 == 0), ()) w133))
  (LoadA w116 ⟨b1, 0, none⟩ [.int .i64, .int .i64, .int .i64, .int .i64, .sl] fun (x135 : Int × Int × Int × Int × SlV × Unit) =>
  LoadA w116 ⟨b3, 3, none⟩ [.int .i64, .int .i64] fun (x136 : Int × Int × Unit) =>
  LoadA w116 ⟨b3, 17, none⟩ [.int .i64, .int .i64] fun (x137 : Int × Int × Unit) =>
  LoadA w116 ⟨b3, 11, none⟩ [.int .i64, .int .i64, .int .i64, .int .u32, .int .u64, .int .u64] fun (x138 : Int × Int × Int × Int × Int × Int × Unit) =>
  CallV Try.prog 86 #[.agg #[.int .i64 x135.1, .int .i64 x135.2.1, .int .i64 x135.2.2.1, .int .i64 x135.2.2.2.1, .slice x135.2.2.2.2.1.a x135.2.2.2.2.1.n x135.2.2.2.2.1.c], .agg #[.int .i64 x136.1, .int .i64 x136.2.1], .agg #[.int .i64 x137.1, .int .i64 x137.2.1], .agg #[.int .i64 x138.1, .int .i64 x138.2.1, .int .i64 x138.2.2.1, .int .u32 x138.2.2.2.1, .int .u64 x138.2.2.2.2.1, .int .u64 x138.2.2.2.2.2.1]] w116 [.agg [.int .i64, .int .i64, .int .i64, .int .i64, .sl]] fun (r139 : (Int × Int × Int × Int × SlV × Unit) × Unit) w140 =>
  StoreV w140 ⟨b5, 0, none⟩ [.int .i64 r139.1.1, .int .i64 r139.1.2.1, .int .i64 r139.1.2.2.1, .int .i64 r139.1.2.2.2.1, .slice r139.1.2.2.2.2.1.a r139.1.2.2.2.2.1.n r139.1.2.2.2.2.1.c] fun w141 =>
  LoadA w141 ⟨b5, 0, none⟩ [.int .i64, .int .i64, .int .i64, .int .i64, .sl] fun (x142 : Int × Int × Int × Int × SlV × Unit) =>
  K ((x142.1, x142.2.1, x142.2.2.1, x142.2.2.2.1, x142.2.2.2.2.1, ()), (r115.1 == 0), ()) w141))))
theorem law22_step.vc (p0 : Addr) (p1_0 : Int) (p1_1 : Int) (p1_2 : Int) (p1_3 : Int) (a1_4 : Option Addr) (n1_4 c1_4 : Nat) (p2_0 : Int) (p2_1 : Int) (p2_2 : Int) (p2_3 : Int) (p2_4 : Int) (p2_5 : Int) (p2_6 : Int) (p2_7 : Int) (p2_8 : Int) (p2_9 : Int) (p2_10 : Int) (p2_11 : Int) (p2_12 : Int) (p2_13 : Int) (p2_14 : Int) (p2_15 : Int) (p2_16 : Int) (p2_17 : Int) (p2_18 : Int) (w : World) (K : (Int × Int × Int × Int × SlV × Unit) × Bool × Unit → World → Prop) (h : law22_step.P p0 p1_0 p1_1 p1_2 p1_3 a1_4 n1_4 c1_4 p2_0 p2_1 p2_2 p2_3 p2_4 p2_5 p2_6 p2_7 p2_8 p2_9 p2_10 p2_11 p2_12 p2_13 p2_14 p2_15 p2_16 p2_17 p2_18 w K) : CallV Try.prog 42 #[.pointer (some p0), .agg #[.int .i64 p1_0, .int .i64 p1_1, .int .i64 p1_2, .int .i64 p1_3, .slice a1_4 n1_4 c1_4], .agg #[.int .i64 p2_0, .int .i64 p2_1, .int .i64 p2_2, .int .i64 p2_3, .int .i64 p2_4, .int .i64 p2_5, .int .i64 p2_6, .int .i64 p2_7, .int .u32 p2_8, .int .u64 p2_9, .int .u64 p2_10, .int .i64 p2_11, .int .i64 p2_12, .int .i64 p2_13, .int .u32 p2_14, .int .u64 p2_15, .int .u64 p2_16, .int .i64 p2_17, .int .i64 p2_18]] w [.agg [.int .i64, .int .i64, .int .i64, .int .i64, .sl], .one .bool] K := by
  have e : vcFun Try.prog okf false Try.f42 law22_step.A #[.pointer (some p0), .agg #[.int .i64 p1_0, .int .i64 p1_1, .int .i64 p1_2, .int .i64 p1_3, .slice a1_4 n1_4 c1_4], .agg #[.int .i64 p2_0, .int .i64 p2_1, .int .i64 p2_2, .int .i64 p2_3, .int .i64 p2_4, .int .i64 p2_5, .int .i64 p2_6, .int .i64 p2_7, .int .u32 p2_8, .int .u64 p2_9, .int .u64 p2_10, .int .i64 p2_11, .int .i64 p2_12, .int .i64 p2_13, .int .u32 p2_14, .int .u64 p2_15, .int .u64 p2_16, .int .i64 p2_17, .int .i64 p2_18]] w [.agg [.int .i64, .int .i64, .int .i64, .int .i64, .sl], .one .bool] K = law22_step.P p0 p1_0 p1_1 p1_2 p1_3 a1_4 n1_4 c1_4 p2_0 p2_1 p2_2 p2_3 p2_4 p2_5 p2_6 p2_7 p2_8 p2_9 p2_10 p2_11 p2_12 p2_13 p2_14 p2_15 p2_16 p2_17 p2_18 w K := by kernel_rfl
  exact vcFun.calls okf_ok follows Try.func42 (e.symm ▸ h)

/-! ### nepenthe/nepenthelaw22.light: function 41 -/
def law22_light.A : Ann := .no
def law22_light.P (p0_0 : Int) (p0_1 : Int) (p0_2 : Int) (p0_3 : Int) (p0_4 : Int) (p0_5 : Int) (p0_6 : Int) (p0_7 : Int) (p0_8 : Int) (p0_9 : Int) (p0_10 : Int) (p0_11 : Int) (p0_12 : Int) (p0_13 : Int) (p0_14 : Int) (p0_15 : Int) (p0_16 : Int) (p0_17 : Int) (p0_18 : Int) (w : World) (K : Bool × Unit → World → Prop) : Prop :=
  NewV #[.int .i64 p0_0, .int .i64 p0_1, .int .i64 p0_2, .int .i64 p0_3, .int .i64 p0_4, .int .i64 p0_5, .int .i64 p0_6, .int .i64 p0_7, .int .u32 p0_8, .int .u64 p0_9, .int .u64 p0_10, .int .i64 p0_11, .int .i64 p0_12, .int .i64 p0_13, .int .u32 p0_14, .int .u64 p0_15, .int .u64 p0_16, .int .i64 p0_17, .int .i64 p0_18] 84 w fun b1 w2 =>
  LoadS w2 ⟨b1, 2, none⟩ (.int .i64) fun (x3 : Int) =>
  cond (decide (x3 ≤ 40))
  (LoadS w2 ⟨b1, 3, none⟩ (.int .i64) fun (x4 : Int) =>
  cond (decide (x4 > (-1000)))
  (LoadS w2 ⟨b1, 3, none⟩ (.int .i64) fun (x5 : Int) =>
  cond (decide (x5 < 1000))
  (LoadS w2 ⟨b1, 4, none⟩ (.int .i64) fun (x6 : Int) =>
  cond (decide (x6 > (-1000)))
  (LoadS w2 ⟨b1, 4, none⟩ (.int .i64) fun (x7 : Int) =>
  cond (decide (x7 < 1000))
  (LoadS w2 ⟨b1, 17, none⟩ (.int .i64) fun (x8 : Int) =>
  cond (decide (x8 > (-1000)))
  (LoadS w2 ⟨b1, 17, none⟩ (.int .i64) fun (x9 : Int) =>
  cond (decide (x9 < 1000))
  (LoadS w2 ⟨b1, 18, none⟩ (.int .i64) fun (x10 : Int) =>
  cond (decide (x10 > (-1000)))
  (LoadS w2 ⟨b1, 18, none⟩ (.int .i64) fun (x11 : Int) =>
  K (decide (x11 < 1000), ()) w2)
  (K (false, ()) w2))
  (K (false, ()) w2))
  (K (false, ()) w2))
  (K (false, ()) w2))
  (K (false, ()) w2))
  (K (false, ()) w2))
  (K (false, ()) w2))
  (LoadS w2 ⟨b1, 2, none⟩ (.int .i64) fun (x12 : Int) =>
  cond (decide (x12 > 65535))
  (LoadS w2 ⟨b1, 3, none⟩ (.int .i64) fun (x13 : Int) =>
  cond (decide (x13 > (-1000)))
  (LoadS w2 ⟨b1, 3, none⟩ (.int .i64) fun (x14 : Int) =>
  cond (decide (x14 < 1000))
  (LoadS w2 ⟨b1, 4, none⟩ (.int .i64) fun (x15 : Int) =>
  cond (decide (x15 > (-1000)))
  (LoadS w2 ⟨b1, 4, none⟩ (.int .i64) fun (x16 : Int) =>
  cond (decide (x16 < 1000))
  (LoadS w2 ⟨b1, 17, none⟩ (.int .i64) fun (x17 : Int) =>
  cond (decide (x17 > (-1000)))
  (LoadS w2 ⟨b1, 17, none⟩ (.int .i64) fun (x18 : Int) =>
  cond (decide (x18 < 1000))
  (LoadS w2 ⟨b1, 18, none⟩ (.int .i64) fun (x19 : Int) =>
  cond (decide (x19 > (-1000)))
  (LoadS w2 ⟨b1, 18, none⟩ (.int .i64) fun (x20 : Int) =>
  K (decide (x20 < 1000), ()) w2)
  (K (false, ()) w2))
  (K (false, ()) w2))
  (K (false, ()) w2))
  (K (false, ()) w2))
  (K (false, ()) w2))
  (K (false, ()) w2))
  (K (false, ()) w2))
  (K (false, ()) w2))
theorem law22_light.vc (p0_0 : Int) (p0_1 : Int) (p0_2 : Int) (p0_3 : Int) (p0_4 : Int) (p0_5 : Int) (p0_6 : Int) (p0_7 : Int) (p0_8 : Int) (p0_9 : Int) (p0_10 : Int) (p0_11 : Int) (p0_12 : Int) (p0_13 : Int) (p0_14 : Int) (p0_15 : Int) (p0_16 : Int) (p0_17 : Int) (p0_18 : Int) (w : World) (K : Bool × Unit → World → Prop) (h : law22_light.P p0_0 p0_1 p0_2 p0_3 p0_4 p0_5 p0_6 p0_7 p0_8 p0_9 p0_10 p0_11 p0_12 p0_13 p0_14 p0_15 p0_16 p0_17 p0_18 w K) : CallV Try.prog 41 #[.agg #[.int .i64 p0_0, .int .i64 p0_1, .int .i64 p0_2, .int .i64 p0_3, .int .i64 p0_4, .int .i64 p0_5, .int .i64 p0_6, .int .i64 p0_7, .int .u32 p0_8, .int .u64 p0_9, .int .u64 p0_10, .int .i64 p0_11, .int .i64 p0_12, .int .i64 p0_13, .int .u32 p0_14, .int .u64 p0_15, .int .u64 p0_16, .int .i64 p0_17, .int .i64 p0_18]] w [.one .bool] K := by
  have e : vcFun Try.prog okf false Try.f41 law22_light.A #[.agg #[.int .i64 p0_0, .int .i64 p0_1, .int .i64 p0_2, .int .i64 p0_3, .int .i64 p0_4, .int .i64 p0_5, .int .i64 p0_6, .int .i64 p0_7, .int .u32 p0_8, .int .u64 p0_9, .int .u64 p0_10, .int .i64 p0_11, .int .i64 p0_12, .int .i64 p0_13, .int .u32 p0_14, .int .u64 p0_15, .int .u64 p0_16, .int .i64 p0_17, .int .i64 p0_18]] w [.one .bool] K = law22_light.P p0_0 p0_1 p0_2 p0_3 p0_4 p0_5 p0_6 p0_7 p0_8 p0_9 p0_10 p0_11 p0_12 p0_13 p0_14 p0_15 p0_16 p0_17 p0_18 w K := by kernel_rfl
  exact vcFun.calls okf_ok follows Try.func41 (e.symm ▸ h)

/-! ### nepenthe/nepenthelaw22.same: function 45 -/
-- loop 0 carries 8: .one (.int .i64)
def law22_same.A : Ann := .two .no (.two .no (.join [7, 12, 13, 14, 15, 16, 17, 18, 19, 20, 21] [(7, .one (.int .i64))] .no (.two (.two (.draw (.take 0 (.take 1 (.take 3 (.eff 2 (.take 4 (.take 5 (.take 6 (.take 7 (.take 9 (.take 10 (.eff 8 (.eff 11 (.take 12 (.take 13 (.done)))))))))))))))) .no) (.two (.two .no (.one (.loop [6, 8, 9, 10, 11, 36, 37, 38, 39, 40, 41, 42, 43, 44, 45, 46, 47, 48, 49, 50, 51, 52, 53, 54, 55, 56, 57, 58, 59, 60, 61, 62, 63, 64, 65, 66, 67, 68, 69, 70, 71, 72, 73, 74, 75, 76, 77, 78] [(8, .one (.int .i64))] (.two .no (.two (.one (.two .no (.two .no (.two (.draw (.take 0 (.take 1 (.take 2 (.take 3 (.take 4 (.take 5 (.take 6 (.take 7 (.take 9 (.take 10 (.take 11 (.take 12 (.take 13 (.take 14 (.eff 8 (.take 15 (.take 16 (.take 17 (.take 18 (.take 19 (.take 20 (.take 21 (.take 22 (.take 23 (.take 24 (.take 25 (.take 26 (.done))))))))))))))))))))))))))))) .no)))) .no))))) .no))))
def law22_same.P (p0 : Addr) (p1_0 : Int) (p1_1 : Int) (p1_2 : Int) (p1_3 : Int) (a1_4 : Option Addr) (n1_4 c1_4 : Nat) (p2 : Int) (w : World) (K : Bool × Unit → World → Prop) : Prop :=
  NewV #[.int .i64 p1_0, .int .i64 p1_1, .int .i64 p1_2, .int .i64 p1_3, .slice a1_4 n1_4 c1_4] 81 w fun b1 w2 =>
  JoinV [.one (.int .i64)] (fun (v4 : Int × Unit) w5 =>
  DrawV fun D6 =>
  CallV Try.prog 48 #[.pointer (some p0), .int .i64 p2] w5.drew [.one (.int .i64)] fun (r7 : Int × Unit) w8 =>
  KeepOn D6 w5.drew w8 ∧
  cond (r7.1 != v4.1)
  (K (false, ()) w8)
  ((D6 b1 ∧ LoadA w5.drew ⟨b1, 0, none⟩ [.int .i64, .int .i64, .int .i64, .int .i64, .sl] fun (x9 : Int × Int × Int × Int × SlV × Unit) =>
  CallV Try.prog 50 #[.pointer (some p0), .int .i64 p2] w8 [.one (.int .i64)] fun (r10 : Int × Unit) w11 =>
  KeepOn D6 w5.drew w11 ∧
  CallV Try.prog 87 #[.agg #[.int .i64 x9.1, .int .i64 x9.2.1, .int .i64 x9.2.2.1, .int .i64 x9.2.2.2.1, .slice x9.2.2.2.2.1.a x9.2.2.2.2.1.n x9.2.2.2.2.1.c], .int .i64 p2] w11 [.one (.int .i64)] fun (r12 : Int × Unit) w13 =>
  KeepOn D6 w5.drew w13 ∧
  cond (r10.1 != r12.1)
  (K (false, ()) w13)
  (LoopV [.one (.int .i64)] (((-1) : Int), ()) w13 fun (z14 : Int × Unit) w15 (K16 : Int × Unit → World → Prop) =>
  cond (decide (z14.1 ≤ v4.1))
  (CallV Try.prog 40 #[.pointer (some p0), .int .i64 p2, .int .i64 z14.1] w15 [.agg [.int .i64, .int .i64, .int .i64, .int .i64, .int .i64, .int .u32, .int .u64, .int .u64, .int .i64, .int .i64, .int .i64, .int .u32, .int .u64, .int .u64], .one .bool] fun (r17 : (Int × Int × Int × Int × Int × Int × Int × Int × Int × Int × Int × Int × Int × Int × Unit) × Bool × Unit) w18 =>
  NewV #[.int .i64 0, .int .i64 0, .int .i64 0, .int .i64 0, .int .i64 0, .int .u32 0, .int .u64 0, .int .u64 0, .int .i64 0, .int .i64 0, .int .i64 0, .int .u32 0, .int .u64 0, .int .u64 0] 61 w18 fun b19 w20 =>
  StoreV w20 ⟨b19, 0, none⟩ [.int .i64 r17.1.1, .int .i64 r17.1.2.1, .int .i64 r17.1.2.2.1, .int .i64 r17.1.2.2.2.1, .int .i64 r17.1.2.2.2.2.1, .int .u32 r17.1.2.2.2.2.2.1, .int .u64 r17.1.2.2.2.2.2.2.1, .int .u64 r17.1.2.2.2.2.2.2.2.1, .int .i64 r17.1.2.2.2.2.2.2.2.2.1, .int .i64 r17.1.2.2.2.2.2.2.2.2.2.1, .int .i64 r17.1.2.2.2.2.2.2.2.2.2.2.1, .int .u32 r17.1.2.2.2.2.2.2.2.2.2.2.2.1, .int .u64 r17.1.2.2.2.2.2.2.2.2.2.2.2.2.1, .int .u64 r17.1.2.2.2.2.2.2.2.2.2.2.2.2.2.1] fun w21 =>
  LoadA w21 ⟨b1, 0, none⟩ [.int .i64, .int .i64, .int .i64, .int .i64, .sl] fun (x22 : Int × Int × Int × Int × SlV × Unit) =>
  CallV Try.prog 88 #[.agg #[.int .i64 x22.1, .int .i64 x22.2.1, .int .i64 x22.2.2.1, .int .i64 x22.2.2.2.1, .slice x22.2.2.2.2.1.a x22.2.2.2.2.1.n x22.2.2.2.2.1.c], .int .i64 p2, .int .i64 z14.1] w21 [.one (.int .i64)] fun (r23 : Int × Unit) w24 =>
  DrawV fun D25 =>
  cond (!(r17.2.1 == decide (r23.1 ≥ 0)))
  (K (false, ()) w24.drew)
  (cond r17.2.1
  ((D25 b19 ∧ LoadA w24.drew ⟨b19, 0, none⟩ [.int .i64, .int .i64, .int .i64, .int .i64, .int .i64, .int .u32, .int .u64, .int .u64, .int .i64, .int .i64, .int .i64, .int .u32, .int .u64, .int .u64] fun (x26 : Int × Int × Int × Int × Int × Int × Int × Int × Int × Int × Int × Int × Int × Int × Unit) =>
  (D25 b1 ∧ LoadS w24.drew ⟨b1, 4, none⟩ .sl fun (x27 : SlV) =>
  (0 ≤ r23.1 ∧ r23.1 < ((x27.n : Nat) : Int)) ∧ ∃ q28 : Addr, x27.a = some q28 ∧
  (D25 ((q28.add (r23.1.toNat * 16)).add 2).block ∧ LoadA w24.drew ((q28.add (r23.1.toNat * 16)).add 2) [.int .i64, .int .i64, .int .i64, .int .i64, .int .i64, .int .u32, .int .u64, .int .u64, .int .i64, .int .i64, .int .i64, .int .u32, .int .u64, .int .u64] fun (x29 : Int × Int × Int × Int × Int × Int × Int × Int × Int × Int × Int × Int × Int × Int × Unit) =>
  CallV Try.prog 35 #[.agg #[.int .i64 x26.1, .int .i64 x26.2.1, .int .i64 x26.2.2.1, .int .i64 x26.2.2.2.1, .int .i64 x26.2.2.2.2.1, .int .u32 x26.2.2.2.2.2.1, .int .u64 x26.2.2.2.2.2.2.1, .int .u64 x26.2.2.2.2.2.2.2.1, .int .i64 x26.2.2.2.2.2.2.2.2.1, .int .i64 x26.2.2.2.2.2.2.2.2.2.1, .int .i64 x26.2.2.2.2.2.2.2.2.2.2.1, .int .u32 x26.2.2.2.2.2.2.2.2.2.2.2.1, .int .u64 x26.2.2.2.2.2.2.2.2.2.2.2.2.1, .int .u64 x26.2.2.2.2.2.2.2.2.2.2.2.2.2.1]] w24.drew [.agg [.int .i64, .int .i64, .int .i64, .int .i64, .int .i64, .int .u32, .int .u64, .int .u64, .int .i64, .int .i64, .int .i64, .int .u32, .int .u64, .int .u64]] fun (r30 : (Int × Int × Int × Int × Int × Int × Int × Int × Int × Int × Int × Int × Int × Int × Unit) × Unit) w31 =>
  KeepOn D25 w24.drew w31 ∧
  AggEq Try.prog 64 #[.int .i64 r30.1.1, .int .i64 r30.1.2.1, .int .i64 r30.1.2.2.1, .int .i64 r30.1.2.2.2.1, .int .i64 r30.1.2.2.2.2.1, .int .u32 r30.1.2.2.2.2.2.1, .int .u64 r30.1.2.2.2.2.2.2.1, .int .u64 r30.1.2.2.2.2.2.2.2.1, .int .i64 r30.1.2.2.2.2.2.2.2.2.1, .int .i64 r30.1.2.2.2.2.2.2.2.2.2.1, .int .i64 r30.1.2.2.2.2.2.2.2.2.2.2.1, .int .u32 r30.1.2.2.2.2.2.2.2.2.2.2.2.1, .int .u64 r30.1.2.2.2.2.2.2.2.2.2.2.2.2.1, .int .u64 r30.1.2.2.2.2.2.2.2.2.2.2.2.2.2.1] #[.int .i64 x29.1, .int .i64 x29.2.1, .int .i64 x29.2.2.1, .int .i64 x29.2.2.2.1, .int .i64 x29.2.2.2.2.1, .int .u32 x29.2.2.2.2.2.1, .int .u64 x29.2.2.2.2.2.2.1, .int .u64 x29.2.2.2.2.2.2.2.1, .int .i64 x29.2.2.2.2.2.2.2.2.1, .int .i64 x29.2.2.2.2.2.2.2.2.2.1, .int .i64 x29.2.2.2.2.2.2.2.2.2.2.1, .int .u32 x29.2.2.2.2.2.2.2.2.2.2.2.1, .int .u64 x29.2.2.2.2.2.2.2.2.2.2.2.2.1, .int .u64 x29.2.2.2.2.2.2.2.2.2.2.2.2.2.1] fun e32 =>
  cond (!e32)
  (K (false, ()) w31)
  (cond (!r17.2.1)
  ((D25 b19 ∧ LoadA w24.drew ⟨b19, 0, none⟩ [.int .i64, .int .i64, .int .i64, .int .i64, .int .i64, .int .u32, .int .u64, .int .u64, .int .i64, .int .i64, .int .i64, .int .u32, .int .u64, .int .u64] fun (x33 : Int × Int × Int × Int × Int × Int × Int × Int × Int × Int × Int × Int × Int × Int × Unit) =>
  AggEq Try.prog 61 #[.int .i64 x33.1, .int .i64 x33.2.1, .int .i64 x33.2.2.1, .int .i64 x33.2.2.2.1, .int .i64 x33.2.2.2.2.1, .int .u32 x33.2.2.2.2.2.1, .int .u64 x33.2.2.2.2.2.2.1, .int .u64 x33.2.2.2.2.2.2.2.1, .int .i64 x33.2.2.2.2.2.2.2.2.1, .int .i64 x33.2.2.2.2.2.2.2.2.2.1, .int .i64 x33.2.2.2.2.2.2.2.2.2.2.1, .int .u32 x33.2.2.2.2.2.2.2.2.2.2.2.1, .int .u64 x33.2.2.2.2.2.2.2.2.2.2.2.2.1, .int .u64 x33.2.2.2.2.2.2.2.2.2.2.2.2.2.1] #[.int .i64 0, .int .i64 0, .int .i64 0, .int .i64 0, .int .i64 0, .int .u32 0, .int .u64 0, .int .u64 0, .int .i64 0, .int .i64 0, .int .i64 0, .int .u32 0, .int .u64 0, .int .u64 0] fun e34 =>
  cond (!e34)
  (K (false, ()) w31)
  (Rng .i64 (z14.1 + 1) ∧
  K16 (z14.1 + 1, ()) w31)))
  (Rng .i64 (z14.1 + 1) ∧
  K16 (z14.1 + 1, ()) w31))))))
  (cond (!r17.2.1)
  ((D25 b19 ∧ LoadA w24.drew ⟨b19, 0, none⟩ [.int .i64, .int .i64, .int .i64, .int .i64, .int .i64, .int .u32, .int .u64, .int .u64, .int .i64, .int .i64, .int .i64, .int .u32, .int .u64, .int .u64] fun (x35 : Int × Int × Int × Int × Int × Int × Int × Int × Int × Int × Int × Int × Int × Int × Unit) =>
  AggEq Try.prog 61 #[.int .i64 x35.1, .int .i64 x35.2.1, .int .i64 x35.2.2.1, .int .i64 x35.2.2.2.1, .int .i64 x35.2.2.2.2.1, .int .u32 x35.2.2.2.2.2.1, .int .u64 x35.2.2.2.2.2.2.1, .int .u64 x35.2.2.2.2.2.2.2.1, .int .i64 x35.2.2.2.2.2.2.2.2.1, .int .i64 x35.2.2.2.2.2.2.2.2.2.1, .int .i64 x35.2.2.2.2.2.2.2.2.2.2.1, .int .u32 x35.2.2.2.2.2.2.2.2.2.2.2.1, .int .u64 x35.2.2.2.2.2.2.2.2.2.2.2.2.1, .int .u64 x35.2.2.2.2.2.2.2.2.2.2.2.2.2.1] #[.int .i64 0, .int .i64 0, .int .i64 0, .int .i64 0, .int .i64 0, .int .u32 0, .int .u64 0, .int .u64 0, .int .i64 0, .int .i64 0, .int .i64 0, .int .u32 0, .int .u64 0, .int .u64 0] fun e36 =>
  cond (!e36)
  (K (false, ()) w24.drew)
  (Rng .i64 (z14.1 + 1) ∧
  K16 (z14.1 + 1, ()) w24.drew)))
  (Rng .i64 (z14.1 + 1) ∧
  K16 (z14.1 + 1, ()) w24.drew))))
  (K (true, ()) w15))))) fun (J3 : Int × Unit → World → Prop) =>
  cond (decide (p2 ≥ 0))
  (cond (decide (p2 < 4))
  ((0 ≤ p2 ∧ p2 < (4 : Int)) ∧
  LoadS w2 ((⟨b1, 0, none⟩ : Addr).add (p2.toNat * 1)) (.int .i64) fun (x37 : Int) =>
  J3 (x37, ()) w2)
  (J3 ((0 : Int), ()) w2))
  (J3 ((0 : Int), ()) w2)
theorem law22_same.vc (p0 : Addr) (p1_0 : Int) (p1_1 : Int) (p1_2 : Int) (p1_3 : Int) (a1_4 : Option Addr) (n1_4 c1_4 : Nat) (p2 : Int) (w : World) (K : Bool × Unit → World → Prop) (h : law22_same.P p0 p1_0 p1_1 p1_2 p1_3 a1_4 n1_4 c1_4 p2 w K) : CallV Try.prog 45 #[.pointer (some p0), .agg #[.int .i64 p1_0, .int .i64 p1_1, .int .i64 p1_2, .int .i64 p1_3, .slice a1_4 n1_4 c1_4], .int .i64 p2] w [.one .bool] K := by
  have e : vcFun Try.prog okf false Try.f45 law22_same.A #[.pointer (some p0), .agg #[.int .i64 p1_0, .int .i64 p1_1, .int .i64 p1_2, .int .i64 p1_3, .slice a1_4 n1_4 c1_4], .int .i64 p2] w [.one .bool] K = law22_same.P p0 p1_0 p1_1 p1_2 p1_3 a1_4 n1_4 c1_4 p2 w K := by kernel_rfl
  exact vcFun.calls okf_ok follows Try.func45 (e.symm ▸ h)

/-! ### nepenthe/nepenthelaw22.PagemapRuns: function 7 -/
-- loop 0 carries 8: .one (.int .i64)
-- loop 1 carries 5: .one (.int .i64)
def law22_PagemapRuns.A : Ann := .two .no (.two .no (.two .no (.join [2, 5, 6, 7, 11, 12, 13, 14, 15, 16, 17, 18, 19, 20, 21, 22, 23, 24, 25, 26, 27, 28, 29, 30, 31, 32, 33, 34, 35, 36, 37, 38, 39, 40, 41, 42, 43, 44, 45, 46, 47, 48, 49, 50, 51, 52, 53, 54, 55, 56, 57, 58, 59, 60, 61, 62, 63, 64, 65, 66, 67, 68, 69, 70, 71, 72, 73, 74, 75] [] (.two .no (.one (.loop [2, 5, 6, 7, 11, 12, 13, 14, 15, 16, 17, 18, 19, 20, 21, 22, 23, 24, 25, 26, 27, 28, 29, 30, 31, 32, 33, 34, 35, 36, 37, 38, 39, 40, 41, 42, 43, 44, 45, 46, 47, 48, 49, 50, 51, 52, 53, 54, 55, 56, 57, 58, 59, 60, 61, 62, 63, 64, 65, 66, 67, 68, 69, 70, 71, 72, 73, 74, 75] [(5, .one (.int .i64))] (.two .no (.two (.one (.two .no (.two (.draw (.take 0 (.take 1 (.take 2 (.take 3 (.take 4 (.take 5 (.both 6 (.take 7 (.take 8 (.take 9 (.eff 10 (.eff 11 (.take 12 (.done))))))) 10 (.eff 6 (.take 7 (.take 8 (.take 9 (.eff 11 (.take 12 (.done))))))))))))))) (.two .no (.two (.draw (.take 0 (.take 1 (.take 2 (.take 3 (.take 4 (.take 5 (.take 6 (.take 7 (.take 8 (.take 9 (.take 11 (.take 12 (.take 13 (.take 14 (.take 15 (.take 16 (.take 17 (.eff 10 (.eff 18 (.take 19 (.take 20 (.take 21 (.take 22 (.take 23 (.take 24 (.take 25 (.take 26 (.take 27 (.take 29 (.take 30 (.take 31 (.take 32 (.take 33 (.take 34 (.eff 28 (.eff 35 (.take 36 (.take 37 (.done)))))))))))))))))))))))))))))))))))))))) .no))))) .no))))) (.two (.two .no (.one (.loop [2, 8, 76, 77, 78, 79, 80, 81, 82, 83, 84] [(8, .one (.int .i64))] .no))) .no))))
def law22_PagemapRuns.P (a0 : Option Addr) (n0 c0 : Nat) (w : World) (K : Bool × Unit → World → Prop) : Prop :=
  CallV Try.prog 37 #[] w [.one .ptr] fun (r1 : (Option Addr) × Unit) w2 =>
  NewV #[.int .i64 0, .int .i64 0, .int .i64 0, .int .i64 0, .slice none 0 0] 81 w2 fun b3 w4 =>
  StoreV w4 ⟨b3, 0, none⟩ [.int .i64 0, .int .i64 0, .int .i64 0, .int .i64 0, .slice none 0 0] fun w5 =>
  JoinV [] (fun (v7 : Unit) w8 =>
  LoopV [.one (.int .i64)] (((-1) : Int), ()) w8 fun (z9 : Int × Unit) w10 (K11 : Int × Unit → World → Prop) =>
  cond (decide (z9.1 < 5))
  (LoadA w10 ⟨b3, 0, none⟩ [.int .i64, .int .i64, .int .i64, .int .i64, .sl] fun (x12 : Int × Int × Int × Int × SlV × Unit) =>
  CallV Try.prog 45 #[.pointer r1.1, .agg #[.int .i64 x12.1, .int .i64 x12.2.1, .int .i64 x12.2.2.1, .int .i64 x12.2.2.2.1, .slice x12.2.2.2.2.1.a x12.2.2.2.2.1.n x12.2.2.2.2.1.c], .int .i64 z9.1] w10 [.one .bool] fun (r13 : Bool × Unit) w14 =>
  cond (!r13.1)
  (K (false, ()) w14)
  (Rng .i64 (z9.1 + 1) ∧
  K11 (z9.1 + 1, ()) w14))
  (CallV Try.prog 36 #[] w10 [.one .bool] fun (r15 : Bool × Unit) w16 =>
  K (r15.1, ()) w16)) fun (J6 : Unit → World → Prop) =>
  LoopV [.one (.int .i64)] ((0 : Int), ()) w5 fun (z17 : Int × Unit) w18 (K19 : Int × Unit → World → Prop) =>
  cond (decide (z17.1 < ((n0 : Nat) : Int)))
  (cond (decide (z17.1 < 30))
  ((0 ≤ z17.1 ∧ z17.1 < ((n0 : Nat) : Int)) ∧ ∃ q20 : Addr, a0 = some q20 ∧
  LoadA w18 (q20.add (z17.1.toNat * 19)) [.int .i64, .int .i64, .int .i64, .int .i64, .int .i64, .int .i64, .int .i64, .int .i64, .int .u32, .int .u64, .int .u64, .int .i64, .int .i64, .int .i64, .int .u32, .int .u64, .int .u64, .int .i64, .int .i64] fun (x21 : Int × Int × Int × Int × Int × Int × Int × Int × Int × Int × Int × Int × Int × Int × Int × Int × Int × Int × Int × Unit) =>
  CallV Try.prog 41 #[.agg #[.int .i64 x21.1, .int .i64 x21.2.1, .int .i64 x21.2.2.1, .int .i64 x21.2.2.2.1, .int .i64 x21.2.2.2.2.1, .int .i64 x21.2.2.2.2.2.1, .int .i64 x21.2.2.2.2.2.2.1, .int .i64 x21.2.2.2.2.2.2.2.1, .int .u32 x21.2.2.2.2.2.2.2.2.1, .int .u64 x21.2.2.2.2.2.2.2.2.2.1, .int .u64 x21.2.2.2.2.2.2.2.2.2.2.1, .int .i64 x21.2.2.2.2.2.2.2.2.2.2.2.1, .int .i64 x21.2.2.2.2.2.2.2.2.2.2.2.2.1, .int .i64 x21.2.2.2.2.2.2.2.2.2.2.2.2.2.1, .int .u32 x21.2.2.2.2.2.2.2.2.2.2.2.2.2.2.1, .int .u64 x21.2.2.2.2.2.2.2.2.2.2.2.2.2.2.2.1, .int .u64 x21.2.2.2.2.2.2.2.2.2.2.2.2.2.2.2.2.1, .int .i64 x21.2.2.2.2.2.2.2.2.2.2.2.2.2.2.2.2.2.1, .int .i64 x21.2.2.2.2.2.2.2.2.2.2.2.2.2.2.2.2.2.2.1]] w18 [.one .bool] fun (r22 : Bool × Unit) w23 =>
  cond (!r22.1)
  (Rng .i64 (z17.1 + 1) ∧
  K19 (z17.1 + 1, ()) w23)
  (DrawV fun D24 =>
  (D24 b3 ∧ LoadA w23.drew ⟨b3, 0, none⟩ [.int .i64, .int .i64, .int .i64, .int .i64, .sl] fun (x25 : Int × Int × Int × Int × SlV × Unit) =>
  (0 ≤ z17.1 ∧ z17.1 < ((n0 : Nat) : Int)) ∧ ∃ q26 : Addr, a0 = some q26 ∧
  (D24 (q26.add (z17.1.toNat * 19)).block ∧ LoadA w23.drew (q26.add (z17.1.toNat * 19)) [.int .i64, .int .i64, .int .i64, .int .i64, .int .i64, .int .i64, .int .i64, .int .i64, .int .u32, .int .u64, .int .u64, .int .i64, .int .i64, .int .i64, .int .u32, .int .u64, .int .u64, .int .i64, .int .i64] fun (x27 : Int × Int × Int × Int × Int × Int × Int × Int × Int × Int × Int × Int × Int × Int × Int × Int × Int × Int × Int × Unit) =>
  ((CallV Try.prog 42 #[.pointer r1.1, .agg #[.int .i64 x25.1, .int .i64 x25.2.1, .int .i64 x25.2.2.1, .int .i64 x25.2.2.2.1, .slice x25.2.2.2.2.1.a x25.2.2.2.2.1.n x25.2.2.2.2.1.c], .agg #[.int .i64 x27.1, .int .i64 x27.2.1, .int .i64 x27.2.2.1, .int .i64 x27.2.2.2.1, .int .i64 x27.2.2.2.2.1, .int .i64 x27.2.2.2.2.2.1, .int .i64 x27.2.2.2.2.2.2.1, .int .i64 x27.2.2.2.2.2.2.2.1, .int .u32 x27.2.2.2.2.2.2.2.2.1, .int .u64 x27.2.2.2.2.2.2.2.2.2.1, .int .u64 x27.2.2.2.2.2.2.2.2.2.2.1, .int .i64 x27.2.2.2.2.2.2.2.2.2.2.2.1, .int .i64 x27.2.2.2.2.2.2.2.2.2.2.2.2.1, .int .i64 x27.2.2.2.2.2.2.2.2.2.2.2.2.2.1, .int .u32 x27.2.2.2.2.2.2.2.2.2.2.2.2.2.2.1, .int .u64 x27.2.2.2.2.2.2.2.2.2.2.2.2.2.2.2.1, .int .u64 x27.2.2.2.2.2.2.2.2.2.2.2.2.2.2.2.2.1, .int .i64 x27.2.2.2.2.2.2.2.2.2.2.2.2.2.2.2.2.2.1, .int .i64 x27.2.2.2.2.2.2.2.2.2.2.2.2.2.2.2.2.2.2.1]] w23.drew [.agg [.int .i64, .int .i64, .int .i64, .int .i64, .sl], .one .bool] fun (r28 : (Int × Int × Int × Int × SlV × Unit) × Bool × Unit) w29 =>
  KeepOn D24 w23.drew w29 ∧
  NewV #[.int .i64 0, .int .i64 0, .int .i64 0, .int .i64 0, .slice none 0 0] 81 w29 fun b30 w31 =>
  KeepOn D24 w23.drew w31 ∧
  StoreV w31 ⟨b30, 0, none⟩ [.int .i64 r28.1.1, .int .i64 r28.1.2.1, .int .i64 r28.1.2.2.1, .int .i64 r28.1.2.2.2.1, .slice r28.1.2.2.2.2.1.a r28.1.2.2.2.2.1.n r28.1.2.2.2.2.1.c] fun w32 =>
  KeepOn D24 w23.drew w32 ∧
  LoadA w32 ⟨b30, 0, none⟩ [.int .i64, .int .i64, .int .i64, .int .i64, .sl] fun (x33 : Int × Int × Int × Int × SlV × Unit) =>
  StoreV w32 ⟨b3, 0, none⟩ [.int .i64 x33.1, .int .i64 x33.2.1, .int .i64 x33.2.2.1, .int .i64 x33.2.2.2.1, .slice x33.2.2.2.2.1.a x33.2.2.2.2.1.n x33.2.2.2.2.1.c] fun w34 =>
  DrawV fun D35 =>
  cond (!r28.2.1)
  (K (false, ()) w34.drew)
  ((0 ≤ z17.1 ∧ z17.1 < ((n0 : Nat) : Int)) ∧ ∃ q36 : Addr, a0 = some q36 ∧
  (D35 ((q36.add (z17.1.toNat * 19)).add 3).block ∧ LoadA w34.drew ((q36.add (z17.1.toNat * 19)).add 3) [.int .i64, .int .i64] fun (x37 : Int × Int × Unit) =>
  (D35 b3 ∧ LoadA w34.drew ⟨b3, 0, none⟩ [.int .i64, .int .i64, .int .i64, .int .i64, .sl] fun (x38 : Int × Int × Int × Int × SlV × Unit) =>
  (0 ≤ z17.1 ∧ z17.1 < ((n0 : Nat) : Int)) ∧ ∃ q39 : Addr, a0 = some q39 ∧
  (D35 ((q39.add (z17.1.toNat * 19)).add 3).block ∧ LoadA w34.drew ((q39.add (z17.1.toNat * 19)).add 3) [.int .i64, .int .i64] fun (x40 : Int × Int × Unit) =>
  CallV Try.prog 43 #[.pointer r1.1, .agg #[.int .i64 x37.1, .int .i64 x37.2.1]] w34.drew [.one (.int .i64)] fun (r41 : Int × Unit) w42 =>
  KeepOn D35 w34.drew w42 ∧
  CallV Try.prog 44 #[.agg #[.int .i64 x38.1, .int .i64 x38.2.1, .int .i64 x38.2.2.1, .int .i64 x38.2.2.2.1, .slice x38.2.2.2.2.1.a x38.2.2.2.2.1.n x38.2.2.2.2.1.c], .agg #[.int .i64 x40.1, .int .i64 x40.2.1]] w42 [.one (.int .i64)] fun (r43 : Int × Unit) w44 =>
  KeepOn D35 w34.drew w44 ∧
  cond (r41.1 != r43.1)
  (K (false, ()) w44)
  ((0 ≤ z17.1 ∧ z17.1 < ((n0 : Nat) : Int)) ∧ ∃ q45 : Addr, a0 = some q45 ∧
  (D35 ((q45.add (z17.1.toNat * 19)).add 17).block ∧ LoadA w34.drew ((q45.add (z17.1.toNat * 19)).add 17) [.int .i64, .int .i64] fun (x46 : Int × Int × Unit) =>
  (D35 b3 ∧ LoadA w34.drew ⟨b3, 0, none⟩ [.int .i64, .int .i64, .int .i64, .int .i64, .sl] fun (x47 : Int × Int × Int × Int × SlV × Unit) =>
  (0 ≤ z17.1 ∧ z17.1 < ((n0 : Nat) : Int)) ∧ ∃ q48 : Addr, a0 = some q48 ∧
  (D35 ((q48.add (z17.1.toNat * 19)).add 17).block ∧ LoadA w34.drew ((q48.add (z17.1.toNat * 19)).add 17) [.int .i64, .int .i64] fun (x49 : Int × Int × Unit) =>
  CallV Try.prog 43 #[.pointer r1.1, .agg #[.int .i64 x46.1, .int .i64 x46.2.1]] w44 [.one (.int .i64)] fun (r50 : Int × Unit) w51 =>
  KeepOn D35 w34.drew w51 ∧
  CallV Try.prog 44 #[.agg #[.int .i64 x47.1, .int .i64 x47.2.1, .int .i64 x47.2.2.1, .int .i64 x47.2.2.2.1, .slice x47.2.2.2.2.1.a x47.2.2.2.2.1.n x47.2.2.2.2.1.c], .agg #[.int .i64 x49.1, .int .i64 x49.2.1]] w51 [.one (.int .i64)] fun (r52 : Int × Unit) w53 =>
  KeepOn D35 w34.drew w53 ∧
  cond (r50.1 != r52.1)
  (K (false, ()) w53)
  (Rng .i64 (z17.1 + 1) ∧
  K19 (z17.1 + 1, ()) w53)))))))))) ∧
  (NewV #[.int .i64 0, .int .i64 0, .int .i64 0, .int .i64 0, .slice none 0 0] 81 w23.drew fun b54 w55 =>
  KeepOn D24 w23.drew w55 ∧
  CallV Try.prog 42 #[.pointer r1.1, .agg #[.int .i64 x25.1, .int .i64 x25.2.1, .int .i64 x25.2.2.1, .int .i64 x25.2.2.2.1, .slice x25.2.2.2.2.1.a x25.2.2.2.2.1.n x25.2.2.2.2.1.c], .agg #[.int .i64 x27.1, .int .i64 x27.2.1, .int .i64 x27.2.2.1, .int .i64 x27.2.2.2.1, .int .i64 x27.2.2.2.2.1, .int .i64 x27.2.2.2.2.2.1, .int .i64 x27.2.2.2.2.2.2.1, .int .i64 x27.2.2.2.2.2.2.2.1, .int .u32 x27.2.2.2.2.2.2.2.2.1, .int .u64 x27.2.2.2.2.2.2.2.2.2.1, .int .u64 x27.2.2.2.2.2.2.2.2.2.2.1, .int .i64 x27.2.2.2.2.2.2.2.2.2.2.2.1, .int .i64 x27.2.2.2.2.2.2.2.2.2.2.2.2.1, .int .i64 x27.2.2.2.2.2.2.2.2.2.2.2.2.2.1, .int .u32 x27.2.2.2.2.2.2.2.2.2.2.2.2.2.2.1, .int .u64 x27.2.2.2.2.2.2.2.2.2.2.2.2.2.2.2.1, .int .u64 x27.2.2.2.2.2.2.2.2.2.2.2.2.2.2.2.2.1, .int .i64 x27.2.2.2.2.2.2.2.2.2.2.2.2.2.2.2.2.2.1, .int .i64 x27.2.2.2.2.2.2.2.2.2.2.2.2.2.2.2.2.2.2.1]] w55 [.agg [.int .i64, .int .i64, .int .i64, .int .i64, .sl], .one .bool] fun (r56 : (Int × Int × Int × Int × SlV × Unit) × Bool × Unit) w57 =>
  KeepOn D24 w23.drew w57 ∧
  StoreV w57 ⟨b54, 0, none⟩ [.int .i64 r56.1.1, .int .i64 r56.1.2.1, .int .i64 r56.1.2.2.1, .int .i64 r56.1.2.2.2.1, .slice r56.1.2.2.2.2.1.a r56.1.2.2.2.2.1.n r56.1.2.2.2.2.1.c] fun w58 =>
  KeepOn D24 w23.drew w58 ∧
  LoadA w58 ⟨b54, 0, none⟩ [.int .i64, .int .i64, .int .i64, .int .i64, .sl] fun (x59 : Int × Int × Int × Int × SlV × Unit) =>
  StoreV w58 ⟨b3, 0, none⟩ [.int .i64 x59.1, .int .i64 x59.2.1, .int .i64 x59.2.2.1, .int .i64 x59.2.2.2.1, .slice x59.2.2.2.2.1.a x59.2.2.2.2.1.n x59.2.2.2.2.1.c] fun w60 =>
  DrawV fun D61 =>
  cond (!r56.2.1)
  (K (false, ()) w60.drew)
  ((0 ≤ z17.1 ∧ z17.1 < ((n0 : Nat) : Int)) ∧ ∃ q62 : Addr, a0 = some q62 ∧
  (D61 ((q62.add (z17.1.toNat * 19)).add 3).block ∧ LoadA w60.drew ((q62.add (z17.1.toNat * 19)).add 3) [.int .i64, .int .i64] fun (x63 : Int × Int × Unit) =>
  (D61 b3 ∧ LoadA w60.drew ⟨b3, 0, none⟩ [.int .i64, .int .i64, .int .i64, .int .i64, .sl] fun (x64 : Int × Int × Int × Int × SlV × Unit) =>
  (0 ≤ z17.1 ∧ z17.1 < ((n0 : Nat) : Int)) ∧ ∃ q65 : Addr, a0 = some q65 ∧
  (D61 ((q65.add (z17.1.toNat * 19)).add 3).block ∧ LoadA w60.drew ((q65.add (z17.1.toNat * 19)).add 3) [.int .i64, .int .i64] fun (x66 : Int × Int × Unit) =>
  CallV Try.prog 43 #[.pointer r1.1, .agg #[.int .i64 x63.1, .int .i64 x63.2.1]] w60.drew [.one (.int .i64)] fun (r67 : Int × Unit) w68 =>
  KeepOn D61 w60.drew w68 ∧
  CallV Try.prog 44 #[.agg #[.int .i64 x64.1, .int .i64 x64.2.1, .int .i64 x64.2.2.1, .int .i64 x64.2.2.2.1, .slice x64.2.2.2.2.1.a x64.2.2.2.2.1.n x64.2.2.2.2.1.c], .agg #[.int .i64 x66.1, .int .i64 x66.2.1]] w68 [.one (.int .i64)] fun (r69 : Int × Unit) w70 =>
  KeepOn D61 w60.drew w70 ∧
  cond (r67.1 != r69.1)
  (K (false, ()) w70)
  ((0 ≤ z17.1 ∧ z17.1 < ((n0 : Nat) : Int)) ∧ ∃ q71 : Addr, a0 = some q71 ∧
  (D61 ((q71.add (z17.1.toNat * 19)).add 17).block ∧ LoadA w60.drew ((q71.add (z17.1.toNat * 19)).add 17) [.int .i64, .int .i64] fun (x72 : Int × Int × Unit) =>
  (D61 b3 ∧ LoadA w60.drew ⟨b3, 0, none⟩ [.int .i64, .int .i64, .int .i64, .int .i64, .sl] fun (x73 : Int × Int × Int × Int × SlV × Unit) =>
  (0 ≤ z17.1 ∧ z17.1 < ((n0 : Nat) : Int)) ∧ ∃ q74 : Addr, a0 = some q74 ∧
  (D61 ((q74.add (z17.1.toNat * 19)).add 17).block ∧ LoadA w60.drew ((q74.add (z17.1.toNat * 19)).add 17) [.int .i64, .int .i64] fun (x75 : Int × Int × Unit) =>
  CallV Try.prog 43 #[.pointer r1.1, .agg #[.int .i64 x72.1, .int .i64 x72.2.1]] w70 [.one (.int .i64)] fun (r76 : Int × Unit) w77 =>
  KeepOn D61 w60.drew w77 ∧
  CallV Try.prog 44 #[.agg #[.int .i64 x73.1, .int .i64 x73.2.1, .int .i64 x73.2.2.1, .int .i64 x73.2.2.2.1, .slice x73.2.2.2.2.1.a x73.2.2.2.2.1.n x73.2.2.2.2.1.c], .agg #[.int .i64 x75.1, .int .i64 x75.2.1]] w77 [.one (.int .i64)] fun (r78 : Int × Unit) w79 =>
  KeepOn D61 w60.drew w79 ∧
  cond (r76.1 != r78.1)
  (K (false, ()) w79)
  (Rng .i64 (z17.1 + 1) ∧
  K19 (z17.1 + 1, ()) w79)))))))))))))))
  (J6 (()) w18))
  (J6 (()) w18)
theorem law22_PagemapRuns.vc (a0 : Option Addr) (n0 c0 : Nat) (w : World) (K : Bool × Unit → World → Prop) (h : law22_PagemapRuns.P a0 n0 c0 w K) : CallV Try.prog 7 #[.slice a0 n0 c0] w [.one .bool] K := by
  have e : vcFun Try.prog okf false Try.f7 law22_PagemapRuns.A #[.slice a0 n0 c0] w [.one .bool] K = law22_PagemapRuns.P a0 n0 c0 w K := by kernel_rfl
  exact vcFun.calls okf_ok follows Try.func7 (e.symm ▸ h)

/-! ### nepenthe/nepenthelaw22.PagemapIns: function 8 -/
-- loop 0 carries 12: .one (.int .i64), 13: .one (.int .i64)
-- loop 1 carries 9: .one (.int .i64), 10: .one (.int .i64)
-- loop 2 carries 7: .one (.int .i64)
def law22_PagemapIns.A : Ann := .two .no (.two .no (.two .no (.join [7, 16, 17, 18, 19, 20, 21, 22, 23, 24, 25, 26, 27, 28, 29, 30, 31, 32, 33, 34, 35, 36, 37, 38, 39, 40] [] (.two .no (.one (.loop [7, 16, 17, 18, 19, 20, 21, 22, 23, 24, 25, 26, 27, 28, 29, 30, 31, 32, 33, 34, 35, 36, 37, 38, 39, 40] [(7, .one (.int .i64))] (.two .no (.two (.one (.two .no (.two (.draw (.take 0 (.take 2 (.take 3 (.take 4 (.take 5 (.eff 1 (.eff 6 (.take 7 (.take 8 (.take 9 (.eff 10 (.done))))))))))))) .no))) .no))))) (.two .no (.two .no (.two (.two .no (.one (.loop [4, 9, 10, 11, 44, 45, 46, 47, 48, 49, 50, 51, 52, 53, 54, 55, 56, 57, 58, 59, 60, 61, 62, 63, 64, 65, 66, 67, 68, 69, 70, 71, 72, 73, 74, 75, 76, 77, 78, 79, 80, 81, 82, 83, 84, 85, 86, 87, 88, 89, 90, 91, 92, 93, 94] [(9, .one (.int .i64)), (10, .one (.int .i64))] (.two .no (.two (.one (.two .no (.two (.two (.draw (.take 0 (.take 1 (.take 2 (.take 3 (.take 4 (.take 5 (.take 6 (.take 7 (.take 8 (.take 9 (.take 10 (.take 11 (.take 12 (.take 13 (.take 14 (.take 15 (.take 16 (.take 17 (.take 18 (.take 19 (.take 20 (.take 21 (.take 22 (.eff 23 (.take 24 (.take 25 (.take 26 (.take 27 (.take 28 (.take 30 (.take 31 (.eff 29 (.eff 32 (.take 33 (.take 34 (.done))))))))))))))))))))))))))))))))))))) .no) .no))) .no))))) (.two .no (.two (.two .no (.one (.loop [12, 13, 95, 96, 97, 98, 99, 100, 101, 102, 103, 104, 105, 106, 107, 108, 109, 110, 111, 112, 113] [(12, .one (.int .i64)), (13, .one (.int .i64))] .no))) .no))))))))
def law22_PagemapIns.P (a0 : Option Addr) (n0 c0 : Nat) (p1 : Int) (w : World) (K : Bool × Unit → World → Prop) : Prop :=
  CallV Try.prog 37 #[] w [.one .ptr] fun (r1 : (Option Addr) × Unit) w2 =>
  NewV #[.int .i64 0, .int .i64 0, .int .i64 0, .int .i64 0, .slice none 0 0] 81 w2 fun b3 w4 =>
  StoreV w4 ⟨b3, 0, none⟩ [.int .i64 0, .int .i64 0, .int .i64 0, .int .i64 0, .slice none 0 0] fun w5 =>
  JoinV [] (fun (v7 : Unit) w8 =>
  CallV Try.prog 46 #[.pointer r1.1, .int .i64 p1] w8 [.one .sl] fun (r9 : SlV × Unit) w10 =>
  LoopV [.one (.int .i64), .one (.int .i64)] ((0 : Int), (0 : Int), ()) w10 fun (z11 : Int × Int × Unit) w12 (K13 : Int × Int × Unit → World → Prop) =>
  cond (decide (z11.2.1 < ((r9.1.n : Nat) : Int)))
  ((0 ≤ z11.2.1 ∧ z11.2.1 < ((r9.1.n : Nat) : Int)) ∧ ∃ q14 : Addr, r9.1.a = some q14 ∧
  LoadA w12 (q14.add (z11.2.1.toNat * 14)) [.int .i64, .int .i64] fun (x15 : Int × Int × Unit) =>
  NewV #[.int .i64 0, .int .i64 0] 55 w12 fun b16 w17 =>
  StoreV w17 ⟨b16, 0, none⟩ [.int .i64 x15.1, .int .i64 x15.2.1] fun w18 =>
  DrawV fun D19 =>
  (D19 b16 ∧ LoadS w18.drew ⟨b16, 0, none⟩ (.int .i64) fun (x20 : Int) =>
  cond (x20 != p1)
  (K (false, ()) w18.drew)
  (cond (decide (z11.2.1 > 0))
  (Rng .i64 (z11.2.1 - 1) ∧
  (0 ≤ (z11.2.1 - 1) ∧ (z11.2.1 - 1) < ((r9.1.n : Nat) : Int)) ∧ ∃ q21 : Addr, r9.1.a = some q21 ∧
  (D19 ((q21.add ((z11.2.1 - 1).toNat * 14)).add 1).block ∧ LoadS w18.drew ((q21.add ((z11.2.1 - 1).toNat * 14)).add 1) (.int .i64) fun (x22 : Int) =>
  (D19 b16 ∧ LoadS w18.drew ⟨b16, 1, none⟩ (.int .i64) fun (x23 : Int) =>
  cond (decide (x22 ≥ x23))
  (K (false, ()) w18.drew)
  ((D19 b3 ∧ LoadA w18.drew ⟨b3, 0, none⟩ [.int .i64, .int .i64, .int .i64, .int .i64, .sl] fun (x24 : Int × Int × Int × Int × SlV × Unit) =>
  (D19 b16 ∧ LoadA w18.drew ⟨b16, 0, none⟩ [.int .i64, .int .i64] fun (x25 : Int × Int × Unit) =>
  CallV Try.prog 44 #[.agg #[.int .i64 x24.1, .int .i64 x24.2.1, .int .i64 x24.2.2.1, .int .i64 x24.2.2.2.1, .slice x24.2.2.2.2.1.a x24.2.2.2.2.1.n x24.2.2.2.2.1.c], .agg #[.int .i64 x25.1, .int .i64 x25.2.1]] w18.drew [.one (.int .i64)] fun (r26 : Int × Unit) w27 =>
  KeepOn D19 w18.drew w27 ∧
  cond (r26.1 == 0)
  (K (false, ()) w27)
  ((D19 b16 ∧ LoadA w18.drew ⟨b16, 0, none⟩ [.int .i64, .int .i64] fun (x28 : Int × Int × Unit) =>
  (D19 b3 ∧ LoadA w18.drew ⟨b3, 0, none⟩ [.int .i64, .int .i64, .int .i64, .int .i64, .sl] fun (x29 : Int × Int × Int × Int × SlV × Unit) =>
  (D19 b16 ∧ LoadA w18.drew ⟨b16, 0, none⟩ [.int .i64, .int .i64] fun (x30 : Int × Int × Unit) =>
  CallV Try.prog 43 #[.pointer r1.1, .agg #[.int .i64 x28.1, .int .i64 x28.2.1]] w27 [.one (.int .i64)] fun (r31 : Int × Unit) w32 =>
  KeepOn D19 w18.drew w32 ∧
  CallV Try.prog 44 #[.agg #[.int .i64 x29.1, .int .i64 x29.2.1, .int .i64 x29.2.2.1, .int .i64 x29.2.2.2.1, .slice x29.2.2.2.2.1.a x29.2.2.2.2.1.n x29.2.2.2.2.1.c], .agg #[.int .i64 x30.1, .int .i64 x30.2.1]] w32 [.one (.int .i64)] fun (r33 : Int × Unit) w34 =>
  KeepOn D19 w18.drew w34 ∧
  cond (r31.1 != r33.1)
  (K (false, ()) w34)
  (LoadA w34 ⟨b3, 0, none⟩ [.int .i64, .int .i64, .int .i64, .int .i64, .sl] fun (x35 : Int × Int × Int × Int × SlV × Unit) =>
  LoadA w34 ⟨b16, 0, none⟩ [.int .i64, .int .i64] fun (x36 : Int × Int × Unit) =>
  CallV Try.prog 44 #[.agg #[.int .i64 x35.1, .int .i64 x35.2.1, .int .i64 x35.2.2.1, .int .i64 x35.2.2.2.1, .slice x35.2.2.2.2.1.a x35.2.2.2.2.1.n x35.2.2.2.2.1.c], .agg #[.int .i64 x36.1, .int .i64 x36.2.1]] w34 [.one (.int .i64)] fun (r37 : Int × Unit) w38 =>
  Rng .i64 (z11.1 + r37.1) ∧
  Rng .i64 (z11.2.1 + 1) ∧
  K13 (z11.1 + r37.1, z11.2.1 + 1, ()) w38)))))))))))
  ((D19 b3 ∧ LoadA w18.drew ⟨b3, 0, none⟩ [.int .i64, .int .i64, .int .i64, .int .i64, .sl] fun (x39 : Int × Int × Int × Int × SlV × Unit) =>
  (D19 b16 ∧ LoadA w18.drew ⟨b16, 0, none⟩ [.int .i64, .int .i64] fun (x40 : Int × Int × Unit) =>
  CallV Try.prog 44 #[.agg #[.int .i64 x39.1, .int .i64 x39.2.1, .int .i64 x39.2.2.1, .int .i64 x39.2.2.2.1, .slice x39.2.2.2.2.1.a x39.2.2.2.2.1.n x39.2.2.2.2.1.c], .agg #[.int .i64 x40.1, .int .i64 x40.2.1]] w18.drew [.one (.int .i64)] fun (r41 : Int × Unit) w42 =>
  KeepOn D19 w18.drew w42 ∧
  cond (r41.1 == 0)
  (K (false, ()) w42)
  ((D19 b16 ∧ LoadA w18.drew ⟨b16, 0, none⟩ [.int .i64, .int .i64] fun (x43 : Int × Int × Unit) =>
  (D19 b3 ∧ LoadA w18.drew ⟨b3, 0, none⟩ [.int .i64, .int .i64, .int .i64, .int .i64, .sl] fun (x44 : Int × Int × Int × Int × SlV × Unit) =>
  (D19 b16 ∧ LoadA w18.drew ⟨b16, 0, none⟩ [.int .i64, .int .i64] fun (x45 : Int × Int × Unit) =>
  CallV Try.prog 43 #[.pointer r1.1, .agg #[.int .i64 x43.1, .int .i64 x43.2.1]] w42 [.one (.int .i64)] fun (r46 : Int × Unit) w47 =>
  KeepOn D19 w18.drew w47 ∧
  CallV Try.prog 44 #[.agg #[.int .i64 x44.1, .int .i64 x44.2.1, .int .i64 x44.2.2.1, .int .i64 x44.2.2.2.1, .slice x44.2.2.2.2.1.a x44.2.2.2.2.1.n x44.2.2.2.2.1.c], .agg #[.int .i64 x45.1, .int .i64 x45.2.1]] w47 [.one (.int .i64)] fun (r48 : Int × Unit) w49 =>
  KeepOn D19 w18.drew w49 ∧
  cond (r46.1 != r48.1)
  (K (false, ()) w49)
  (LoadA w49 ⟨b3, 0, none⟩ [.int .i64, .int .i64, .int .i64, .int .i64, .sl] fun (x50 : Int × Int × Int × Int × SlV × Unit) =>
  LoadA w49 ⟨b16, 0, none⟩ [.int .i64, .int .i64] fun (x51 : Int × Int × Unit) =>
  CallV Try.prog 44 #[.agg #[.int .i64 x50.1, .int .i64 x50.2.1, .int .i64 x50.2.2.1, .int .i64 x50.2.2.2.1, .slice x50.2.2.2.2.1.a x50.2.2.2.2.1.n x50.2.2.2.2.1.c], .agg #[.int .i64 x51.1, .int .i64 x51.2.1]] w49 [.one (.int .i64)] fun (r52 : Int × Unit) w53 =>
  Rng .i64 (z11.1 + r52.1) ∧
  Rng .i64 (z11.2.1 + 1) ∧
  K13 (z11.1 + r52.1, z11.2.1 + 1, ()) w53)))))))))))
  (LoopV [.one (.int .i64), .one (.int .i64)] ((0 : Int), (0 : Int), ()) w12 fun (z54 : Int × Int × Unit) w55 (K56 : Int × Int × Unit → World → Prop) =>
  LoadS w55 ⟨b3, 4, none⟩ .sl fun (x57 : SlV) =>
  cond (decide (z54.2.1 < ((x57.n : Nat) : Int)))
  (LoadS w55 ⟨b3, 4, none⟩ .sl fun (x58 : SlV) =>
  (0 ≤ z54.2.1 ∧ z54.2.1 < ((x58.n : Nat) : Int)) ∧ ∃ q59 : Addr, x58.a = some q59 ∧
  LoadS w55 ((q59.add (z54.2.1.toNat * 16)).add 2) (.int .i64) fun (x60 : Int) =>
  cond (x60 == p1)
  (Rng .i64 (z54.1 + 1) ∧
  Rng .i64 (z54.2.1 + 1) ∧
  K56 (z54.1 + 1, z54.2.1 + 1, ()) w55)
  (Rng .i64 (z54.2.1 + 1) ∧
  K56 (z54.1, z54.2.1 + 1, ()) w55))
  (cond (z11.1 == z54.1)
  (CallV Try.prog 36 #[] w55 [.one .bool] fun (r61 : Bool × Unit) w62 =>
  K (r61.1, ()) w62)
  (K (false, ()) w55)))) fun (J6 : Unit → World → Prop) =>
  LoopV [.one (.int .i64)] ((0 : Int), ()) w5 fun (z63 : Int × Unit) w64 (K65 : Int × Unit → World → Prop) =>
  cond (decide (z63.1 < ((n0 : Nat) : Int)))
  (cond (decide (z63.1 < 30))
  ((0 ≤ z63.1 ∧ z63.1 < ((n0 : Nat) : Int)) ∧ ∃ q66 : Addr, a0 = some q66 ∧
  LoadA w64 (q66.add (z63.1.toNat * 19)) [.int .i64, .int .i64, .int .i64, .int .i64, .int .i64, .int .i64, .int .i64, .int .i64, .int .u32, .int .u64, .int .u64, .int .i64, .int .i64, .int .i64, .int .u32, .int .u64, .int .u64, .int .i64, .int .i64] fun (x67 : Int × Int × Int × Int × Int × Int × Int × Int × Int × Int × Int × Int × Int × Int × Int × Int × Int × Int × Int × Unit) =>
  CallV Try.prog 41 #[.agg #[.int .i64 x67.1, .int .i64 x67.2.1, .int .i64 x67.2.2.1, .int .i64 x67.2.2.2.1, .int .i64 x67.2.2.2.2.1, .int .i64 x67.2.2.2.2.2.1, .int .i64 x67.2.2.2.2.2.2.1, .int .i64 x67.2.2.2.2.2.2.2.1, .int .u32 x67.2.2.2.2.2.2.2.2.1, .int .u64 x67.2.2.2.2.2.2.2.2.2.1, .int .u64 x67.2.2.2.2.2.2.2.2.2.2.1, .int .i64 x67.2.2.2.2.2.2.2.2.2.2.2.1, .int .i64 x67.2.2.2.2.2.2.2.2.2.2.2.2.1, .int .i64 x67.2.2.2.2.2.2.2.2.2.2.2.2.2.1, .int .u32 x67.2.2.2.2.2.2.2.2.2.2.2.2.2.2.1, .int .u64 x67.2.2.2.2.2.2.2.2.2.2.2.2.2.2.2.1, .int .u64 x67.2.2.2.2.2.2.2.2.2.2.2.2.2.2.2.2.1, .int .i64 x67.2.2.2.2.2.2.2.2.2.2.2.2.2.2.2.2.2.1, .int .i64 x67.2.2.2.2.2.2.2.2.2.2.2.2.2.2.2.2.2.2.1]] w64 [.one .bool] fun (r68 : Bool × Unit) w69 =>
  cond r68.1
  (DrawV fun D70 =>
  (0 ≤ z63.1 ∧ z63.1 < ((n0 : Nat) : Int)) ∧ ∃ q71 : Addr, a0 = some q71 ∧
  (D70 (q71.add (z63.1.toNat * 19)).block ∧ LoadA w69.drew (q71.add (z63.1.toNat * 19)) [.int .i64, .int .i64, .int .i64, .int .i64, .int .i64, .int .i64, .int .i64, .int .i64, .int .u32, .int .u64, .int .u64, .int .i64, .int .i64, .int .i64, .int .u32, .int .u64, .int .u64, .int .i64, .int .i64] fun (x72 : Int × Int × Int × Int × Int × Int × Int × Int × Int × Int × Int × Int × Int × Int × Int × Int × Int × Int × Int × Unit) =>
  LoadA w69.drew ⟨b3, 0, none⟩ [.int .i64, .int .i64, .int .i64, .int .i64, .sl] fun (x73 : Int × Int × Int × Int × SlV × Unit) =>
  KeepOn D70 w69.drew w69.drew ∧
  CallV Try.prog 42 #[.pointer r1.1, .agg #[.int .i64 x73.1, .int .i64 x73.2.1, .int .i64 x73.2.2.1, .int .i64 x73.2.2.2.1, .slice x73.2.2.2.2.1.a x73.2.2.2.2.1.n x73.2.2.2.2.1.c], .agg #[.int .i64 x72.1, .int .i64 x72.2.1, .int .i64 x72.2.2.1, .int .i64 x72.2.2.2.1, .int .i64 x72.2.2.2.2.1, .int .i64 x72.2.2.2.2.2.1, .int .i64 x72.2.2.2.2.2.2.1, .int .i64 x72.2.2.2.2.2.2.2.1, .int .u32 x72.2.2.2.2.2.2.2.2.1, .int .u64 x72.2.2.2.2.2.2.2.2.2.1, .int .u64 x72.2.2.2.2.2.2.2.2.2.2.1, .int .i64 x72.2.2.2.2.2.2.2.2.2.2.2.1, .int .i64 x72.2.2.2.2.2.2.2.2.2.2.2.2.1, .int .i64 x72.2.2.2.2.2.2.2.2.2.2.2.2.2.1, .int .u32 x72.2.2.2.2.2.2.2.2.2.2.2.2.2.2.1, .int .u64 x72.2.2.2.2.2.2.2.2.2.2.2.2.2.2.2.1, .int .u64 x72.2.2.2.2.2.2.2.2.2.2.2.2.2.2.2.2.1, .int .i64 x72.2.2.2.2.2.2.2.2.2.2.2.2.2.2.2.2.2.1, .int .i64 x72.2.2.2.2.2.2.2.2.2.2.2.2.2.2.2.2.2.2.1]] w69.drew [.agg [.int .i64, .int .i64, .int .i64, .int .i64, .sl], .one .bool] fun (r74 : (Int × Int × Int × Int × SlV × Unit) × Bool × Unit) w75 =>
  KeepOn D70 w69.drew w75 ∧
  StoreV w75 ⟨b3, 0, none⟩ [.int .i64 r74.1.1, .int .i64 r74.1.2.1, .int .i64 r74.1.2.2.1, .int .i64 r74.1.2.2.2.1, .slice r74.1.2.2.2.2.1.a r74.1.2.2.2.2.1.n r74.1.2.2.2.2.1.c] fun w76 =>
  KeepOn D70 w69.drew w76 ∧
  Rng .i64 (z63.1 + 1) ∧
  K65 (z63.1 + 1, ()) w76))
  (Rng .i64 (z63.1 + 1) ∧
  K65 (z63.1 + 1, ()) w69))
  (J6 (()) w64))
  (J6 (()) w64)
theorem law22_PagemapIns.vc (a0 : Option Addr) (n0 c0 : Nat) (p1 : Int) (w : World) (K : Bool × Unit → World → Prop) (h : law22_PagemapIns.P a0 n0 c0 p1 w K) : CallV Try.prog 8 #[.slice a0 n0 c0, .int .i64 p1] w [.one .bool] K := by
  have e : vcFun Try.prog okf false Try.f8 law22_PagemapIns.A #[.slice a0 n0 c0, .int .i64 p1] w [.one .bool] K = law22_PagemapIns.P a0 n0 c0 p1 w K := by kernel_rfl
  exact vcFun.calls okf_ok follows Try.func8 (e.symm ▸ h)

end Go.Proofs.Ytiemdjnmghackaa.Vc

/-! The contracts of layer 22 (pagemap): a change, by the program and by the document. -/
namespace Go.Proofs.Ytiemdjnmghackaa.Vc
open Go Go.Eng Go.RowKit
set_option linter.unusedVariables false
set_option linter.unusedSimpArgs false

structure Stp where
  k : Int
  n : Int
  z : Int
  s : Sp
  t : Int × Int
abbrev Stp.vs (x : Stp) : List Value := [.int .i64 x.k, .int .i64 x.n, .int .i64 x.z, .int .i64 x.s.b, .int .i64 x.s.p, .int .i64 x.s.h.k, .int .i64 x.s.h.n, .int .i64 x.s.h.c, .int .u32 x.s.h.l, .int .u64 x.s.h.e, .int .u64 x.s.h.t, .int .i64 x.s.o.k, .int .i64 x.s.o.n, .int .i64 x.s.o.c, .int .u32 x.s.o.l, .int .u64 x.s.o.e, .int .u64 x.s.o.t, .int .i64 x.t.1, .int .i64 x.t.2]
abbrev Stp.val (x : Stp) : Value := .agg #[.int .i64 x.k, .int .i64 x.n, .int .i64 x.z, .int .i64 x.s.b, .int .i64 x.s.p, .int .i64 x.s.h.k, .int .i64 x.s.h.n, .int .i64 x.s.h.c, .int .u32 x.s.h.l, .int .u64 x.s.h.e, .int .u64 x.s.h.t, .int .i64 x.s.o.k, .int .i64 x.s.o.n, .int .i64 x.s.o.c, .int .u32 x.s.o.l, .int .u64 x.s.o.e, .int .u64 x.s.o.t, .int .i64 x.t.1, .int .i64 x.t.2]
instance (k : Int × Int) : Decidable (Bd k) := by unfold Bd; infer_instance
def lgt (x : Stp) : Prop := (x.z ≤ 40 ∨ 65535 < x.z) ∧ Bd x.s.pl ∧ Bd x.t
instance (x : Stp) : Decidable (lgt x) := by unfold lgt; infer_instance
structure StI (X : List (SlP Ce)) (z : Sz) (L : List Rc) : Prop where
  rel : RelX X z L
  sm : ∀ ns, (getX X ns).n ≤ 40
  bd : ∀ c ∈ L, Bd c.pl
abbrev stQ (p r : Nat) (X : List (SlP Ce)) (y : SlV) (L : List Rc) : List Asr := [boxP p r X, MapF r (cntX X), ownsA X, OwnA 93 16 y.a y.n y.c (L.flatMap Rc.vs)]
section
variable {E : Nat → Prop} {w0 w : World} {p r : Nat} {X : List (SlP Ce)} {z : Sz} {y : SlV} {L : List Rc} {Rs : List Asr} {st : Stp}
theorem light_c : CallV Try.prog 41 #[st.val] w [.one .bool] fun rr w' => Ext w w' ∧ rr.1 = decide (lgt st) := by
  apply law22_light.vc
  unfold law22_light.P
  have S := Sep.start NoB w
  refine S.newB (vs := st.vs) fun b1 w1 S f1 _ => ?_
  have no : ¬ lgt st → Ext w w1 ∧ false = decide (lgt st) := fun h => ⟨S.ext, (decide_eq_false h).symm⟩
  refine S.ld0 (j := 2) rfl rfl (cond_d (fun (h1 : st.z ≤ 40) => ?_) (fun (h1 : ¬ st.z ≤ 40) => S.ld0 (j := 2) rfl rfl (cond_d (fun (h2 : st.z > 65535) => ?_) (fun (h2 : ¬ st.z > 65535) => no (fun k => k.1.elim (fun e => h1 e) (fun e => h2 e))))))
  all_goals
    refine S.ld0 (j := 3) rfl rfl (cond_d (fun (g1 : st.s.b > -1000) => ?_) (fun (g1 : ¬ st.s.b > -1000) => no (fun k => by have : -1000 < st.s.b ∧ st.s.b < 1000 ∧ -1000 < st.s.p ∧ st.s.p < 1000 := k.2.1; omega)))
    refine S.ld0 (j := 3) rfl rfl (cond_d (fun (g2 : st.s.b < 1000) => ?_) (fun (g2 : ¬ st.s.b < 1000) => no (fun k => by have : -1000 < st.s.b ∧ st.s.b < 1000 ∧ -1000 < st.s.p ∧ st.s.p < 1000 := k.2.1; omega)))
    refine S.ld0 (j := 4) rfl rfl (cond_d (fun (g3 : st.s.p > -1000) => ?_) (fun (g3 : ¬ st.s.p > -1000) => no (fun k => by have : -1000 < st.s.b ∧ st.s.b < 1000 ∧ -1000 < st.s.p ∧ st.s.p < 1000 := k.2.1; omega)))
    refine S.ld0 (j := 4) rfl rfl (cond_d (fun (g4 : st.s.p < 1000) => ?_) (fun (g4 : ¬ st.s.p < 1000) => no (fun k => by have : -1000 < st.s.b ∧ st.s.b < 1000 ∧ -1000 < st.s.p ∧ st.s.p < 1000 := k.2.1; omega)))
    refine S.ld0 (j := 17) rfl rfl (cond_d (fun (g5 : st.t.1 > -1000) => ?_) (fun (g5 : ¬ st.t.1 > -1000) => no (fun k => by have := k.2.2; unfold Bd at this; omega)))
    refine S.ld0 (j := 17) rfl rfl (cond_d (fun (g6 : st.t.1 < 1000) => ?_) (fun (g6 : ¬ st.t.1 < 1000) => no (fun k => by have := k.2.2; unfold Bd at this; omega)))
    refine S.ld0 (j := 18) rfl rfl (cond_d (fun (g7 : st.t.2 > -1000) => ?_) (fun (g7 : ¬ st.t.2 > -1000) => no (fun k => by have := k.2.2; unfold Bd at this; omega)))
    refine S.ld0 (j := 18) rfl rfl ⟨S.ext, decide_eq_decide.2 ⟨fun (g8 : st.t.2 < 1000) => ⟨by first | exact .inl h1 | exact .inr h2, ⟨g1, g2, g3, g4⟩, ⟨g5, g6, g7, g8⟩⟩, fun k => by have := k.2.2; unfold Bd at this; omega⟩⟩
theorem places_c {a a2 : Option Addr} {n c n2 c2 : Nat} {M : List (Int × Int)} (h : Own w 0 55 2 a n c (M.flatMap plV)) (h2 : Own w 0 55 2 a2 n2 c2 (M.flatMap plV)) :
    CallV Try.prog 83 #[.slice a n c, .slice a2 n2 c2] w [.one .bool] fun rr w' => Ext w w' ∧ rr.1 = true := by
  apply law22_places.vc
  unfold law22_places.P
  have hl := h.lenF plV_len (by decide)
  have hl2 := h2.lenF plV_len (by decide)
  have hlim := h.lim
  refine cond_ne (fun e => absurd (by omega) e) fun _ => ?_
  refine Loop1 (fun (v : Int × Unit) w' => ∃ i : Nat, v.1 = (i : Int) ∧ i ≤ n ∧ Ext w w') (fun (v : Int × Unit) _ => ((n : Int) - v.1).toNat) ⟨0, rfl, by omega, Ext.refl w⟩ ?_
  rintro ⟨(v : Int), ⟨⟩⟩ w2 ⟨i, hv, hi, x2⟩
  dsimp only at hv ⊢
  subst hv
  refine cond_d (fun hlt => ?_) (fun hge => ⟨x2, rfl⟩)
  refine DrawV.any fun D hD => ?_
  have x3 : Ext w w2.drew := x2.trans (Ext.drew w2)
  obtain ⟨q, k, hq, hk, hc, -⟩ := (h.ext x3).nthF plV_len (by decide) (j := (i : Int)) (by omega) hlt
  obtain ⟨q', k', hq', hk', hc', -⟩ := (h2.ext x3).nthF plV_len (by decide) (j := (i : Int)) (by omega) (by omega)
  rw [hk] at hk'
  cases hk'
  refine ⟨⟨by omega, hlt⟩, q, hq, hD _, ⟨(k.1, k.2, ()), hc, ⟨⟨by omega, by omega⟩, q', hq', hD _, ⟨(k.1, k.2, ()), hc', ?_⟩⟩⟩⟩
  exact eqPl (cond_f (by simp) ⟨Rng.i64 (by omega) (by omega), ⟨i + 1, by push_cast; rfl, by omega, x3⟩, by omega⟩)
/-- What is told, compared. -/
theorem fin22 {e : Int} (he : e = 0) {b b5 : Nat} {v5 : List Value} {a a2 : Option Addr} {n c n2 c2 : Nat} {M : List (Int × Int)} (S : Sep E w0 w (BoxA b 81 (rmL z y) :: BoxA b5 81 v5 :: outA a n c M :: outA a2 n2 c2 M :: Rs)) (h5 : v5.length = 5)
    {K : Int × Int × Int × Int × SlV × Unit → Bool × Unit → World → Prop} (hk : ∀ w', Sep E w0 w' (BoxA b5 81 (rmL z y) :: BoxA b 81 (rmL z y) :: outA a n c M :: outA a2 n2 c2 M :: Rs) → K (z.a, z.b, z.c, z.d, y, ()) (true, ()) w') :
    DrawV fun D => (D b ∧ LoadA w.drew ⟨b, 0, none⟩ [.int .i64, .int .i64, .int .i64, .int .i64, .sl] fun (x : Int × Int × Int × Int × SlV × Unit) =>
      cond (e == 0) (CallV Try.prog 83 #[.slice a n c, .slice a2 n2 c2] w.drew [.one .bool] fun (rr : Bool × Unit) w1 => KeepOn D w.drew w1 ∧
        StoreV w1 ⟨b5, 0, none⟩ [.int .i64 x.1, .int .i64 x.2.1, .int .i64 x.2.2.1, .int .i64 x.2.2.2.1, .slice x.2.2.2.2.1.a x.2.2.2.2.1.n x.2.2.2.2.1.c] fun w2 => KeepOn D w.drew w2 ∧
          LoadA w2 ⟨b5, 0, none⟩ [.int .i64, .int .i64, .int .i64, .int .i64, .sl] fun (x2 : Int × Int × Int × Int × SlV × Unit) => K x2 rr w2)
        (StoreV w.drew ⟨b5, 0, none⟩ [.int .i64 x.1, .int .i64 x.2.1, .int .i64 x.2.2.1, .int .i64 x.2.2.2.1, .slice x.2.2.2.2.1.a x.2.2.2.2.1.n x.2.2.2.2.1.c] fun w2 => KeepOn D w.drew w2 ∧
          LoadA w2 ⟨b5, 0, none⟩ [.int .i64, .int .i64, .int .i64, .int .i64, .sl] fun (x2 : Int × Int × Int × Int × SlV × Unit) => K x2 (false, ()) w2)) := by
  have S := S.perm (List.Perm.swap _ _ _)
  refine Sep.regC [_] S fun G D hG T S hDt hDo hkeep back => ?_
  refine ⟨hDt 0 _ _ _ rfl, S.la1 rfl (cond_eq (fun _ => ?_) (fun h => absurd he h))⟩
  refine (places_c (S.own 2 rfl) (S.own 3 rfl)).mono ?_
  rintro ⟨rr, ⟨⟩⟩ w1 ⟨x1, hr⟩
  dsimp only at hr
  subst hr
  have T := T.stepE x1
  refine ⟨hkeep _ T.fr, T.st0 (by rw [h5]; rfl) fun w2 T f2 => ⟨hkeep _ T.fr, T.la0 rfl ?_⟩⟩
  exact hk w2 (back _ _ T)
theorem add_c (h : StI X z L) (hl : lgt st) (hm : Sep E w0 w (stQ p r X y L)) :
    CallV Try.prog 81 #[.pointer (some ⟨p, 0, none⟩), rmV z y, st.val] w [.agg [.int .i64, .int .i64, .int .i64, .int .i64, .sl], .one .bool] fun rr w' => ∃ X' z', StI X' z' L ∧ rr.1 = (z'.a, z'.b, z'.c, z'.d, y, ()) ∧ rr.2.1 = true ∧ Sep E w0 w' (stQ p r X' y L) := by
  have S := hm
  apply law22_add.vc
  unfold law22_add.P
  refine S.newB (vs := rmL z y) fun b1 w1 S f1 _ => ?_
  refine S.newB (vs := st.vs) fun b3 w1 S f1 _ => ?_
  refine S.newB fun b5 w1 S f1 _ => ?_
  refine S.ld1 (j := 1) rfl rfl (S.ld1 (j := 2) rfl rfl ?_)
  have S := S.sel [3, 3, 3, 0, 0, 0, 0] rfl
  have h4 := h.rel.ok.four
  refine Sep.call [_, _, _] (Ts := [_, _, _, _]) S (fun G SG => Add22_c (ns := st.n) (size := st.z) h4 (toQ SG)) fun G fr rr w2 hr => ?_
  obtain ⟨(e : Int), ⟨⟩⟩ := rr
  obtain ⟨he, hA, hB⟩ := hr
  dsimp only at he ⊢
  subst he
  by_cases h0 : addE X st.n st.z = 0
  case neg =>
    have S := fr _ _ (fromQ (hA h0))
    have S := S.sel [3, 3, 3, 0, 0, 0, 0] rfl
    have out : ∀ {w' : World} {v : Bool}, v = true → Sep E w0 w' [BoxA b5 81 (rmL z y), BoxA b3 84 st.vs, BoxA b1 81 (rmL z y), boxP p r X, MapF r (cntX X), ownsA X, OwnA 93 16 y.a y.n y.c (L.flatMap Rc.vs)] → ∃ X' z', StI X' z' L ∧ (z.a, z.b, z.c, z.d, y, ()) = (z'.a, z'.b, z'.c, z'.d, y, ()) ∧ v = true ∧ Sep E w0 w' (stQ p r X' y L) := fun hv S =>
      ⟨X, z, h, rfl, hv, S.sel [3, 3, 3, 3] rfl⟩
    have e2 : (¬ (0 ≤ st.n ∧ st.n < 4) ∨ ¬ (1 ≤ st.z ∧ st.z ≤ 65535)) → (addE X st.n st.z == 2) = true := fun k => by
      have : addE X st.n st.z = 2 := by
        unfold addE
        by_cases h1 : 0 ≤ st.n ∧ st.n < 4
        · rw [if_neg (fun e => e h1), if_pos (k.resolve_left (fun e => e h1))]
        · rw [if_pos h1]
      rw [this]; rfl
    refine S.ld1 (j := 1) rfl rfl (cond_d (fun (g : st.n < 0) => S.la2 rfl (S.st0 (by rfl) fun w3 S f3 => S.la0 rfl (out (e2 (by omega)) S))) (fun (g1 : ¬ st.n < 0) => ?_))
    refine S.ld1 (j := 1) rfl rfl (cond_d (fun (g : st.n > 3) => S.la2 rfl (S.st0 (by rfl) fun w3 S f3 => S.la0 rfl (out (e2 (by omega)) S))) (fun (g2 : ¬ st.n > 3) => ?_))
    refine S.ld1 (j := 2) rfl rfl (cond_d (fun (g : st.z < 1) => S.la2 rfl (S.st0 (by rfl) fun w3 S f3 => S.la0 rfl (out (e2 (by omega)) S))) (fun (g3 : ¬ st.z < 1) => ?_))
    refine S.ld1 (j := 2) rfl rfl (cond_d (fun (g : st.z > 65535) => S.la2 rfl (S.st0 (by rfl) fun w3 S f3 => S.la0 rfl (out (e2 (by omega)) S))) (fun (g4 : ¬ st.z > 65535) => ?_))
    have hn : 0 ≤ st.n ∧ st.n < 4 := by omega
    have hz : 0 < (getX X st.n).n := by
      refine Classical.byContradiction fun e => h0 ?_
      unfold addE
      rw [if_neg (fun k => k hn), if_neg (by omega), if_neg e]
    refine S.ld1 (j := 1) rfl rfl ⟨hn, szLd 2 st.n S rfl hn (cond_d (fun (g : z.get st.n > 0) => S.la2 rfl (S.st0 (by rfl) fun w3 S f3 => S.la0 rfl (out ?_ S))) (fun (g : ¬ z.get st.n > 0) => absurd (by rw [h.rel.sz]; omega) g))⟩
    have : addE X st.n st.z = 11 := by
      unfold addE
      rw [if_neg (fun k => k hn), if_neg (by omega), if_pos hz]
    rw [this]; rfl
  obtain ⟨x, hx, hxn, SX⟩ := hB h0
  have hn : 0 ≤ st.n ∧ st.n < 4 := by
    refine Classical.byContradiction fun e => ?_
    unfold addE at h0
    rw [if_pos e] at h0
    cases h0
  have hs : 1 ≤ st.z ∧ st.z ≤ 65535 := by
    refine Classical.byContradiction fun e => ?_
    unfold addE at h0
    rw [if_neg (fun k => k hn), if_pos e] at h0
    cases h0
  have hz0 : (getX X st.n).n = 0 := by
    refine Classical.byContradiction fun e => ?_
    unfold addE at h0
    rw [if_neg (fun k => k hn), if_neg (fun k => k hs), if_pos (by omega)] at h0
    cases h0
  have h40 : st.z ≤ 40 := hl.1.resolve_right (by omega)
  have h0l : (getX X st.n).l = [] := List.length_eq_zero_iff.1 (by rw [(h.rel.ok.get st.n).1, hz0])
  have hc : cntX (X.set st.n.toNat x) = cntX X := cnt_new h4 hn hx h0l
  have hst : StI (X.set st.n.toNat x) (z.put st.n st.z) L := by
    refine ⟨?_, fun ns => ?_, h.bd⟩
    · have := h.rel.add (v := st.z.toNat) hn hz0 hx hxn (by omega)
      rwa [show ((st.z.toNat : Nat) : Int) = st.z by omega] at this
    · rw [getX_put h4 hn]
      split
      · rw [hxn]; omega
      · exact h.sm ns
  have S := fr _ _ (fromQ SX)
  rw [← hc] at S
  have S := S.sel [3, 3, 3, 0, 0, 0, 0] rfl
  refine S.ld1 (j := 1) rfl rfl (cond_d (fun (g : st.n < 0) => by omega) (fun (g1 : ¬ st.n < 0) => ?_))
  refine S.ld1 (j := 1) rfl rfl (cond_d (fun (g : st.n > 3) => by omega) (fun (g2 : ¬ st.n > 3) => ?_))
  refine S.ld1 (j := 2) rfl rfl (cond_d (fun (g : st.z < 1) => by omega) (fun (g3 : ¬ st.z < 1) => ?_))
  refine S.ld1 (j := 2) rfl rfl (cond_d (fun (g : st.z > 65535) => by omega) (fun (g4 : ¬ st.z > 65535) => ?_))
  refine S.ld1 (j := 1) rfl rfl ⟨hn, szLd 2 st.n S rfl hn (cond_d (fun (g : z.get st.n > 0) => absurd g (by rw [h.rel.sz, hz0]; decide)) (fun (g : ¬ z.get st.n > 0) => ?_))⟩
  refine S.ld1 (j := 1) rfl rfl (S.ld1 (j := 2) rfl rfl ⟨hn, ?_⟩)
  rw [show (⟨b1, 0, none⟩ : Addr).add (st.n.toNat * 1) = ⟨b1, st.n.toNat * 1, none⟩ by simp [Addr.add_lit]]
  refine S.store 2 rfl (st.n.toNat * 1) (by show _ + 1 ≤ 5; omega) fun w3 S f3 => ?_
  have S : Sep E w0 w3 [BoxA b5 81 (rmL ⟨0, 0, 0, 0⟩ ⟨none, 0, 0⟩), BoxA b3 84 st.vs, BoxA b1 81 (rmL (z.put st.n st.z) y), boxP p r (X.set st.n.toNat x), MapF r (cntX (X.set st.n.toNat x)), ownsA (X.set st.n.toNat x), OwnA 93 16 y.a y.n y.c (L.flatMap Rc.vs)] := by
    generalize X.set st.n.toNat x = X2 at S ⊢
    generalize hnn : st.n = nn at S hn ⊢
    have : nn = 0 ∨ nn = 1 ∨ nn = 2 ∨ nn = 3 := by omega
    rcases this with e | e | e | e <;> subst e <;> exact S
  refine S.la2 rfl (S.st0 (by rfl) fun w4 S f4 => S.la0 rfl ?_)
  exact ⟨X.set st.n.toNat x, z.put st.n st.z, hst, rfl, by rw [h0]; rfl, S.sel [3, 3, 3, 3] rfl⟩
end
end Go.Proofs.Ytiemdjnmghackaa.Vc

/-! The contracts of layer 22 (pagemap): a change, by both. -/
namespace Go.Proofs.Ytiemdjnmghackaa.Vc
open Go Go.Eng Go.RowKit
set_option linter.unusedVariables false
set_option linter.unusedSimpArgs false

theorem nodup_len {α : Type} [DecidableEq α] : ∀ (L M : List α), L.Nodup → (∀ k ∈ L, k ∈ M) → L.length ≤ M.length
  | [], M, _, _ => Nat.zero_le _
  | k :: L, M, hn, hs => by
    rw [List.nodup_cons] at hn
    have h1 : k ∈ M := hs k List.mem_cons_self
    have h2 := nodup_len L (M.erase k) hn.2 fun x hx => by
      have : x ≠ k := fun e => hn.1 (e ▸ hx)
      exact (List.mem_erase_of_ne this).2 (hs x (List.mem_cons_of_mem _ hx))
    rw [List.length_erase_of_mem h1] at h2
    have := List.length_pos_of_mem h1
    rw [List.length_cons]
    omega
section
variable {E : Nat → Prop} {w0 w : World} {p r : Nat} {X : List (SlP Ce)} {z : Sz} {y : SlV} {L : List Rc} {Rs : List Asr} {st : Stp}
theorem live_ex (h : RelX X z L) {k : Int × Int} (hk : 1 ≤ cntX X k) : ∃ c ∈ L, c.pl = k := by
  have := h.cnt k
  have h1 : 0 < cntR L k := by omega
  unfold cntR at h1
  obtain ⟨c, hc, e⟩ := List.countP_pos_iff.1 h1
  exact ⟨c, hc, by simpa using e⟩
/-- Places that are live no more: not far off, and not many. -/
theorem told_ok (h : StI X z L) {M : List (Int × Int)} (hn : M.Nodup) (hm : ∀ k ∈ M, 1 ≤ cntX X k) : Told (fun L L' => L'.Perm L ∧ L'.Pairwise fun x y => ¬ plL y x) M := by
  refine Told.all (fun k hk => ?_) ?_
  · obtain ⟨c, hc, rfl⟩ := live_ex h.rel (hm k hk)
    exact h.bd c hc
  · have h1 := nodup_len M (L.map Rc.pl) hn fun k hk => by
      obtain ⟨c, hc, rfl⟩ := live_ex h.rel (hm k hk)
      exact List.mem_map.2 ⟨c, hc, rfl⟩
    have h2 := h.rel.len h.sm
    rw [List.length_map] at h1
    omega
theorem putR_small {s : Sp} (h : StI X z L) (hs : okR z s) (hl : 0 ≤ s.h.l) (hb : Bd s.pl) : StI (putP s X s.h.c.toNat).1 z (putR L s) := by
  have hr := h.rel.put hs hl
  refine ⟨hr, fun ns => ?_, fun c hc => ?_⟩
  · have a := h.sm ns
    have b := h.rel.sz ns
    have d := hr.sz ns
    omega
  · unfold putR at hc
    rcases List.mem_append.1 hc with hc | hc
    · obtain ⟨d, hd, rfl⟩ := List.mem_map.1 hc
      unfold updR
      split
      · exact hb
      · exact h.bd d hd
    · obtain ⟨t, -, rfl, -⟩ := (addR_mem s c _).1 hc
      exact hb
theorem of_vs {a : Sp} : CallV Try.prog 35 #[a.val] w [.agg SH14] fun rr w' => rr = (a.tup, ()) ∧ Ext w w' := of22_c.mono fun rr w' ⟨h, e⟩ => ⟨Prod.ext h rfl, e⟩
abbrev stR (E : Nat → Prop) (w0 : World) (p r : Nat) : (Int × Int × Int × Int × SlV × Unit) × Bool × Unit → World → Prop := fun rr w' => ∃ (X' : List (SlP Ce)) (z' : Sz) (y' : SlV) (L' : List Rc), StI X' z' L' ∧ rr = ((z'.a, z'.b, z'.c, z'.d, y', ()), true, ()) ∧ Sep E w0 w' (stQ p r X' y' L')
theorem step_c (h : StI X z L) (hl : lgt st) (hu : 0 ≤ st.s.h.l ∧ st.s.h.l < 4294967296) (hm : Sep E w0 w (stQ p r X y L)) :
    CallV Try.prog 42 #[.pointer (some ⟨p, 0, none⟩), rmV z y, st.val] w [.agg [.int .i64, .int .i64, .int .i64, .int .i64, .sl], .one .bool] (stR E w0 p r) := by
  have S := hm
  have h4 := h.rel.ok.four
  have hlen := h.rel.len h.sm
  have hyn : L.length = y.n := (S.own 3 rfl).lenF Rc_len (by decide)
  have hzr : ∀ n, 0 ≤ z.get n ∧ z.get n ≤ 65535 := fun n => by have := h.rel.sz n; have := h.sm n; omega
  apply law22_step.vc
  unfold law22_step.P
  refine S.newB (vs := rmL z y) fun b1 w1 S f1 _ => ?_
  refine S.newB (vs := st.vs) fun b3 w1 S f1 _ => ?_
  refine S.newB fun b5 w1 S f1 _ => ?_
  refine S.ld1 (j := 0) rfl rfl (cond_eq (fun _ => ?_) (fun _ => ?_))
  · /- a namespace more -/
    refine S.la2 rfl (S.la1 rfl ?_)
    have S := S.sel [3, 3, 3, 3, 0, 0, 0] rfl
    refine Sep.call [_, _, _, _] (Ts := [_, _, _]) S (fun G SG => add_c (st := st) h hl SG) fun G fr rr w2 hr => ?_
    obtain ⟨X', z', h', h1, h2, S2⟩ := hr
    obtain ⟨r1, r2, ⟨⟩⟩ := rr
    dsimp only at h1 h2
    subst h1; subst h2
    have S := fr _ _ S2
    have S := S.sel [4, 0, 0, 0, 0, 0, 0] rfl
    exact S.st0 (by rfl) fun w3 S f3 => S.la0 rfl ⟨X', z', y, L, h', rfl, S.sel [1, 1, 1, 1] rfl⟩
  have out : ∀ {w' : World}, Sep E w0 w' [BoxA b5 81 (rmL z y), BoxA b3 84 st.vs, BoxA b1 81 (rmL z y), boxP p r X, MapF r (cntX X), ownsA X, OwnA 93 16 y.a y.n y.c (L.flatMap Rc.vs)] → stR E w0 p r ((z.a, z.b, z.c, z.d, y, ()), true, ()) w' := fun S =>
    ⟨X, z, y, L, h, rfl, S.sel [3, 3, 3, 3] rfl⟩
  refine cond_eq (fun _ => ?_) (fun _ => ?_)
  · /- a namespace less -/
    refine S.ld1 (j := 1) rfl rfl ?_
    have S := S.sel [3, 3, 3, 0, 0, 0, 0] rfl
    refine Sep.call [_, _, _] (Ts := [_, _, _, _]) S (fun G SG => Drop22_c (ns := st.n) (T := fun L L' => L'.Perm L ∧ L'.Pairwise fun x y => ¬ plL y x) h.rel.ok (fun M h1 h2 => told_ok h h1 fun k hk => ((h2 k).1 hk).1) SG) fun G fr rr w2 hr => ?_
    obtain ⟨h0, h1⟩ := hr
    by_cases hz : (getX X st.n).n = 0
    · obtain ⟨e1, e2, S2⟩ := h0 hz
      have S := fr _ _ S2
      have S := S.sel [3, 3, 3, 0, 0, 0, 0] rfl
      obtain ⟨rl, re, ⟨⟩⟩ := rr
      dsimp only at e1 e2 ⊢
      subst e1; subst e2
      refine S.ld1 (j := 1) rfl rfl (cond_d (fun (g : st.n < 0) => ?_) (fun (g1 : ¬ st.n < 0) => ?_))
      · exact S.la2 rfl (cond_t rfl (S.st0 (by rfl) fun w3 S f3 => S.la0 rfl (out S)))
      refine S.ld1 (j := 1) rfl rfl (cond_d (fun (g : st.n > 3) => ?_) (fun (g2 : ¬ st.n > 3) => ?_))
      · exact S.la2 rfl (cond_t rfl (S.st0 (by rfl) fun w3 S f3 => S.la0 rfl (out S)))
      have hn : 0 ≤ st.n ∧ st.n < 4 := by omega
      refine S.ld1 (j := 1) rfl rfl ⟨hn, szLd 2 st.n S rfl hn (cond_eq (fun _ => ?_) (fun (g : z.get st.n ≠ 0) => absurd (by rw [h.rel.sz, hz]; rfl) g))⟩
      exact S.la2 rfl (cond_t rfl (S.st0 (by rfl) fun w3 S f3 => S.la0 rfl (out S)))
    obtain ⟨e2, M, L', hM1, hM2, ⟨hL1, hL2⟩, S2⟩ := h1 hz
    have hn : 0 ≤ st.n ∧ st.n < 4 := by
      refine Classical.byContradiction fun e => hz ?_
      unfold getX; rw [if_neg e]; rfl
    have S := fr _ _ S2
    obtain ⟨rl, re, ⟨⟩⟩ := rr
    dsimp only at e2 S ⊢
    subst e2
    have S := S.sel [4, 4, 4, 0, 0, 0, 0, 0] rfl
    refine S.ld1 (j := 1) rfl rfl (cond_d (fun (g : st.n < 0) => by omega) (fun (g1 : ¬ st.n < 0) => ?_))
    refine S.ld1 (j := 1) rfl rfl (cond_d (fun (g : st.n > 3) => by omega) (fun (g2 : ¬ st.n > 3) => ?_))
    refine S.ld1 (j := 1) rfl rfl ⟨hn, szLd 2 st.n S rfl hn (cond_eq (fun (g : z.get st.n = 0) => absurd g (by rw [h.rel.sz]; omega)) (fun (g : z.get st.n ≠ 0) => ?_))⟩
    refine S.la2 rfl (S.ld1 (j := 1) rfl rfl ?_)
    refine (rDrop_c (z := z) (n := st.n) (S.own 7 rfl) (by omega) hn).mono ?_
    rintro ⟨r1, r2, ⟨⟩⟩ w3 ⟨G2, o, hG, hGl, hr1, ho, S3⟩
    dsimp only at hr1 S3 ⊢
    subst hr1
    have hrel := h.rel.drop hn
    have hLG : L' = G2 := told_eq h.rel hrel hM1 hM2 hG hL1 hL2
    subst hLG
    have S := S.frame0 S3
    dsimp only [List.cons_append, List.nil_append] at S
    refine S.newB fun b40 w4 S f4 _ => ?_
    refine S.st0 (by rfl) fun w5 S f5 => ?_
    have S := S.sel [0, 2, 4, 0, 0, 0, 0, 0, 0, 0] rfl
    refine fin22 (z := z.clr st.n) (y := o) rfl S rfl fun w6 S => ?_
    refine ⟨_, _, o, _, ⟨hrel, fun ns => ?_, fun c hc => h.bd c (List.mem_filter.1 hc).1⟩, rfl, S.sel [7, 7, 7, 4] rfl⟩
    rw [getX_put h4 hn]
    split
    · exact Nat.zero_le _
    · exact h.sm ns
  refine cond_eq (fun _ => ?_) (fun _ => ?_)
  · /- a spot -/
    refine S.lb1 (o := 3) rfl ?_
    have S := S.sel [3, 3, 3, 0, 0, 0, 0] rfl
    have hI : okS X st.s → PutI st.s X st.s.h.c.toNat (putP st.s X st.s.h.c.toNat).1 (putP st.s X st.s.h.c.toNat).2 := fun hk => by
      have hk' := (okRS h.rel st.s).2 hk
      obtain ⟨a1, a2, a3, a4, a5⟩ := hk'
      rw [h.rel.sz] at a4 a5
      exact putP_inv h.rel.ok a1 _ (by omega)
    refine Sep.call [_, _, _] (Ts := [_, _, _, _]) S (fun G SG => Put22_c (s := st.s) (T := fun L L' => L'.Perm L ∧ L'.Pairwise fun x y => ¬ plL y x) hu h.rel.ok (fun hk => told_ok h (hI hk).nd fun k hk2 => (((hI hk).mem k).1 hk2).1) SG) fun G fr rr w2 hr => ?_
    obtain ⟨h0, h1⟩ := hr
    obtain ⟨rl, re, ⟨⟩⟩ := rr
    dsimp only at h0 h1 ⊢
    by_cases hk : okS X st.s
    case neg =>
      obtain ⟨e1, e2, S2⟩ := h0 hk
      subst e1; subst e2
      have S := fr _ _ S2
      have S := S.sel [3, 3, 3, 0, 0, 0, 0] rfl
      refine S.reg fun D hD hkeep S U => ⟨hD _ S.bl2, S.la2 rfl ⟨hD _ S.bl1, S.lb1 (o := 3) rfl ?_⟩⟩
      refine (of_vs (a := st.s)).mono ?_
      rintro _ w3 ⟨rfl, x3⟩
      refine ⟨hkeep _ (.of x3), ?_⟩
      have S := S.stepE x3
      refine (rRight_c (z := z) (y := y) (s := st.s) hzr hu).mono ?_
      rintro ⟨rb, ⟨⟩⟩ w4 ⟨x4, h5⟩
      dsimp only at h5 ⊢
      subst h5
      refine ⟨hkeep _ (.of (x3.trans x4)), ?_⟩
      have S := S.stepE x4
      refine cond_t (by rw [decide_eq_false (fun e => hk ((okRS h.rel st.s).1 e))]; rfl) ?_
      exact S.la2 rfl (cond_t rfl (S.st0 (by rfl) fun w3 S f3 => S.la0 rfl (out S)))
    obtain ⟨e2, L', ⟨hL1, hL2⟩, S2⟩ := h1 hk
    subst e2
    have hkr := (okRS h.rel st.s).2 hk
    have I := hI hk
    have S := fr _ _ S2
    have S := S.sel [4, 4, 4, 0, 0, 0, 0, 0] rfl
    have hst := putR_small h hkr hu.1 hl.2.1
    refine S.reg fun D hD hkeep S U => ⟨hD _ S.bl2, S.la2 rfl ⟨hD _ S.bl1, S.lb1 (o := 3) rfl ?_⟩⟩
    refine (of_vs (a := st.s)).mono ?_
    rintro _ w3 ⟨rfl, x3⟩
    refine ⟨hkeep _ (.of x3), ?_⟩
    have S := S.stepE x3
    refine (rRight_c (z := z) (y := y) (s := st.s) hzr hu).mono ?_
    rintro ⟨rb, ⟨⟩⟩ w4 ⟨x4, h5⟩
    dsimp only at h5 ⊢
    subst h5
    refine ⟨hkeep _ (.of (x3.trans x4)), ?_⟩
    have S := S.stepE x4
    refine cond_f (by rw [decide_eq_true hkr]; rfl) ?_
    clear hD hkeep U x3 x4
    have hc40 : st.s.h.c ≤ 40 := by
      have a := hkr.2.2.2.1
      have b := h.rel.sz st.s.h.n
      have d := h.sm st.s.h.n
      omega
    have hc1 : 1 ≤ st.s.h.c := hkr.2.2.1
    refine S.reg fun D hD hkeep S U => ⟨hD _ S.bl2, S.la2 rfl ⟨hD _ S.bl1, S.lb1 (o := 3) rfl ⟨?_, ?_⟩⟩⟩
    · refine (of_vs (a := st.s)).mono ?_
      rintro _ w3 ⟨rfl, x3⟩
      have S := S.stepE x3
      have U := U.stepE x3
      refine ⟨hkeep _ U.fr, ?_, ?_⟩
      · refine (rPut_c (z := z) (s := st.s) (S.own 7 rfl) (by omega) hu ⟨hc1, by omega⟩ (by omega)).mono ?_
        rintro ⟨r1, r2, ⟨⟩⟩ w5 ⟨G2, o, hG, hGl, hr1, ho, S3⟩
        dsimp only at hr1 S3 ⊢
        subst hr1
        have U := U.step0 S3.fr
        refine ⟨hkeep _ U.fr, ?_⟩
        have S := S.frame0 S3
        dsimp only [List.cons_append, List.nil_append] at S
        have hsz := U.fr.size
        refine S.newB fun b40 w6 S f6 hb => ?_
        have U := U.step0 f6
        refine ⟨hkeep _ U.fr, ?_⟩
        refine S.st0 (by rfl) fun w7 S f7 => ?_
        refine ⟨hkeep _ (U.fr.trans' f7 fun kk e => by subst e; exact .inr (by omega)), ?_⟩
        have hLG : G2 = L' := (told_eq h.rel hst.rel I.nd I.mem hG hL1 hL2).symm
        subst hLG
        have S := S.sel [0, 2, 4, 0, 0, 0, 0, 0, 0, 0, 0] rfl
        exact fin22 (z := z) (y := o) rfl S rfl fun w8 S => ⟨_, z, o, _, hst, rfl, S.sel [7, 7, 7, 4] rfl⟩
      · have hsz := U.fr.size
        refine S.newB fun b40 w6 S f6 hb => ?_
        have U := U.step0 f6
        refine ⟨hkeep _ U.fr, ?_⟩
        refine (rPut_c (z := z) (s := st.s) (S.own 8 rfl) (by omega) hu ⟨hc1, by omega⟩ (by omega)).mono ?_
        rintro ⟨r1, r2, ⟨⟩⟩ w5 ⟨G2, o, hG, hGl, hr1, ho, S3⟩
        dsimp only at hr1 S3 ⊢
        subst hr1
        have U := U.step0 S3.fr
        refine ⟨hkeep _ U.fr, ?_⟩
        have S := S.frame0 S3
        dsimp only [List.cons_append, List.nil_append] at S
        have S := S.sel [2, 0, 0, 0, 0, 0, 0, 0, 0, 0, 0] rfl
        refine S.st0 (by rfl) fun w7 S f7 => ?_
        refine ⟨hkeep _ (U.fr.trans' f7 fun kk e => by subst e; exact .inr (by omega)), ?_⟩
        have hLG : G2 = L' := (told_eq h.rel hst.rel I.nd I.mem hG hL1 hL2).symm
        subst hLG
        have S := S.sel [0, 2, 4, 0, 0, 0, 0, 0, 0, 0, 0] rfl
        exact fin22 (z := z) (y := o) rfl S rfl fun w8 S => ⟨_, z, o, _, hst, rfl, S.sel [7, 7, 7, 4] rfl⟩
    · have hsz := U.fr.size
      refine S.newB fun b40 w6 S f6 hb => ?_
      have U := U.step0 f6
      refine ⟨hkeep _ U.fr, ?_⟩
      refine (of_vs (a := st.s)).mono ?_
      rintro _ w3 ⟨rfl, x3⟩
      have S := S.stepE x3
      have U := U.stepE x3
      refine ⟨hkeep _ U.fr, ?_⟩
      refine (rPut_c (z := z) (s := st.s) (S.own 8 rfl) (by omega) hu ⟨hc1, by omega⟩ (by omega)).mono ?_
      rintro ⟨r1, r2, ⟨⟩⟩ w5 ⟨G2, o, hG, hGl, hr1, ho, S3⟩
      dsimp only at hr1 S3 ⊢
      subst hr1
      have U := U.step0 S3.fr
      refine ⟨hkeep _ U.fr, ?_⟩
      have S := S.frame0 S3
      dsimp only [List.cons_append, List.nil_append] at S
      have S := S.sel [2, 0, 0, 0, 0, 0, 0, 0, 0, 0, 0] rfl
      refine S.st0 (by rfl) fun w7 S f7 => ?_
      refine ⟨hkeep _ (U.fr.trans' f7 fun kk e => by subst e; exact .inr (by omega)), ?_⟩
      have hLG : G2 = L' := (told_eq h.rel hst.rel I.nd I.mem hG hL1 hL2).symm
      subst hLG
      have S := S.sel [0, 2, 4, 0, 0, 0, 0, 0, 0, 0, 0] rfl
      exact fin22 (z := z) (y := o) rfl S rfl fun w8 S => ⟨_, z, o, _, hst, rfl, S.sel [7, 7, 7, 4] rfl⟩
  /- a place moved -/
  refine S.lb1 (o := 3) rfl (S.lb1 (o := 17) rfl (S.lb1 (o := 11) rfl ?_))
  have S := S.sel [3, 3, 3, 0, 0, 0, 0] rfl
  refine Sep.call [_, _, _] (Ts := [_, _, _, _]) S (fun G SG => Move22_c (f := st.s.pl) (t := st.t) (o := st.s.o) h.rel.ok SG) fun G fr rr w2 hr => ?_
  obtain ⟨h0, h1⟩ := hr
  obtain ⟨re, ⟨⟩⟩ := rr
  dsimp only at h0 h1 ⊢
  have hft : ∀ {P : Prop} [Decidable P], (P ↔ st.s.pl = st.t) → decide P = decide (st.s.pl = st.t) := fun h => decide_eq_decide.2 h
  have hft2 : (st.s.b = st.t.1 ∧ st.s.p = st.t.2) ↔ st.s.pl = st.t := ⟨fun h => Prod.ext h.1 h.2, fun h => by rw [← h]; exact ⟨rfl, rfl⟩⟩
  have hct := h.rel.cnt st.t
  by_cases hno : st.s.pl ≠ st.t ∧ 0 < cntX X st.t
  · obtain ⟨e1, S2⟩ := h0 hno
    subst e1
    have S := fr _ _ S2
    have S := S.sel [3, 3, 3, 0, 0, 0, 0] rfl
    refine S.lb1 (o := 3) rfl (S.lb1 (o := 17) rfl (eqPl ?_))
    refine cond_t (by rw [decide_eq_false (fun e => hno.1 (hft2.1 e))]; rfl) ?_
    refine S.la2 rfl (S.lb1 (o := 17) rfl ?_)
    refine (rRefs_c (z := z) (k1 := st.t.1) (k2 := st.t.2) (S.own 6 rfl) (by omega)).mono ?_
    rintro ⟨rr, ⟨⟩⟩ w3 ⟨x3, h3⟩
    dsimp only at h3 ⊢
    subst h3
    have S := S.stepE x3
    have hg : 0 < cntR L st.t := by omega
    have hg : 0 < cntR L (st.t.1, st.t.2) := hg
    refine cond_d (fun _ => ?_) (fun g => absurd (by omega) g)
    exact S.la2 rfl (S.st0 (by rfl) fun w3 S f3 => S.la0 rfl (out S))
  obtain ⟨e1, S2⟩ := h1 hno
  subst e1
  have S := fr _ _ S2
  have S := S.sel [3, 3, 3, 0, 0, 0, 0] rfl
  have hrel := h.rel.move (f := st.s.pl) (t := st.t) (o := st.s.o)
  have hst : StI (movX st.s.pl st.t st.s.o X) z (L.map (movR st.s.pl st.t st.s.o)) := by
    refine ⟨hrel, fun ns => by rw [getX_mov _ _ _ _ h4]; exact h.sm ns, fun c hc => ?_⟩
    obtain ⟨d, hd, rfl⟩ := List.mem_map.1 hc
    unfold movR
    split
    · exact hl.2.2
    · exact h.bd d hd
  refine S.lb1 (o := 3) rfl (S.lb1 (o := 17) rfl (eqPl ?_))
  by_cases hft3 : st.s.b = st.t.1 ∧ st.s.p = st.t.2
  · rw [decide_eq_true hft3]
    refine cond_f rfl ?_
    refine S.la2 rfl (S.lb1 (o := 3) rfl (S.lb1 (o := 17) rfl (S.lb1 (o := 11) rfl ?_)))
    refine (rMove_c (z := z) (p1 := st.s.b) (p2 := st.s.p) (t1 := st.t.1) (t2 := st.t.2) (o := st.s.o) (S.own 6 rfl) (by omega)).mono ?_
    rintro ⟨r1, ⟨⟩⟩ w4 ⟨u, hr1, hun, S3⟩
    dsimp only at hr1 ⊢
    subst hr1
    have S := S.frame0 S3
    dsimp only [List.cons_append, List.nil_append] at S
    have S := S.sel [1, 0, 0, 0, 0, 0, 0, 0] rfl
    exact S.st0 (by rfl) fun w5 S f5 => S.la0 rfl ⟨_, z, u, _, hst, rfl, S.sel [4, 4, 4, 1] rfl⟩
  · rw [decide_eq_false hft3]
    refine cond_t rfl ?_
    refine S.la2 rfl (S.lb1 (o := 17) rfl ?_)
    refine (rRefs_c (z := z) (k1 := st.t.1) (k2 := st.t.2) (S.own 6 rfl) (by omega)).mono ?_
    rintro ⟨rr, ⟨⟩⟩ w3 ⟨x3, h3⟩
    dsimp only at h3 ⊢
    subst h3
    have S := S.stepE x3
    have hg : ¬ 0 < cntR L (st.t.1, st.t.2) := fun e => hno ⟨fun e2 => hft3 (hft2.2 e2), by have h9 : 0 < cntR L st.t := e; omega⟩
    refine cond_d (fun g => absurd (by omega) hg) (fun _ => ?_)
    refine S.la2 rfl (S.lb1 (o := 3) rfl (S.lb1 (o := 17) rfl (S.lb1 (o := 11) rfl ?_)))
    refine (rMove_c (z := z) (p1 := st.s.b) (p2 := st.s.p) (t1 := st.t.1) (t2 := st.t.2) (o := st.s.o) (S.own 6 rfl) (by omega)).mono ?_
    rintro ⟨r1, ⟨⟩⟩ w4 ⟨u, hr1, hun, S3⟩
    dsimp only at hr1 ⊢
    subst hr1
    have S := S.frame0 S3
    dsimp only [List.cons_append, List.nil_append] at S
    have S := S.sel [1, 0, 0, 0, 0, 0, 0, 0] rfl
    exact S.st0 (by rfl) fun w5 S f5 => S.la0 rfl ⟨_, z, u, _, hst, rfl, S.sel [4, 4, 4, 1] rfl⟩
end
end Go.Proofs.Ytiemdjnmghackaa.Vc

/-! The contracts of layer 22 (pagemap): does a map tell what the document's does. -/
namespace Go.Proofs.Ytiemdjnmghackaa.Vc
open Go Go.Eng Go.RowKit
set_option linter.unusedVariables false
set_option linter.unusedSimpArgs false
section
variable {E : Nat → Prop} {w0 w : World} {p r : Nat} {X : List (SlP Ce)} {z : Sz} {y : SlV} {L : List Rc}
theorem same_c {ns : Int} (h : StI X z L) (S : Sep E w0 w (stQ p r X y L)) : CallV Try.prog 45 #[.pointer (some ⟨p, 0, none⟩), rmV z y, .int .i64 ns] w [.one .bool] fun rr w' => Ext w w' ∧ rr.1 = true := by
  have h4 := h.rel.ok.four
  have hlen := h.rel.len h.sm
  have hyn : L.length = y.n := (S.own 3 rfl).lenF Rc_len (by decide)
  apply law22_same.vc
  unfold law22_same.P
  have T := Sep.start NoB w
  refine T.newB (vs := rmL z y) fun b1 w1 T f1 _ => ?_
  refine ⟨fun v w' => v.1 = z.get ns ∧ Sep NoB w w' [BoxA b1 81 (rmL z y)], ?_, ?_⟩
  case refine_2 =>
    have hz : ¬ (0 ≤ ns ∧ ns < 4) → z.get ns = 0 := fun e => by
      rw [h.rel.sz]; unfold getX; rw [if_neg e]; rfl
    refine cond_d (fun (g1 : ns ≥ 0) => cond_d (fun (g2 : ns < 4) => ?_) (fun (g2 : ¬ ns < 4) => ⟨(hz (by omega)).symm, T⟩)) (fun (g1 : ¬ ns ≥ 0) => ⟨(hz (by omega)).symm, T⟩)
    exact ⟨⟨by omega, g2⟩, szLd 0 ns T rfl ⟨by omega, g2⟩ ⟨rfl, T⟩⟩
  clear T
  rintro ⟨(v : Int), ⟨⟩⟩ w2 ⟨hv, T⟩
  dsimp only at hv ⊢
  subst hv
  have hsz := h.rel.sz ns
  have hsm := h.sm ns
  refine T.reg fun D hD hkeep T U => ?_
  refine (Size22_c (ns := ns) h4 (toQ ((S.stepE T.ext).sel [0, 0, 0] rfl))).mono ?_
  rintro ⟨(n : Int), ⟨⟩⟩ w3 ⟨hn, e3⟩
  subst e3
  dsimp only at hn ⊢
  subst hn
  refine ⟨hkeep _ U.fr, cond_ne (fun g => absurd hsz.symm g) fun _ => ⟨hD _ T.bl0, T.la0 rfl ?_⟩⟩
  refine (Data22_c (ns := ns) h.rel.ok ((S.stepE T.ext).sel [0, 0, 0] rfl)).mono ?_
  rintro ⟨(d : Int), ⟨⟩⟩ w4 ⟨x4, hd⟩
  dsimp only at hd ⊢
  subst hd
  have T := T.stepE x4
  have U := U.stepE x4
  refine ⟨hkeep _ U.fr, ?_⟩
  refine (rData_c (z := z) (n := ns) ((S.stepE T.ext).own 3 rfl) (by omega)).mono ?_
  rintro ⟨(d : Int), ⟨⟩⟩ w5 ⟨x5, hd⟩
  dsimp only at hd ⊢
  subst hd
  have T := T.stepE x5
  have U := U.stepE x5
  refine ⟨hkeep _ U.fr, cond_ne (fun g => absurd (by rw [h.rel.dat]) g) fun _ => ?_⟩
  clear hkeep hD U
  refine Loop1 (fun (v : Int × Unit) w' => -1 ≤ v.1 ∧ v.1 ≤ z.get ns + 1 ∧ Sep NoB w w' [BoxA b1 81 (rmL z y)]) (fun (v : Int × Unit) _ => (z.get ns + 1 - v.1).toNat) ⟨by omega, by show (-1 : Int) ≤ _; omega, T⟩ ?_
  clear T
  rintro ⟨(i : Int), ⟨⟩⟩ w6 ⟨hi1, hi2, T⟩
  dsimp only at hi1 hi2 ⊢
  refine cond_d (fun hlt => ?_) (fun hge => ⟨T.ext, rfl⟩)
  have rg : Rng .i64 (i + 1) := Rng.i64 (by omega) (by omega)
  refine (Get22_c (ns := ns) (i := i) h4 (toQ ((S.stepE T.ext).sel [0, 0, 0] rfl))).mono ?_
  rintro ⟨_, (b : Bool), ⟨⟩⟩ w7 ⟨g1, g1', x7⟩
  dsimp only at g1 g1' ⊢
  subst g1; subst g1'
  have T := T.stepE x7
  refine T.newB fun b19 w8 T f8 _ => ?_
  refine T.st0 (by rfl) fun w9 T f9 => T.la1 rfl ?_
  refine (rPlace_c (z := z) (ns := ns) (lba := i) ((S.stepE T.ext).own 3 rfl) (by omega)).mono ?_
  rintro ⟨(pr : Int), ⟨⟩⟩ w10 ⟨x10, hp⟩
  dsimp only at hp ⊢
  have T := T.stepE x10
  refine T.reg fun D hD hkeep T U => ?_
  obtain ⟨at1, at2⟩ := h.rel.at (ns := ns) (lba := i)
  rcases hp with ⟨hp, hno⟩ | ⟨j, c, hp, hc, hk⟩
  · have hp : pr = -1 := hp
    subst hp
    have hh := at1 hno
    refine cond_f (by rw [hh]; rfl) (cond_f hh (cond_t (by rw [hh]; rfl) ⟨hD _ T.bl0, T.la0 rfl ?_⟩))
    rw [hh] at *
    refine eqSp (a := Sp0) (b := Sp0) (cond_f (by simp) ?_)
    exact ⟨rg, ⟨by omega, by omega, T.tail⟩, by omega⟩
  · have hp : pr = (j : Int) := hp
    subst hp
    have hg := at2 c (List.mem_of_getElem? hc) hk
    have hh : (getC X ns i).has = true := by rw [hg]
    have hjl : j < y.n := by have := (List.getElem?_eq_some_iff.1 hc).1; omega
    refine cond_f (by rw [hh, decide_eq_true (show (j : Int) ≥ 0 by omega)]; rfl) (cond_t hh ?_)
    obtain ⟨q, c', hq, hc', hcc, hqb⟩ := ((S.stepE T.ext).own 3 rfl).nthF Rc_len (by decide) (j := (j : Int)) (by omega) (by omega)
    rw [Int.toNat_natCast] at hc'
    rw [hc] at hc'
    cases hc'
    have hs : (if (getC X ns i).has = true then (getC X ns i).s else Sp0) = c.s := by rw [if_pos hh, hg]
    rw [hs] at T
    refine ⟨hD _ T.bl0, T.la0 rfl ⟨hD _ T.bl1, T.ld1 (j := 4) rfl rfl ⟨⟨by omega, by omega⟩, q, hq, ⟨hD _ (by rw [add_block, add_block]; exact hqb), c.s.tup, (hcc.drop 2).take 14, ?_⟩⟩⟩⟩
    refine (of_vs (a := c.s)).mono ?_
    rintro _ w11 ⟨rfl, x11⟩
    have T := T.stepE x11
    refine ⟨hkeep _ (.of x11), eqRp (a := c.s) (b := c.s) (cond_f (by simp) (cond_f (by rw [hh]; rfl) ?_))⟩
    exact ⟨rg, ⟨by omega, by omega, T.tail⟩, by omega⟩
end
end Go.Proofs.Ytiemdjnmghackaa.Vc
