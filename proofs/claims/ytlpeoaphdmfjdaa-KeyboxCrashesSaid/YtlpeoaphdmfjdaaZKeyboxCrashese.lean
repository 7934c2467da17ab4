/- Texts in one: Plain laws of layer 20 (keybox): a Commit, whatever fails. Plain laws of layer 20 (keybox): Commits, and an Open behind them. Layer 20 (keybox): KeyboxCrashes. -/
import Derived.Test.YtlpeoaphdmfjdaaZKeyboxCrashesd

set_option linter.unusedVariables false
set_option linter.unusedSimpArgs false
/-! Plain laws of layer 20 (keybox): a Commit, whatever fails. -/
namespace Go.Proofs.Ytlpeoaphdmfjdaa.Vc
open Go Go.Eng Go.RowKit
theorem ds_hf {B : KB} {k : Int} (h : (dsK B k).1.hf = false) : B.hf = false := by
  unfold dsK at h
  split at h
  · split at h
    · exact (Bool.or_eq_false_iff.1 h).1
    · exact (Bool.or_eq_false_iff.1 h).1
  · split at h
    · exact h
    · exact h
theorem ty2_hf {B : KB} {k : Int} {l : List (List Int)} (h : (ty2K B k l).1.hf = false) : B.hf = false := by
  unfold ty2K at h
  split at h
  · exact h
  · exact ds_hf (B := { B with C := (wrK B.C k l).1, cl := B.cl.set k.toNat false, bd := B.bd.set k.toNat true }) h
theorem ty_hf {B : KB} {k : Int} {l : List (List Int)} (h : (tyK B k l).1.hf = false) : B.hf = false := by
  unfold tyK at h
  split at h
  · exact ty2_hf h
  split at h
  · exact ds_hf (ty2_hf h)
  · exact ds_hf h
theorem ot_hf : ∀ {n : Nat} {B : KB}, (otK n B).1.hf = false → B.hf = false
  | 0, B, h => h
  | n + 1, B, h => by
    unfold otK at h
    split at h
    · exact ot_hf h
    split at h
    · exact ds_hf h
    · exact ds_hf (ot_hf h)
theorem cm_hf {l : List (List Int)} {gen : Int} : ∀ {n : Nat} {B : KB}, (cmK l gen n B).1.hf = false → B.hf = false
  | 0, B, h => h
  | n + 1, B, h => by
    unfold cmK at h
    split at h
    · exact cm_hf h
    split at h
    · exact ty_hf (ot_hf (B := (tyK B _ l).1.at _ gen) h)
    split at h
    · exact ty_hf h
    · exact ty_hf (cm_hf h)
theorem co_hf {B : KB} {rec : List Int} {gen : Int} (h : (coK B rec gen).1.hf = false) : B.hf = false := by
  unfold coK at h
  split at h
  · exact h
  split at h
  · exact cm_hf h
  · exact h
theorem prog_off {C : CD} {k i : Int} {b : List Int} (ho : C.off = false) (h : (progC C k i b).2 ≠ 4) : (progC C k i b).1.off = false := by
  unfold progC at h ⊢
  split
  · rename_i hr
    rw [if_pos hr] at h
    show (codeC C).2.2 = false
    cases hq : (codeC C).2.2
    · rfl
    · exact absurd ((code_off C).2 hq) h
  · exact ho
theorem wrPg_off (k : Int) : ∀ {l : List (List Int)} {i : Int} {C : CD}, C.off = false → (wrPg k l i C).2 ≠ 4 → (wrPg k l i C).1.off = false
  | [], i, C, ho, _ => ho
  | p :: ps, i, C, ho, h => by
    unfold wrPg at h ⊢
    split
    · rename_i h0
      rw [if_pos h0] at h
      exact wrPg_off k (prog_off ho (by omega)) h
    · rename_i h0
      rw [if_neg h0] at h
      exact prog_off ho h
theorem wrK_off {C : CD} {k : Int} {l : List (List Int)} (ho : C.off = false) (h : (wrK C k l).2 ≠ 4) : (wrK C k l).1.off = false := by
  unfold wrK at h ⊢
  split
  · rename_i h0
    rw [if_pos h0] at h
    exact prog_off (wrPg_off k ho (by omega)) h
  · rename_i h0
    rw [if_neg h0] at h
    exact wrPg_off k ho h
section
variable {g : Geo} {B : KB} {G : Int} {r : List Int} {k gen : Int} {rec : List Int}
theorem IN.same {B' : KB} (h : IN g B G r) (hk : 0 ≤ k ∧ k < 4) (hkc : k ≠ B.cu) (s : KSame B B' k) (hK : KI g B') (hcu : B'.cu = B.cu) (hoff : B'.C.off = false) (ho : Oth g B' G k) (hc : B'.c k = true → WrI g (blkC B'.C k) 0) (hl : B'.l k = false) : IN g B' G r := by
  have hb := h.hcu
  refine ⟨hK, hoff, by omega, h.hG, h.hr, ?_, fun j h1 h2 h3 => ?_, fun j h1 h2 h3 => ?_, fun j h1 h2 => ?_⟩
  · rw [hcu]
    unfold pgK
    rw [s.C.oth B.cu (by omega)]
    exact h.cur
  · by_cases hj : j = k
    · subst hj; exact ho
    · rw [hcu] at h3
      have := h.oth j h1 h2 h3
      unfold Oth pgK at this ⊢
      rw [s.C.oth j (by omega), s.b j (by omega)]
      exact this
  · by_cases hj : j = k
    · subst hj; exact hc h3
    · rw [s.C.oth j (by omega)]
      exact h.cln j h1 h2 (by rw [← s.c j (by omega)]; exact h3)
  · by_cases hj : j = k
    · subst hj; exact hl
    · rw [s.l j (by omega)]; exact h.lk j h1 h2
theorem IN.gone {B' : KB} (h : IN g B G r) (hk : 0 ≤ k ∧ k < 4) (hkc : k ≠ B.cu) (s : Same B.C B'.C k) (hl : Low g G (pgK B'.C k)) : FIN g B'.C G r := by
  have hb := h.hcu
  refine ⟨B.cu, ⟨h.hcu, h.ki.cu.2⟩, ?_, fun j h1 h2 h3 => ?_⟩
  · unfold pgK
    rw [s.oth B.cu (by omega)]
    exact h.cur
  · by_cases hj : j = k
    · subst hj; exact hl
    · unfold pgK
      rw [s.oth j (by omega)]
      exact (h.oth j h1 h2 h3).low h.ki ⟨h1, h2⟩
theorem IN.dsk (h : IN g B G r) (hk : 0 ≤ k ∧ k < 4) (hkc : k ≠ B.cu) (ho : B.C.ops + 2 ≤ 1000000) (hb : B.b k = false) (hh : (dsK B k).1.hf = false) :
    ((dsK B k).2 = 4 ∧ FIN g (dsK B k).1.C G r) ∨ (((dsK B k).2 = 0 ∨ (dsK B k).2 = 5) ∧ IN g (dsK B k).1 G r ∧ ((dsK B k).2 = 0 → (dsK B k).1.c k = true ∧ (dsK B k).1.b k = false)) := by
  have hD : Dead g (pgK B.C k) ∨ Old g G (pgK B.C k) := by
    rcases h.oth k hk.1 hk.2 hkc with x | x | x
    · exact .inl x
    · rw [hb] at x; cases x.2
    · exact .inr x
  obtain ⟨a1, a2, a3, a4⟩ := h.ki.ds k (by omega)
  rcases ds_in h.ki h.off hk ho (h.lk k hk.1 hk.2) hD hh with ⟨x1, x2⟩ | ⟨x1, x2, x3, x4, x5, x6⟩
  · exact .inl ⟨x1, h.gone hk hkc (ds_same B k).C x2⟩
  · exact .inr ⟨x1, h.same hk hkc (ds_same B k) a1 a4 x2 x3 x4 x5, fun y => ⟨(x6 y).1, (x6 y).2.1.trans hb⟩⟩
theorem IN.ty2 (h : IN g B G r) (hk : 0 ≤ k ∧ k < 4) (hkc : k ≠ B.cu) (hG : G < gen) (hgen : 0 ≤ gen ∧ gen < 18446744073709551616) (hr : rec.length = 624) (br : Byt rec) (ho : B.C.ops + (nCh g).toNat + 3 ≤ 1000000) (hb : B.b k = false) (hc : B.c k = true) (hh : (ty2K B k (pagesL g rec gen)).1.hf = false) :
    ((ty2K B k (pagesL g rec gen)).2 = 4 ∧ (FIN g (ty2K B k (pagesL g rec gen)).1.C G r ∨ FIN g (ty2K B k (pagesL g rec gen)).1.C gen rec)) ∨
    ((ty2K B k (pagesL g rec gen)).2 = 0 ∧ IN g ((ty2K B k (pagesL g rec gen)).1.at k gen) gen rec) ∨
    ((ty2K B k (pagesL g rec gen)).2 ≠ 0 ∧ (ty2K B k (pagesL g rec gen)).2 ≠ 4 ∧ IN g (ty2K B k (pagesL g rec gen)).1 G r) := by
  have hR : Right g := by have := h.ki.ok.g; rwa [h.ki.gg] at this
  have hgg := h.ki.gg
  have hbb := h.ki.ok.num.1
  have hll := pagesL_length g rec gen
  have hW := h.cln k hk.1 hk.2 hc
  have hW' : WrI B.C.g (blkC B.C k) 0 := by rw [hgg]; exact hW
  have hin : 0 ≤ k ∧ k < B.C.g.b := by omega
  have hbt := pagesL_byt hR br hgen
  obtain ⟨c1, c2, c3, c4, c5⟩ := wrK_ok h.ki.ok k (l := pagesL g rec gen) hbt (by rw [hll]; omega)
  rw [hll] at c4
  have hsm := wrK_same B.C k (pagesL g rec gen)
  have hcl : k.toNat < B.cl.length := by rw [h.ki.cl]; omega
  have hbd : k.toNat < B.bd.length := by rw [h.ki.bd]; omega
  have hcu0 := h.hcu
  have hcul := h.ki.cu.2
  have hdone := (wrK_done (k := k) (rec := rec) (gen := gen) h.ki.ok hin hW' hr br hgen h.off (by rw [hgg]; omega)).2
  have hfail := wrK_fail (k := k) (rec := rec) (gen := gen) h.ki.ok hin hW' hr br hgen (by rw [hgg]; omega)
  rw [hgg] at hdone hfail
  have top : ∀ {C' : CD}, Same B.C C' k → (blkC C' k).pg.take (nCh g).toNat = mkdL g rec gen → ∀ j : Int, 0 ≤ j → j < 4 → j ≠ k → Dead g (pgK C' j) ∨ (Zer g (pgK C' j) ∧ B.b j = true) ∨ Old g gen (pgK C' j) := fun {C'} s hm j h1 h2 h3 => by
    unfold pgK
    rw [s.oth j (by omega)]
    by_cases hj : j = B.cu
    · subst hj
      exact .inr (.inr ⟨r, G, h.hr, h.hG, hG, h.cur⟩)
    · exact (h.oth j h1 h2 hj).mono (by omega)
  have fin : ∀ {C' : CD}, Same B.C C' k → COk C' → (blkC C' k).pg.take (nCh g).toNat = mkdL g rec gen → FIN g C' gen rec := fun {C'} s hok hm => by
    have hKI : KI g { B with C := C' } := ⟨hok, s.g.trans hgg, h.ki.cu, h.ki.cl, h.ki.bd, h.ki.lk⟩
    exact ⟨k, hk, hm, fun j h1 h2 h3 => Oth.low (B := { B with C := C' }) hKI ⟨h1, h2⟩ (top s hm j h1 h2 h3)⟩
  unfold ty2K at hh ⊢
  by_cases h0 : (wrK B.C k (pagesL g rec gen)).2 = 0
  · rw [if_pos (.inl h0)] at hh ⊢
    obtain ⟨d1, d2, d3⟩ := hdone h0
    refine .inr (.inl ⟨h0, ⟨⟨c1, c2.trans hgg, by show -1 ≤ k ∧ k < 4; omega, by show (B.cl.set _ _).length = 4; rw [List.length_set]; exact h.ki.cl, h.ki.bd, h.ki.lk⟩, d1, hk.1, hgen, hr, d3, fun j h1 h2 h3 => top hsm d3 j h1 h2 h3, fun j h1 h2 h3 => ?_, fun j h1 h2 => h.lk j h1 h2⟩⟩)
    have h3 : (B.cl.set k.toNat false).getD j.toNat false = true := h3
    by_cases hj : j = k
    · subst hj
      rw [getD_set_eq hcl] at h3
      cases h3
    · rw [getD_set_ne (by omega)] at h3
      show WrI g (blkC (wrK B.C k (pagesL g rec gen)).1 j) 0
      rw [hsm.oth j (by omega)]
      exact h.cln j h1 h2 h3
  by_cases h4 : (wrK B.C k (pagesL g rec gen)).2 = 4
  · rw [if_pos (.inr h4)] at hh ⊢
    refine .inl ⟨h4, ?_⟩
    rcases hfail h0 with x | x
    · exact .inl (h.gone (B' := { B with C := (wrK B.C k (pagesL g rec gen)).1 }) hk hkc hsm (x.low hR))
    · exact .inr (fin hsm c1 x.2)
  rw [if_neg (fun x => x.elim h0 h4)] at hh ⊢
  have hdead : Dead g (pgK (wrK B.C k (pagesL g rec gen)).1 k) := (hfail h0).resolve_right fun x => h4 x.1
  have hoff := wrK_off h.off h4
  generalize (wrK B.C k (pagesL g rec gen)).1 = C1 at *
  have hK1 : KI g { B with C := C1, cl := B.cl.set k.toNat false, bd := B.bd.set k.toNat true } := ⟨c1, c2.trans hgg, h.ki.cu, by rw [List.length_set]; exact h.ki.cl, by rw [List.length_set]; exact h.ki.bd, h.ki.lk⟩
  have s1 : KSame B { B with C := C1, cl := B.cl.set k.toNat false, bd := B.bd.set k.toNat true } k := ⟨hsm, fun j hj => getD_set_ne hj, fun j hj => getD_set_ne hj, fun j hj => rfl⟩
  obtain ⟨a1, a2, a3, a4⟩ := hK1.ds k (by dsimp only; omega)
  have hh : (dsK { B with C := C1, cl := B.cl.set k.toNat false, bd := B.bd.set k.toNat true } k).1.hf = false := hh
  have sd := s1.trans (ds_same { B with C := C1, cl := B.cl.set k.toNat false, bd := B.bd.set k.toNat true } k)
  have hds := ds_in (G := G) hK1 hoff hk (by dsimp only; omega) (h.lk k hk.1 hk.2) (.inl hdead) hh
  dsimp only
  generalize dsK { B with C := C1, cl := B.cl.set k.toNat false, bd := B.bd.set k.toNat true } k = Z at *
  rcases hds with ⟨x1, x2⟩ | ⟨x1, x2, x3, x4, x5, x6⟩
  · refine .inl ⟨if_pos x1, .inl (h.gone hk hkc sd.C x2)⟩
  · refine .inr (.inr ⟨?_, ?_, h.same hk hkc sd a1 a4 x2 x3 x4 x5⟩)
    · rw [if_neg (by omega)]; omega
    · rw [if_neg (by omega)]; omega
end
end Go.Proofs.Ytlpeoaphdmfjdaa.Vc
/-! Plain laws of layer 20 (keybox): Commits, and an Open behind them. -/
namespace Go.Proofs.Ytlpeoaphdmfjdaa.Vc
open Go Go.Eng Go.RowKit
section
variable {g : Geo} {B : KB} {G : Int} {r : List Int} {k gen : Int} {rec : List Int}
theorem IN.ty (h : IN g B G r) (hk : 0 ≤ k ∧ k < 4) (hkc : k ≠ B.cu) (hG : G < gen) (hgen : 0 ≤ gen ∧ gen < 18446744073709551616) (hr : rec.length = 624) (br : Byt rec) (ho : B.C.ops + (nCh g).toNat + 5 ≤ 1000000) (hb : B.b k = false) (hh : (tyK B k (pagesL g rec gen)).1.hf = false) :
    ((tyK B k (pagesL g rec gen)).2 = 4 ∧ (FIN g (tyK B k (pagesL g rec gen)).1.C G r ∨ FIN g (tyK B k (pagesL g rec gen)).1.C gen rec)) ∨
    ((tyK B k (pagesL g rec gen)).2 = 0 ∧ IN g ((tyK B k (pagesL g rec gen)).1.at k gen) gen rec) ∨
    ((tyK B k (pagesL g rec gen)).2 ≠ 0 ∧ (tyK B k (pagesL g rec gen)).2 ≠ 4 ∧ IN g (tyK B k (pagesL g rec gen)).1 G r) := by
  obtain ⟨a1, a2, a3, a4⟩ := h.ki.ds k (by omega)
  unfold tyK at hh ⊢
  by_cases hc : B.c k = true
  · rw [if_pos hc] at hh ⊢
    exact h.ty2 hk hkc hG hgen hr br (by omega) hb hc hh
  rw [if_neg hc] at hh ⊢
  by_cases h0 : (dsK B k).2 = 0
  · rw [if_pos h0] at hh ⊢
    rcases h.dsk hk hkc (by omega) hb (ty2_hf hh) with x | ⟨-, x2, x3⟩
    · omega
    · exact x2.ty2 hk (by rw [a4]; exact hkc) hG hgen hr br (by omega) (x3 h0).2 (x3 h0).1 hh
  · rw [if_neg h0] at hh ⊢
    rcases h.dsk hk hkc (by omega) hb hh with x | ⟨x1, x2, -⟩
    · exact .inl ⟨x.1, .inl x.2⟩
    · exact .inr (.inr ⟨h0, by omega, x2⟩)
theorem IN.ot : ∀ {n : Nat} {B : KB}, n ≤ 4 → IN g B G r → B.C.ops + 2 * n ≤ 1000000 → (otK n B).1.hf = false → ((otK n B).2 = 4 ∧ FIN g (otK n B).1.C G r) ∨ ((otK n B).2 = 0 ∧ IN g (otK n B).1 G r)
  | 0, B, _, h, _, _ => .inr ⟨rfl, h⟩
  | n + 1, B, hn, h, ho, hh => by
    obtain ⟨a1, a2, a3, a4⟩ := h.ki.ds (3 - n) (by omega)
    unfold otK at hh ⊢
    by_cases hs : skK B (3 - n)
    · rw [if_pos hs] at hh ⊢
      exact IN.ot (by omega) h (by omega) hh
    rw [if_neg hs] at hh ⊢
    have hkc : (3 : Int) - n ≠ B.cu := fun e => hs (.inl e)
    have hb : B.b (3 - n) = false := by
      cases hq : B.b (3 - n)
      · rfl
      · exact absurd (.inr (.inr ⟨hq, h.lk _ (by omega) (by omega)⟩)) hs
    by_cases h4 : (dsK B (3 - n)).2 = 4
    · rw [if_pos h4] at hh ⊢
      rcases h.dsk (k := 3 - n) (by omega) hkc (by omega) hb hh with x | x
      · exact .inl x
      · omega
    · rw [if_neg h4] at hh ⊢
      rcases h.dsk (k := 3 - n) (by omega) hkc (by omega) hb (ot_hf hh) with x | x
      · exact absurd x.1 h4
      · exact IN.ot (by omega) x.2.1 (by omega) hh
def CoR (g : Geo) (X : KB × Int) (G : Int) (r : List Int) (gen : Int) (rec : List Int) : Prop :=
  (X.2 = 4 ∧ (FIN g X.1.C G r ∨ FIN g X.1.C gen rec)) ∨ (X.2 = 0 ∧ IN g X.1 gen rec) ∨ (X.2 ≠ 0 ∧ X.2 ≠ 4 ∧ IN g X.1 G r)
theorem IN.cm (hG : G < gen) (hgen : 0 ≤ gen ∧ gen < 18446744073709551616) (hr : rec.length = 624) (br : Byt rec) : ∀ {n : Nat} {B : KB}, IN g B G r → B.C.ops + n * ((nCh g).toNat + 5) + 8 ≤ 1000000 → (cmK (pagesL g rec gen) gen n B).1.hf = false → CoR g (cmK (pagesL g rec gen) gen n B) G r gen rec
  | 0, B, h, _, _ => .inr (.inr ⟨by show (15 : Int) ≠ 0; omega, by show (15 : Int) ≠ 4; omega, h⟩)
  | n + 1, B, h, ho, hh => by
    rw [Nat.add_mul, Nat.one_mul] at ho
    have hR : Right g := by have := h.ki.ok.g; rwa [h.ki.gg] at this
    have hll := pagesL_length g rec gen
    have hcu := h.hcu
    unfold cmK at hh ⊢
    have hk : 0 ≤ (B.cu + 1 + (3 - n)) % 4 ∧ (B.cu + 1 + (3 - n)) % 4 < 4 := by omega
    generalize (B.cu + 1 + (3 - n)) % 4 = k at hk hh ⊢
    by_cases hs : k = B.cu ∨ B.b k = true
    · rw [if_pos hs] at hh ⊢
      exact IN.cm hG hgen hr br h (by omega) hh
    rw [if_neg hs] at hh ⊢
    have hkc : k ≠ B.cu := fun e => hs (.inl e)
    have hb : B.b k = false := by cases hq : B.b k; rfl; exact absurd (.inr hq) hs
    obtain ⟨a1, a2, a3, a4⟩ := h.ki.ty k (pagesL_byt hR br hgen) (by rw [hll]; omega)
    rw [hll] at a2
    by_cases h0 : (tyK B k (pagesL g rec gen)).2 = 0
    · rw [if_pos h0] at hh ⊢
      have hh1 : (tyK B k (pagesL g rec gen)).1.hf = false := ot_hf (B := (tyK B k (pagesL g rec gen)).1.at k gen) hh
      rcases h.ty hk hkc hG hgen hr br (by omega) hb hh1 with x | x | x
      · omega
      · rcases x.2.ot (n := 4) (by omega) (by show (tyK B k (pagesL g rec gen)).1.C.ops + 2 * 4 ≤ _; omega) hh with z | z
        · exact .inl ⟨z.1, .inr z.2⟩
        · exact .inr (.inl z)
      · exact absurd h0 x.1
    rw [if_neg h0] at hh ⊢
    by_cases h4 : (tyK B k (pagesL g rec gen)).2 = 4
    · rw [if_pos h4] at hh ⊢
      rcases h.ty hk hkc hG hgen hr br (by omega) hb hh with x | x | x
      · exact .inl x
      · exact absurd x.1 h0
      · exact absurd h4 x.2.1
    · rw [if_neg h4] at hh ⊢
      rcases h.ty hk hkc hG hgen hr br (by omega) hb (cm_hf hh) with x | x | x
      · exact absurd x.1 h4
      · exact absurd x.1 h0
      · exact IN.cm hG hgen hr br x.2.2 (by omega) hh
theorem IN.co (h : IN g B G r) (hG : G < gen) (hgen : 0 ≤ gen ∧ gen < 18446744073709551616) (hr : rec.length = 624) (br : Byt rec) (ho : B.C.ops + 200 ≤ 1000000) (hh : (coK B rec gen).1.hf = false) : CoR g (coK B rec gen) G r gen rec := by
  have hR : Right g := by have := h.ki.ok.g; rwa [h.ki.gg] at this
  have hn := (nCh_bd hR).1
  unfold coK at hh ⊢
  rw [if_neg (by rw [h.off]; simp), if_pos hr, h.ki.gg] at hh ⊢
  exact IN.cm hG hgen hr br h (by omega) hh
end
theorem cur_top {C : CD} {G : Int} {r : List Int} (hC : COk C) (h : FIN C.g C G r) (hG : 0 ≤ G ∧ G < 18446744073709551616) (hr : r.length = 624) : 0 ≤ (curK C).1 ∧ (curK C).2.2 = r := by
  obtain ⟨c, hc, h1, h2⟩ := h
  have hR := hC.g
  have hb := hC.num.1
  have hnp : nCh C.g ≤ C.g.p := by unfold Right at hR; exact hR.2.1
  have hbk : ∀ i : Nat, i < 4 → (bksK C 4).getD i [] = (pgK C (i : Int)).take (nCh C.g).toNat := fun i hi => by
    rw [bks_get _ hi, bpK_eq hC (by omega) (by omega)]
  have hno : ∀ i : Nat, i < 4 → (i : Int) ≠ c → (holdS C.g ((bksK C 4).getD i [])).2.2 = true → (holdS C.g ((bksK C 4).getD i [])).1 < G := fun i hi hne ht => by
    rw [hbk i hi] at ht ⊢
    by_cases hh : holds C.g ((pgK C (i : Int)).take (nCh C.g).toNat)
    · rw [holdS_yes hh]
      exact h2 (i : Int) (by omega) (by omega) hne hh
    · rw [holdS_no hh] at ht
      cases ht
  have hcn : ((c.toNat : Nat) : Int) = c := by omega
  have hyes : holdS C.g ((bksK C 4).getD c.toNat []) = (G, r, true) := by
    rw [hbk c.toNat (by omega), hcn]
    rw [show (pgK C c).take (nCh C.g).toNat = mkdL C.g r G from h1]
    exact mkd_holds hR hr hG
  have key : ∀ n : Nat, n ≤ 4 → ((n : Int) ≤ c → (curTo C.g (bksK C 4) n).1 < 0 ∨ (curTo C.g (bksK C 4) n).2.1 < G) ∧ (c < (n : Int) → curTo C.g (bksK C 4) n = (c, G, r)) := by
    intro n
    induction n with
    | zero => exact fun _ => ⟨fun _ => .inl (by show (-1 : Int) < 0; omega), fun h => by omega⟩
    | succ n ih =>
      intro hn
      obtain ⟨i1, i2⟩ := ih (by omega)
      by_cases hcase : (n : Int) = c
      · have e : n = c.toNat := by omega
        subst e
        refine ⟨fun h => by omega, fun _ => ?_⟩
        rw [curTo_yes ⟨by rw [hyes], by rw [hyes]; exact i1 (by omega)⟩, hyes, hcn]
      · by_cases ht : (holdS C.g ((bksK C 4).getD n [])).2.2 = true ∧ ((curTo C.g (bksK C 4) n).1 < 0 ∨ (curTo C.g (bksK C 4) n).2.1 < (holdS C.g ((bksK C 4).getD n [])).1)
        · have hlt := hno n (by omega) hcase ht.1
          rw [curTo_yes ht]
          refine ⟨fun _ => .inr hlt, fun h => ?_⟩
          have := i2 (by omega)
          rw [this] at ht
          have ht2 := ht.2
          dsimp only at ht2
          omega
        · rw [curTo_no ht]
          exact ⟨fun h => i1 (by omega), fun h => i2 (by omega)⟩
  have := (key 4 (by omega)).2 (by omega)
  unfold curK
  rw [this]
  exact ⟨hc.1, rfl⟩
theorem first_IN {C : CD} {gen : Int} {rec : List Int} {hf : Bool} (hC : COk C) (hoff : C.off = false) (hgen : 0 ≤ gen ∧ gen < 18446744073709551616) (hr : rec.length = 624) (h0 : (blkC C 0).pg.take (nCh C.g).toNat = mkdL C.g rec gen) (h : ∀ k : Int, 1 ≤ k → k < 4 → ∃ e, blkC C k = { blankB C.g with er := e }) : IN C.g ⟨C, 0, gen, [false, true, true, true], F4, F4, hf⟩ gen rec := by
  have hfx : ∀ j : Int, 0 ≤ j → j < 4 → F4.getD j.toNat false = false := fun j h1 h2 => by
    rcases (show j = 0 ∨ j = 1 ∨ j = 2 ∨ j = 3 from by omega) with rfl | rfl | rfl | rfl <;> rfl
  refine ⟨⟨hC, rfl, by show -1 ≤ (0 : Int) ∧ (0 : Int) < 4; omega, rfl, rfl, rfl⟩, hoff, Int.le_refl _, hgen, hr, h0, fun j h1 h2 h3 => ?_, fun j h1 h2 h3 => ?_, fun j h1 h2 => hfx j h1 h2⟩
  · have h3 : j ≠ 0 := h3
    obtain ⟨e, he⟩ := h j (by omega) h2
    refine .inl ?_
    show Dead C.g (blkC C j).pg
    rw [he]
    exact blank_dead hC.g e
  · by_cases hj : j = 0
    · subst hj
      cases h3
    · obtain ⟨e, he⟩ := h j (by omega) h2
      show WrI C.g (blkC C j) 0
      rw [he]
      exact WrI.blank _ _
end Go.Proofs.Ytlpeoaphdmfjdaa.Vc
/-! Layer 20 (keybox): KeyboxCrashes. -/
namespace Go.Proofs.Ytlpeoaphdmfjdaa.Vc
open Go Go.Eng Go.RowKit
abbrev lateL (f : SlP TF.T) (n : Int) (i : Nat) : List TF.T := (f.l.take i).filter fun x => decide (x.1 ≥ n)
theorem own_LF {E : Nat → Prop} {w0 w : World} {Rs : List Asr} {e : TypeId} {a : Option Addr} {n c : Nat} {L : List TF.T} (S : Sep E w0 w (OwnA e 3 a n c (L.flatMap TF.vs) :: Rs)) (h : ∀ y ∈ L, TF.rd w All y) : LF.rd w All ⟨a, n, c, L⟩ := by
  have ho := S.own 0 rfl
  have hm := maxLen_eq
  refine ⟨?_, ho.cap, by have := ho.lim; show n ≤ maxLen; omega, .of ho.rd, h⟩
  have := ho.len
  rw [flatF_len (f := TF.vs) (m := 3) (fun x => rfl)] at this
  show L.length = n
  omega
theorem late_q {f : SlP TF.T} {n : Int} {a : Option Addr} {m c : Nat} {k : Nat} (hk : (k : Int) ≤ n) {g : Geo} : QT (newC g (fds ⟨a, m, c, lateL f n f.l.length⟩)) k := fun o ho => by
  show atF (fds ⟨a, m, c, lateL f n f.l.length⟩) ((0 + o : Nat) : Int) = none
  unfold atF
  refine List.find?_eq_none.2 fun d hd => ?_
  obtain ⟨x, hx, rfl⟩ := List.mem_map.1 hd
  have h2 : n ≤ x.1 := of_decide_eq_true (List.mem_filter.1 hx).2
  rw [TF_dat]
  intro hb
  have hb : @Eq Int x.1 ((0 + o : Nat) : Int) := eq_of_beq hb
  have h2 : @LE.le Int _ n x.1 := h2
  omega
theorem code4 {C : CD} (h : (codeC C).1 = 4) : (codeC C).2.2 = true := by
  unfold codeC at h ⊢
  cases hq : atF C.pl (C.ops : Int) with
  | none => rw [hq] at h; exact absurd h (by decide)
  | some f =>
    rw [hq] at h
    dsimp only at h ⊢
    cases hf : f.2.1
    · rw [hf] at h; simp at h
    · rfl
theorem may4 {C : CD} {k : Int} (h : mayC C k = 4) : C.off = true := by
  unfold mayC at h
  split at h
  · assumption
  · split at h
    · omega
    · omega
theorem era4 {C : CD} {k : Int} (h : (eraC C k).2 = 4) : (eraC C k).1.off = true := by
  unfold eraC at h ⊢
  by_cases hm : mayC C k = 0
  · rw [if_pos hm] at h ⊢; exact code4 h
  · rw [if_neg hm] at h ⊢; exact may4 h
theorem scr4 {C : CD} {k : Int} (h : (scrC C k).2 = 4) : (scrC C k).1.off = true := by
  unfold scrC at h ⊢
  by_cases hm : mayC C k = 0
  · rw [if_pos hm] at h ⊢; exact code4 h
  · rw [if_neg hm] at h ⊢; exact may4 h
theorem prog4 {C : CD} {k i : Int} {b : List Int} (h : (progC C k i b).2 = 4) : (progC C k i b).1.off = true := by
  unfold progC at h ⊢
  by_cases hm : refC C k i b.length = 0
  · rw [if_pos hm] at h ⊢; exact code4 h
  · rw [if_neg hm] at h ⊢
    have h : refC C k i b.length = 4 := h
    unfold refC at h
    split at h
    · assumption
    · split at h
      · omega
      split at h
      · omega
      split at h
      · omega
      · omega
theorem wrPg4 (k : Int) : ∀ {l : List (List Int)} {i : Int} {C : CD}, (wrPg k l i C).2 = 4 → (wrPg k l i C).1.off = true
  | [], i, C, h => by have h : (0 : Int) = 4 := h; omega
  | p :: ps, i, C, h => by
    unfold wrPg at h ⊢
    by_cases h0 : (progC C k i p).2 = 0
    · rw [if_pos h0] at h ⊢; exact wrPg4 k h
    · rw [if_neg h0] at h ⊢; exact prog4 h
theorem wrK4 {C : CD} {k : Int} {l : List (List Int)} (h : (wrK C k l).2 = 4) : (wrK C k l).1.off = true := by
  unfold wrK at h ⊢
  by_cases h0 : (wrPg k l 0 C).2 = 0
  · rw [if_pos h0] at h ⊢; exact prog4 h
  · rw [if_neg h0] at h ⊢; exact wrPg4 k h
theorem ds4 {B : KB} {k : Int} (h : (dsK B k).2 = 4) : (dsK B k).1.C.off = true := by
  unfold dsK at h ⊢
  by_cases h5 : (eraC B.C k).2 = 5
  · rw [if_pos h5] at h ⊢
    by_cases hs : (scrC (eraC B.C k).1 k).2 = 4
    · rw [if_pos hs]; exact scr4 hs
    · rw [if_neg hs] at h; have h : (5 : Int) = 4 := h; omega
  · rw [if_neg h5] at h ⊢
    by_cases h0 : (eraC B.C k).2 = 0
    · rw [if_pos h0] at h; have h : (0 : Int) = 4 := h; omega
    · rw [if_neg h0] at h ⊢; exact era4 h
theorem ty2_4 {B : KB} {k : Int} {l : List (List Int)} (h : (ty2K B k l).2 = 4) : (ty2K B k l).1.C.off = true := by
  unfold ty2K at h ⊢
  by_cases hc : (wrK B.C k l).2 = 0 ∨ (wrK B.C k l).2 = 4
  · rw [if_pos hc] at h ⊢; exact wrK4 h
  · rw [if_neg hc] at h ⊢
    dsimp only at h ⊢
    refine ds4 ?_
    by_cases h4 : (dsK { B with C := (wrK B.C k l).1, cl := B.cl.set k.toNat false, bd := B.bd.set k.toNat true } k).2 = 4
    · exact h4
    · rw [if_neg h4] at h; omega
theorem ty4 {B : KB} {k : Int} {l : List (List Int)} (h : (tyK B k l).2 = 4) : (tyK B k l).1.C.off = true := by
  unfold tyK at h ⊢
  by_cases hc : B.c k = true
  · rw [if_pos hc] at h ⊢; exact ty2_4 h
  rw [if_neg hc] at h ⊢
  by_cases h0 : (dsK B k).2 = 0
  · rw [if_pos h0] at h ⊢; exact ty2_4 h
  · rw [if_neg h0] at h ⊢; exact ds4 h
theorem ot4 : ∀ {n : Nat} {B : KB}, (otK n B).2 = 4 → (otK n B).1.C.off = true
  | 0, B, h => by have h : (0 : Int) = 4 := h; omega
  | n + 1, B, h => by
    unfold otK at h ⊢
    by_cases hs : skK B (3 - n)
    · rw [if_pos hs] at h ⊢; exact ot4 h
    rw [if_neg hs] at h ⊢
    by_cases h4 : (dsK B (3 - n)).2 = 4
    · rw [if_pos h4]; exact ds4 h4
    · rw [if_neg h4] at h ⊢; exact ot4 h
theorem cm4 {l : List (List Int)} {gen : Int} : ∀ {n : Nat} {B : KB}, (cmK l gen n B).2 = 4 → (cmK l gen n B).1.C.off = true
  | 0, B, h => by have h : (15 : Int) = 4 := h; omega
  | n + 1, B, h => by
    unfold cmK at h ⊢
    generalize (B.cu + 1 + (3 - n)) % 4 = k at h ⊢
    by_cases hs : k = B.cu ∨ B.b k = true
    · rw [if_pos hs] at h ⊢; exact cm4 h
    rw [if_neg hs] at h ⊢
    by_cases h0 : (tyK B k l).2 = 0
    · rw [if_pos h0] at h ⊢; exact ot4 h
    rw [if_neg h0] at h ⊢
    by_cases h4 : (tyK B k l).2 = 4
    · rw [if_pos h4]; exact ty4 h4
    · rw [if_neg h4] at h ⊢; exact cm4 h
theorem co4 {B : KB} {rec : List Int} {gen : Int} (h : (coK B rec gen).2 = 4) : (coK B rec gen).1.C.off = true := by
  unfold coK at h ⊢
  by_cases ho : B.C.off = true
  · rw [if_pos ho]; exact ho
  rw [if_neg ho] at h ⊢
  by_cases hr : rec.length = 624
  · rw [if_pos hr] at h ⊢; exact cm4 h
  · rw [if_neg hr] at h; have h : (2 : Int) = 4 := h; omega
theorem KeyboxCrashes_law {w : World} {g : Geo} {f : SlP TF.T} {s0 s1 : Int} (hf : LF.rd w All f) :
    CallV Try.prog 6 #[g.val, .slice f.a f.n f.c, .agg #[.int .u8 s0, .int .u8 s1]] w [.one .bool] fun r w' => r.1 = true ∧ Ext w w' := by
  apply law20_KeyboxCrashes.vc
  unfold law20_KeyboxCrashes.P
  have fin : ∀ {w' : World}, Ext w w' → CallV Try.prog 28 #[] w' [.one .bool] fun r w2 => r.1 = true ∧ Ext w w2 := fun x => awake20_c.mono fun r w5 ⟨h5, x5⟩ => ⟨h5, x.trans x5⟩
  have S := Sep.start NoB w
  refine S.newB fun b1 w1 S f1 _ => S.newB fun b3 w2 S f2 _ => S.la1 rfl (S.newB fun b6 w3 S f3 _ => S.st0 (by rfl) fun w4 S f4 => S.la0 rfl ?_)
  refine (light20_c (g := g) (f := fA24) (s := ⟨none, 0, 0⟩) LF_nil).mono ?_
  rintro ⟨(r : Bool), ⟨⟩⟩ w5 ⟨h5, x5⟩
  dsimp only at h5 ⊢
  have S := (S.stepE x5).tail
  refine cond_of (fun hr => fin S.ext) (fun hr => ?_)
  obtain ⟨hR, -, g1, g2, g3, -⟩ := h5.1 (by cases r; cases hr; rfl)
  refine (rRight12_c (Ty.rd_ext S.ext _ hf)).mono ?_
  rintro ⟨(r : Bool), ⟨⟩⟩ w6 ⟨h6, rfl⟩
  dsimp only at h6 ⊢
  subst h6
  refine cond_of (fun hr => fin S.ext) (fun hr => ?_)
  have hFR : FRight (fds f) := of_decide_eq_true (by cases hq : decide (FRight (fds f)); rw [hq] at hr; cases hr; rfl)
  refine cond_d (fun _ => fin S.ext) (fun hn10 => ?_)
  have hs := hR.sec
  have hN := (nCh_bd hR).1
  refine S.la1 rfl ?_
  refine (rChunks_c (g := g) hs).mono ?_
  rintro ⟨(ch : Int), ⟨⟩⟩ w7 ⟨h7, x7⟩
  dsimp only at h7 ⊢
  have h7 : ch = nCh g := h7
  subst h7
  have S := S.stepE x7
  refine ⟨Rng.i64 (by omega) (by omega), S.newB fun b23 w8 S f8 _ => ?_⟩
  have S := S.asOwn (sz := 3) (n := 0) rfl (by omega) oneAll.nil
  have hfl : f.l.length = f.n := hf.1
  refine Loop1 (fun (v : SlV × Int × Unit) w' => ∃ i : Nat, v.2.1 = (i : Int) ∧ i ≤ f.n ∧ v.1.n ≤ i ∧ Sep NoB w w' [OwnA 86 3 v.1.a v.1.n v.1.c ((lateL f (nCh g + 20) i).flatMap TF.vs), BoxA b3 83 [.int .u8 s0, .int .u8 s1], BoxA b1 33 g.vs])
    (fun (v : SlV × Int × Unit) _ => ((f.n : Int) - v.2.1).toNat) ⟨0, rfl, by omega, Nat.le_refl _, S⟩ ?_
  clear S
  rintro ⟨⟨ya, yn, yc⟩, (v : Int), ⟨⟩⟩ w9 ⟨i, hv, hi, hyn, S⟩
  dsimp only at hv hyn S ⊢
  subst hv
  refine cond_d (fun hlt => ?_) (fun hge => ?_)
  · obtain ⟨q, x, hq, hx, hc, hr2, -, -⟩ := Ty.nth (Ty.rd_ext S.ext _ hf) (i := (i : Int)) (by omega) hlt (by decide)
    rw [Int.toNat_natCast] at hx
    have hc : CellsAt w9 (q.add ((i : Int).toNat * 3)) (TF.vs x) := hc
    have hil := (List.getElem?_eq_some_iff.1 hx).1
    have hst : f.l.take (i + 1) = f.l.take i ++ [x] := by rw [List.take_succ_eq_append_getElem hil, (List.getElem?_eq_some_iff.1 hx).2]
    refine ⟨⟨by omega, hlt⟩, q, hq, ldp0 hc (h := .int .i64) (x := x.1) rfl (cond_d (fun hge => ?_) (fun hnge => ?_))⟩
    · refine ⟨⟨by omega, hlt⟩, q, hq, ldF hc ?_⟩
      refine S.newB fun b32 w10 S f10 _ => ?_
      refine AppS.of (news := TF.vs x) rfl (.inr ⟨_, rfl, S.cells 0 rfl⟩) ?_
      refine S.ap1 (by rfl) (fun u hu => by
        simp only [TF, Ty.vs, List.mem_append, List.mem_singleton, List.mem_cons, List.not_mem_nil, or_false, List.append_nil] at hu
        rcases hu with rfl | rfl | rfl <;> rfl) (by omega) (by omega) fun a13 c13 w13 S f13 => ?_
      refine ⟨Rng.i64 (by omega) (by omega), ⟨i + 1, by push_cast; rfl, by omega, by omega, ?_⟩, by omega⟩
      have e : lateL f (nCh g + 20) (i + 1) = lateL f (nCh g + 20) i ++ [x] := by
        unfold lateL
        rw [hst, List.filter_append, List.filter_cons_of_pos (by exact decide_eq_true hge), List.filter_nil]
      rw [e, List.flatMap_append, List.flatMap_singleton]
      exact S.tail
    · refine ⟨Rng.i64 (by omega) (by omega), ⟨i + 1, by push_cast; rfl, by omega, by omega, ?_⟩, by omega⟩
      have e : lateL f (nCh g + 20) (i + 1) = lateL f (nCh g + 20) i := by
        unfold lateL
        rw [hst, List.filter_append, List.filter_cons_of_neg (by simpa using hnge), List.filter_nil, List.append_nil]
      rw [e]
      exact S
  have hie : i = f.l.length := by omega
  subst hie
  have hlm : ∀ y ∈ lateL f (nCh g + 20) f.l.length, y ∈ f.l := fun y hy => List.mem_of_mem_take (List.mem_filter.1 hy).1
  have hlf : LF.rd w9 All ⟨ya, yn, yc, lateL f (nCh g + 20) f.l.length⟩ := own_LF S fun y hy => (Ty.rd_ext S.ext _ hf).2.2.2.2 y (hlm y hy)
  have hFR2 : FRight (fds ⟨ya, yn, yc, lateL f (nCh g + 20) f.l.length⟩) := by
    refine ⟨fun d hd => ?_, ?_⟩
    · obtain ⟨y, hy, rfl⟩ := List.mem_map.1 hd
      exact hFR.1 _ (List.mem_map.2 ⟨y, hlm y hy, rfl⟩)
    · rw [LF_len hlf]
      show yn ≤ 64
      omega
  have hq0 : QT (newC g (fds ⟨ya, yn, yc, lateL f (nCh g + 20) f.l.length⟩)) ((nCh g).toNat + 5) := late_q (by push_cast; omega)
  have hC0 : COk (newC g (fds ⟨ya, yn, yc, lateL f (nCh g + 20) f.l.length⟩)) := Li20.new hR hFR2 ⟨g1, g2, g3⟩ hlf
  refine S.la2 rfl ?_
  refine (New13_c (g := g) (x := ⟨ya, yn, yc, lateL f (nCh g + 20) f.l.length⟩) hlf hFR2.fit).mono ?_
  rintro ⟨pv, (e : Int), ⟨⟩⟩ w10 ⟨x10, -, hgood⟩
  obtain ⟨-, p, y, hp, hyF, S7⟩ := hgood ⟨hR, hFR2⟩
  dsimp only at hp
  subst hp
  generalize fds ⟨ya, yn, yc, lateL f (nCh g + 20) f.l.length⟩ = pl at *
  have S := chipH_new (C := newC g pl) hyF (S.frame0 S7)
  clear S7
  refine (Open20_c hC0 S).mono ?_
  rintro ⟨_, ⟨xa, xn, xc⟩, (e3 : Int), ⟨⟩⟩ w11 ⟨-, hgood⟩
  obtain ⟨h3, kb, hkb, S⟩ := hgood rfl
  dsimp only at h3 hkb S ⊢
  subst hkb
  rw [opKB_new hC0] at S
  have S : Sep NoB w w11 (kbS kb p g ⟨newC g pl, -1, 0, F4, F4, F4, false⟩ [BoxA b3 83 [.int .u8 s0, .int .u8 s1]]) := S.sel [0, 0, 2] rfl
  have hrl : ∀ s, (rec20 624 s).length = 624 := fun s => rec20_len 624 s
  have hrb : ∀ s, Byt (rec20 624 s) := fun s => rec20_byt 624 s
  have hcall : ∀ {w' : World} {s : Int}, CallV Try.prog 32 #[.int .u8 s] w' [.one .sl] fun r w2 => Res w' w2 r.1 (rec20 624 s) := record20_c
  generalize rec20 624 = R at hrl hrb hcall
  have h7r : (0 : Int) ≤ 7 ∧ (7 : Int) < 18446744073709551616 := by omega
  have h8r : (0 : Int) ≤ 8 ∧ (8 : Int) < 18446744073709551616 := by omega
  have h9r : (0 : Int) ≤ 9 ∧ (9 : Int) < 18446744073709551616 := by omega
  refine ⟨⟨by omega, by omega⟩, S.ld2 (j := 0) rfl rfl (hcall.mono ?_)⟩
  rintro ⟨⟨ra, rn, rc⟩, ⟨⟩⟩ w12 R1
  have S := S.stepE R1.ext
  obtain ⟨C', c1, c2, c3, c4, c5, c6, c7, c8⟩ := first_q (hf := false) (ge := 0) (gen := 7) hC0 rfl hq0 (hrl s0) (hrb s0) h7r (by show 0 + 200 ≤ 1000000; omega)
  have hKI : KI g ⟨newC g pl, -1, 0, F4, F4, F4, false⟩ := ⟨hC0, rfl, ⟨by show -1 ≤ (-1 : Int); omega, by show (-1 : Int) < 4; omega⟩, rfl, rfl, rfl⟩
  refine (Commit20_c hKI R1.ints (hrb s0) h7r (by show 0 + 200 ≤ 1000000; omega) S).mono ?_
  rintro ⟨(e1 : Int), ⟨⟩⟩ w13 ⟨he1, S⟩
  rw [c1] at he1 S
  have he1 : e1 = 0 := he1
  subst he1
  refine cond_f rfl ?_
  have c4 : C'.g = g := c4
  have hI1 : IN g ⟨C', 0, 7, [false, true, true, true], F4, F4, false⟩ 7 (R s0) := by
    have := first_IN (hf := false) (gen := 7) c2 c3 h7r (hrl s0) (by rw [c4]; exact c7) (by rw [c4]; exact c8)
    rw [c4] at this
    exact this
  refine (Ops_e (chipH_E (S.fro [1] rfl))).mono ?_
  rintro ⟨(o1 : Int), ⟨⟩⟩ w14 ⟨h14, rfl⟩
  have h14 : o1 = (C'.ops : Int) := h14
  subst h14
  have c6 : C'.ops = 0 + (nCh g).toNat + 5 := c6
  refine cond_d (fun hgt => absurd hgt (by show ¬ ((C'.ops : Int) > nCh g + 20); omega)) (fun _ => ?_)
  have hop1 : (⟨C', 0, 7, [false, true, true, true], F4, F4, false⟩ : KB).C.ops ≤ 100 := by show C'.ops ≤ 100; omega
  have S : Sep NoB w w14 (kbS kb p g ⟨C', 0, 7, [false, true, true, true], F4, F4, false⟩ [BoxA b3 83 [.int .u8 s0, .int .u8 s1]]) := S
  generalize (⟨C', 0, 7, [false, true, true, true], F4, F4, false⟩ : KB) = B1 at S hI1 hop1
  clear c1 c2 c3 c4 c5 c6 c7 c8 hC0 hq0 hKI R1
  refine ⟨⟨by omega, by omega⟩, S.ld2 (j := 1) rfl rfl (hcall.mono ?_)⟩
  rintro ⟨⟨ra, rn, rc⟩, ⟨⟩⟩ w15 R1
  have S := S.stepE R1.ext
  refine (Commit20_c hI1.ki R1.ints (hrb s1) h8r (by omega) S).mono ?_
  rintro ⟨(e2 : Int), ⟨⟩⟩ w16 ⟨he2, S⟩
  obtain ⟨k1, k2, k3⟩ := hI1.ki.co (rec := R s1) (gen := 8) (hrb s1) h8r (by omega)
  have hco1 : (coK B1 (R s1) 8).1.hf = false → CoR g (coK B1 (R s1) 8) 7 (R s0) 8 (R s1) := fun h => hI1.co (by omega) h8r (hrl s1) (hrb s1) (by omega) h
  have he2 : e2 = (coK B1 (R s1) 8).2 := he2
  have hoff2 : (coK B1 (R s1) 8).2 = 4 → (coK B1 (R s1) 8).1.C.off = true := co4
  generalize coK B1 (R s1) 8 = Z2 at *
  obtain ⟨B2, f2⟩ := Z2
  dsimp only at he2 k1 k2 k3 hco1 hoff2 S
  subst he2
  refine ⟨⟨by omega, by omega⟩, S.ld2 (j := 1) rfl rfl (hcall.mono ?_)⟩
  rintro ⟨⟨ra, rn, rc⟩, ⟨⟩⟩ w17 R2
  have S := S.stepE R2.ext
  refine (Commit20_c k1 R2.ints (hrb s1) h9r (by omega) S).mono ?_
  rintro ⟨(e3 : Int), ⟨⟩⟩ w18 ⟨he3, S⟩
  obtain ⟨m1, m2, m3⟩ := k1.co (rec := R s1) (gen := 9) (hrb s1) h9r (by omega)
  have he3 : e3 = (coK B2 (R s1) 9).2 := he3
  -- what is found at last
  have fnd : (coK B2 (R s1) 9).1.hf = false → ∃ (G : Int) (r : List Int), (0 ≤ G ∧ G < 18446744073709551616) ∧ FIN g (coK B2 (R s1) 9).1.C G r ∧ (r = R s0 ∨ r = R s1) ∧ (e2 = 0 ∨ (coK B2 (R s1) 9).2 = 0 → r = R s1) := fun h => by
    have h2 := co_hf h
    have two : ∀ {G : Int} {r : List Int}, IN g B2 G r → G < 9 → (0 ≤ G ∧ G < 18446744073709551616) → (r = R s0 ∨ r = R s1) → (e2 = 0 → r = R s1) → ∃ (G : Int) (r : List Int), (0 ≤ G ∧ G < 18446744073709551616) ∧ FIN g (coK B2 (R s1) 9).1.C G r ∧ (r = R s0 ∨ r = R s1) ∧ (e2 = 0 ∨ (coK B2 (R s1) 9).2 = 0 → r = R s1) := fun {G r} hI hG hGr hr h0 => by
      rcases hI.co hG h9r (hrl s1) (hrb s1) (by omega) h with x | x | x
      · rcases x.2 with y | y
        · exact ⟨G, r, hGr, y, hr, fun z => z.elim h0 fun z => by omega⟩
        · exact ⟨9, R s1, h9r, y, .inr rfl, fun _ => rfl⟩
      · exact ⟨9, R s1, h9r, x.2.fin, .inr rfl, fun _ => rfl⟩
      · exact ⟨G, r, hGr, x.2.2.fin, hr, fun z => z.elim h0 fun z => absurd z x.1⟩
    rcases hco1 h2 with x | x | x
    · have h4 : e2 = 4 := x.1
      have hB : coK B2 (R s1) 9 = (B2, 4) := by unfold coK; rw [if_pos (hoff2 h4)]
      rw [hB]
      have hne : ¬ (e2 = 0 ∨ (4 : Int) = 0) := by omega
      rcases x.2 with y | y
      · exact ⟨7, R s0, h7r, y, .inl rfl, fun z => absurd z hne⟩
      · exact ⟨8, R s1, h8r, y, .inr rfl, fun _ => rfl⟩
    · exact two x.2 (by omega) h8r (.inr rfl) (fun _ => rfl)
    · exact two x.2.2 (by omega) h7r (.inl rfl) (fun z => absurd z x.1)
  generalize coK B2 (R s1) 9 = Z3 at *
  obtain ⟨B3, f3⟩ := Z3
  dsimp only at he3 m1 m2 m3 fnd S
  subst he3
  refine (Power_h (on := false) (S.fro [1] rfl)).mono ?_
  rintro ⟨⟩ w19 S
  refine (Power_h (on := true) S).mono ?_
  rintro ⟨⟩ w20 S
  have hCo : COk { B3.C with off := false } := ⟨m1.ok.g, m1.ok.lg, m1.ok.bl, m1.ok.bo, m1.ok.pm, m1.ok.ops⟩
  have hgo : ({ B3.C with off := false } : CD).g = g := m1.gg
  have hof : ({ B3.C with off := false } : CD).off = false := rfl
  have fnd2 : B3.hf = false → ∃ (G : Int) (r : List Int), (0 ≤ G ∧ G < 18446744073709551616) ∧ FIN g ({ B3.C with off := false } : CD) G r ∧ (r = R s0 ∨ r = R s1) ∧ (e2 = 0 ∨ e3 = 0 → r = R s1) := fnd
  have S : Sep NoB w w20 (chipH p { B3.C with off := false } B3.hf :: [boxK kb p g B3, BoxA b3 83 [.int .u8 s0, .int .u8 s1]]) := S
  generalize ({ B3.C with off := false } : CD) = C3 at S hCo hgo hof fnd2
  refine (half20_c hCo S).mono ?_
  rintro ⟨(hb : Bool), ⟨⟩⟩ w21 ⟨h21, x21⟩
  have S := S.stepE x21
  refine cond_of (fun _ => fin S.ext) (fun hb0 => ?_)
  obtain ⟨G, r, hG, hfin, hr1, hr2⟩ := fnd2 (h21 hb0)
  have hrl2 : r.length = 624 := by rcases hr1 with x | x <;> rw [x] <;> exact hrl _
  obtain ⟨t1, t2⟩ := cur_top hCo (by rw [hgo]; exact hfin) hG hrl2
  refine (Open20_c hCo S).mono ?_
  rintro ⟨_, ⟨va, vn, vc⟩, (e5 : Int), ⟨⟩⟩ w22 ⟨-, hgood⟩
  obtain ⟨h5, kb2, hkb, S⟩ := hgood hof
  dsimp only at h5 hkb S
  rw [if_neg (by omega)] at h5
  subst h5
  rw [t2] at S
  refine cond_f rfl ?_
  have cmp : ∀ {w3 : World} {s : Int} {K : Bool × Unit → World → Prop}, Ext w22 w3 → (∀ b w', Ext w22 w' → b = decide (r = R s) → K (b, ()) w') → CallV Try.prog 32 #[.int .u8 s] w3 [.one .sl] fun (r72 : SlV × Unit) w73 => CallV Try.prog 39 #[.slice va vn vc, .slice r72.1.a r72.1.n r72.1.c] w73 [.one .bool] K := fun {w3 s K} x3 hK => by
    refine hcall.mono ?_
    rintro ⟨⟨ra, rn, rc⟩, ⟨⟩⟩ w23 R3
    refine (SameBytes_c ((rdL1 S 2 rfl).ext (x3.trans R3.ext)) R3.ints).mono ?_
    rintro ⟨(b : Bool), ⟨⟩⟩ w24 ⟨h24, x24⟩
    exact hK b w24 ((x3.trans R3.ext).trans x24) h24
  have X := S.ext
  refine cond_eq (fun hz => ?_) (fun hz => cond_eq (fun hz2 => ?_) (fun hz2 => ?_))
  · refine ⟨⟨by omega, by omega⟩, S.ld4 (j := 1) rfl rfl (cmp (Ext.refl _) fun b w' x hb => ?_)⟩
    exact cond_t (hb.trans (decide_eq_true (hr2 (.inl hz)))) (fin (X.trans x))
  · refine ⟨⟨by omega, by omega⟩, S.ld4 (j := 1) rfl rfl (cmp (Ext.refl _) fun b w' x hb => ?_)⟩
    exact cond_t (hb.trans (decide_eq_true (hr2 (.inr hz2)))) (fin (X.trans x))
  · refine ⟨⟨by omega, by omega⟩, S.ld4 (j := 0) rfl rfl (cmp (Ext.refl _) fun b w' x hb => ?_)⟩
    refine cond_of (fun _ => fin (X.trans x)) (fun hbf => ?_)
    have S := S.stepE x
    refine ⟨⟨by omega, by omega⟩, S.ld4 (j := 1) rfl rfl (cmp x fun b2 w2 x2 hb2 => ?_)⟩
    have hr3 : r = R s1 := hr1.resolve_left fun e => by
      have hbf : b = false := hbf
      rw [hbf] at hb
      exact absurd e (of_decide_eq_false hb.symm)
    exact cond_t (hb2.trans (decide_eq_true hr3)) (fin (X.trans x2))
abbrev TTw20 : Ty := .cons (.int .u8) (.cons (.int .u8) .nil)
theorem KeyboxCrashes_of {w : World} {x : TGeo.T} {a : Option Addr} {n c : Nat} {l : List TF.T} {z : TTw20.T} (g0 : TGeo.ok w x) (g1 : LF.ok w ⟨a, n, c, l⟩) (g2 : TTw20.ok w z) :
    CallV Try.prog 6 #[.agg (TGeo.vs x).toArray, .slice a n c, .agg (TTw20.vs z).toArray] w [.one .bool] fun r w' => r.1 = true ∧ Ext w w' := by
  rw [geoT_val]
  obtain ⟨s0, s1, ⟨⟩⟩ := z
  exact KeyboxCrashes_law (f := ⟨a, n, c, l⟩) (LF.rd_of g1)
end Go.Proofs.Ytlpeoaphdmfjdaa.Vc
