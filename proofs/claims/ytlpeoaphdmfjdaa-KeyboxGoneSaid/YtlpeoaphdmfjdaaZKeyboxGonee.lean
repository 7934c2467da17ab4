/- Layer 20 (keybox): KeyboxGone. -/
import Derived.Test.YtlpeoaphdmfjdaaZKeyboxGoned

set_option linter.unusedVariables false
set_option linter.unusedSimpArgs false
/-! Layer 20 (keybox): KeyboxGone. -/
namespace Go.Proofs.Ytlpeoaphdmfjdaa.Vc
open Go Go.Eng Go.RowKit
abbrev TSt20 : Ty := .cons (.int .u8) (.cons (.int .u64) (.cons .bool .nil))
abbrev LS20 : Ty := .sl TSt20
theorem ints_TB {w : World} {a : Option Addr} {n c : Nat} {xs : List Int} (h : Ints w .u8 a n c xs) (bx : Byt xs) : TB.rd w All ⟨a, n, c, xs⟩ := by
  have hm := maxLen_eq
  refine ⟨h.len, h.cap, by have := h.lim; show n ≤ maxLen; omega, .of ?_, fun y hy => rngU8 (bx y hy)⟩
  rw [show xs.flatMap (Ty.int .u8).vs = xs.map (Value.int .u8) from flat_ints .u8 _]
  exact h.rd
theorem COk.offs {C : CD} (h : COk C) (b : Bool) : COk { C with off := b } := ⟨h.g, h.lg, h.bl, h.bo, h.pm, h.ops⟩
theorem lks_no {B : KB} (h : lksK B = false) {k : Nat} (hk : k < 4) : B.l (k : Int) = false := by
  unfold lksK at h
  simp only [Bool.or_eq_false_iff] at h
  obtain ⟨⟨⟨h0, h1⟩, h2⟩, h3⟩ := h
  rcases (show k = 0 ∨ k = 1 ∨ k = 2 ∨ k = 3 from by omega) with rfl | rfl | rfl | rfl
  · exact h0
  · exact h1
  · exact h2
  · exact h3
theorem img_part {C : CD} (hC : COk C) {k : Nat} (hk : (k : Int) < C.g.b) : ((imgC C).drop (k * bszC C)).take (bszC C) = allC C (k : Int) ∧ k * bszC C + bszC C ≤ (imgC C).length := by
  have hin : 0 ≤ (k : Int) ∧ (k : Int) < C.g.b := ⟨by omega, hk⟩
  obtain ⟨pre, post, i1, i2, -⟩ := imgC_blk hC hin
  rw [Int.toNat_natCast] at i2
  have hal : (allC C (k : Int)).length = bszC C := (hC.blk hin).2.all.1
  constructor
  · rw [i1, ← i2, List.drop_left, List.take_left' hal]
  · rw [i1, List.length_append, List.length_append, i2, hal]
    omega
theorem KeyboxGone_law {w : World} {g : Geo} {f : SlP TF.T} {s : SlP TSt20.T} (hf : LF.rd w All f) (hm : mFit (fds f)) (hs : LS20.rd w All s) :
    CallV Try.prog 5 #[.agg (casV24 g f ⟨s.a, s.n, s.c⟩).toArray] w [.one .bool] fun r w' => r.1 = true ∧ Ext w w' := by
  apply law20_KeyboxGone.vc
  unfold law20_KeyboxGone.P
  have S := Sep.start NoB w
  refine S.newB fun b1 w1 S f1 _ => S.la0 rfl ?_
  refine (light20_c (g := g) (f := f) (s := ⟨s.a, s.n, s.c⟩) (Ty.rd_ext S.ext _ hf)).mono ?_
  rintro ⟨(r : Bool), ⟨⟩⟩ w4 ⟨h4, x4⟩
  dsimp only at h4 ⊢
  have S := S.stepE x4
  have fin : ∀ {w' : World}, Ext w w' → CallV Try.prog 28 #[] w' [.one .bool] fun r w2 => r.1 = true ∧ Ext w w2 := fun x => awake20_c.mono fun r w5 ⟨h5, x5⟩ => ⟨h5, x.trans x5⟩
  refine cond_of (fun hr => fin S.ext) (fun hr => ?_)
  obtain ⟨hR, hFR, g1, g2, g3, hsn⟩ := h4.1 (by cases r; cases hr; rfl)
  have hC0 : COk (newC g (fds f)) := Li20.new hR hFR ⟨g1, g2, g3⟩ hf
  refine S.lb0 (o := 0) rfl (S.ld0 (j := 6) rfl rfl ?_)
  refine (New13_c (g := g) (x := f) (Ty.rd_ext S.ext _ hf) hm).mono ?_
  rintro ⟨pv, (e : Int), ⟨⟩⟩ w5 ⟨x5, -, hgood⟩
  obtain ⟨-, p, y, hp, hyF, S7⟩ := hgood ⟨hR, hFR⟩
  dsimp only at hp
  subst hp
  have S := chipE_in (C := newC g (fds f)) hyF (S.frame0 S7)
  clear S7
  refine (Open20_c hC0 S).mono ?_
  rintro ⟨_, ⟨xa, xn, xc⟩, (e3 : Int), ⟨⟩⟩ w6 ⟨-, hgood⟩
  obtain ⟨h3, kb, hkb, S⟩ := hgood rfl
  dsimp only at h3 hkb S ⊢
  subst hkb
  have hK0 : KI g (opKB (newC g (fds f))) := opKB_KI hC0
  have hG0 : KG (opKB (newC g (fds f))) := KG_new
  have hops0 : (opKB (newC g (fds f))).C.ops = 0 := rfl
  have S : Sep NoB w w6 (kbS kb p g (opKB (newC g (fds f))) [BoxA b1 71 (casV24 g f ⟨s.a, s.n, s.c⟩)]) := (S.fro [2] rfl).tail
  generalize opKB (newC g (fds f)) = B0 at S hK0 hG0 hops0
  clear h3 hC0
  obtain ⟨⟨n1, n2⟩, ⟨n3, n4⟩, ⟨n5, n6⟩, n7, n8⟩ := hK0.ok.num
  rw [hK0.gg] at n1 n2 n3 n4 n5 n6 n7 n8
  have z1 : (g.s + 88) * g.p = ((zB g : Nat) : Int) := by
    unfold zB
    rw [← n8]
    push_cast
    rw [Int.toNat_of_nonneg (show 0 ≤ g.p by omega)]
    exact Int.mul_comm _ _
  have m1 : zB g ≤ 20 * 216 := Nat.mul_le_mul (by omega) (by omega)
  refine S.ld2 (j := 2) rfl rfl ⟨Rng.i64 (by omega) (by omega), S.ld2 (j := 1) rfl rfl ⟨by rw [z1]; exact Rng.i64 (by omega) (by omega), ?_⟩⟩
  refine Loop1 (fun (v : (Option Addr) × Int × Unit) w' => ∃ (i kb : Nat) (B : KB), v.1 = some (⟨kb, 0, none⟩ : Addr) ∧ v.2.1 = (i : Int) ∧ i ≤ 8 ∧ KI g B ∧ KG B ∧ B.C.ops ≤ 200 * i ∧ Sep NoB w w' (kbS kb p g B [BoxA b1 71 (casV24 g f ⟨s.a, s.n, s.c⟩)]))
    (fun (v : (Option Addr) × Int × Unit) _ => ((s.n : Int) - v.2.1).toNat) ⟨0, kb, B0, rfl, rfl, by omega, hK0, hG0, by omega, S⟩ ?_
  clear S hK0 hG0 hops0
  rintro ⟨_, (iv : Int), ⟨⟩⟩ w7 ⟨i, kb, B, hkb, hi0, hi8, h, hG, hops, S⟩
  dsimp only at hkb hi0 ⊢
  subst hkb
  subst hi0
  refine S.ld2 (j := 7) rfl rfl (cond_d (fun hlt => ?_) (fun hge => fin S.ext))
  dsimp only at hlt
  refine (Ops_e (S.fro [1] rfl)).mono ?_
  rintro ⟨(o0 : Int), ⟨⟩⟩ w8 ⟨h8, rfl⟩
  dsimp only at h8 ⊢
  subst h8
  refine Sep.regC (kbS kb p g B []) S fun G D hG' T S hDt hDo hkeep back => ?_
  obtain ⟨qa, z, hq, hz, hc, hr, hGq, hqb⟩ := Ty.nth (LS20.rd_mono (G' := fun k => k < w.heap.size) (fun k _ hk => hk) hs) (i := (i : Int)) (by omega) hlt (by decide)
  obtain ⟨sd, gen, on, ⟨⟩⟩ := z
  have hgen : 0 ≤ gen ∧ gen < 18446744073709551616 := rng_u64 hr.2.1
  have hc : CellsAt w (qa.add ((i : Int).toNat * 3)) [.int .u8 sd, .int .u64 gen, .bool on] := hc
  have hDq : D qa.block := hDo _ hGq (fun x => x)
  refine ⟨hDt 0 _ _ _ rfl, S.ld2 (j := 7) rfl rfl ⟨⟨by omega, hlt⟩, qa, hq, by rw [add_block]; exact hDq, ldp0 (S.ext.cells hc) (h := .int .u8) (x := sd) rfl ?_⟩⟩
  refine ⟨hDt 0 _ _ _ rfl, S.ld2 (j := 7) rfl rfl ⟨⟨by omega, hlt⟩, qa, hq, by rw [add_block, add_block]; exact hDq, ldp (S.ext.cells hc) 1 (h := .int .u64) (x := gen) rfl ?_⟩⟩
  refine record20_c.mono ?_
  rintro ⟨⟨ra, rn, rc⟩, ⟨⟩⟩ w9 R
  dsimp only at R ⊢
  have hrl := rec20_len 624 sd
  have hrb := rec20_byt 624 sd
  generalize rec20 624 sd = rec at R hrl hrb
  have T := T.stepE R.ext
  refine ⟨hkeep _ T.fr, ?_⟩
  refine (Commit20_c h R.ints hrb hgen (by omega) T).mono ?_
  rintro ⟨(e : Int), ⟨⟩⟩ w10 ⟨he, T⟩
  dsimp only at he ⊢
  refine ⟨hkeep _ T.fr, ?_⟩
  have S := back _ _ T
  clear T hkeep back hDt hDo hDq R
  obtain ⟨k1, k2, k3⟩ := h.co (rec := rec) (gen := gen) hrb hgen (by omega)
  have kg := co_gone (rec := rec) (gen := gen) h hrb hgen (by omega) hG
  rw [← he] at kg
  clear he
  generalize (coK B rec gen).1 = B' at *
  have hN := (nCh_bd hR).1
  refine S.reg fun D hD hkeep S T => ⟨hD _ S.bl2, S.lb2 (o := 0) rfl ?_⟩
  refine (Ops_e (S.fro [1] rfl)).mono ?_
  rintro ⟨(o1 : Int), ⟨⟩⟩ w11 ⟨h11, rfl⟩
  dsimp only at h11 ⊢
  subst h11
  refine ⟨hkeep _ (Fr.refl _ _), Rng.i64 (by omega) (by omega), ?_⟩
  refine (rChunks_c (g := g) (by omega)).mono ?_
  rintro ⟨(ch : Int), ⟨⟩⟩ w12 ⟨h12, x12⟩
  dsimp only at h12 ⊢
  have h12 : ch = nCh g := h12
  subst h12
  have S := S.stepE x12
  refine ⟨hkeep _ (.of x12), Rng.i64 (by omega) (by omega), Rng.i64 (by omega) (by omega), ?_⟩
  refine cond_d (fun hgt => absurd hgt (by omega)) (fun _ => ?_)
  clear hkeep hD T
  have nxt : ∀ {w' : World} {kb' : Nat} {B' : KB}, KI g B' → KG B' → B'.C.ops ≤ 200 * (i + 1) → Sep NoB w w' (kbS kb' p g B' [BoxA b1 71 (casV24 g f ⟨s.a, s.n, s.c⟩)]) → Rng .i64 ((i : Int) + 1) ∧ (∃ (j kb : Nat) (B : KB), some (⟨kb', 0, none⟩ : Addr) = some (⟨kb, 0, none⟩ : Addr) ∧ (i : Int) + 1 = (j : Int) ∧ j ≤ 8 ∧ KI g B ∧ KG B ∧ B.C.ops ≤ 200 * j ∧ Sep NoB w w' (kbS kb p g B [BoxA b1 71 (casV24 g f ⟨s.a, s.n, s.c⟩)])) ∧ ((s.n : Int) - ((i : Int) + 1)).toNat < ((s.n : Int) - (i : Int)).toNat :=
    fun a1 a2 a3 S => ⟨Rng.i64 (by omega) (by omega), ⟨i + 1, _, _, rfl, by push_cast; rfl, by omega, a1, a2, a3, S⟩, by omega⟩
  refine cond_eq (fun (h4 : e = 4) => ?_) (fun (h4 : e ≠ 4) => ?_)
  · subst h4
    refine (Power_e (on := true) (S.fro [1] rfl)).mono ?_
    rintro ⟨⟩ w13 S
    have hCo := k1.ok.offs (!true)
    have hgo : ({ B'.C with off := !true } : CD).g = g := k1.gg
    have hoo : ({ B'.C with off := !true } : CD).ops = B'.C.ops := rfl
    have hof : ({ B'.C with off := !true } : CD).off = false := rfl
    generalize ({ B'.C with off := !true } : CD) = C2 at S hCo hgo hoo hof
    refine (Open20_c hCo S).mono ?_
    rintro ⟨_, ⟨ya, yn, yc⟩, (e5 : Int), ⟨⟩⟩ w14 ⟨-, hgood⟩
    obtain ⟨h5, kb2, hkb, S⟩ := hgood hof
    dsimp only at h5 hkb S ⊢
    subst hkb
    rw [hgo] at S
    refine cond_t rfl ?_
    have hK := opKB_KI hCo
    rw [hgo] at hK
    refine nxt hK KG_new (by show C2.ops ≤ _; omega) ?_
    exact (S.fro [2, 2] rfl).tail.tail
  obtain ⟨kg1, kg2⟩ := kg h4
  refine cond_ne (fun (h0 : e ≠ 0) => nxt k1 kg1 (by omega) S) (fun (h0 : e = 0) => ?_)
  refine (Leaks20_c k1.cl k1.bd k1.lk S).mono ?_
  rintro ⟨(lk : Bool), ⟨⟩⟩ w13 ⟨h13, rfl⟩
  dsimp only at h13 ⊢
  subst h13
  refine cond_of (fun hl => nxt k1 kg1 (by omega) S) (fun hl => ?_)
  refine (Image_e k1.ok (S.fro [1] rfl)).mono ?_
  rintro ⟨⟨ia, iN, ic⟩, ⟨⟩⟩ w14 h14
  dsimp only at h14 ⊢
  have S := S.stepE h14.ext
  have hI := h14.ints
  dsimp only at hI
  have hil := hI.len
  have hic := hI.cap
  have hbz : bszC B'.C = zB g := by unfold bszC zB; rw [k1.gg]
  have hblen := imgC_len k1.ok
  rw [show B'.C.g.b.toNat * B'.C.g.p.toNat * szP B'.C.g = g.b.toNat * zB g from by rw [← hbz, k1.gg, Nat.mul_assoc]; unfold bszC; rw [k1.gg], hil] at hblen
  have m2 : g.b.toNat * zB g ≤ 16 * (20 * 216) := Nat.mul_le_mul (by omega) (by omega)
  have z2 : ((zB g : Nat) : Int) * g.b = ((g.b.toNat * zB g : Nat) : Int) := by
    push_cast
    rw [Int.toNat_of_nonneg (show 0 ≤ g.b by omega)]
    exact Int.mul_comm _ _
  refine S.ld2 (j := 0) rfl rfl ⟨by rw [z1, z2]; exact Rng.i64 (by omega) (by omega), ?_⟩
  refine cond_ne (fun hne => absurd (by rw [z1, z2]; omega) hne) (fun _ => ?_)
  rw [z1]
  refine Loop1 (fun (v : Int × Unit) w' => ∃ k : Nat, v.1 = (k : Int) ∧ k ≤ 4 ∧ Ext w14 w' ∧ Sep NoB w w' (kbS kb p g B' [BoxA b1 71 (casV24 g f ⟨s.a, s.n, s.c⟩)])) (fun (v : Int × Unit) _ => (4 - v.1).toNat) ⟨0, rfl, by omega, Ext.refl _, S⟩ ?_
  clear S
  rintro ⟨(kv : Int), ⟨⟩⟩ w15 ⟨k, hkv, hk4, x15, S⟩
  dsimp only at hkv ⊢
  subst hkv
  refine cond_d (fun hlk => ?_) (fun hgk => nxt k1 kg1 (by omega) S)
  refine (Current20_c S).mono ?_
  rintro ⟨(cu : Int), ⟨⟩⟩ w16 ⟨h16, rfl⟩
  dsimp only at h16 ⊢
  subst h16
  have knx : ∀ {w' : World}, Ext w14 w' → Sep NoB w w' (kbS kb p g B' [BoxA b1 71 (casV24 g f ⟨s.a, s.n, s.c⟩)]) → Rng .i64 ((k : Int) + 1) ∧ (∃ j : Nat, (k : Int) + 1 = (j : Int) ∧ j ≤ 4 ∧ Ext w14 w' ∧ Sep NoB w w' (kbS kb p g B' [BoxA b1 71 (casV24 g f ⟨s.a, s.n, s.c⟩)])) ∧ (4 - ((k : Int) + 1)).toNat < (4 - (k : Int)).toNat :=
    fun x S => ⟨Rng.i64 (by omega) (by omega), ⟨k + 1, by push_cast; rfl, by omega, x, S⟩, by omega⟩
  refine cond_ne (fun (hne : (k : Int) ≠ B'.cu) => ?_) (fun _ => knx x15 S)
  have hkb : (k : Int) < B'.C.g.b := by rw [k1.gg]; omega
  obtain ⟨ip1, ip2⟩ := img_part k1.ok hkb
  rw [hbz, hil] at ip2
  rw [hbz] at ip1
  have hgon : gonB B' (k : Int) := (kg2 h0 (k : Int) (by omega) (by omega) hne).resolve_left (by rw [lks_no hl (by omega)]; simp)
  have z3 : (k : Int) * ((zB g : Nat) : Int) = ((k * zB g : Nat) : Int) := by push_cast; rfl
  have z4 : (k : Int) * ((zB g : Nat) : Int) + ((zB g : Nat) : Int) = ((k * zB g + zB g : Nat) : Int) := by push_cast; rfl
  rw [z4, z3]
  generalize hlo : k * zB g = lo at *
  refine ⟨Rng.i64 (by omega) (by omega), Rng.i64 (by omega) (by omega), Rng.i64 (by omega) (by omega), ⟨by omega, by omega, by omega⟩, ?_⟩
  intro a53 ha53
  rw [Int.toNat_natCast, Int.toNat_natCast] at *
  have hI2 := (hI.ext x15).sub (l := lo) (hh := lo + zB g) (m := ic) (by omega) (by omega) (by omega) ha53
  rw [show lo + zB g - lo = zB g from by omega, ip1] at hI2
  rw [show lo + zB g - lo = zB g from by omega]
  refine S.newB fun b54 w17 S f17 _ => ?_
  have x17 : Ext w14 w17 := x15.trans f17.ext
  have hby : Byt (allC B'.C (k : Int)) := (k1.ok.blk (bl := (k : Int)) ⟨by omega, hkb⟩).2.all.2
  have hTB := ints_TB (hI2.ext f17.ext) hby
  have hy : TBB.rd w17 All ⟨some ⟨b54, 0, none⟩, 1, 1, [⟨a53, zB g, ic - lo, allC B'.C (k : Int)⟩]⟩ :=
    ⟨rfl, Nat.le_refl _, by have := maxLen_eq; show 1 ≤ maxLen; omega, .of (.inr ⟨_, rfl, S.cells 0 rfl⟩), fun x hx => by rw [List.mem_singleton.1 hx]; exact hTB⟩
  have hgn : ∃ v : Int, (v = 255 ∨ v = 0) ∧ ∀ x ∈ [(⟨a53, zB g, ic - lo, allC B'.C (k : Int)⟩ : SlP Int)], ∀ b ∈ x.l, b = v := by
    rcases hgon with e | e
    · exact ⟨255, .inl rfl, fun x hx b hb => by rw [List.mem_singleton.1 hx] at hb; dsimp only at hb; rw [e] at hb; exact (List.mem_replicate.1 hb).2⟩
    · exact ⟨0, .inr rfl, fun x hx b hb => by rw [List.mem_singleton.1 hx] at hb; dsimp only at hb; rw [e] at hb; exact (List.mem_replicate.1 hb).2⟩
  obtain ⟨v, hv1, hv2⟩ := hgn
  refine (gone20_c hy hv1 hv2).mono ?_
  rintro ⟨(r : Bool), ⟨⟩⟩ w18 ⟨h18, x18⟩
  dsimp only at h18 ⊢
  subst h18
  exact cond_f rfl (knx (x17.trans x18) (S.stepE x18).tail)
abbrev TCs20 : Ty := .cons TGeo (.cons LF (.cons LS20 .nil))
theorem big20 {w : World} {x : TCs20.T} (g0 : TCs20.ok w x) (b0 : TCs20.big x) : mFit (fds x.2.1) := by
  obtain ⟨⟨b, p, s, sp, wr, ro, ⟨⟩⟩, f, l, ⟨⟩⟩ := x
  have hf := LF.rd_of g0.2.1
  intro F hF
  obtain ⟨y, hy, rfl⟩ := List.mem_map.1 hF
  rw [TF_dat]
  have h1 := (b0.2.1.2 y hy).2.2.1.1
  have h2 := (hf.2.2.2.2 y hy).2.2.1.1
  show y.2.2.1.l.length ≤ _
  omega
theorem KeyboxGone_of {w : World} {x : TCs20.T} (g0 : TCs20.ok w x) (b0 : TCs20.big x) :
    CallV Try.prog 5 #[.agg (TCs20.vs x).toArray] w [.one .bool] fun r w' => r.1 = true ∧ Ext w w' := by
  have hm := big20 g0 b0
  obtain ⟨⟨b, p, s, sp, wr, ro, ⟨⟩⟩, f, l, ⟨⟩⟩ := x
  exact KeyboxGone_law (g := ⟨b, p, s, sp, wr, ro⟩) (f := f) (s := l) (LF.rd_of g0.2.1) hm (LS20.rd_of g0.2.2.1)
end Go.Proofs.Ytlpeoaphdmfjdaa.Vc
