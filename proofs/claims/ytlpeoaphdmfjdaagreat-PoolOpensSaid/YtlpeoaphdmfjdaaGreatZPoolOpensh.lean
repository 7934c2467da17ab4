/- The law PoolOpens of layer 24: each call gives true, and what it read stays. -/
import Derived.Test.YtlpeoaphdmfjdaaGreatZPoolOpensg

set_option linter.unusedVariables false
set_option linter.unusedSimpArgs false
/-! The law PoolOpens of layer 24: each call gives true, and what it read stays. -/
namespace Go.Proofs.YtlpeoaphdmfjdaaGreat.Vc
open Go Go.Eng Go.RowKit
theorem image_at {w : World} {a : Option Addr} {n c : Nat} {xs : List Int} {i : Nat} {v : Int} (hx : Ints w .u8 a n c xs) (hv : xs[i]? = some v) : ∃ q, a = some q ∧ w.cell? (q.add (i * 1)) = some (.int .u8 v) := by
  have hi := (List.getElem?_eq_some_iff.1 hv).1
  rcases hx.rd with ⟨_, h⟩ | ⟨p, hp, hc2⟩
  · have := congrArg List.length h
    rw [List.length_map, List.length_nil] at this
    omega
  · exact ⟨p, hp, by rw [Nat.mul_one]; exact hc2 i (.int .u8 v) (by rw [List.getElem?_map, hv]; rfl)⟩
theorem opC_yes {g : Geo} {n : Nat} {C : CD} {L : List Blk} {O : List Hd} {ns : Int} {o : Hd} (h : PI g n C L O) (hB : BIn C) (hr : o.rng) (ho : C.ops + 768 ≤ 1000000) :
    ((opC ns o true C L O).2.2 ≠ 0 → (opC ns o true C L O).2.1 = 0) ∧ ((opC ns o true C L O).2.2 = 0 → ∃ (b : Int) (hd : Hd), (0 ≤ ns ∧ ns < 4) ∧ (0 ≤ b ∧ b < (n : Int)) ∧ (opC ns o true C L O).2.1 = b ∧ hd.rng ∧ HRight hd ∧ hd.k = 3 ∧ hd.n = ns ∧ hd.e = o.e ∧ hd.t = o.t ∧
      (∃ x : Blk, gx (opC ns o true C L O).1.2.1 b.toNat = Go.Proofs.YtlpeoaphdmfjdaaGreat.Vc.hB ns x ∧ hd.l = x.er ∧ x.ba = false ∧ 0 ≤ x.er ∧ x.er ≤ 1000000) ∧ (opC ns o true C L O).1.2.2.getD b.toNat zHd = hd ∧ PI g n (opC ns o true C L O).1.1 (opC ns o true C L O).1.2.1 (opC ns o true C L O).1.2.2 ∧
      (blkC (opC ns o true C L O).1.1 (4 + b)).pg = (payL g [] ++ markL hd []) :: List.replicate (g.p.toNat - 1) (List.replicate (szP g) 255)) := by
  by_cases hn : 0 ≤ ns ∧ ns < 4
  case neg =>
    have hX : opC ns o true C L O = ((C, L, O), 0, 2) := if_neg hn
    rw [hX]
    exact ⟨fun _ => rfl, fun h => absurd h (by dsimp only; decide)⟩
  have hX : opC ns o true C L O = opnP ns o true 128 C L O := if_pos hn
  obtain ⟨-, y1, y2⟩ := opn_ok (o := o) hn hr true 128 h hB (by omega)
  rw [hX]
  refine ⟨y2, fun h0 => ?_⟩
  obtain ⟨C1, L1, O1, b, hP1, hB1, ho1, hb, hba, hbeg, hst, hb2⟩ := y1 h0
  have hpg := beg_ok (o := o) hP1 hB1 (by omega) hb hn hr hbeg
  obtain ⟨d1, -, -⟩ := hP1.beg b (o := o) hn hr true (by omega)
  have hfst : (fstP C1 b (begH L1 b ns o) true).2 = 0 := by
    unfold begP at hbeg
    split at hbeg
    · assumption
    · exact hbeg
  have hL' : (begP C1 L1 O1 b ns o true).2.1 = chL b L1.length (Go.Proofs.YtlpeoaphdmfjdaaGreat.Vc.hB ns) L1 := by unfold begP; rw [if_pos hfst]
  have hO' : (begP C1 L1 O1 b ns o true).2.2.1 = O1.set b.toNat (begH L1 b ns o) := by unfold begP; rw [if_pos hfst]
  have hll := hP1.ll
  have hol := hP1.ol
  have hxm : gx L1 b.toNat ∈ L1 := List.mem_of_getElem? (some_getD (by omega))
  have her := hP1.er _ hxm
  have hw : IntKind.u32.wrap (gx L1 b.toNat).er = (gx L1 b.toNat).er % 4294967296 := u32_wrap _
  rw [hst, hb2]
  refine ⟨b, begH L1 b ns o, hn, hb, rfl, begH_rng L1 b hn hr, begH_right L1 b hn, rfl, rfl, rfl, rfl, ⟨gx L1 b.toNat, ?_, ?_, hba, her.1, by omega⟩, ?_, d1, by rw [hpg, hP1.gg]⟩
  · dsimp only
    rw [hL']
    unfold chL
    rw [if_pos (show inB b L1.length from ⟨hb.1, by omega⟩)]
    show (L1.set b.toNat (Go.Proofs.YtlpeoaphdmfjdaaGreat.Vc.hB ns (gx L1 b.toNat))).getD b.toNat default = _
    rw [List.getD_eq_getElem?_getD, List.getElem?_set_self (by omega)]
    rfl
  · show IntKind.u32.wrap (gx L1 b.toNat).er = _
    omega
  · dsimp only
    rw [hO', List.getD_eq_getElem?_getD, List.getElem?_set_self (by omega)]
    rfl
theorem PoolOpens_law {w : World} {g : Geo} {f : SlP TF.T} {s : SlP TSt24.T} {ns : Int} {od : Hd} (hf : LF.rd w All f) (hm : mFit (fds f)) (hs : LS24.rd w All s) (hro : od.rng) :
    CallV Tryz.prog 4 #[.agg (casV24 g f ⟨s.a, s.n, s.c⟩).toArray, .int .i64 ns, od.val] w [.one .bool] fun r w' => r.1 = true ∧ Ext w w' := by
  apply law24_PoolOpens.vc
  unfold law24_PoolOpens.P
  have S := Sep.start NoB w
  refine S.newB fun b1 w1 S f1 _ => S.newB fun b3 w2 S f2 _ => S.la1 rfl ?_
  refine (light24_c (g := g) (f := f) (s := ⟨s.a, s.n, s.c⟩) (Ty.rd_ext S.ext _ hf)).mono ?_
  rintro ⟨(r : Bool), ⟨⟩⟩ w4 ⟨h4, x4⟩
  dsimp only at h4 ⊢
  have S := S.stepE x4
  refine cond_of (fun hr => ?_) (fun hr => ?_)
  · exact awake24_c.mono fun r w5 ⟨h5, x5⟩ => ⟨h5, S.ext.trans x5⟩
  obtain ⟨hR, hFR, g1, g2, g3, hsn⟩ := h4.1 (by cases r; cases hr; rfl)
  refine S.la1 rfl ?_
  refine (made24_c (g := g) (f := f) (s := ⟨s.a, s.n, s.c⟩) (Ty.rd_ext S.ext _ hf) hm hR hFR ⟨by omega, g2, g3⟩).mono ?_
  rintro ⟨_, _, _, ⟨⟩⟩ w5 ⟨pp, p, q, t, B, l, o, hp, hc, hr5, hdb, S5⟩
  dsimp only at hp hc hr5
  subst hp; subst hc; subst hr5
  have S := S.frame0 S5
  clear S5
  have hPI : PI g (n24 g) (C024 g f) (L024 g) (O024 g) := Li24.PI hR hFR ⟨by omega, g2, g3⟩ (fds_byt hf)
  dsimp only
  refine S.newB fun b13 w12 S f12 _ => S.st0 (by rfl) fun w13 S f13 => ?_
  have S : Sep NoB w w13 (plS pp p q g t (O024 g) (C024 g f) (L024 g) (rpS B l o (L024 g) (O024 g) (BoxA b13 38 (plV B f (C024 g f) l o) :: BoxA b1 27 (casV24 g f ⟨s.a, s.n, s.c⟩) :: BoxA b3 46 od.vs :: []))) := S.fro [1, 1, 1, 1, 1, 1, 1, 0, 1] rfl
  refine Loop1 (fun (v : Int × Unit) w' => ∃ (i : Nat) (C : CD) (L : List Blk) (O : List Hd) (B : SlP TBd.T) (l o : SlV), v.1 = (i : Int) ∧ i ≤ 25 ∧ PI g (n24 g) C L O ∧ BIn C ∧ C.ops ≤ 768 * i ∧ B.l.map bdOf = C.bs ∧ fds f = C.pl ∧ Sep NoB w w' (plS pp p q g t O C L (rpS B l o L O (BoxA b13 38 (plV B f C l o) :: BoxA b1 27 (casV24 g f ⟨s.a, s.n, s.c⟩) :: BoxA b3 46 od.vs :: []))))
    (fun (v : Int × Unit) _ => ((s.n : Int) - v.1).toNat) ⟨0, C024 g f, L024 g, O024 g, B, l, o, rfl, by omega, hPI, BIn.new _ _, Nat.le_refl _, hdb, rfl, S⟩ ?_
  clear S hdb
  rintro ⟨(v : Int), ⟨⟩⟩ w15 ⟨i, C, L, O, B, l, o, hv, hi, h, hB, ho, hdb, hdf, S⟩
  dsimp only at hv
  subst hv
  refine S.ld8 (j := 7) rfl rfl (cond_d (fun hlt => ?_) (fun hge => ?_))
  · dsimp only at hlt
    refine Sep.regC (plS pp p q g t O C L (rpS B l o L O [BoxA b13 38 (plV B f C l o)])) S fun G D hG T S hDt hDo hkeep back => ?_
    obtain ⟨qa, z, hq, hz, hc, hr, hGq, hqb⟩ := Ty.nth (LS24.rd_mono (G' := fun k => k < w.heap.size) (fun k _ hk => hk) hs) (i := (i : Int)) (by omega) hlt (by decide)
    obtain ⟨zk, zb, zp, ⟨hk, hn, hc', hl, he, ht, ⟨⟩⟩, zs, ⟨⟩⟩ := z
    have hr2 := hr.2.2.2.1
    refine ⟨hDt 0 _ _ _ rfl, S.ld8 (j := 7) rfl rfl ⟨⟨by omega, hlt⟩, qa, hq, by rw [add_block]; exact hDo _ hGq (fun x => x), (zk, zb, zp, hk, hn, hc', hl, he, ht, zs, ()), S.ext.cells hc, T.la7 rfl ⟨hkeep _ (Fr.refl _ _), ?_⟩⟩⟩
    have hrng : (⟨hk, hn, hc', hl, he, ht⟩ : Hd).rng := hd24_rng hr2
    have hop : C.ops + 768 ≤ 1000000 := by omega
    refine (step24_c (k := zk) (b := zb) (pa := zp) (sd := zs) (hd := ⟨hk, hn, hc', hl, he, ht⟩) (rng_u8 hr.2.2.2.2.1) h hrng hop hdb (LF_out (E := NoB) (LF.rd_mono (fun _ _ _ x => x.elim) hf) S hG) hdf T).mono ?_
    rintro ⟨_, (ok : Bool), ⟨⟩⟩ w16 ⟨B2, l2, o2, hr3, hdb2, T⟩
    dsimp only at hr3
    subst hr3
    refine ⟨hkeep _ T.fr, T.st7 (by rfl) fun w17 T f17 => ⟨hkeep _ T.fr, Rng.i64 (by omega) (by omega), ?_, by omega⟩⟩
    obtain ⟨a1, a2, a3, a4⟩ := st24_ok (k := zk) (b := zb) (pa := zp) (sd := zs) (hd := ⟨hk, hn, hc', hl, he, ht⟩) hrng h hB hop
    exact ⟨i + 1, _, _, _, B2, l2, o2, by push_cast; rfl, by omega, a1, a2, by omega, hdb2, hdf.trans a4.symm, back _ _ T⟩
  obtain ⟨hln, -⟩ := rp_n (S.fro [4, 4, 4] rfl)
  have hll := h.ll
  have hnn := h.nn
  have hgg := h.gg
  have hk := hR.1
  unfold Kept at hk
  have fin : ∀ {w' : World}, Ext w w' → CallV Tryz.prog 7 #[] w' [.one .bool] fun r w2 => r.1 = true ∧ Ext w w2 := fun x => awake24_c.mono fun r w5 ⟨h5, x5⟩ => ⟨h5, x.trans x5⟩
  refine S.la9 rfl ?_
  refine (Open24_c (ns := ns) (o := od) h hro (by omega) S).mono ?_
  rintro ⟨(bb : Int), (e : Int), ⟨⟩⟩ w28 ⟨h1, h2, S⟩
  obtain ⟨k1, k2⟩ := opC_yes (ns := ns) (o := od) h hB hro (by omega)
  dsimp only at h1 h2
  rw [← h1, ← h2] at k1
  rw [← h1, ← h2] at k2
  generalize (opC ns od true C L O).1 = Z at S k2
  obtain ⟨C1, L1, O1⟩ := Z
  dsimp only at S k2
  clear h1 h2
  refine cond_ne (fun (hne : e ≠ 0) => cond_eq (fun _ => fin S.ext) fun hx => absurd (k1 hne) hx) (fun (he : e = 0) => ?_)
  obtain ⟨b, hd, hn, hb, hbb, hrd, hHd, y1, y2, y3, y4, ⟨x, y5, y6, y7, y8, y9⟩, y10, d1, hpg⟩ := k2 he
  subst hbb
  clear k1 k2
  obtain ⟨⟨n1, n2⟩, ⟨n3, n4⟩, ⟨n5, n6⟩, n7, n8⟩ := d1.ok.num
  rw [d1.gg] at n1 n2 n3 n4 n5 n6 n7 n8
  have hin : 0 ≤ 4 + bb ∧ 4 + bb < C1.g.b := by rw [d1.gg]; omega
  refine S.ld8 (j := 2) rfl rfl ⟨Rng.i64 (by omega) (by omega), ?_⟩
  have hbsz : bszC C1 = g.p.toNat * szP g := by unfold bszC; rw [d1.gg]
  have m1 : g.p.toNat * szP g ≤ 20 * 216 := Nat.mul_le_mul (by omega) (by omega)
  have z1 : (g.s + 88) * g.p = ((bszC C1 : Nat) : Int) := by
    rw [hbsz, ← n8]
    push_cast
    rw [Int.toNat_of_nonneg (show 0 ≤ g.p by omega)]
    exact Int.mul_comm _ _
  refine (Image_e d1.ok (S.fro [3] rfl)).mono ?_
  rintro ⟨⟨ia, iN, ic⟩, ⟨⟩⟩ w32 h32
  dsimp only at h32 ⊢
  have S := S.stepE h32.ext
  have hI := h32.ints
  dsimp only at hI
  have hil := hI.len
  have hic := hI.cap
  have hblen := imgC_len d1.ok
  have hbb2 : C1.g.b.toNat * C1.g.p.toNat * szP C1.g = g.b.toNat * bszC C1 := by rw [hbsz, d1.gg, Nat.mul_assoc]
  rw [hbb2] at hblen
  rw [hblen] at hil
  have m2 : g.b.toNat * bszC C1 ≤ 16 * (20 * 216) := Nat.mul_le_mul (by omega) (by omega)
  have z2 : ((bszC C1 : Nat) : Int) * g.b = ((g.b.toNat * bszC C1 : Nat) : Int) := by
    push_cast
    rw [Int.toNat_of_nonneg (show 0 ≤ g.b by omega)]
    exact Int.mul_comm _ _
  refine cond_f (decide_eq_false (by omega)) (S.ld7 (j := 10) rfl rfl (cond_f (decide_eq_false (by dsimp only; omega)) ?_))
  refine S.ld8 (j := 1) rfl rfl ⟨by rw [z1]; exact Rng.i64 (by omega) (by omega), ?_⟩
  refine S.ld8 (j := 0) rfl rfl ⟨by rw [z1, z2]; exact Rng.i64 (by omega) (by omega), ?_⟩
  refine cond_ne (fun hne => absurd (by rw [z1, z2]; omega) hne) (fun _ => ?_)
  have z3 : (4 + bb) * (g.s + 88) = (((4 + bb).toNat * szP g : Nat) : Int) := by push_cast; rw [Int.toNat_of_nonneg (show 0 ≤ 4 + bb by omega), n8]
  have m3 : (4 + bb).toNat * bszC C1 + bszC C1 ≤ g.b.toNat * bszC C1 := by
    have : ((4 + bb).toNat + 1) * bszC C1 ≤ g.b.toNat * bszC C1 := Nat.mul_le_mul_right _ (by rw [d1.gg] at hin; omega)
    rwa [Nat.add_mul, Nat.one_mul] at this
  have m4 : (4 + bb).toNat * szP g * g.p.toNat = (4 + bb).toNat * bszC C1 := by rw [hbsz, Nat.mul_assoc, Nat.mul_comm (szP g)]
  have m5 : (4 + bb).toNat * szP g ≤ 16 * 216 := Nat.mul_le_mul (by omega) (by omega)
  have z4 : ((4 + bb) * (g.s + 88)) * g.p = (((4 + bb).toNat * bszC C1 : Nat) : Int) := by
    rw [z3, ← m4]
    push_cast
    rw [Int.toNat_of_nonneg (show 0 ≤ g.p by omega)]
  have hsb : szP g ≤ bszC C1 := by rw [hbsz]; exact Nat.le_mul_of_pos_left _ (by omega)
  refine ⟨Rng.i64 (by omega) (by omega), by rw [z3]; exact Rng.i64 (by omega) (by omega), S.ld8 (j := 1) rfl rfl ⟨by rw [z4]; exact Rng.i64 (by omega) (by omega), ?_⟩⟩
  rw [z4]
  generalize hlo : (4 + bb).toNat * bszC C1 = lo at m3 m4 z4 ⊢
  obtain ⟨pre, post, i1, i2, -⟩ := imgC_blk d1.ok hin
  rw [hlo] at i2
  have hgp : C1.g.p.toNat = g.p.toNat := by rw [d1.gg]
  have hallE : allC C1 (4 + bb) = (payL g [] ++ markL hd []) ++ List.replicate ((g.p.toNat - 1) * szP g) 255 := by
    show (blkC C1 (4 + bb)).pg.flatten = _
    rw [hpg, List.flatten_cons, flat_rep2]
  have hml : (payL g [] ++ markL hd []).length = szP g := by
    rw [List.length_append, payL_length hR.sec (.inl rfl), markL_length hd (.inl rfl)]
    omega
  have hat : ∀ z : Nat, szP g ≤ z → z < bszC C1 → (imgC C1)[lo + z]? = some 255 := fun z hz1 hz2 => by
    have hal := (d1.ok.blk hin).2.all.1
    rw [i1, List.getElem?_append_right (by omega), i2, show lo + z - lo = z by omega, List.getElem?_append_left (by show z < (allC C1 (4 + bb)).length; rw [show (allC C1 (4 + bb)).length = bszC C1 from hal]; exact hz2), hallE, List.getElem?_append_right (by omega), hml, List.getElem?_replicate, if_pos]
    have : g.p.toNat = (g.p.toNat - 1) + 1 := by omega
    rw [hbsz, this, Nat.add_mul, Nat.one_mul] at hz2
    omega
  have hfirst : ((imgC C1).drop lo).take (szP g) = payL g [] ++ markL hd [] := by
    rw [i1, List.drop_append, i2, Nat.sub_self, List.drop_eq_nil_of_le (by omega), List.nil_append, List.drop_zero, List.take_append_of_le_length (by show szP g ≤ (allC C1 (4 + bb)).length; rw [hallE, List.length_append, hml]; omega)]
    show (allC C1 (4 + bb)).take _ = _
    rw [hallE, List.take_append_of_le_length (by omega), List.take_of_length_le (by omega)]
  have hend : endP g (payL g [] ++ markL hd []) = markL hd [] := end_mark hR.sec (.inl rfl)
  refine ⟨fun v w' => ∃ (bq : Nat) (u v' : SlV), v.1 = some (⟨bq, 0, none⟩ : Addr) ∧ Ext w32 w' ∧ Sep NoB w w' (BoxA bq 57 [.int .i64 hd.k, .int .i64 hd.n, .int .i64 hd.c, .int .u32 hd.l, .int .u64 hd.e, .int .u64 hd.t, .slice u.a u.n u.c, .slice v'.a v'.n v'.c, .bool true, .bool true] :: plS pp p q g t O1 C1 L1 (rpS B l o L O (BoxA b13 38 (plV B f C l o) :: BoxA b1 27 (casV24 g f ⟨s.a, s.n, s.c⟩) :: BoxA b3 46 od.vs :: []))), ?_, ?_⟩
  case refine_2 =>
    refine S.reg fun D hD hkeep S T => ?_
    have X := T.fr
    clear T
    refine ⟨hD _ S.bl8, S.lb8 (o := 0) rfl ?_⟩
    have e88 : ((lo : Nat) : Int) + (g.s + 88) = ((lo + szP g : Nat) : Int) := by push_cast; omega
    dsimp only
    rw [e88]
    refine ⟨Rng.i64 (by omega) (by omega), ⟨by omega, by omega, by omega⟩, ?_⟩
    intro a87 ha87
    rw [Int.toNat_natCast] at ha87
    rw [Int.toNat_natCast, Int.toNat_natCast]
    have bi := imgC_byt d1.ok
    have hT := TB_sub (l := lo) (hh := lo + szP g) (m := ic) (ints_rd hI bi) (by omega) (by omega) (by omega) ha87
    have hsub : lo + szP g - lo = szP g := by omega
    rw [hsub, hfirst] at hT
    rw [hsub]
    have bx := Ty.byt hT
    have hJ := Ty.ints hT
    have done : ∀ {w' : World}, Ext w32 w' → CallV Tryz.prog 13 #[g.val, .slice a87 (szP g) (ic - lo), .int .i64 3] w' [.agg [.int .i64, .int .i64, .int .i64, .int .u32, .int .u64, .int .u64, .sl, .sl, .bool, .bool]] fun r w2 => Ext w' w2 ∧ ∃ u v : SlV, r.1 = pgU hd u v true := fun x => by
      refine (rPDone_c (g := g) (kind := 3) (hJ.ext x) (Ext.refl _) bx ⟨hR, by dsimp only; rw [hml]; exact n8⟩).mono ?_
      rintro r w2 ⟨x2, -, h3⟩
      rw [hend, markL_hd hd hrd, markL_comm hd (.inl rfl)] at h3
      obtain ⟨u, v, h5, -, -⟩ := h3 ⟨markL_ok hd hHd, rfl, y1⟩
      exact ⟨x2, u, v, h5⟩
    refine ⟨?_, ?_⟩
    · refine (done (.drew _)).mono ?_
      rintro ⟨_, ⟨⟩⟩ w40 ⟨x40, u, v, h40⟩
      dsimp only at h40
      subst h40
      have S := S.stepE x40
      have X := X.trans (.of x40)
      refine ⟨hkeep _ X, S.newB fun bq w41 S f41 z41 => ?_⟩
      have yq := Fr.nw X z41
      have X := X.trans f41
      refine ⟨hkeep _ X, S.st0 (by rfl) fun w42 S f42 => ?_⟩
      have X := Fr.box X yq f42
      exact ⟨hkeep _ X, bq, u, v, rfl, ((Fr.drew NoB w32).trans X).ext, S⟩
    · refine S.newB fun bq w41 S f41 z41 => ?_
      have yq := Fr.nw X z41
      have X := X.trans f41
      refine ⟨hkeep _ X, ?_⟩
      refine (done ((Fr.drew NoB w32).trans X).ext).mono ?_
      rintro ⟨_, ⟨⟩⟩ w40 ⟨x40, u, v, h40⟩
      dsimp only at h40
      subst h40
      have S := S.stepE x40
      have X := X.trans (.of x40)
      refine ⟨hkeep _ X, S.st0 (by rfl) fun w42 S f42 => ?_⟩
      have X := Fr.box X yq f42
      exact ⟨hkeep _ X, bq, u, v, rfl, ((Fr.drew NoB w32).trans X).ext, S⟩
  clear S
  rintro ⟨v, ⟨⟩⟩ w42 ⟨bq, u, v', hv, x42, S⟩
  dsimp only at hv
  subst hv
  have hI := hI.ext x42
  refine S.reg fun D hD hkeep S T => ?_
  have hI := hI.drew
  simp only [PtrK, Addr.add_lit, Nat.zero_add]
  refine ⟨hD _ S.bl0, S.ld0 (j := 9) rfl rfl (cond_f rfl ⟨hD _ S.bl0, S.ld0 (j := 1) rfl rfl (cond_f (by rw [y2]; simp) ⟨hD _ S.bl0, S.ld0 (j := 4) rfl rfl ⟨hD _ S.bl10, S.ld10 (j := 4) rfl rfl (cond_f (by rw [y3]; simp) ⟨hD _ S.bl0, S.ld0 (j := 5) rfl rfl ⟨hD _ S.bl10, S.ld10 (j := 5) rfl rfl (cond_f (by rw [y4]; simp) ⟨hD _ S.bl0, S.ld0 (j := 3) rfl rfl ?_⟩)⟩⟩)⟩⟩)⟩)⟩
  refine (Ledger24_c S.tail).mono ?_
  rintro ⟨_, ⟨⟩⟩ w57 ⟨h57, rfl⟩
  dsimp only at h57
  subst h57
  refine ⟨hkeep _ T.fr, ?_⟩
  have hbL : 0 ≤ bb ∧ bb < (L1.length : Int) := ⟨hb.1, by have := d1.ll; omega⟩
  have S0 := S
  refine (At_e (b := bb) (S.fro [3] rfl) hbL).mono ?_
  rintro ⟨_, ⟨⟩⟩ w59 ⟨h59, x59⟩
  dsimp only at h59
  subst h59
  have S := S.stepE x59
  have T := T.stepE x59
  have hI := hI.ext x59
  refine ⟨hkeep _ T.fr, ?_⟩
  have hw2 : IntKind.i64.wrap hd.l = hd.l := wrap_rng (Rng.i64 (by omega) (by omega))
  refine cond_f (by rw [y5, hw2, y6]; show (x.er != x.er) = false; simp) ?_
  refine ⟨hD _ S0.bl0, S0.lb0 (o := 0) rfl ?_⟩
  clear S0
  refine (Order24_c (b := bb) S.tail).mono ?_
  rintro ⟨_, ⟨⟩⟩ w63 ⟨h63, x63⟩
  dsimp only at h63
  subst h63
  have S := S.stepE x63
  have T := T.stepE x63
  have hI := hI.ext x63
  refine ⟨hkeep _ T.fr, ?_⟩
  have hbO : 0 ≤ bb ∧ bb < (O1.length : Int) := ⟨hb.1, by have := d1.ol; omega⟩
  rw [if_pos hbO, y10]
  refine eqHd (g := hd) (h := hd) (cond_f (by simp) ?_)
  clear T hkeep hD
  have e88 : g.s + 88 = ((szP g : Nat) : Int) := n8.symm
  rw [e88]
  refine Loop1 (fun (v : Int × Unit) w' => ∃ i : Nat, v.1 = (i : Int) ∧ szP g ≤ i ∧ i ≤ bszC C1 ∧ w' = w63) (fun (v : Int × Unit) _ => ((bszC C1 : Int) - v.1).toNat) ⟨szP g, e88, Nat.le_refl _, hsb, rfl⟩ ?_
  rintro ⟨(v : Int), ⟨⟩⟩ w66 ⟨i, hv, hi1, hi2, rfl⟩
  dsimp only at hv
  subst hv
  rw [e88] at z1
  refine S.ld9 (j := 1) rfl rfl ⟨by rw [z1]; exact Rng.i64 (by omega) (by omega), ?_⟩
  rw [z1]
  refine cond_d (fun hlt => ?_) (fun hge => ?_)
  · obtain ⟨qq, hq1, hq2⟩ := image_at hI (hat i hi1 (by omega))
    have ez : ((lo : Nat) : Int) + (i : Int) = ((lo + i : Nat) : Int) := by push_cast; rfl
    rw [ez]
    exact ⟨Rng.i64 (by omega) (by omega), ⟨by omega, by omega⟩, qq, hq1, (255 : Int), by rw [Int.toNat_natCast]; exact hq2, cond_f rfl ⟨Rng.i64 (by omega) (by omega), ⟨i + 1, by push_cast; rfl, by omega, by omega, rfl⟩, by omega⟩⟩
  refine (Ledger24_c S.tail).mono ?_
  rintro ⟨_, ⟨⟩⟩ w72 ⟨h72, rfl⟩
  dsimp only at h72
  subst h72
  refine (At_e (b := bb) (S.fro [3] rfl) hbL).mono ?_
  rintro ⟨_, ⟨⟩⟩ w74 ⟨h74, x74⟩
  dsimp only at h74
  subst h74
  have S := S.stepE x74
  rw [y5]
  refine S.newB fun b75 w75 S f75 _ => S.st0 (by rfl) fun w76 S f76 => ?_
  refine S.ld0 (j := 4) rfl rfl (cond_t rfl (S.ld0 (j := 0) rfl rfl (cond_t (by show (ns == ns) = true; simp) (S.ld0 (j := 1) rfl rfl (cond_t rfl (S.ld0 (j := 2) rfl rfl (cond_t rfl (S.ld0 (j := 6) rfl rfl (cond_t (by show (!x.ba) = true; rw [y7]; rfl) (fin S.ext))))))))))
theorem PoolOpens_of {w : World} {x : TCs24.T} {ns : Int} {y : THd.T} (g0 : TCs24.ok w x) (b0 : TCs24.big x) (g1 : Rng .i64 ns) (g2 : THd.ok w y) (b2 : THd.big y) :
    CallV Tryz.prog 4 #[.agg (TCs24.vs x).toArray, .int .i64 ns, .agg (THd.vs y).toArray] w [.one .bool] fun r w' => r.1 = true ∧ Ext w w' := by
  have hm := big24 g0 b0
  obtain ⟨⟨b, p, s, sp, wr, ro, ⟨⟩⟩, f, l, ⟨⟩⟩ := x
  rw [hdT_val]
  exact PoolOpens_law (g := ⟨b, p, s, sp, wr, ro⟩) (f := f) (s := l) (LF.rd_of g0.2.1) hm (LS24.rd_of g0.2.2.1) (hdT_rng g2)
end Go.Proofs.YtlpeoaphdmfjdaaGreat.Vc
