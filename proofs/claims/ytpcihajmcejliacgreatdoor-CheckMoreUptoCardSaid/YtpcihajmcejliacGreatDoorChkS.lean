/- The walk of the checker's expr: expressions. The walk of the checker's make: a local more. What the walks of statements and blocks share. -/
import Derived.Deep.CutBlock
import Derived.Deep.DeepCutAuto
import Derived.Test.YtpcihajmcejliacGreatDoorChkC
namespace Go.Proofs.YtpcihajmcejliacGreatDoor
open Go.RowKit
namespace chk
open synw ofp
theorem CS.far {W u u' : World} {C Mo D K P B : Nat} {E : CEnv} {vl : Value} {L : List Loc} {deep at_ : Int} {bod fac : Value} {dc pc : Array Value} (h : CS W u C Mo D K P B E vl L deep at_ bod fac dc pc) {S : Nat → Prop} (hC : Chg S u u') (hS : ∀ i, S i → B ≤ i) (hL : ∀ i, vl.ownBlock = some i → ¬ S i) : CS W u' C Mo D K P B E vl L deep at_ bod fac dc pc := by
 obtain ⟨n, hn, hk⟩ := h.k; have h1 := h.hC; have h2 := h.hM; have h3 := h.hK; have h4 := h.hP; have h5 := h.cB; have h6 := h.mB; have h7 := h.kB; have h8 := h.pB
 exact ⟨h.ext.trans hC (fun i hi e => by have := hS i e; omega), h.c.chg hC (fun e => by have := hS _ e; omega), h.mo.chg hC (fun e => by have := hS _ e; omega), h.d, h.own, ⟨n, hn, hk.chg hC (fun e => by have := hS _ e; omega)⟩, h.p.chg hC (fun e => by have := hS _ e; omega), grow_away h.loc loc_any hC hL, h1, h2, h3, h4, h5, h6, h7, h8, h.cM, h.cK, h.cP, h.mK, h.mP, h.kP, Nat.le_trans h.hu hC.size⟩
theorem tr_made {u : World} {X B : Nat} {k m : Int} {row : Value} {ks : List Tr} {r : CRef} {p0 p1 p2 p3 p4 p5 : Value} {lab ctx : Int} (hX : Blk u X (trC k m row r p0 p1 p2 p3 p4 p5 lab ctx) 345) (hG : Grow 1 219 OTr (X + 1) u row ks) (hB : B ≤ X) (hr : RefOk r) : TrAt (hide (below B) u) (.mk k m ks r lab ctx) (.pointer (some ⟨X, 0, none⟩)) := by
 obtain ⟨a, c, rfl, h1, h2, h3⟩ := hG.row tr_keeps tr_lies
 have hK : Keeps (hide (below (X + 1)) u) (hide (below B) u) := keeps_hide (Nat.le_refl _) fun i hi hm => by
  simp only [below, decide_eq_false_iff_not] at hm ⊢; exact ⟨by omega, trivial⟩
 rw [trAt_mk]; refine ⟨hr, X, a, c, p0, p1, p2, p3, p4, p5, rfl, by rw [hide_size]; exact hX.lt, fun i hi => ?_, h1, h2, h3.keeps hK (trIn_keeps hK)⟩
 rw [hide_cell _ _ _ (by simp [below]; omega), hX.cell]
theorem info_tr : (Tryz.prog.info? 219).map (fun i => (i.zero, i.size, i.bytes)) = some (some (.pointer none), 1, 8) := by kernel_rfl
def ExPost (u : World) (C Mo K P : Nat) (vl : Value) (deep : Int) (T : Rz Tr) (at_ : Nat) (kd : Int) (e : Ending) (u' : World) : Prop := Chg (fun i => i = C) u u' ∧ match T with
 | .bad c p => e = .panicked (firstC c (p : Nat))
 | .ok t => ∃ g, e = .returned (.pointer (some ⟨g, 0, none⟩)) ∧ u.heap.size ≤ g ∧ TrAt (hide (below u.heap.size) u') t (.pointer (some ⟨g, 0, none⟩)) ∧ Blk u' C (ckC Mo K vl deep (at_ : Nat) P) 221 ∧ t.kd = kd
def StepF (v : Value) (P Q : World → Prop) : List Value → World → Prop
 | [], u => P u
 | [v0], u => v0 = v ∧ P u
 | _, u => Q u
theorem StepF.P {v : Value} {P Q : World → Prop} {vs : List Value} {u : World} (h : StepF v P Q vs u) (hl : vs.length ≤ 1) : P u := by
 match vs, hl, h with
 | [], _, h => exact h
 | [_], _, h => exact h.2
theorem join_snoc (ks : List Tr) (y : Tr) : joinL (ks ++ [y]) = joinF (joinL ks) y.lab := by simp [joinL]
def RowF (E : CEnv) (L : List Loc) (ctx : Int) (l : List Nd) (p : Nat) (ks : List Tr) : Rz (List Tr) := (exsF E L ctx l p).bind fun ys => .ok (ks ++ ys)
theorem row_cons {E : CEnv} {L : List Loc} {ctx : Int} {x : Nd} {r : List Nd} {p : Nat} {ks : List Tr} : RowF E L ctx (x :: r) p ks = match exF E L ctx false x p with
 | .bad c q => .bad c q
 | .ok y => RowF E L ctx r (p + szF x) (ks ++ [y]) := by
 unfold RowF; rw [exsF]; cases exF E L ctx false x p with
 | bad c q => rfl
 | ok y =>
  simp only [Rz.bind]; cases exsF E L ctx r (p + szF x) with
  | bad c q => rfl
  | ok ys => simp
theorem form_exprs {k : Int} {t : ByteArray} {m : Int} {l : List Nd} (h : Form k t m l) (hk : KdE k) : ∀ y ∈ l, KdE y.kd := by
 unfold KdE at hk; cases h
 all_goals first
  | (exfalso; omega)
  | (intro y hy; exact absurd hy List.not_mem_nil)
  | assumption
  | (intro y hy; rw [List.mem_singleton] at hy; subst hy; assumption)
  | (intro y hy; simp only [List.mem_cons, List.not_mem_nil, or_false] at hy; rcases hy with rfl | rfl <;> assumption)
theorem len_szL (l : List Nd) : l.length ≤ szL l := by
 induction l with
 | nil => exact Nat.le_refl _
 | cons x r ih => have := sz_pos x; simp only [List.length_cons, szL]; omega
set_option maxRecDepth 100000 in
set_option maxHeartbeats 16000000 in
theorem expr_any {W : World} {C Mo D K P B : Nat} {E : CEnv} {vl : Value} {L : List Loc} {deep : Int} {bod fac : Value} {dc pc : Array Value} {ctx : Int} {H : Nat → Bool} (hmv : MaxVar W) (hL : L.length ≤ 1000) : ∀ (x : Nd), IsNd x → KdE x.kd → ∀ (v : Value) (alone : Bool) (u : World) (p : Nat), CS W u C Mo D K P B E vl L deep (p : Nat) bod fac dc pc → NdAt (hide H W) x v → p + szF x ≤ 1000 →
  Calls Tryz.prog 282 #[.pointer (some ⟨C, 0, none⟩), v, .int .i64 ctx, .bool alone] u (ExPost u C Mo K P vl deep (exF E L ctx alone x p) (p + szF x) x.kd) := by
 refine nd_ind fun k t m l ih => ?_
 intro his hkd v alone u p hCS hnd hsz; have hkids := his.kids; have hform := his.form; rw [ndAt_mk] at hnd; obtain ⟨a, cc, rfl, hl1, hl2, hl3, hl4⟩ := hnd; obtain ⟨T, hT⟩ : ∃ T, exF E L ctx alone (.mk k t m l) p = T := ⟨_, rfl⟩; rw [hT]; rw [exF] at hT; have hke := form_exprs hform hkd; have HIH := Z_ (fun (y : Nd) (hy : y ∈ l) => ih y hy (hkids y hy) (hke y hy)); obtain ⟨N, hN⟩ : ∃ N, l.length = N := ⟨_, rfl⟩; rw [hN] at hl1 ⊢; have HN := Z_ hN; obtain ⟨pe, hpe⟩ : ∃ pe, p + szF (.mk k t m l) = pe := ⟨_, rfl⟩; rw [hpe] at hsz ⊢; have hpe2 : p + 1 + szL l = pe := by rw [← hpe]; simp only [szF]; omega
 have HPE := Z_ hpe2; have HI := Z_ (fun (u : World) (hE : Ext W u) => hl4.keeps (keeps_chg hE fun i _ e => e.elim) fun b o y => ndIn_keeps (keeps_chg hE fun i _ e => e.elim) b o y); have HMV := Z_ hmv; have HT := Z_ (show (RowF E L ctx l (p + 1) []).bind (fun ks => finF E L ctx alone k t m ks p) = T by rw [← hT]; unfold RowF; cases exsF E L ctx l (p + 1) <;> rfl); have HVL := Z_ (fun i e => (grow_own hCS.loc i e).2); have HKD := Z_ (show KdE k from hkd); have HLL := Z_ hL; have HUB := Z_ hCS.hu; have HCB := Z_ hCS.cB; have HWC := Z_ (show W.heap.size ≤ u.heap.size from hCS.ext.size); have hE0 := (Chg.refl (fun _ => False) u).alloc (.cells #[.int .i64 k, .string t, .int .i64 m, .slice a N cc] 24); have HC := Z_ (hCS.extend hE0); have HB := Z_ (Blk.made u #[.int .i64 k, .string t, .int .i64 m, .slice a N cc] 24)
 have HE := Z_ (hE0.weak (S' := fun i => i = C) fun _ _ e => e.elim); obtain ⟨Nb, hNb⟩ : ∃ Nb, u.heap.size = Nb := ⟨_, rfl⟩; have HNB := Z_ hNb; rw [hNb] at HB HVL HUB; have hNl : N ≤ 1000 := by have h1 := len_szL l; omega
 have hp : p ≤ 1000 := by omega
 clear hE0 hCS hl4 hT hkids hke ih his hkd hform hN hpe hpe2 hmv hL; go_enter Tryz.func282, Tryz.ntmps282
 go_upto_region 1 with (fail)
 try rw [hNb]
 generalize u.alloc (.cells #[.int .i64 k, .string t, .int .i64 m, .slice a N cc] 24) = u1 at *; go_wp2_with fail
 refine (next_any HC.out.c (by omega) (by omega)).mono ?_
 rintro e w2 ⟨rfl, hC2, hB2⟩; have HC2 := Z_ (HC.out.turnC hC2 hB2); have HB2 := Z_ (HB.out.chg hC2 (by have := HCB.out; have := HUB.out; omega)); have HE2 := Z_ (HE.out.then hC2); clear hC2 hB2 HC HB HE; have hbc := HB2.out.cell; go_upto_region 3 with (fail)
 have HX := Z_ (show Blk (w2.alloc (.cells #[.int .i64 k, .int .i64 m, .slice none 0 0, .int .i64 0, .string ⟨#[]⟩, .string ⟨#[]⟩, .int .i64 0, .int .i64 0, .string ⟨#[]⟩, .bool false, .slice none 0 0, .int .i64 0, .bool false, .int .i64 0, .int .i64 0, .int .i64 ctx] 345)) w2.heap.size #[.int .i64 k, .int .i64 m, .slice none 0 0, .int .i64 0, .string ⟨#[]⟩, .string ⟨#[]⟩, .int .i64 0, .int .i64 0, .string ⟨#[]⟩, .bool false, .slice none 0 0, .int .i64 0, .bool false, .int .i64 0, .int .i64 0, .int .i64 ctx] 345 from Blk.made w2 _ _); have HB3 := Z_ (HB2.out.alloc (.cells #[.int .i64 k, .int .i64 m, .slice none 0 0, .int .i64 0, .string ⟨#[]⟩, .string ⟨#[]⟩, .int .i64 0, .int .i64 0, .string ⟨#[]⟩, .bool false, .slice none 0 0, .int .i64 0, .bool false, .int .i64 0, .int .i64 0, .int .i64 ctx] 345)); have HC3 := Z_ (HC2.out.extend ((Chg.refl _ w2).alloc (.cells #[.int .i64 k, .int .i64 m, .slice none 0 0, .int .i64 0, .string ⟨#[]⟩, .string ⟨#[]⟩, .int .i64 0, .int .i64 0, .string ⟨#[]⟩, .bool false, .slice none 0 0, .int .i64 0, .bool false, .int .i64 0, .int .i64 0, .int .i64 ctx] 345)))
 have HE3 := Z_ (HE2.out.alloc (.cells #[.int .i64 k, .int .i64 m, .slice none 0 0, .int .i64 0, .string ⟨#[]⟩, .string ⟨#[]⟩, .int .i64 0, .int .i64 0, .string ⟨#[]⟩, .bool false, .slice none 0 0, .int .i64 0, .bool false, .int .i64 0, .int .i64 0, .int .i64 ctx] 345)); have hXu := HE2.out.size; rw [hNb] at hXu; obtain ⟨X, hX⟩ : ∃ X, w2.heap.size = X := ⟨_, rfl⟩; rw [hX] at HX hXu; have hNX : Nb < X := by have := HB2.out.lt; omega
 have HG3 := Z_ (show Grow 1 219 OTr (X + 1) (w2.alloc (.cells #[.int .i64 k, .int .i64 m, .slice none 0 0, .int .i64 0, .string ⟨#[]⟩, .string ⟨#[]⟩, .int .i64 0, .int .i64 0, .string ⟨#[]⟩, .bool false, .slice none 0 0, .int .i64 0, .bool false, .int .i64 0, .int .i64 0, .int .i64 ctx] 345)) (.slice none 0 0) [] from Grow.nil _ _ _ _ _)
 try rw [hX]
 clear hbc hX HC2 HB2 HE2; generalize w2.alloc (.cells #[.int .i64 k, .int .i64 m, .slice none 0 0, .int .i64 0, .string ⟨#[]⟩, .string ⟨#[]⟩, .int .i64 0, .int .i64 0, .string ⟨#[]⟩, .bool false, .slice none 0 0, .int .i64 0, .bool false, .int .i64 0, .int .i64 0, .int .i64 ctx] 345) = u3 at *; have HX := Z_ (show Blk u3 X (trC k m (.slice none 0 0) zRef (.string ⟨#[]⟩) (.bool false) (.slice none 0 0) (.int .i64 0) (.bool false) (.int .i64 0) (joinL []) ctx) 345 from HX.out); have hbc := HB3.out.cell; have HCX := Z_ (show C < X by have := HCB.out; have := HUB.out; omega); have HBX := Z_ (show B ≤ X by have := HUB.out; omega); have HNX := Z_ hNX; have HXU := Z_ hXu; go_wp2_with fail
 clear hbc; go_loopw [26] (fun i wr => ∃ (j q : Nat) (row : Value) (ks : List Tr), j ≤ N ∧ i = .int .i64 (j : Nat) ∧ Hid (ks.length = j) ∧ Hid (q + szL (l.drop j) = pe) ∧ Hid ((RowF E L ctx (l.drop j) q ks).bind (fun ks => finF E L ctx alone k t m ks p) = T) ∧ Hid (CS W wr C Mo D K P B E vl L deep (q : Nat) bod fac dc pc ∧ Blk wr Nb #[.int .i64 k, .string t, .int .i64 m, .slice a N cc] 24 ∧ Blk wr X (trC k m row zRef (.string ⟨#[]⟩) (.bool false) (.slice none 0 0) (.int .i64 0) (.bool false) (.int .i64 0) (joinL ks) ctx) 345 ∧ Grow 1 219 OTr (X + 1) wr row ks ∧ Chg (fun i => i = C) u wr)) (fun i _ => N - (intOf i).toNat)
 case atStart => exact ⟨0, p + 1, .slice none 0 0, [], Nat.zero_le _, rfl, Z_ rfl, Z_ (by have := HPE.out; rw [List.drop_zero]; exact this), HT, Z_ ⟨HC3.out, HB3.out, HX.out, HG3.out, HE3.out⟩⟩
 clear HC3 HB3 HX HG3 HE3 HT
 case round =>
  obtain ⟨j, q, row, ks, hj, rfl, HKL, HQ, HT, HS⟩ := hrel; by_cases hlt : j < N
  ·have hji : (j : Int) < (N : Int) := by omega
   have hjd : decide ((j : Int) < (N : Int)) = true := by simpa using hji
   have hjl : j < l.length := by rw [HN.out]; exact hlt
   obtain ⟨b, o, rfl, hb, uv, hu, hus, hcl⟩ := HI.out W (Chg.refl _ _) j hjl; rw [hide_size] at hb; have hE := HS.out.1.ext; have hbl := Nat.lt_of_lt_of_le hb hE.size; have HIY := Z_ (HIH.out l[j] (List.getElem_mem hjl)); have hT := HT.out; rw [List.drop_eq_getElem_cons hjl, row_cons] at hT; have hQ := HQ.out; rw [List.drop_eq_getElem_cons hjl] at hQ; simp only [szL] at hQ; generalize l[j] = y at hu hT hQ HIY; have HU := Z_ hu; obtain ⟨k1, t1, m1, a1, N1, c1, rfl⟩ := nd_form hu; have q0 : wr.cell? ⟨b, o + j * 4, none⟩ = some (.int .i64 k1) := (hE.cell (p := ⟨b, o + j * 4, none⟩) hb id).trans ((keeps_bare _ W).2 _ _ ((hcl 0 (by decide)).trans rfl)); have q1 : wr.cell? ⟨b, o + j * 4 + 1, none⟩ = some (.string t1) := (hE.cell (p := ⟨b, o + j * 4 + 1, none⟩) hb id).trans ((keeps_bare _ W).2 _ _ ((hcl 1 (by decide)).trans rfl)); have q2 : wr.cell? ⟨b, o + j * 4 + 2, none⟩ = some (.int .i64 m1) := (hE.cell (p := ⟨b, o + j * 4 + 2, none⟩) hb id).trans ((keeps_bare _ W).2 _ _ ((hcl 2 (by decide)).trans rfl))
   have q3 : wr.cell? ⟨b, o + j * 4 + 3, none⟩ = some (.slice a1 N1 c1) := (hE.cell (p := ⟨b, o + j * 4 + 3, none⟩) hb id).trans ((keeps_bare _ W).2 _ _ ((hcl 3 (by decide)).trans rfl)); have hX5 := (Chg.refl (fun _ => False) wr).alloc (.cells #[.int .i64 k1, .string t1, .int .i64 m1, .slice a1 N1 c1] 24); have HK := Z_ (Blk.made wr #[.int .i64 k1, .string t1, .int .i64 m1, .slice a1 N1 c1] 24); have HS5 := Z_ (show CS W _ C Mo D K P B E vl L deep (q : Nat) bod fac dc pc ∧ Blk _ Nb #[.int .i64 k, .string t, .int .i64 m, .slice (some ⟨b, o, none⟩) N cc] 24 ∧ Blk _ X (trC k m row zRef (.string ⟨#[]⟩) (.bool false) (.slice none 0 0) (.int .i64 0) (.bool false) (.int .i64 0) (joinL ks) ctx) 345 ∧ Grow 1 219 OTr (X + 1) _ row ks ∧ Chg (fun i => i = C) u _ from ⟨HS.out.1.extend hX5, HS.out.2.1.ext hX5, HS.out.2.2.1.ext hX5, HS.out.2.2.2.1.chg tr_keeps hX5 (fun _ e => e.elim), HS.out.2.2.2.2.ext hX5⟩)
   have hw5 := HS.out.2.2.1.lt; have HROW := Z_ (fun i e => (grow_own HS.out.2.2.2.1 i e).2); obtain ⟨Kb, hKb⟩ : ∃ Kb, wr.heap.size = Kb := ⟨_, rfl⟩; rw [hKb] at HK HROW hw5; have HXK := Z_ hw5; have HT2 := Z_ hT; have HQ2 := Z_ hQ; clear hX5 hT hQ HT HQ hcl hus hu hw5 HS hE; go_upto_region 6 with (fail)
   try rw [hKb]
   have hsz5 : (wr.alloc (.cells #[.int .i64 k1, .string t1, .int .i64 m1, .slice a1 N1 c1] 24)).heap.size = Kb + 1 := by simp [hKb]
   generalize wr.alloc (.cells #[.int .i64 k1, .string t1, .int .i64 m1, .slice a1 N1 c1] 24) = u5 at *; have HS5Z := Z_ hsz5; clear q0 q1 q2 q3 hKb hsz5; have hkc := HK.out.cell; go_wp2_with fail
   refine (HIY.out _ false u5 q HS5.out.1 HU.out (by have := HQ2.out; omega)).mono ?_
   rintro e w6 ⟨hC6, hT6⟩; obtain ⟨R6, hR6⟩ : ∃ R6, exF E L ctx false y q = R6 := ⟨_, rfl⟩; have hT2 := HT2.out; rw [hR6] at hT2 hT6; clear HT2 hR6 hkc; cases R6 with
   | bad c9 p9 =>
    have HTB := Z_ (show T = .bad c9 p9 from hT2.symm); have hC9 := HS5.out.2.2.2.2.then hC6
    obtain rfl : e = _ := hT6; clear hT2; go_wp2_with fail
    refine ⟨rfl, ?_⟩
    rw [HTB.out]; exact ⟨hC9, rfl⟩
   | ok t6 =>
    obtain ⟨g6, rfl, hg6, hta6, hc6, hkd6⟩ := hT6; rw [HS5Z.out] at hta6 hg6; have HS6 := Z_ (show CS W w6 C Mo D K P B E vl L deep ((q + szF y) : Nat) bod fac dc pc ∧ Blk w6 Nb #[.int .i64 k, .string t, .int .i64 m, .slice (some ⟨b, o, none⟩) N cc] 24 ∧ Blk w6 X (trC k m row zRef (.string ⟨#[]⟩) (.bool false) (.slice none 0 0) (.int .i64 0) (.bool false) (.int .i64 0) (joinL ks) ctx) 345 ∧ Grow 1 219 OTr (X + 1) w6 row ks ∧ Chg (fun i => i = C) u w6 from ⟨HS5.out.1.turnC hC6 hc6, HS5.out.2.1.chg hC6 (by have := HCB.out; have := HUB.out; omega), HS5.out.2.2.1.chg hC6 (by have := HCX.out; omega), HS5.out.2.2.2.1.chg tr_keeps hC6 (fun i e => by have := HCX.out; omega), HS5.out.2.2.2.2.then hC6⟩)
    have HTA := Z_ (show OTr t6 (.pointer (some ⟨g6, 0, none⟩)) (hide (rowHid (X + 1) row) w6) from ⟨trAt_keeps (keeps_hide (Nat.le_refl _) fun i hi hm => by
     simp only [below, decide_eq_false_iff_not] at hm; refine ⟨?_, rfl⟩
     simp only [rowHid, Bool.or_eq_false_iff, decide_eq_false_iff_not]; refine ⟨by have := HXK.out; omega, fun e => ?_⟩
     have := HROW.out i e; omega) _ _ hta6, g6, rfl⟩)
    have HT6 := Z_ (show (RowF E L ctx (l.drop (j + 1)) (q + szF y) (ks ++ [t6])).bind (fun ks => finF E L ctx alone k t m ks p) = T from hT2); have HG6 := Z_ hg6; clear hC6 hta6 hc6 hkd6 hT2 hg6 HS5 HK; obtain ⟨ra, rc, hrow, -, -⟩ := grow_slice HS6.out.2.2.2.1; rw [HKL.out] at hrow; subst hrow; obtain ⟨us, hu1, ho, hu3⟩ := HS6.out.2.2.2.1.ex; rw [HKL.out] at ho; have HO := Z_ ho; have HU9 := Z_ (And.intro hu1 hu3); obtain ⟨i0_, hi_, hz0, hz1, hz2⟩ := info_split info_tr; clear ho hu1 hu3; have hxc := HS6.out.2.2.1.cell; have hxf := HS6.out.2.2.1.frozen; have hxl := HS6.out.2.2.1.lt; unfold trC at hxc; go_upto_region 8 with (at_builtin; refine wpList_append_lies _ rfl _ _ 341 rfl (X + 1) 219 i0_ (.pointer none) 1 8 Tryz.underlying341 hi_ hz0 hz1 hz2 rfl (by decide) (.slice ra j rc) j (us.flatMap fun u => u.cells.toList) rfl (HO.out.alloc _) ⟨w6.heap.size, 0, none⟩ 1 1 [.pointer (some ⟨g6, 0, none⟩)] rfl rfl (by intro j z_ hj; have e : (⟨w6.heap.size, 0, none⟩ : Addr).add j = ⟨w6.heap.size, j, none⟩ := (by unfold Addr.add; split <;> simp_all); rw [e, (Blk.made w6 _ _).cell]; simpa using hj) (by intro z_ hz_; simp only [List.mem_cons, List.not_mem_nil, or_false] at hz_; subst hz_; rfl) (by decide) (by unfold maxLen; omega) (by omega) (by simp; omega) (w6.heap.size + 1) (by simp) ?_; intro g c' w9 hown hgrow hat hlt1; have HPU := Z_ (pushedG tr_keeps HU9.out.1 HU9.out.2 (x := t6) (v := .pointer (some ⟨g6, 0, none⟩)) HTA.out rfl (by rw [HKL.out]; exact hown) hgrow hat); have HX9 := Z_ (HS6.out.2.2.1.chg HPU.out.2 (fun e => by have := HROW.out _ e; have h2 := grow_own HS6.out.2.2.2.1 _ e; omega)); have q1 := HX9.out.cell; have q1f := HX9.out.frozen; have q1l := HX9.out.lt; unfold trC at q1; clear hown hgrow hat hxc hxf hxl)
    rw [HKL.out] at HPU; have hgr := HPU.out.1; have hgc := HPU.out.2; have hCs := chg_set (S := X) (Chg.refl _ w9) 2 (.slice (some ⟨g, 0, none⟩) (j + 1) c'); have hrl : ∀ i, (Value.slice ra j rc).ownBlock = some i → X + 1 ≤ i := fun i e => (grow_own HS6.out.2.2.2.1 i e).1
    have HS8 := Z_ (show CS W _ C Mo D K P B E vl L deep ((q + szF y) : Nat) bod fac dc pc ∧ Blk _ Nb #[.int .i64 k, .string t, .int .i64 m, .slice (some ⟨b, o, none⟩) N cc] 24 ∧ Blk _ X (trC k m (.slice (some ⟨g, 0, none⟩) (j + 1) c') zRef (.string ⟨#[]⟩) (.bool false) (.slice none 0 0) (.int .i64 0) (.bool false) (.int .i64 0) (joinL ks) ctx) 345 ∧ Grow 1 219 OTr (X + 1) _ (.slice (some ⟨g, 0, none⟩) (j + 1) c') (ks ++ [t6]) ∧ Chg (fun i => i = C) u _ from ⟨(HS6.out.1.far hgc (fun i e => by have := hrl i e; have := HBX.out; omega) (fun i e e2 => by have := HVL.out i e; have := hrl i e2; have := HNX.out; omega)).far hCs (fun i e => by have := HBX.out; omega) (fun i e e2 => by have := HVL.out i e; have := HNX.out; omega), (HS6.out.2.1.chg hgc (fun e => by have := hrl _ e; have := HNX.out; omega)).chg hCs (by have := HNX.out; omega), HX9.out.set 2 _, hgr.chg tr_keeps hCs (fun i e => by omega), (HS6.out.2.2.2.2.trans hgc (fun i hi e => by have := hrl i e; have := HXU.out; omega)).trans hCs (fun i hi e => by have := HXU.out; omega)⟩)
    have hKy : Keeps (hide (rowHid (X + 1) (.slice ra j rc)) w6) (hide (rowHid (X + 1) (.slice ra j rc)) (w9.setCell ⟨X, 2, none⟩ (.slice (some ⟨g, 0, none⟩) (j + 1) c'))) := (keeps_chg hgc fun i _ e => by simp [rowHid, e]).trans (keeps_chg hCs fun i _ e => by simp [rowHid, e]); have HY9 := Z_ (trAt_keeps (keeps_bare _ _) _ _ (trAt_keeps hKy _ _ HTA.out.1)); clear q1 q1f q1l HPU HX9 hgr hgc hCs hrl HS6 HTA hKy HU9 HO; generalize w9.setCell ⟨X, 2, none⟩ (.slice (some ⟨g, 0, none⟩) (j + 1) c') = w8 at *; obtain ⟨g7, ya, yb, s0, s1, s2, s3, s4, s5, e9, hy9, hyc, -⟩ := tr_cells HY9.out; cases e9
    have hy14 : w8.cell? ⟨g6, 14, none⟩ = some (.int .i64 t6.lab) := hyc 14 (by decide); have HJN := Z_ (join_snoc ks t6); obtain ⟨z6, hz6⟩ : ∃ z6, t6.lab = z6 := ⟨_, rfl⟩; rw [hz6] at hy14 HJN; obtain ⟨z5, hz5⟩ : ∃ z5, joinL ks = z5 := ⟨_, rfl⟩; rw [hz5] at HS8 HJN; clear hyc hz6 hz5; refine wp_region_weave [9, 12] (fun i v _ => v = ([.pointer (some ⟨X, 0, none⟩), .pointer (some ⟨X, 0, none⟩), .pointer (some ⟨X, 0, none⟩), .pointer (some ⟨X, 14, none⟩), .int .i64 z5, .pointer (some ⟨g6, 0, none⟩), .pointer (some ⟨g6, 0, none⟩), .pointer (some ⟨g6, 14, none⟩), .int .i64 z6, undef, .pointer (some ⟨X, 0, none⟩), .pointer (some ⟨X, 14, none⟩), undef] : List Value).getD i undef) (StepF (.int .i64 (joinF z5 z6)) (fun u9 => Ext w8 u9) (fun u9 => Blk u9 X (trC k m (.slice (some ⟨g, 0, none⟩) (j + 1) c') zRef (.string ⟨#[]⟩) (.bool false) (.slice none 0 0) (.int .i64 0) (.bool false) (.int .i64 0) (joinF z5 z6) ctx) 345 ∧ Chg (fun i => i = X) w8 u9)) (fun _ _ => True) (frame := ?fraj) (fun x => ?hfaj) synw.mixed (by kernel_rfl) (by kernel_rfl) (fun _ _ _ _ h _ => h) ?h0j ?stj ?finj
    case hfaj =>
     simp only [chain.frameOf, chain.fill, chain.setOpt, chain.dstOf, List.size_toArray, List.length_cons, List.length_nil, List.getElem?_toArray, List.getElem?_cons_succ, List.getElem?_cons_zero, List.setIfInBounds_toArray, List.set_cons_succ, List.set_cons_zero]; exact rfl
    case h0j => exact (Chg.refl _ _).drew
    case stj =>
     refine AllFrom.cons (fun x vs u hF hm hb hd K' hK' => ?sj0) (AllFrom.cons (fun x vs u hF hm hb hd K' hK' => ?sj1) (AllFrom.cons (fun x vs u hF hm hb hd K' hK' => ?sj2) (AllFrom.cons (fun x vs u hF hm hb hd K' hK' => ?sj3) (AllFrom.cons (fun x vs u hF hm hb hd K' hK' => ?sj4) (AllFrom.cons (fun x vs u hF hm hb hd K' hK' => ?sj5) (AllFrom.cons (fun x vs u hF hm hb hd K' hK' => ?sj6) (AllFrom.cons (fun x vs u hF hm hb hd K' hK' => ?sj7) (AllFrom.cons (fun x vs u hF hm hb hd K' hK' => ?sj8) (AllFrom.cons (fun x vs u hF hm hb hd K' hK' => ?sj9) (AllFrom.cons (fun x vs u hF hm hb hd K' hK' => ?sj10) (AllFrom.cons (fun x vs u hF hm hb hd K' hK' => ?sj11) (AllFrom.cons (fun x vs u hF hm hb hd K' hK' => ?sj12) (AllFrom.nil)))))))))))))
     case sj0 =>
      have HF := Z_ hF; clear hd hm hb hF; go_simp; exact hK'.out _ _ _ (rfl) trivial ⟨rfl, HF.out⟩
     case sj1 =>
      have HF := Z_ hF; clear hd hm hb hF; go_simp; exact hK'.out _ _ _ (rfl) trivial ⟨rfl, HF.out⟩
     case sj2 =>
      have y0 := hd 1 (by decide) (by kernel_rfl); replace y0 : x 45 = .pointer (some ⟨X, 0, none⟩) := y0; have HF := Z_ hF; clear hd hm hb hF; go_simp; exact hK'.out _ _ _ (by simp only [y0]; rfl) trivial ⟨rfl, HF.out⟩
     case sj3 =>
      have y0 := hd 2 (by decide) (by kernel_rfl); replace y0 : x 46 = .pointer (some ⟨X, 0, none⟩) := y0; have HF := Z_ hF; clear hd hm hb hF; go_simp; exact hK'.out _ _ _ (by simp only [y0]; rfl) trivial ⟨rfl, HF.out⟩
     case sj4 =>
      have hE8 := StepF.P hF (by have := hb 0 _ (by decide) rfl (by kernel_rfl); omega); have hq := (HS8.out.2.2.1.ext hE8).cell; unfold trC at hq; clear hE8; have y0 := hd 3 (by decide) (by kernel_rfl); replace y0 : x 47 = .pointer (some ⟨X, 14, none⟩) := y0; have HF := Z_ hF; clear hd hm hb hF; go_simp; exact hK'.out _ _ _ (by simp only [y0]; rfl) trivial ⟨rfl, HF.out⟩
     case sj5 =>
      have HF := Z_ hF; clear hd hm hb hF; go_simp; exact hK'.out _ _ _ (rfl) trivial ⟨rfl, HF.out⟩
     case sj6 =>
      have y0 := hd 5 (by decide) (by kernel_rfl); replace y0 : x 49 = .pointer (some ⟨g6, 0, none⟩) := y0; have HF := Z_ hF; clear hd hm hb hF; go_simp; exact hK'.out _ _ _ (by simp only [y0]; rfl) trivial ⟨rfl, HF.out⟩
     case sj7 =>
      have y0 := hd 6 (by decide) (by kernel_rfl); replace y0 : x 50 = .pointer (some ⟨g6, 0, none⟩) := y0; have HF := Z_ hF; clear hd hm hb hF; go_simp; exact hK'.out _ _ _ (by simp only [y0]; rfl) trivial ⟨rfl, HF.out⟩
     case sj8 =>
      have hE8 := StepF.P hF (by have := hb 0 _ (by decide) rfl (by kernel_rfl); omega); have hq := (hE8.cell (p := ⟨g6, 14, none⟩) hy9 id).trans hy14; clear hE8; have y0 := hd 7 (by decide) (by kernel_rfl); replace y0 : x 51 = .pointer (some ⟨g6, 14, none⟩) := y0; have HF := Z_ hF; clear hd hm hb hF; go_simp; exact hK'.out _ _ _ (by simp only [y0]; rfl) trivial ⟨rfl, HF.out⟩
     case sj9 =>
      obtain rfl := List.eq_nil_of_length_eq_zero (hm 0 (by kernel_rfl)); have y0 := hd 4 (by decide) (by kernel_rfl); replace y0 : x 48 = .int .i64 z5 := y0; have y1 := hd 8 (by decide) (by kernel_rfl); replace y1 : x 52 = .int .i64 z6 := y1; have HF := Z_ hF; clear hd hm hb hF; go_simp; refine (join_any _ _ _).mono ?_
      rintro e u2 ⟨rfl, rfl⟩; exact hK'.out _ _ _ (by simp only [y0, y1]; rfl) trivial ⟨rfl, HF.out⟩
     case sj10 =>
      have y0 := hd 0 (by decide) (by kernel_rfl); replace y0 : x 44 = .pointer (some ⟨X, 0, none⟩) := y0; have HF := Z_ hF; clear hd hm hb hF; go_simp; exact hK'.out _ _ _ (by simp only [y0]; rfl) trivial ⟨rfl, HF.out⟩
     case sj11 =>
      have y0 := hd 10 (by decide) (by kernel_rfl); replace y0 : x 54 = .pointer (some ⟨X, 0, none⟩) := y0; have HF := Z_ hF; clear hd hm hb hF; go_simp; exact hK'.out _ _ _ (by simp only [y0]; rfl) trivial ⟨rfl, HF.out⟩
     case sj12 =>
      obtain ⟨v0, rfl⟩ : ∃ v0, vs = [v0] := by match vs, hm 1 (by kernel_rfl) with | [v0], _ => exact ⟨_, rfl⟩
      have y0 := hd 11 (by decide) (by kernel_rfl); replace y0 : x 55 = .pointer (some ⟨X, 14, none⟩) := y0; have y1 := hd 9 (by decide) (by kernel_rfl) 53 (by kernel_rfl); replace y1 : x 53 = v0 := y1; obtain ⟨rfl, hE9⟩ := hF; have hq := (HS8.out.2.2.1.ext hE9).cell; have hqf := (HS8.out.2.2.1.ext hE9).frozen; have hql := (HS8.out.2.2.1.ext hE9).lt; unfold trC at hq; have HF := Z_ hE9; clear hd hm hb hE9; go_simp; exact hK'.out _ _ undef (by simp only [y0, y1]; rfl) trivial ⟨(HS8.out.2.2.1.ext HF.out).set 14 _, chg_set (HF.out.weak fun _ _ e => e.elim) 14 _⟩
    case finj =>
     intro x9 vs9 w7 hl hF hk9; obtain ⟨v0, v1, rfl⟩ : ∃ v0 v1, vs9 = [v0, v1] := by match vs9, hl with | [v0, v1], _ => exact ⟨_, _, rfl⟩
     obtain ⟨hXb, hCx⟩ := hF; have HS7 := Z_ (show CS W w7 C Mo D K P B E vl L deep ((q + szF y) : Nat) bod fac dc pc ∧ Blk w7 Nb #[.int .i64 k, .string t, .int .i64 m, .slice (some ⟨b, o, none⟩) N cc] 24 ∧ Blk w7 X (trC k m (.slice (some ⟨g, 0, none⟩) (j + 1) c') zRef (.string ⟨#[]⟩) (.bool false) (.slice none 0 0) (.int .i64 0) (.bool false) (.int .i64 0) (joinL (ks ++ [t6])) ctx) 345 ∧ Grow 1 219 OTr (X + 1) w7 (.slice (some ⟨g, 0, none⟩) (j + 1) c') (ks ++ [t6]) ∧ Chg (fun i => i = C) u w7 from ⟨HS8.out.1.far hCx (fun i e => by have := HBX.out; omega) (fun i e e2 => by have := HVL.out i e; have := HNX.out; omega), HS8.out.2.1.chg hCx (by have := HNX.out; omega), by rw [HJN.out]; exact hXb, HS8.out.2.2.2.1.chg tr_keeps hCx (fun i e => by omega), HS8.out.2.2.2.2.trans hCx (fun i hi e => by have := HXU.out; omega)⟩); clear hk9 hl hXb hCx; go_wp2_with fail
     go_roundw
     case rel => exact ⟨j + 1, q + szF y, _, ks ++ [t6], by omega, by go_num, Z_ (by rw [List.length_append, HKL.out]; rfl), Z_ (by have := HQ2.out; omega), HT6, HS7⟩
     case measure => simp [intOf]; omega
  ·obtain rfl : j = N := by omega
   have hjd : decide ((j : Int) < (j : Int)) = false := by simp
   have hT := HT.out; have hQ := HQ.out; rw [List.drop_of_length_le (by rw [HN.out]; exact Nat.le_refl _)] at hT hQ; have hR0 : RowF E L ctx [] q ks = .ok ks := by unfold RowF; simp [exsF, Rz.bind]
   rw [hR0] at hT; obtain rfl : q = pe := hQ; have HTF := Z_ (show finF E L ctx alone k t m ks p = T from hT); obtain ⟨ra, rc, hrow, hr1, hr2, hr3⟩ := HS.out.2.2.2.1.row tr_keeps tr_lies; have HKR := Z_ hr3; have hNge : u.heap.size ≤ X := by have := HNB.out; have := HNX.out; omega
   have HGE := Z_ hNge; clear hT hR0 HT HQ hr3 hNge HIH HI; subst hrow; have hbc := HS.out.2.1.cell; by_cases h67 : k = 16 ∨ k = 17
   ·have HTV := Z_ (show ((varF E L t p).bind fun r => if decide (0 < r.size) = decide (k = 17) then (.ok (.mk k m ks r (joinF (joinL ks) r.label) ctx) : Rz Tr) else .bad 3 p) = T by have h := HTF.out; unfold finF at h; rw [if_pos h67] at h; exact h)
    have HV := Z_ (variable_any HS.out.1 HMV.out t hl3 HLL.out p); obtain ⟨RV, hRV⟩ : ∃ RV, varF E L t p = RV := ⟨_, rfl⟩; rw [hRV] at HTV HV; have H67 := Z_ h67; clear hRV HTF h67; go_upto_if 59 with (fail)
    go_cut [59] (fun s w' => s = .bool true ∧ w' = wr)
    case first =>
     rcases H67.out with rfl | rfl
     all_goals
      go_wp2_with fail
      go_meet
      exact ⟨rfl, rfl⟩
    case rest =>
     obtain ⟨rfl, hwc⟩ := hcut; subst hwc; go_wp2_with fail
     refine HV.out.mono ?_
     rintro e w7 ⟨hE7, h7⟩; cases RV with
     | bad c9 p9 =>
      have HTB := Z_ (show T = .bad c9 p9 from HTV.out.symm); obtain rfl : e = _ := h7; have hC9 := HS.out.2.2.2.2.trans hE7 (fun i hi e => e.elim); go_wp2_with fail
      refine ⟨rfl, ?_⟩
      rw [HTB.out]; exact ⟨hC9, rfl⟩
     | ok r =>
      obtain ⟨rfl, hro⟩ := h7; have HRO := Z_ hro; obtain ⟨r0, r1, r2, r3, r4⟩ := r; unfold refV; have HTW := Z_ (show (if decide (0 < r4) = decide (k = 17) then (.ok (.mk k m ks ⟨r0, r1, r2, r3, r4⟩ (joinF (joinL ks) r3) ctx) : Rz Tr) else .bad 3 p) = T from HTV.out); have HX7 := Z_ (HS.out.2.2.1.ext hE7); have HB7 := Z_ (HS.out.2.1.ext hE7); have HG7 := Z_ (HS.out.2.2.2.1.chg tr_keeps hE7 (fun _ e => e.elim)); have HC7 := Z_ (HS.out.1.extend hE7); have HE7 := Z_ (HS.out.2.2.2.2.ext hE7); clear hro HTV HV hE7 hbc HS; have hxc := HX7.out.cell; have hxf := HX7.out.frozen; have hxl := HX7.out.lt; unfold trC at hxc; go_upto_region 14 with (fail)
      have hCx := chg_set (chg_set (chg_set (chg_set (chg_set (S := X) (Chg.refl _ w7) 3 (.int .i64 r0)) 4 (.string r1)) 5 (.string r2)) 6 (.int .i64 r3)) 7 (.int .i64 r4); have HX8 := Z_ (((((HX7.out.set 3 (.int .i64 r0)).set 4 (.string r1)).set 5 (.string r2)).set 6 (.int .i64 r3)).set 7 (.int .i64 r4)); replace HX8 := Z_ (show Blk _ X (trC k m (.slice ra ks.length rc) ⟨r0, r1, r2, r3, r4⟩ (.string ⟨#[]⟩) (.bool false) (.slice none 0 0) (.int .i64 0) (.bool false) (.int .i64 0) (joinL ks) ctx) 345 from HX8.out); have HB8 := Z_ (HB7.out.chg hCx (by have := HNX.out; omega)); have HG8 := Z_ (HG7.out.chg tr_keeps hCx (fun i e => by omega)); have HC8 := Z_ (HC7.out.far hCx (fun i e => by have := HBX.out; omega) (fun i e e2 => by have := HVL.out i e; have := HNX.out; omega)); have HE8 := Z_ (HE7.out.trans hCx (fun i hi e => by have := HGE.out; omega))
      clear hxc hxf hxl hCx HX7 HB7 HG7 HC7 HE7; generalize ((((w7.setCell ⟨X, 3, none⟩ (.int .i64 r0)).setCell ⟨X, 4, none⟩ (.string r1)).setCell ⟨X, 5, none⟩ (.string r2)).setCell ⟨X, 6, none⟩ (.int .i64 r3)).setCell ⟨X, 7, none⟩ (.int .i64 r4) = w8 at *; have hxc := HX8.out.cell; unfold trC at hxc; have hbc := HB8.out.cell; obtain ⟨b1, hb1⟩ : ∃ b1, decide (0 < r4) = b1 := ⟨_, rfl⟩; obtain ⟨b2, hb2⟩ : ∃ b2, (k == 17) = b2 := ⟨_, rfl⟩; have HBB := Z_ (show decide (0 < r4) = b1 ∧ decide (k = 17) = b2 from ⟨hb1, by rw [← hb2]; by_cases e : k = 17 <;> simp [e]⟩); by_cases hbb : b1 = b2
      ·subst hbb
       have hbe : (b1 == b1) = true := by simp
       have HTB := Z_ (show T = .ok (.mk k m ks ⟨r0, r1, r2, r3, r4⟩ (joinF (joinL ks) r3) ctx) by have h := HTW.out; rw [HBB.out.1, HBB.out.2, if_pos rfl] at h; exact h.symm); clear HTW HBB; go_still_tail 11, (by kernel_rfl)
       go_wp2_with fail
       refine (must_yes 3 (p : Nat) _).mono ?_
       rintro e w9 ⟨rfl, rfl⟩; have HX9 := Z_ HX8.out.drew; have HG9 := Z_ (HG8.out.chg tr_keeps (Chg.refl (fun _ => False) w8).drew (fun _ e => e.elim)); have HC9 := Z_ (HC8.out.extend (Chg.refl _ w8).drew); have HE9 := Z_ HE8.out.drew; clear hxc hbc hb1 hb2 hbe HX8 HG8 HC8 HE8 HB8; generalize w8.drew = w9 at *; obtain ⟨z5, hz5⟩ : ∃ z5, joinL ks = z5 := ⟨_, rfl⟩; rw [hz5] at HX9 HTB; clear hz5; go_upto_region 15 with (fail)
       refine wp_region_weave [10, 13] (fun i v _ => v = ([.pointer (some ⟨X, 0, none⟩), .pointer (some ⟨X, 0, none⟩), .pointer (some ⟨X, 0, none⟩), .pointer (some ⟨X, 14, none⟩), .int .i64 z5, .pointer (some ⟨X, 0, none⟩), .pointer (some ⟨X, 0, none⟩), .pointer (some ⟨X, 3, none⟩), .pointer (some ⟨X, 6, none⟩), .int .i64 r3, undef, .pointer (some ⟨X, 0, none⟩), .pointer (some ⟨X, 14, none⟩), undef] : List Value).getD i undef) (StepF (.int .i64 (joinF z5 r3)) (fun u9 => Ext w9 u9) (fun u9 => Blk u9 X (trC k m (.slice ra ks.length rc) ⟨r0, r1, r2, r3, r4⟩ (.string ⟨#[]⟩) (.bool false) (.slice none 0 0) (.int .i64 0) (.bool false) (.int .i64 0) (joinF z5 r3) ctx) 345 ∧ Chg (fun i => i = X) w9 u9)) (fun _ _ => True) (frame := ?fran) (fun x => ?hfan) synw.mixed (by kernel_rfl) (by kernel_rfl) (fun _ _ _ _ h _ => h) ?h0n ?stn ?finn
       case hfan =>
        simp only [chain.frameOf, chain.fill, chain.setOpt, chain.dstOf, List.size_toArray, List.length_cons, List.length_nil, List.getElem?_toArray, List.getElem?_cons_succ, List.getElem?_cons_zero, List.setIfInBounds_toArray, List.set_cons_succ, List.set_cons_zero]; exact rfl
       case h0n => exact (Chg.refl _ _).drew
       case stn =>
        refine AllFrom.cons (fun x vs u hF hm hb hd K' hK' => ?sn0) (AllFrom.cons (fun x vs u hF hm hb hd K' hK' => ?sn1) (AllFrom.cons (fun x vs u hF hm hb hd K' hK' => ?sn2) (AllFrom.cons (fun x vs u hF hm hb hd K' hK' => ?sn3) (AllFrom.cons (fun x vs u hF hm hb hd K' hK' => ?sn4) (AllFrom.cons (fun x vs u hF hm hb hd K' hK' => ?sn5) (AllFrom.cons (fun x vs u hF hm hb hd K' hK' => ?sn6) (AllFrom.cons (fun x vs u hF hm hb hd K' hK' => ?sn7) (AllFrom.cons (fun x vs u hF hm hb hd K' hK' => ?sn8) (AllFrom.cons (fun x vs u hF hm hb hd K' hK' => ?sn9) (AllFrom.cons (fun x vs u hF hm hb hd K' hK' => ?sn10) (AllFrom.cons (fun x vs u hF hm hb hd K' hK' => ?sn11) (AllFrom.cons (fun x vs u hF hm hb hd K' hK' => ?sn12) (AllFrom.cons (fun x vs u hF hm hb hd K' hK' => ?sn13) (AllFrom.nil))))))))))))))
        case sn0 =>
         have HF := Z_ hF; clear hd hm hb hF; go_simp; exact hK'.out _ _ _ (rfl) trivial ⟨rfl, HF.out⟩
        case sn1 =>
         have HF := Z_ hF; clear hd hm hb hF; go_simp; exact hK'.out _ _ _ (rfl) trivial ⟨rfl, HF.out⟩
        case sn2 =>
         have y0 := hd 1 (by decide) (by kernel_rfl); replace y0 : x 83 = .pointer (some ⟨X, 0, none⟩) := y0; have HF := Z_ hF; clear hd hm hb hF; go_simp; exact hK'.out _ _ _ (by simp only [y0]; rfl) trivial ⟨rfl, HF.out⟩
        case sn3 =>
         have y0 := hd 2 (by decide) (by kernel_rfl); replace y0 : x 84 = .pointer (some ⟨X, 0, none⟩) := y0; have HF := Z_ hF; clear hd hm hb hF; go_simp; exact hK'.out _ _ _ (by simp only [y0]; rfl) trivial ⟨rfl, HF.out⟩
        case sn4 =>
         have hE8 := StepF.P hF (by have := hb 0 _ (by decide) rfl (by kernel_rfl); omega); have hq := (HX9.out.ext hE8).cell; unfold trC at hq; clear hE8; have y0 := hd 3 (by decide) (by kernel_rfl); replace y0 : x 85 = .pointer (some ⟨X, 14, none⟩) := y0; have HF := Z_ hF; clear hd hm hb hF; go_simp; exact hK'.out _ _ _ (by simp only [y0]; rfl) trivial ⟨rfl, HF.out⟩
        case sn5 =>
         have HF := Z_ hF; clear hd hm hb hF; go_simp; exact hK'.out _ _ _ (rfl) trivial ⟨rfl, HF.out⟩
        case sn6 =>
         have y0 := hd 5 (by decide) (by kernel_rfl); replace y0 : x 87 = .pointer (some ⟨X, 0, none⟩) := y0; have HF := Z_ hF; clear hd hm hb hF; go_simp; exact hK'.out _ _ _ (by simp only [y0]; rfl) trivial ⟨rfl, HF.out⟩
        case sn7 =>
         have y0 := hd 6 (by decide) (by kernel_rfl); replace y0 : x 88 = .pointer (some ⟨X, 0, none⟩) := y0; have HF := Z_ hF; clear hd hm hb hF; go_simp; exact hK'.out _ _ _ (by simp only [y0]; rfl) trivial ⟨rfl, HF.out⟩
        case sn8 =>
         have y0 := hd 7 (by decide) (by kernel_rfl); replace y0 : x 89 = .pointer (some ⟨X, 3, none⟩) := y0; have HF := Z_ hF; clear hd hm hb hF; go_simp; exact hK'.out _ _ _ (by simp only [y0]; rfl) trivial ⟨rfl, HF.out⟩
        case sn9 =>
         have hE8 := StepF.P hF (by have := hb 0 _ (by decide) rfl (by kernel_rfl); omega); have hq := (HX9.out.ext hE8).cell; unfold trC at hq; clear hE8; have y0 := hd 8 (by decide) (by kernel_rfl); replace y0 : x 90 = .pointer (some ⟨X, 6, none⟩) := y0; have HF := Z_ hF; clear hd hm hb hF; go_simp; exact hK'.out _ _ _ (by simp only [y0]; rfl) trivial ⟨rfl, HF.out⟩
        case sn10 =>
         obtain rfl := List.eq_nil_of_length_eq_zero (hm 0 (by kernel_rfl)); have y0 := hd 4 (by decide) (by kernel_rfl); replace y0 : x 86 = .int .i64 z5 := y0; have y1 := hd 9 (by decide) (by kernel_rfl); replace y1 : x 91 = .int .i64 r3 := y1; have HF := Z_ hF; clear hd hm hb hF; go_simp; refine (join_any _ _ _).mono ?_
         rintro e u2 ⟨rfl, rfl⟩; exact hK'.out _ _ _ (by simp only [y0, y1]; rfl) trivial ⟨rfl, HF.out⟩
        case sn11 =>
         have y0 := hd 0 (by decide) (by kernel_rfl); replace y0 : x 82 = .pointer (some ⟨X, 0, none⟩) := y0; have HF := Z_ hF; clear hd hm hb hF; go_simp; exact hK'.out _ _ _ (by simp only [y0]; rfl) trivial ⟨rfl, HF.out⟩
        case sn12 =>
         have y0 := hd 11 (by decide) (by kernel_rfl); replace y0 : x 93 = .pointer (some ⟨X, 0, none⟩) := y0; have HF := Z_ hF; clear hd hm hb hF; go_simp; exact hK'.out _ _ _ (by simp only [y0]; rfl) trivial ⟨rfl, HF.out⟩
        case sn13 =>
         obtain ⟨v0, rfl⟩ : ∃ v0, vs = [v0] := by match vs, hm 1 (by kernel_rfl) with | [v0], _ => exact ⟨_, rfl⟩
         have y0 := hd 12 (by decide) (by kernel_rfl); replace y0 : x 94 = .pointer (some ⟨X, 14, none⟩) := y0; have y1 := hd 10 (by decide) (by kernel_rfl) 92 (by kernel_rfl); replace y1 : x 92 = v0 := y1; obtain ⟨rfl, hE9⟩ := hF; have hq := (HX9.out.ext hE9).cell; have hqf := (HX9.out.ext hE9).frozen; have hql := (HX9.out.ext hE9).lt; unfold trC at hq; have HF := Z_ hE9; clear hd hm hb hE9; go_simp; exact hK'.out _ _ undef (by simp only [y0, y1]; rfl) trivial ⟨(HX9.out.ext HF.out).set 14 _, chg_set (HF.out.weak fun _ _ e => e.elim) 14 _⟩
       case finn =>
        intro x9 vs9 w7 hl hF hk9; obtain ⟨v0, v1, rfl⟩ : ∃ v0 v1, vs9 = [v0, v1] := by match vs9, hl with | [v0, v1], _ => exact ⟨_, _, rfl⟩
        obtain ⟨hXb, hCx⟩ := hF; have htr := tr_made hXb (HG9.out.chg tr_keeps hCx (fun i e => by omega)) HGE.out HRO.out; have hcb := HC9.out.c.chg hCx (by have := HCX.out; omega); have hC9 := HE9.out.trans hCx (fun i hi e => by have := HGE.out; omega); have HFN := Z_ (And.intro htr (And.intro hcb hC9)); clear hk9 hl hXb hCx htr hcb hC9; go_wp2_with fail
        go_ret
        rw [HTB.out]; exact ⟨HFN.out.2.2, X, rfl, HGE.out, HFN.out.1, HFN.out.2.1, rfl⟩
      ·have hbe : (b1 == b2) = false := beq_eq_false_iff_ne.2 hbb
       have HTB := Z_ (show T = .bad 3 p by have h := HTW.out; rw [HBB.out.1, HBB.out.2, if_neg hbb] at h; exact h.symm); clear HTW HBB hbb; go_still_tail 11, (by kernel_rfl)
       go_wp2_with fail
       refine (must_no 3 (p : Nat) _).mono ?_
       rintro e w9 ⟨rfl, rfl⟩; go_wp2_with fail
       refine ⟨rfl, ?_⟩
       rw [HTB.out]; exact ⟨HE8.out.drew, rfl⟩
   ·have h16 : (k == 16) = false := beq_eq_false_iff_ne.2 (by omega)
    have h17 : (k == 17) = false := beq_eq_false_iff_ne.2 (by omega); by_cases h18 : k = 18
    ·subst h18
     have HTC := Z_ (show ((callF E ctx alone t ks p).bind fun r => (.ok (.mk 18 m ks r.1 r.2 ctx) : Rz Tr)) = T by have h := HTF.out; unfold finF at h; rw [if_neg (by decide), if_pos rfl] at h; exact h)
     have hK : Keeps (hide (below (X + 1)) wr) (hide (fun i => decide (i = X)) wr) := keeps_hide (Nat.le_refl _) fun i hi hm => by
      simp only [below, decide_eq_false_iff_not] at hm ⊢; exact ⟨by omega, trivial⟩
     have HCALL := Z_ (call_any HS.out.1 HMV.out (X := X) (k0 := 18) (m0 := m) (l0 := joinL ks) (ctx := ctx) (t := t) (n1 := m) (n2 := .slice a j cc) alone p HS.out.2.2.1 (HKR.out.keeps hK (trIn_keeps hK)) hr1 (by rw [HKL.out]; omega) hl3 (by have := HWC.out; have := HGE.out; omega) HBX.out ⟨_, _, _, rfl⟩); obtain ⟨RC, hRC⟩ : ∃ RC, callF E ctx alone t ks p = RC := ⟨_, rfl⟩; rw [hRC] at HTC HCALL; clear hRC HTF h67 hK; go_wp2_with fail
     refine HCALL.out.mono ?_
     rintro e w7 ⟨hC7, h7⟩; cases RC with
     | bad c9 p9 =>
      have HTB := Z_ (show T = .bad c9 p9 from HTC.out.symm); obtain rfl : e = _ := h7; have hC9 := HS.out.2.2.2.2.trans hC7 (fun i hi e => by have := HGE.out; omega); go_wp2_with fail
      refine ⟨rfl, ?_⟩
      rw [HTB.out]; exact ⟨hC9, rfl⟩
     | ok r =>
      obtain ⟨rfl, hro, y0, y1, y2, y3, y4, y5, hX7⟩ := h7; have HTB := Z_ (show T = .ok (.mk 18 m ks r.1 r.2 ctx) from HTC.out.symm); have hC9 := HS.out.2.2.2.2.trans hC7 (fun i hi e => by have := HGE.out; omega); have htr := tr_made hX7 (HS.out.2.2.2.1.chg tr_keeps hC7 (fun i e => by omega)) HGE.out hro; have hcb := HS.out.1.c.chg hC7 (by have := HCX.out; omega); go_wp2_with fail
      go_ret
      rw [HTB.out]; exact ⟨hC9, X, rfl, HGE.out, htr, hcb, rfl⟩
    ·have h18b : (k == 18) = false := beq_eq_false_iff_ne.2 h18
     have HTB := Z_ (show T = .ok (.mk k m ks zRef (joinL ks) ctx) by have h := HTF.out; unfold finF at h; rw [if_neg h67, if_neg h18] at h; exact h.symm); clear h67 h18 HTF; go_wp2_with fail
     go_ret
     rw [HTB.out]; exact ⟨HS.out.2.2.2.2, X, rfl, HGE.out, tr_made HS.out.2.2.1 HS.out.2.2.2.1 HGE.out (by constructor <;> decide), HS.out.1.c, rfl⟩
end chk
end Go.Proofs.YtpcihajmcejliacGreatDoor
namespace Go.Proofs.YtpcihajmcejliacGreatDoor
open Go.RowKit
namespace ofp
theorem info_loc : (Tryz.prog.info? 340).map (fun i => (i.zero, i.size, i.bytes)) = some (some (.agg #[.string ⟨#[]⟩, .int .i64 0, .int .i64 0]), 3, 32) := by kernel_rfl
theorem info_tree : (Tryz.prog.info? 219).map (fun i => (i.zero, i.size, i.bytes)) = some (some (.pointer none), 1, 8) := by kernel_rfl
end ofp
namespace chk
open synw ofp
def LS (C P : Nat) (vl : Value) : Nat → Prop := fun i => i = C ∨ i = P ∨ vl.ownBlock = some i
def PcOk (pr : FProc) (pc : Array Value) : Prop := ∃ p1 p2 p3 b mo, pc = #[.string pr.name, p1, p2, p3, .bool pr.gives, .int .i64 pr.given, b, .int .i64 mo] ∧ 0 ≤ mo ∧ mo ≤ 1000
theorem CS.turnL {W u u' : World} {C Mo D K P B : Nat} {E : CEnv} {vl vl' : Value} {L L' : List Loc} {deep at_ deep' at' : Int} {bod fac : Value} {dc pc pc' : Array Value} (h : CS W u C Mo D K P B E vl L deep at_ bod fac dc pc) (hC : Chg (LS C P vl) u u') (hc : Blk u' C (ckC Mo K vl' deep' at' P) 221) (hp : Blk u' P pc' 297) (hl : Grow 3 340 OLoc B u' vl' L') : CS W u' C Mo D K P B E vl' L' deep' at' bod fac dc pc' := by
 obtain ⟨n, hn, hk⟩ := h.k; have h1 := h.hC; have h2 := h.hP; have h3 := h.cM; have h4 := h.cK; have h5 := h.mP; have h6 := h.kP; have h7 := h.mB; have h8 := h.kB; have h9 := h.hu; have h10 := h.ext.size; have h11 := h.cB
 have ho := grow_own h.loc
 have hW : ∀ i, LS C P vl i → W.heap.size ≤ i := fun i e => by
  rcases e with e | e | e
  ·omega
  ·omega
  ·have := ho i e; omega
 exact ⟨h.ext.trans hC (fun i hi e => by have := hW i e; omega), hc, h.mo.chg hC (fun e => by
   rcases e with e | e | e
   ·omega
   ·omega
   ·have := ho _ e; omega), h.d, h.own, ⟨n, hn, hk.chg hC (fun e => by
   rcases e with e | e | e
   ·omega
   ·omega
   ·have := ho _ e; omega)⟩, hp, hl, h1, h.hM, h.hK, h2, h11, h7, h8, h.pB, h3, h4, h.cP, h.mK, h5, h6, Nat.le_trans h9 hC.size⟩
theorem growx_x {α : Type} {k : Nat} {E : TypeId} {V : α → Value → World → Prop} {B : Nat} {w : World} {row : Value} {acc : List α} (h : GrowX (fun _ => false) k E V B w row acc) : Grow k E V B w row acc := by
 obtain ⟨us, h1, h2, h3⟩ := h.ex; exact ⟨us, h1, h2, fun j hj hj' => by have h4 := h3 j hj hj'; simpa using h4⟩
def MK (u0 u : World) (C Mo K P B : Nat) (vl : Value) (deep at_ : Int) (rN r : Value) (lq : List Loc) : Prop :=
 Chg (fun i => i = C ∨ vl.ownBlock = some i) u0 u ∧ Blk u C (ckC Mo K rN deep at_ P) 221 ∧ GrowX (fun _ => false) 3 340 OLoc B u r lq ∧ (∀ i, r.ownBlock = some i → vl.ownBlock = some i ∨ u0.heap.size ≤ i)
def MakePost (W u : World) (C Mo D K P B : Nat) (E : CEnv) (vl : Value) (L L' : List Loc) (deep at_ : Int) (bod fac : Value) (dc : Array Value) (pr : FProc) (e : Ending) (u' : World) : Prop := ∃ vl' pc', e = .returned (.int .i64 (L.length : Nat)) ∧ Chg (LS C P vl) u u' ∧ CS W u' C Mo D K P B E vl' L' deep at_ bod fac dc pc' ∧ PcOk pr pc' ∧ (∀ i, vl'.ownBlock = some i → vl.ownBlock = some i ∨ u.heap.size ≤ i)
set_option maxRecDepth 100000 in
set_option maxHeartbeats 8000000 in
theorem make_any {W u : World} {C Mo D K P B : Nat} {E : CEnv} {vl : Value} {L : List Loc} {deep at_ : Int} {bod fac : Value} {dc pc : Array Value} {pr : FProc} (h : CS W u C Mo D K P B E vl L deep at_ bod fac dc pc) (hpc : PcOk pr pc) (hL : L.length ≤ 100) (t : ByteArray) (ht : t.size ≤ 10000) (lb : Int) :
  Calls Tryz.prog 186 #[.pointer (some ⟨C, 0, none⟩), .string t, .int .i64 lb] u (MakePost W u C Mo D K P B E vl L (L ++ [⟨t, lb, deep⟩]) deep at_ bod fac dc pr) := by
 obtain ⟨p1, p2, p3, bl, mo, rfl, hm0, hm1⟩ := hpc; have HC := Z_ h; obtain ⟨ra, rc, hvl, hr1, hr2⟩ := grow_slice h.loc; have hr9 := grow_own h.loc; rw [hvl] at hr9; obtain ⟨n, hn⟩ : ∃ n, L.length = n := ⟨_, rfl⟩; have HN := Z_ hn; have HLN := Z_ hL; rw [hn] at hvl hL hr1; have hBu := h.hu; subst hvl; have hOWN := hr9; rw [hn] at hOWN; have HOW := Z_ hOWN; have hcP := h.cP; have hcB := h.cB; have hpB := h.pB
 have HD := Z_ (And.intro hcP (And.intro hcB (And.intro hpB hBu))); clear h hn hr9 hOWN hcP hcB hpB; go_enter Tryz.func186, Tryz.ntmps186
 go_upto_region 1 with (fail)
 refine wp_region_weave [12, 13, 16] (fun i v _ => v = ([.pointer (some ⟨C, 0, none⟩), .pointer (some ⟨C, 0, none⟩), .pointer (some ⟨C, 0, none⟩), .pointer (some ⟨C, 2, none⟩), .slice ra n rc, .string t, .int .i64 lb, .pointer (some ⟨C, 0, none⟩), .pointer (some ⟨C, 0, none⟩), .pointer (some ⟨C, 3, none⟩), .int .i64 deep, .agg #[.string t, .int .i64 lb, .int .i64 deep], undef, undef, .pointer (some ⟨C, 0, none⟩), .pointer (some ⟨C, 2, none⟩), undef] : List Value).getD i undef) (ofp.PushX (fun w rN r lq => MK u w C Mo K P B (.slice ra n rc) deep at_ rN r lq) (fun _ => false) OLoc (B) 340 (.slice ra n rc) L ⟨t, lb, deep⟩ (.agg #[.string t, .int .i64 lb, .int .i64 deep])) (fun _ _ => True) (frame := ?fram) (fun x => ?hfam) synw.mixed (by kernel_rfl) (by kernel_rfl) (fun _ _ _ _ h _ => h) ?h0m ?stm ?finm
 case hfam =>
  simp only [chain.frameOf, chain.fill, chain.setOpt, chain.dstOf, List.size_toArray, List.length_cons, List.length_nil, List.getElem?_toArray, List.getElem?_cons_succ, List.getElem?_cons_zero, List.setIfInBounds_toArray, List.set_cons_succ, List.set_cons_zero]; exact rfl
 case h0m => exact ⟨⟨(Chg.refl _ _).drew, HC.out.c.drew, growx_chg (grow_x HC.out.loc loc_any (fun _ => false)) loc_keeps (Chg.refl (fun _ => False) u).drew (fun i e => e.elim) (fun i e e2 => e2.elim) (fun i e => by cases e), fun i e => .inl e⟩, rfl, ht⟩
 case stm =>
  refine AllFrom.cons (fun x vs u hF hm hb hd K' hK' => ?sm0) (AllFrom.cons (fun x vs u hF hm hb hd K' hK' => ?sm1) (AllFrom.cons (fun x vs u hF hm hb hd K' hK' => ?sm2) (AllFrom.cons (fun x vs u hF hm hb hd K' hK' => ?sm3) (AllFrom.cons (fun x vs u hF hm hb hd K' hK' => ?sm4) (AllFrom.cons (fun x vs u hF hm hb hd K' hK' => ?sm5) (AllFrom.cons (fun x vs u hF hm hb hd K' hK' => ?sm6) (AllFrom.cons (fun x vs u hF hm hb hd K' hK' => ?sm7) (AllFrom.cons (fun x vs u hF hm hb hd K' hK' => ?sm8) (AllFrom.cons (fun x vs u hF hm hb hd K' hK' => ?sm9) (AllFrom.cons (fun x vs u hF hm hb hd K' hK' => ?sm10) (AllFrom.cons (fun x vs u hF hm hb hd K' hK' => ?sm11) (AllFrom.cons (fun x vs u hF hm hb hd K' hK' => ?sm12) (AllFrom.cons (fun x vs u hF hm hb hd K' hK' => ?sm13) (AllFrom.cons (fun x vs u hF hm hb hd K' hK' => ?sm14) (AllFrom.cons (fun x vs u hF hm hb hd K' hK' => ?sm15) (AllFrom.cons (fun x vs u hF hm hb hd K' hK' => ?sm16) (AllFrom.nil)))))))))))))))))
  case sm0 =>
   have HF := Z_ hF; clear hd hm hb hF; go_simp; exact hK'.out _ _ _ (rfl) trivial ⟨rfl, HF.out⟩
  case sm1 =>
   have HF := Z_ hF; clear hd hm hb hF; go_simp; exact hK'.out _ _ _ (rfl) trivial ⟨rfl, HF.out⟩
  case sm2 =>
   have y0 := hd 1 (by decide) (by kernel_rfl); replace y0 : x 8 = .pointer (some ⟨C, 0, none⟩) := y0; have HF := Z_ hF; clear hd hm hb hF; go_simp; exact hK'.out _ _ _ (by simp only [y0]; rfl) trivial ⟨rfl, HF.out⟩
  case sm3 =>
   have y0 := hd 2 (by decide) (by kernel_rfl); replace y0 : x 9 = .pointer (some ⟨C, 0, none⟩) := y0; have HF := Z_ hF; clear hd hm hb hF; go_simp; exact hK'.out _ _ _ (by simp only [y0]; rfl) trivial ⟨rfl, HF.out⟩
  case sm4 =>
   have hBB := ofp.PushX.B hF (by have := hb 1 _ (by decide) rfl (by kernel_rfl); omega); have hq := hBB.2.1.cell; unfold ckC at hq; clear hBB; have y0 := hd 3 (by decide) (by kernel_rfl); replace y0 : x 10 = .pointer (some ⟨C, 2, none⟩) := y0; have HF := Z_ hF; clear hd hm hb hF; go_simp; exact hK'.out _ _ _ (by simp only [y0]; rfl) trivial ⟨rfl, HF.out⟩
  case sm5 =>
   have HF := Z_ hF; clear hd hm hb hF; go_simp; exact hK'.out _ _ _ (rfl) trivial ⟨rfl, HF.out⟩
  case sm6 =>
   have HF := Z_ hF; clear hd hm hb hF; go_simp; exact hK'.out _ _ _ (rfl) trivial ⟨rfl, HF.out⟩
  case sm7 =>
   have HF := Z_ hF; clear hd hm hb hF; go_simp; exact hK'.out _ _ _ (rfl) trivial ⟨rfl, HF.out⟩
  case sm8 =>
   have y0 := hd 7 (by decide) (by kernel_rfl); replace y0 : x 14 = .pointer (some ⟨C, 0, none⟩) := y0; have HF := Z_ hF; clear hd hm hb hF; go_simp; exact hK'.out _ _ _ (by simp only [y0]; rfl) trivial ⟨rfl, HF.out⟩
  case sm9 =>
   have y0 := hd 8 (by decide) (by kernel_rfl); replace y0 : x 15 = .pointer (some ⟨C, 0, none⟩) := y0; have HF := Z_ hF; clear hd hm hb hF; go_simp; exact hK'.out _ _ _ (by simp only [y0]; rfl) trivial ⟨rfl, HF.out⟩
  case sm10 =>
   obtain ⟨_, _, _, hBB⟩ := ofp.PushX.any hF; have hq := hBB.2.1.cell; unfold ckC at hq; clear hBB; have y0 := hd 9 (by decide) (by kernel_rfl); replace y0 : x 16 = .pointer (some ⟨C, 3, none⟩) := y0; have HF := Z_ hF; clear hd hm hb hF; go_simp; exact hK'.out _ _ _ (by simp only [y0]; rfl) trivial ⟨rfl, HF.out⟩
  case sm11 =>
   have y0 := hd 5 (by decide) (by kernel_rfl); replace y0 : x 12 = .string t := y0; have y1 := hd 6 (by decide) (by kernel_rfl); replace y1 : x 13 = .int .i64 lb := y1; have y2 := hd 10 (by decide) (by kernel_rfl); replace y2 : x 17 = .int .i64 deep := y2; have HF := Z_ hF; clear hd hm hb hF; go_simp; exact hK'.out _ _ _ (by simp only [y0, y1, y2]; rfl) trivial ⟨rfl, HF.out⟩
  case sm12 =>
   obtain rfl := List.eq_nil_of_length_eq_zero (hm 0 (by kernel_rfl)); have y0 := hd 11 (by decide) (by kernel_rfl); replace y0 : x 18 = .agg #[.string t, .int .i64 lb, .int .i64 deep] := y0; have hBB := hF.1; have HG := Z_ (ofp.growx_own (hBB.2.2.1)); have HF := Z_ hF; clear hd hm hb hF hBB; go_simp; exact hK'.out _ _ _ (by simp only [y0]; rfl) trivial (ofp.pushx_slice chk.loc_keeps (fun u' hE => ⟨HF.out.1.1.ext hE, HF.out.1.2.1.ext hE, growx_chg HF.out.1.2.2.1 loc_keeps hE (fun i e => e.elim) (fun i e e2 => e2.elim) (fun i e => by cases e), HF.out.1.2.2.2⟩) (fun i e => (HG.out i e).2) HF.out rfl)
  case sm13 =>
   obtain ⟨v0, rfl⟩ : ∃ v0, vs = [v0] := by match vs, hm 1 (by kernel_rfl) with | [v0], _ => exact ⟨_, rfl⟩
   have y0 := hd 4 (by decide) (by kernel_rfl); replace y0 : x 11 = .slice ra n rc := y0; have y1 := hd 12 (by decide) (by kernel_rfl) 19 (by kernel_rfl); replace y1 : x 19 = v0 := y1; have hF2 := hF; obtain ⟨hBB, hxx, gg, rfl, hgb, hgr⟩ := hF2; obtain ⟨us, hu1, ho, hu3⟩ := (hBB.2.2.1).ex; obtain ⟨i0_, hi_, hz0, hz1, hz2⟩ := synw.info_split ofp.info_loc; have hbz : B ≤ u.heap.size := by have := HD.out.2.2.2; have := hBB.1.size; omega
   refine wp_append_lies _ _ _ 217 rfl (B) 340 i0_ (.agg #[.string ⟨#[]⟩, .int .i64 0, .int .i64 0]) 3 32 Tryz.underlying217 hi_ hz0 hz1 hz2 rfl (by decide) (.slice ra n rc) L.length (us.flatMap fun u => u.cells.toList) y0 ho ⟨gg, 0, none⟩ 1 1 [.string t, .int .i64 lb, .int .i64 deep] y1 rfl ?_ (by intro z_ hz_; simp only [List.mem_cons, List.not_mem_nil, or_false] at hz_; rcases hz_ with rfl | rfl | rfl <;> rfl) (by decide) (by unfold maxLen; have := HLN.out; omega) (by have := HLN.out; omega) hbz u.heap.size rfl ?_
   ·intro j q hj; have e : (⟨gg, 0, none⟩ : Addr).add j = ⟨gg, j, none⟩ := (by unfold Addr.add; split <;> simp_all); rw [e, hgb.cell]; simpa [Value.cells] using hj
   ·intro g9 c9 w9 ho9 hg9 ha9 hl9
    exact hK'.out _ _ _ rfl trivial (ofp.pushx_append chk.loc_keeps hF hu1 hu3 rfl (fun r acc1 hG hC ha => ⟨hBB.1.trans hC (fun i hi e => .inr e), hBB.2.1.chg hC (fun e => by have := HOW.out _ e; have := HD.out.2.1; omega), hG, fun i e => by rcases ha i e with h9 | h9; exact .inl h9; exact .inr (by have := hBB.1.size; omega)⟩) ho9 hg9 ha9)
  case sm14 =>
   have y0 := hd 0 (by decide) (by kernel_rfl); replace y0 : x 7 = .pointer (some ⟨C, 0, none⟩) := y0; have HF := Z_ hF; clear hd hm hb hF; go_simp; exact hK'.out _ _ _ (by simp only [y0]; rfl) trivial ⟨rfl, HF.out⟩
  case sm15 =>
   have y0 := hd 14 (by decide) (by kernel_rfl); replace y0 : x 21 = .pointer (some ⟨C, 0, none⟩) := y0; have HF := Z_ hF; clear hd hm hb hF; go_simp; exact hK'.out _ _ _ (by simp only [y0]; rfl) trivial ⟨rfl, HF.out⟩
  case sm16 =>
   obtain ⟨v0, v1, rfl⟩ : ∃ v0 v1, vs = [v0, v1] := by match vs, hm 2 (by kernel_rfl) with | [v0, v1], _ => exact ⟨_, _, rfl⟩
   have y0 := hd 15 (by decide) (by kernel_rfl); replace y0 : x 22 = .pointer (some ⟨C, 2, none⟩) := y0; have y1 := hd 13 (by decide) (by kernel_rfl) 20 (by kernel_rfl); replace y1 : x 20 = v1 := y1; have hF2 := hF; obtain ⟨hBB, gg, cc, rfl⟩ := hF2; have hq := hBB.2.1.cell; have hqf := hBB.2.1.frozen; have hql := hBB.2.1.lt; unfold ckC at hq; have HF := Z_ hF; clear hd hm hb hF hBB; go_simp; exact hK'.out _ _ undef (by simp only [y0, y1]; rfl) trivial (ofp.pushx_store (z := undef) HF.out (fun h => ⟨h.1.setCell (p := ⟨C, 2, none⟩) (fun _ => .inl rfl) _, h.2.1.set 2 _, growx_chg h.2.2.1 loc_keeps (chg_set (S := C) (Chg.refl _ _) 2 _) (fun i e => .inl (by have := HD.out.2.1; omega)) (fun i e e2 => by have := growx_own h.2.2.1 i e; have := HD.out.2.1; omega) (fun i e => by cases e), h.2.2.2⟩))
 case finm =>
  intro x9 vs9 w9 hl hF hk9; obtain ⟨v0, v1, v2, rfl⟩ : ∃ v0 v1 v2, vs9 = [v0, v1, v2] := by match vs9, hl with | [v0, v1, v2], _ => exact ⟨_, _, _, rfl⟩
  clear hk9 hl; obtain ⟨hC9, hc9, hg9, ho9⟩ := (show MK _ _ _ _ _ _ _ _ _ _ _ _ _ from hF); obtain ⟨ga, gc, hv1, -⟩ := ofp.growx_slice hg9; rw [List.length_append, List.length_singleton, HN.out] at hv1; subst hv1; have hpb := HC.out.p.chg hC9 (fun e => by rcases e with e | e; exact HD.out.1 e.symm; have := HOW.out _ e; have := HD.out.2.2.1; omega); have HX9 := Z_ (And.intro hC9 (And.intro hc9 (And.intro hg9 ho9))); have HP9 := Z_ hpb; have hcc := hc9.cell; unfold ckC at hcc; have hpc := hpb.cell; have hpf := hpb.frozen; have hpl := hpb.lt; obtain ⟨mm, hmm⟩ : ∃ mm, max mo ((n : Int) + 1) = mm := ⟨_, rfl⟩; have hmm2 : (if mo ≤ (n : Int) + 1 then (n : Int) + 1 else mo) = mm := by rw [← hmm]; rfl
  have HMM := Z_ (show 0 ≤ mm ∧ mm ≤ 1000 by have h8 := HLN.out; have h9 := HN.out; rw [← hmm]; omega); have hw1 : IntKind.i64.wrap (((n + 1 : Nat) : Int) - 1) = (n : Int) := by rw [IntWalk.i64_in _ (by have h8 := HLN.out; have h9 := HN.out; omega)]; omega
  have hw2 : ((n + 1 : Nat) : Int) - 1 = (n : Int) := by omega
  clear hC9 hc9 hg9 ho9 hpb; go_wp2_with fail
  go_still_tail 19, (by kernel_rfl)
  go_wp2_with fail
  go_ret
  have hCp := (chg_set (S := P) (Chg.refl _ w9) 7 (.int .i64 mm)).drew; have hC9 := (HX9.out.1.weak (S' := LS C P (.slice ra n rc)) fun i _ e => by rcases e with e | e; exact .inl e; exact .inr (.inr e)).trans hCp (fun i hi e => .inr (.inl e)); refine ⟨.slice ga (n + 1) gc, #[.string pr.name, p1, p2, p3, .bool pr.gives, .int .i64 pr.given, bl, .int .i64 mm], by rw [HN.out]; first | rfl | rw [hw2], hC9, HC.out.turnL hC9 (HX9.out.2.1.chg hCp HD.out.1) ((HP9.out.set 7 _).drew) ?_, ⟨_, _, _, _, _, rfl, HMM.out⟩, HX9.out.2.2.2⟩
  exact (growx_x HX9.out.2.2.1).chg loc_keeps hCp (fun i e => by have := HD.out.2.2.1; omega)
end chk
end Go.Proofs.YtpcihajmcejliacGreatDoor
namespace Go.Proofs.YtpcihajmcejliacGreatDoor
open Go.RowKit
namespace chk
open synw ofp
theorem grow_trunc {α : Type} {k : Nat} {E : TypeId} {V : α → Value → World → Prop} {B : Nat} {w : World} {a : Option Addr} {n c : Nat} {l m : List α} (h : Grow k E V B w (.slice a n c) (l ++ m)) : Grow k E V B w (.slice a l.length c) l := by
 obtain ⟨us, h1, ⟨h2, h2b⟩, h3⟩ := h.ex; rw [List.length_append] at h1 h2 h2b
 have hall : ∀ u ∈ us, u.cells.size = k := fun u hu => by
  obtain ⟨q, hq, rfl⟩ := List.getElem_of_mem hu; exact (h3 q (by rw [List.length_append]; omega) hq).2
 have hflat : ∀ (us : List Value) (n : Nat), (∀ u ∈ us, u.cells.size = k) → (us.take n).flatMap (fun u => u.cells.toList) = (us.flatMap fun u => u.cells.toList).take (n * k) := by
  intro us; induction us with
  | nil => intro n _; simp
  | cons u r ih =>
   intro n hu; have hu0 : u.cells.toList.length = k := by rw [Array.length_toList]; exact hu u (by simp)
   cases n with
   | zero => simp
   | succ n =>
    rw [List.take_succ_cons, List.flatMap_cons, List.flatMap_cons, ih n (fun u hu' => hu u (by simp [hu'])), Nat.succ_mul, List.take_append, hu0]; rw [List.take_of_length_le (by omega : u.cells.toList.length ≤ n * k + k), show n * k + k - k = n * k by omega]
 refine ⟨us.take l.length, by rw [List.length_take]; omega, ⟨?_, ?_⟩, fun j hj hj' => ?_⟩
 ·rw [List.length_flatMap] at h2 ⊢
  have e : ∀ (us : List Value), (∀ u ∈ us, u.cells.size = k) → (us.map fun u => u.cells.toList.length).sum = us.length * k := by
   intro us hu; induction us with
   | nil => simp
   | cons u r ih => rw [List.map_cons, List.sum_cons, ih (fun u hu' => hu u (by simp [hu'])), Array.length_toList, hu u (by simp), List.length_cons, Nat.succ_mul]; omega
  rw [e _ (fun u hu => hall u (List.mem_of_mem_take hu)), List.length_take]; rw [Nat.min_eq_left (by omega)]
 ·rcases h2b with ⟨e, h0⟩ | ⟨g, cap, cur, hv, hB, hg, hc1, hc2, hc3, hc4⟩
  ·injection e with e1 e2 e3
   left
   have : l.length = 0 := by omega
   exact ⟨by rw [e1, e3, this], this⟩
  ·injection hv with e1 e2 e3
   subst e1 e3; refine .inr ⟨g, c, cur, rfl, hB, hg, by omega, hc2, hc3, ?_⟩
   rw [hflat us _ hall, ← hc4, List.take_take]; rw [Nat.min_eq_left (Nat.mul_le_mul_right _ (by omega))]
 ·have hj2 : j < (l ++ m).length := by rw [List.length_append]; omega
  have hj3 : j < us.length := by rw [List.length_take] at hj'; omega
  have := h3 j hj2 hj3; rw [List.getElem_append_left hj] at this; rw [List.getElem_take]
  have hV : ∀ {M M' : Nat → Bool}, (∀ i, M i = M' i) → hide M w = hide M' w := fun h => by
   have : (_ : Nat → Bool) = _ := funext h; rw [this]
  rw [hV (M := rowHid B (.slice a l.length c)) (M' := rowHid B (.slice a n c)) (fun i => by unfold rowHid Value.ownBlock; cases a with
   | none => rfl
   | some p => rfl)]
  exact this
end chk
end Go.Proofs.YtpcihajmcejliacGreatDoor
