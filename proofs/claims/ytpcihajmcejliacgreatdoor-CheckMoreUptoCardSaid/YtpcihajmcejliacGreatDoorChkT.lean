/- The walk of the checker's stat. -/
import Derived.Test.YtpcihajmcejliacGreatDoorChkK
namespace Go.Proofs.YtpcihajmcejliacGreatDoor
open Go.RowKit
namespace chk
open synw ofp
def KidJ (z : Value) (pre : World → Prop) (sb : Value → List Loc → Array Value → World → Value → Value → List Tr → Prop) (X : Nat) (row : Value) (ks : List Tr) (T : Rz (Tr × List Loc)) : List Value → World → Prop
 | [], u => pre u
 | v :: r, u => v = z ∧ KidF pre sb X row ks T r u
theorem KidJ.any {z : Value} {pre : World → Prop} {sb : Value → List Loc → Array Value → World → Value → Value → List Tr → Prop} {X : Nat} {row : Value} {ks : List Tr} {T : Rz (Tr × List Loc)} {vs : List Value} {u : World} {Q : Prop} (h : KidJ z pre sb X row ks T vs u) (h1 : pre u → Q) (h2 : ∀ vl L pc rN r lq, sb vl L pc u rN r lq → Q) : Q := by
 match vs, h with
 | [], h => exact h1 h
 | _ :: _, h => exact KidF.any h.2 h1 h2
theorem KidJ.low {z : Value} {pre : World → Prop} {sb : Value → List Loc → Array Value → World → Value → Value → List Tr → Prop} {X : Nat} {row : Value} {ks : List Tr} {T : Rz (Tr × List Loc)} {vs : List Value} {u : World} {Q : Prop} (h : KidJ z pre sb X row ks T vs u) (hl : vs.length ≤ 3) (h1 : pre u → Q) (h2 : ∀ vl L pc, sb vl L pc u row row ks → Q) : Q := by
 match vs, hl, h with
 | [], _, h => exact h1 h
 | _ :: _, hl, h => exact KidF.low h.2 (by simpa using hl) h1 h2
theorem KidJ.pre {z : Value} {pre : World → Prop} {sb : Value → List Loc → Array Value → World → Value → Value → List Tr → Prop} {X : Nat} {row : Value} {ks : List Tr} {T : Rz (Tr × List Loc)} {vs : List Value} {u : World} (h : KidJ z pre sb X row ks T vs u) (hl : vs.length ≤ 1) : pre u := by
 match vs, hl, h with
 | [], _, h => exact h
 | [_], _, h => exact h.2
def bOf (ks : List Tr) : Option Int := ks.head?.map Tr.lab
theorem b_snoc (ks : List Tr) (y : Tr) : bOf (ks ++ [y]) = some ((bOf ks).getD y.lab) := by
 cases ks <;> rfl
def RowT (E : CEnv) (pr : FProc) (ctx : Int) (alone : Bool) (L : List Loc) (deep : Int) (l : List Nd) (p : Nat) (ks : List Tr) : Rz (List Tr) := (stksF E pr ctx alone L deep l (bOf ks) p).bind fun ys => .ok (ks ++ ys)
theorem rowt_cons {E : CEnv} {pr : FProc} {ctx : Int} {alone : Bool} {L : List Loc} {deep : Int} {x : Nd} {r : List Nd} {p : Nat} {ks : List Tr} : RowT E pr ctx alone L deep (x :: r) p ks = match (if x.kd = 6 then blF E pr (joinF ctx ((bOf ks).getD 0)) false L (deep + 1) x p else exF E L ctx alone x p) with
 | .bad c q => .bad c q
 | .ok y => RowT E pr ctx alone L deep r (p + szF x) (ks ++ [y]) := by
 unfold RowT; rw [stksF]; cases (if x.kd = 6 then blF E pr (joinF ctx ((bOf ks).getD 0)) false L (deep + 1) x p else exF E L ctx alone x p) with
 | bad c q => rfl
 | ok y =>
  simp only [Rz.bind]; rw [b_snoc]; cases stksF E pr ctx alone L deep r (some ((bOf ks).getD y.lab)) (p + szF x) with
  | bad c q => rfl
  | ok ys => simp
theorem form_kids {k : Int} {t : ByteArray} {m : Int} {l : List Nd} (h : Form k t m l) (hk : KdS k) : (∀ y ∈ l, y.kd = 6 ∨ KdE y.kd) ∧ (∀ (h : 0 < l.length), l[0].kd ≠ 6) ∧ 0 < l.length ∧ (k = 8 → l.length = 2) := by
 unfold KdS at hk; have pe : ∀ {y : Nd}, KdP y.kd → KdE y.kd := fun h => ndis.kp_ke h
 have ne : ∀ {y : Nd}, KdE y.kd → y.kd ≠ 6 := fun h => by unfold KdE at h; omega
 have l1 : ∀ {y : Nd}, KdE y.kd → ∀ z ∈ [y], z.kd = 6 ∨ KdE z.kd := fun h z hz => by rw [List.mem_singleton] at hz; subst hz; exact .inr h
 cases h
 all_goals first
  | (exfalso; omega)
  | skip
 case loc x hx ht h0 h1 => exact ⟨l1 hx, fun _ => ne hx, by simp, fun h => by omega⟩
 case set p x hp hx => exact ⟨fun z hz => by simp only [List.mem_cons, List.not_mem_nil, or_false] at hz; rcases hz with rfl | rfl; exact .inr (pe hp); exact .inr hx, fun _ => ne (pe hp), by simp, fun _ => rfl⟩
 case do_ c hc => exact ⟨l1 (by rw [hc]; unfold KdE; omega), fun _ => by show c.kd ≠ 6; rw [hc]; decide, by simp, fun h => by omega⟩
 case if2 x b hx hb => exact ⟨fun z hz => by simp only [List.mem_cons, List.not_mem_nil, or_false] at hz; rcases hz with rfl | rfl; exact .inr hx; exact .inl hb, fun _ => ne hx, by simp, fun h => by omega⟩
 case if3 x b c hx hb hc => exact ⟨fun z hz => by simp only [List.mem_cons, List.not_mem_nil, or_false] at hz; rcases hz with rfl | rfl | rfl; exact .inr hx; exact .inl hb; exact .inl hc, fun _ => ne hx, by simp, fun h => by omega⟩
 case while_ x b hx hb => exact ⟨fun z hz => by simp only [List.mem_cons, List.not_mem_nil, or_false] at hz; rcases hz with rfl | rfl; exact .inr hx; exact .inl hb, fun _ => ne hx, by simp, fun h => by omega⟩
 case out x hx h0 h1 => exact ⟨l1 hx, fun _ => ne hx, by simp, fun h => by omega⟩
 case inp x hx h0 h1 => exact ⟨l1 (pe hx), fun _ => ne (pe hx), by simp, fun h => by omega⟩
 case ret x hx => exact ⟨l1 hx, fun _ => ne hx, by simp, fun h => by omega⟩
theorem kid_hid2 {X Kb S i : Nat} {row vl : Value} (hr : ∀ i, row.ownBlock = some i → i < Kb) (hv : ∀ i, vl.ownBlock = some i → i < Kb) (hx : X < Kb) (hs : Kb < S) (hm : below S i = false) : (rowHid (X + 1) row i || ofp.ownB vl i) = false := by
 simp only [below, rowHid, ofp.ownB, Bool.or_eq_false_iff, decide_eq_false_iff_not] at hm ⊢; exact ⟨⟨by omega, fun e => by have := hr i e; omega⟩, fun e => by have := hv i e; omega⟩
theorem growx_all {w : World} {X : Nat → Bool} {B : Nat} {row : Value} {ks : List Tr} (h : GrowX X 1 219 OTr B w row ks) : ∃ a c, row = .slice a ks.length c ∧ AllIn 1 TrIn w a ks := by
 obtain ⟨a, c, e, -, -, h3⟩ := growx_row h tr_keeps tr_lies; exact ⟨a, c, e, h3.keeps (keeps_bare _ _) (trIn_keeps (keeps_bare _ _))⟩
theorem row_first {w : World} {X : Nat → Bool} {B : Nat} {row : Value} {ks : List Tr} (h : GrowX X 1 219 OTr B w row ks) (hp : 0 < ks.length) : ∃ rb ro g0 c, row = .slice (some ⟨rb, ro, none⟩) ks.length c ∧ rb < w.heap.size ∧ g0 < w.heap.size ∧ w.cell? ⟨rb, ro, none⟩ = some (.pointer (some ⟨g0, 0, none⟩)) ∧ w.cell? ⟨g0, 14, none⟩ = some (.int .i64 ((bOf ks).getD 0)) := by
 obtain ⟨a, c, e, h3⟩ := growx_all h; obtain ⟨rb, ro, rfl, hb, u, hu, ht⟩ := h3 0 hp; obtain ⟨g, a2, c2, p0, p1, p2, p3, p4, p5, rfl, hg, hc, -⟩ := tr_cells ht; refine ⟨rb, ro, g, c, e, hb, hg, by simpa using hu, (hc 14 (by decide)).trans ?_⟩
 cases ks with
 | nil => cases hp
 | cons y r => rfl
set_option maxRecDepth 100000 in
set_option maxHeartbeats 32000000 in
theorem stat_any {W : World} {C Mo D K P B : Nat} {E : CEnv} {bod fac : Value} {dc : Array Value} {pr : FProc} {H : Nat → Bool} (hmv : MaxVar W) (x : Nd) (his : IsNd x) (hks : KdS x.kd) (hIH : ∀ y ∈ x.kids, y.kd = 6 → BlockC W C Mo D K P B E bod fac dc pr H y) : StatC W C Mo D K P B E bod fac dc pr H x := by
 intro v last ctx u p vl L deep pc hCS hpc hnd hsz hL hd0 hd1; obtain ⟨k, t, m, l⟩ := x; have hkids := his.kids; obtain ⟨hfk, hf0, hpos, hf8⟩ := form_kids his.form hks; have HFK := Z_ hfk; have HF0 := Z_ hf0; have HF8 := Z_ hf8; have HIS := Z_ (show ∀ y ∈ l, IsNd y from hkids); have HFORM := Z_ his.form; rw [ndAt_mk] at hnd; obtain ⟨a, cc, rfl, hl1, hl2, hl3, hl4⟩ := hnd; have HTX := Z_ hl3; obtain ⟨T, hT⟩ : ∃ T, stF E pr ctx last L deep (.mk k t m l) p = T := ⟨_, rfl⟩; rw [hT]; rw [stF] at hT; have HIH := Z_ (show ∀ y ∈ l, y.kd = 6 → BlockC W C Mo D K P B E bod fac dc pr H y from hIH); obtain ⟨N, hN⟩ : ∃ N, l.length = N := ⟨_, rfl⟩; rw [hN] at hl1 ⊢; have HN := Z_ hN; obtain ⟨pe, hpe⟩ : ∃ pe, p + szF (.mk k t m l) = pe := ⟨_, rfl⟩; have hdsz : deep + (szL l : Int) + 1 ≤ 2000 := by simp only [szF] at hd1; omega
 rw [hpe] at hsz ⊢; have hpe2 : p + 1 + szL l = pe := by rw [← hpe]; simp only [szF]; omega
 have HPE := Z_ hpe2; have HI := Z_ (fun (u : World) (hE : Ext W u) => hl4.keeps (keeps_chg hE fun i _ e => e.elim) fun b o y => ndIn_keeps (keeps_chg hE fun i _ e => e.elim) b o y); obtain ⟨ba, hba⟩ : ∃ ba, (k == 9) = ba := ⟨_, rfl⟩; have hba2 : decide (k = 9) = ba := by rw [← hba]; by_cases e : k = 9 <;> simp [e]
 rw [hba2] at hT; have HBA := Z_ hba; obtain ⟨TR, hTR⟩ : ∃ TR, stksF E pr ctx ba L deep l none (p + 1) = TR := ⟨_, rfl⟩; rw [hTR] at hT; have HTT := Z_ (show (TR.bind fun ks => endF pr L deep ctx last k t m ks p) = T from hT); have HST := Z_ hTR; have HT := Z_ (show RowT E pr ctx ba L deep l (p + 1) [] = TR by rw [← hTR]; unfold RowT; show (stksF E pr ctx ba L deep l none (p + 1)).bind _ = _; cases stksF E pr ctx ba L deep l none (p + 1) <;> rfl); have HVL := Z_ (fun i e => (grow_own hCS.loc i e).2); have HLL := Z_ hL; have HUB := Z_ hCS.hu; have HDD := Z_ (And.intro hd0 hdsz); have HMV := Z_ hmv; have HKS := Z_ (show KdS k from hks); have hE0 := (Chg.refl (fun _ => False) u).alloc (.cells #[.int .i64 k, .string t, .int .i64 m, .slice a N cc] 24); have HC := Z_ (hCS.extend hE0); have HB := Z_ (Blk.made u #[.int .i64 k, .string t, .int .i64 m, .slice a N cc] 24)
 have HE := Z_ (hE0.weak (S' := LS C P vl) fun _ _ e => e.elim); have HPC := Z_ hpc; obtain ⟨Nb, hNb⟩ : ∃ Nb, u.heap.size = Nb := ⟨_, rfl⟩; have HNB := Z_ hNb; rw [hNb] at HB HVL HUB; have hNl : N ≤ 1000 := by have h1 := len_szL l; omega
 have HNPOS := Z_ (show 0 < N by rw [← hN]; exact hpos); have hp : p ≤ 1000 := by omega
 obtain ⟨n, hn⟩ : ∃ n, L.length = n := ⟨_, rfl⟩; have HLN := Z_ hn; have hn20 : n ≤ 20 := by omega
 clear hE0 hCS hl4 hT hTR hIH hN hpe hpe2 hpc hL hd0 hd1 hdsz hn hkids hfk hf0 hpos hf8 his hks hmv hba hba2; go_enter Tryz.func235, Tryz.ntmps235
 go_upto_region 1 with (fail)
 try rw [hNb]
 generalize u.alloc (.cells #[.int .i64 k, .string t, .int .i64 m, .slice a N cc] 24) = u1 at *; go_wp2_with fail
 refine (next_any HC.out.c (by omega) (by omega)).mono ?_
 rintro e w2 ⟨rfl, hC2, hB2⟩; have HC2 := Z_ (HC.out.turnC hC2 hB2); have HB2 := Z_ (HB.out.chg hC2 (by have := HC.out.cB; have := HUB.out; omega)); have HE2 := Z_ (HE.out.then (hC2.weak fun i _ e => .inl e)); clear hC2 hB2 HC HB HE; have hbc := HB2.out.cell; obtain ⟨la, lc, hvl, -, -⟩ := grow_slice HC2.out.loc; rw [HLN.out] at hvl; subst hvl; go_upto_region 3 with (fail)
 have HX := Z_ (show Blk (w2.alloc (.cells #[.int .i64 k, .int .i64 m, .slice none 0 0, .int .i64 0, .string ⟨#[]⟩, .string ⟨#[]⟩, .int .i64 0, .int .i64 0, .string ⟨#[]⟩, .bool false, .slice none 0 0, .int .i64 0, .bool false, .int .i64 0, .int .i64 0, .int .i64 ctx] 345)) w2.heap.size #[.int .i64 k, .int .i64 m, .slice none 0 0, .int .i64 0, .string ⟨#[]⟩, .string ⟨#[]⟩, .int .i64 0, .int .i64 0, .string ⟨#[]⟩, .bool false, .slice none 0 0, .int .i64 0, .bool false, .int .i64 0, .int .i64 0, .int .i64 ctx] 345 from Blk.made w2 _ _); have HB3 := Z_ (HB2.out.alloc (.cells #[.int .i64 k, .int .i64 m, .slice none 0 0, .int .i64 0, .string ⟨#[]⟩, .string ⟨#[]⟩, .int .i64 0, .int .i64 0, .string ⟨#[]⟩, .bool false, .slice none 0 0, .int .i64 0, .bool false, .int .i64 0, .int .i64 0, .int .i64 ctx] 345)); have HC3 := Z_ (HC2.out.extend ((Chg.refl _ w2).alloc (.cells #[.int .i64 k, .int .i64 m, .slice none 0 0, .int .i64 0, .string ⟨#[]⟩, .string ⟨#[]⟩, .int .i64 0, .int .i64 0, .string ⟨#[]⟩, .bool false, .slice none 0 0, .int .i64 0, .bool false, .int .i64 0, .int .i64 0, .int .i64 ctx] 345)))
 have HE3 := Z_ (HE2.out.alloc (.cells #[.int .i64 k, .int .i64 m, .slice none 0 0, .int .i64 0, .string ⟨#[]⟩, .string ⟨#[]⟩, .int .i64 0, .int .i64 0, .string ⟨#[]⟩, .bool false, .slice none 0 0, .int .i64 0, .bool false, .int .i64 0, .int .i64 0, .int .i64 ctx] 345)); obtain ⟨X, hX⟩ : ∃ X, w2.heap.size = X := ⟨_, rfl⟩; rw [hX] at HX; have hNX : Nb < X := by have := HB2.out.lt; omega
 try rw [hX]
 clear hbc hX HC2 HB2 HE2; generalize w2.alloc (.cells #[.int .i64 k, .int .i64 m, .slice none 0 0, .int .i64 0, .string ⟨#[]⟩, .string ⟨#[]⟩, .int .i64 0, .int .i64 0, .string ⟨#[]⟩, .bool false, .slice none 0 0, .int .i64 0, .bool false, .int .i64 0, .int .i64 0, .int .i64 ctx] 345) = u3 at *; have HSB := Z_ (show SB W u u3 C Mo D K P B Nb X E (.slice la n lc) (.slice la n lc) L deep ((p + 1) : Nat) bod fac dc pc pr #[.int .i64 k, .string t, .int .i64 m, .slice a N cc] (fun rv => trC k m rv zRef (.string ⟨#[]⟩) (.bool false) (.slice none 0 0) (.int .i64 0) (.bool false) (.int .i64 0) 0 ctx) (.slice none 0 0) (.slice none 0 0) [] from ⟨HC3.out, HPC.out, HB3.out, HX.out, growx_nil _ _ _ _ _ _, HE3.out, fun i e => .inl ⟨e, HVL.out i e⟩, fun i e => (by cases e), by have := HNB.out; omega, HUB.out, hNX⟩); clear HC3 HPC HB3 HX HE3; have hbc := HSB.out.nb.cell; go_wp2_with fail
 clear hbc; go_loopw [30] (fun i wr => ∃ (j q : Nat) (row vlj : Value) (ks : List Tr) (pcj : Array Value), j ≤ N ∧ i = .int .i64 (j : Nat) ∧ Hid (ks.length = j) ∧ Hid (q + szL (l.drop j) = pe) ∧ Hid (RowT E pr ctx ba L deep (l.drop j) q ks = TR) ∧ Hid (SB W u wr C Mo D K P B Nb X E (.slice la n lc) vlj L deep (q : Nat) bod fac dc pcj pr #[.int .i64 k, .string t, .int .i64 m, .slice a N cc] (fun rv => trC k m rv zRef (.string ⟨#[]⟩) (.bool false) (.slice none 0 0) (.int .i64 0) (.bool false) (.int .i64 0) 0 ctx) row row ks)) (fun i _ => N - (intOf i).toNat)
 case atStart => exact ⟨0, p + 1, .slice none 0 0, .slice la n lc, [], _, Nat.zero_le _, rfl, Z_ rfl, Z_ (by have := HPE.out; rw [List.drop_zero]; exact this), by rw [List.drop_zero]; exact HT, HSB⟩
 clear HSB HT
 case round =>
  obtain ⟨j, q, row, vlj, ks, pcj, hj, rfl, HKL, HQ, HT, HS⟩ := hrel; by_cases hlt : j < N
  ·have hji : (j : Int) < (N : Int) := by omega
   have hjd : decide ((j : Int) < (N : Int)) = true := by simpa using hji
   have hjl : j < l.length := by rw [HN.out]; exact hlt
   obtain ⟨b, o, rfl, hb, uv, hu, hus, hcl⟩ := HI.out W (Chg.refl _ _) j hjl; rw [hide_size] at hb; have hE := HS.out.cs.ext; have hbl := Nat.lt_of_lt_of_le hb hE.size; have HIY := Z_ (HIH.out l[j] (List.getElem_mem hjl)); have HFY := Z_ (HFK.out l[j] (List.getElem_mem hjl)); have HISY := Z_ (HIS.out l[j] (List.getElem_mem hjl))
   have HJ0 := Z_ (show l[j].kd = 6 → 0 < j from fun e => by
    rcases Nat.eq_zero_or_pos j with h0 | h0
    ·subst h0; exact absurd e (HF0.out hjl)
    ·exact h0)
   have hT := HT.out; rw [List.drop_eq_getElem_cons hjl, rowt_cons] at hT; have hQ := HQ.out; rw [List.drop_eq_getElem_cons hjl] at hQ; simp only [szL] at hQ; have HSL := Z_ (show szF l[j] ≤ szL l by have h1 := ofw.szL_le l j; rw [List.drop_eq_getElem_cons hjl] at h1; simp only [szL] at h1; omega); have HKD := Z_ (show (l[j]).kd = (l[j]).kd from rfl); generalize l[j] = y at hu hT hQ HIY HSL HFY HISY HJ0 HKD; have HU := Z_ hu; obtain ⟨k1, t1, m1, a1, N1, c1, rfl⟩ := nd_form hu
   have hyk : y.kd = k1 := by
    obtain ⟨k9, t9, m9, l9⟩ := y; rw [ndAt_mk] at hu; obtain ⟨_, _, e9, -⟩ := hu; injection e9 with e9
    injection e9 with e9
    injection e9 with e9 _
    injection e9 with _ e9
    exact e9.symm
   rw [hyk] at hT; have HYK := Z_ hyk; have q0 : wr.cell? ⟨b, o + j * 4, none⟩ = some (.int .i64 k1) := (hE.cell (p := ⟨b, o + j * 4, none⟩) hb id).trans ((keeps_bare _ W).2 _ _ ((hcl 0 (by decide)).trans rfl)); have q1 : wr.cell? ⟨b, o + j * 4 + 1, none⟩ = some (.string t1) := (hE.cell (p := ⟨b, o + j * 4 + 1, none⟩) hb id).trans ((keeps_bare _ W).2 _ _ ((hcl 1 (by decide)).trans rfl)); have q2 : wr.cell? ⟨b, o + j * 4 + 2, none⟩ = some (.int .i64 m1) := (hE.cell (p := ⟨b, o + j * 4 + 2, none⟩) hb id).trans ((keeps_bare _ W).2 _ _ ((hcl 2 (by decide)).trans rfl)); have q3 : wr.cell? ⟨b, o + j * 4 + 3, none⟩ = some (.slice a1 N1 c1) := (hE.cell (p := ⟨b, o + j * 4 + 3, none⟩) hb id).trans ((keeps_bare _ W).2 _ _ ((hcl 3 (by decide)).trans rfl)); have HK := Z_ (Blk.made wr #[.int .i64 k1, .string t1, .int .i64 m1, .slice a1 N1 c1] 24); have HS5 := Z_ (HS.out.extend ((Chg.refl (fun _ => False) wr).alloc (.cells #[.int .i64 k1, .string t1, .int .i64 m1, .slice a1 N1 c1] 24)))
   have hw5 := HS.out.x.lt; have HRW := Z_ (fun i e => (growx_own HS.out.grow i e).2); have HVW := Z_ (fun i e => (grow_own HS.out.cs.loc i e).2); obtain ⟨Kb, hKb⟩ : ∃ Kb, wr.heap.size = Kb := ⟨_, rfl⟩; rw [hKb] at HK hw5 HRW HVW; have HXK := Z_ hw5; have HT2 := Z_ hT; have HQ2 := Z_ hQ; clear hT hQ HT HQ hcl hus hu hw5 HS hE hyk HKD; go_upto_region 7 with (fail)
   try rw [hKb]
   generalize wr.alloc (.cells #[.int .i64 k1, .string t1, .int .i64 m1, .slice a1 N1 c1] 24) = u5 at *; clear q0 q1 q2 q3 hKb; obtain ⟨ra, rc, hrow, -, -⟩ := ofp.growx_slice HS5.out.grow; rw [HKL.out] at hrow; subst hrow; have hkc := HK.out.cell; have hkl := HK.out.lt; by_cases h6 : k1 = 6
   ·have h6b : (k1 == 6) = true := by simpa using h6
    have hj0 := HJ0.out (HYK.out.trans h6); subst h6
    have HT3 := Z_ (show (match blF E pr (joinF ctx ((bOf ks).getD 0)) false L (deep + 1) y q with
     | .bad c q => (.bad c q : Rz (List Tr))
     | .ok y_1 => RowT E pr ctx ba L deep (l.drop (j + 1)) (q + szF y) (ks ++ [y_1])) = TR from by have h := HT2.out; rw [if_pos rfl] at h; exact h)
    have hcc := HS5.out.cs.c.cell; have hcf := HS5.out.cs.c.frozen; have hcl := HS5.out.cs.c.lt; unfold ckC at hcc; have hwd : IntKind.i64.wrap (deep + 1) = deep + 1 := IntWalk.i64_in _ (by have := HDD.out; omega); have HCA := Z_ (HS5.out.turnC (deep' := deep + 1) (chg_set (Chg.refl _ u5) 3 (.int .i64 (deep + 1))) (HS5.out.cs.c.set 3 (.int .i64 (deep + 1)))); have HKA := Z_ (HK.out.setOther (p := ⟨C, 3, none⟩) (by have h1 := HS5.out.cs.cB; have h3 := HS5.out.hB; have h4 := HS5.out.hNX; have h5 := HXK.out; show Kb ≠ C; omega) (.int .i64 (deep + 1))); obtain ⟨rb, ro, g0, rc2, hrw, hrb, hg0, hr0, hl0⟩ := row_first HCA.out.grow (by rw [HKL.out]; exact hj0); rw [HKL.out] at hrw; obtain ⟨lab0, hlab0⟩ : ∃ lab0, (bOf ks).getD 0 = lab0 := ⟨_, rfl⟩; rw [hlab0] at hl0; rw [hlab0] at HT3; injection hrw with hra _ hrc
    subst hra; subst hrc; have HRA := Z_ (And.intro (And.intro hrb hg0) (And.intro hr0 hl0)); have HBK := Z_ (HIY.out (HYK.out)); clear hr0 hl0 hrb hg0 HT2; go_upto_region 9 with (fail)
    clear hkc hkl hcc hcf hcl; generalize u5.setCell ⟨C, 3, none⟩ (.int .i64 (deep + 1)) = u6 at *; refine wp_region_weaveg [17, 18, 19, 20, 23] (fun i v _ => v = ([.pointer (some ⟨X, 0, none⟩), .pointer (some ⟨X, 0, none⟩), .pointer (some ⟨X, 0, none⟩), .pointer (some ⟨X, 2, none⟩), .slice (some ⟨rb, ro, none⟩) j rc, .pointer (some ⟨C, 0, none⟩), .agg #[.int .i64 6, .string t1, .int .i64 m1, .slice a1 N1 c1], .int .i64 ctx, .pointer (some ⟨X, 0, none⟩), .pointer (some ⟨X, 0, none⟩), .pointer (some ⟨X, 2, none⟩), .slice (some ⟨rb, ro, none⟩) j rc, .pointer (some ⟨rb, ro, none⟩), .pointer (some ⟨g0, 0, none⟩), .pointer (some ⟨g0, 0, none⟩), .pointer (some ⟨g0, 14, none⟩), .int .i64 lab0, undef, undef, undef, undef, .pointer (some ⟨X, 0, none⟩), .pointer (some ⟨X, 2, none⟩), undef] : List Value).getD i undef) (KidJ (.int .i64 (joinF ctx lab0)) (fun u9 => (SB W u u9 C Mo D K P B Nb X E (.slice la n lc) vlj L (deep + 1) (q : Nat) bod fac dc pcj pr #[.int .i64 k, .string t, .int .i64 m, .slice (some ⟨b, o, none⟩) N cc] (fun rv => trC k m rv zRef (.string ⟨#[]⟩) (.bool false) (.slice none 0 0) (.int .i64 0) (.bool false) (.int .i64 0) 0 ctx) (.slice (some ⟨rb, ro, none⟩) j rc) (.slice (some ⟨rb, ro, none⟩) j rc) ks ∧ Blk u9 Kb #[.int .i64 6, .string t1, .int .i64 m1, .slice a1 N1 c1] 24) ∧ (rb < u9.heap.size ∧ g0 < u9.heap.size) ∧ u9.cell? ⟨rb, ro, none⟩ = some (.pointer (some ⟨g0, 0, none⟩)) ∧ u9.cell? ⟨g0, 14, none⟩ = some (.int .i64 lab0)) (fun vl9 L9 pc9 u9 rN9 r9 lq9 => SB W u u9 C Mo D K P B Nb X E (.slice la n lc) vl9 L (deep + 1) ((q + szF y) : Nat) bod fac dc pc9 pr #[.int .i64 k, .string t, .int .i64 m, .slice (some ⟨b, o, none⟩) N cc] (fun rv => trC k m rv zRef (.string ⟨#[]⟩) (.bool false) (.slice none 0 0) (.int .i64 0) (.bool false) (.int .i64 0) 0 ctx) rN9 r9 lq9 ∧ Blk u9 Kb #[.int .i64 6, .string t1, .int .i64 m1, .slice a1 N1 c1] 24) X (.slice (some ⟨rb, ro, none⟩) j rc) ks ((blF E pr (joinF ctx lab0) false L (deep + 1) y q).bind fun t => .ok (t, L))) (fun _ _ => True) (frame := ?frak) (fun x => ?hfak) synw.mixed (by kernel_rfl) (by kernel_rfl) (fun _ _ _ _ h _ => h) ?h0k ?stk ?fink
    case hfak =>
     simp only [chain.frameOf, chain.fill, chain.setOpt, chain.dstOf, List.size_toArray, List.length_cons, List.length_nil, List.getElem?_toArray, List.getElem?_cons_succ, List.getElem?_cons_zero, List.setIfInBounds_toArray, List.set_cons_succ, List.set_cons_zero]; exact rfl
    case h0k => exact ⟨⟨HCA.out.extend (Chg.refl _ _).drew, HKA.out.drew⟩, HRA.out⟩
    case stk =>
     refine AllFrom.cons (fun x vs u hF hm hb hd K' hK' => ?sk0) (AllFrom.cons (fun x vs u hF hm hb hd K' hK' => ?sk1) (AllFrom.cons (fun x vs u hF hm hb hd K' hK' => ?sk2) (AllFrom.cons (fun x vs u hF hm hb hd K' hK' => ?sk3) (AllFrom.cons (fun x vs u hF hm hb hd K' hK' => ?sk4) (AllFrom.cons (fun x vs u hF hm hb hd K' hK' => ?sk5) (AllFrom.cons (fun x vs u hF hm hb hd K' hK' => ?sk6) (AllFrom.cons (fun x vs u hF hm hb hd K' hK' => ?sk7) (AllFrom.cons (fun x vs u hF hm hb hd K' hK' => ?sk8) (AllFrom.cons (fun x vs u hF hm hb hd K' hK' => ?sk9) (AllFrom.cons (fun x vs u hF hm hb hd K' hK' => ?sk10) (AllFrom.cons (fun x vs u hF hm hb hd K' hK' => ?sk11) (AllFrom.cons (fun x vs u hF hm hb hd K' hK' => ?sk12) (AllFrom.cons (fun x vs u hF hm hb hd K' hK' => ?sk13) (AllFrom.cons (fun x vs u hF hm hb hd K' hK' => ?sk14) (AllFrom.cons (fun x vs u hF hm hb hd K' hK' => ?sk15) (AllFrom.cons (fun x vs u hF hm hb hd K' hK' => ?sk16) (AllFrom.cons (fun x vs u hF hm hb hd K' hK' => ?sk17) (AllFrom.cons (fun x vs u hF hm hb hd K' hK' => ?sk18) (AllFrom.cons (fun x vs u hF hm hb hd K' hK' => ?sk19) (AllFrom.cons (fun x vs u hF hm hb hd K' hK' => ?sk20) (AllFrom.cons (fun x vs u hF hm hb hd K' hK' => ?sk21) (AllFrom.cons (fun x vs u hF hm hb hd K' hK' => ?sk22) (AllFrom.cons (fun x vs u hF hm hb hd K' hK' => ?sk23) (AllFrom.nil))))))))))))))))))))))))
     case sk0 =>
      refine weave.stepg_plain rfl ?_
      have HF := Z_ hF; clear hd hm hb hF; go_simp; exact hK'.out _ _ _ (rfl) trivial ⟨rfl, HF.out⟩
     case sk1 =>
      refine weave.stepg_plain rfl ?_
      have HF := Z_ hF; clear hd hm hb hF; go_simp; exact hK'.out _ _ _ (rfl) trivial ⟨rfl, HF.out⟩
     case sk2 =>
      refine weave.stepg_plain rfl ?_
      have y0 := hd 1 (by decide) (by kernel_rfl); replace y0 : x 62 = .pointer (some ⟨X, 0, none⟩) := y0; have HF := Z_ hF; clear hd hm hb hF; go_simp; exact hK'.out _ _ _ (by simp only [y0]; rfl) trivial ⟨rfl, HF.out⟩
     case sk3 =>
      refine weave.stepg_plain rfl ?_
      have y0 := hd 2 (by decide) (by kernel_rfl); replace y0 : x 63 = .pointer (some ⟨X, 0, none⟩) := y0; have HF := Z_ hF; clear hd hm hb hF; go_simp; exact hK'.out _ _ _ (by simp only [y0]; rfl) trivial ⟨rfl, HF.out⟩
     case sk4 =>
      refine weave.stepg_plain rfl ?_
      have hq := KidJ.low hF (by have := hb 3 _ (by decide) rfl (by kernel_rfl); omega) (Q := u.cell? ⟨X, 2, none⟩ = some (.slice (some ⟨rb, ro, none⟩) j rc)) (fun h => (h.1.1.x.cell 2).trans rfl) (fun _ _ _ h => (h.1.x.cell 2).trans rfl); have y0 := hd 3 (by decide) (by kernel_rfl); replace y0 : x 64 = .pointer (some ⟨X, 2, none⟩) := y0; have HF := Z_ hF; clear hd hm hb hF; go_simp; exact hK'.out _ _ _ (by simp only [y0]; rfl) trivial ⟨rfl, HF.out⟩
     case sk5 =>
      refine weave.stepg_plain rfl ?_
      have HF := Z_ hF; clear hd hm hb hF; go_simp; exact hK'.out _ _ _ (rfl) trivial ⟨rfl, HF.out⟩
     case sk6 =>
      refine weave.stepg_plain rfl ?_
      have hq := KidJ.any hF (Q := ∀ o9, u.cell? ⟨Kb, o9, none⟩ = #[.int .i64 6, .string t1, .int .i64 m1, .slice a1 N1 c1][o9]?) (fun h => h.1.2.cell) (fun _ _ _ _ _ _ h => h.2.cell); have HF := Z_ hF; clear hd hm hb hF; go_simp; exact hK'.out _ _ _ (rfl) trivial ⟨rfl, HF.out⟩
     case sk7 =>
      refine weave.stepg_plain rfl ?_
      have HF := Z_ hF; clear hd hm hb hF; go_simp; exact hK'.out _ _ _ (rfl) trivial ⟨rfl, HF.out⟩
     case sk8 =>
      refine weave.stepg_plain rfl ?_
      have HF := Z_ hF; clear hd hm hb hF; go_simp; exact hK'.out _ _ _ (rfl) trivial ⟨rfl, HF.out⟩
     case sk9 =>
      refine weave.stepg_plain rfl ?_
      have y0 := hd 8 (by decide) (by kernel_rfl); replace y0 : x 69 = .pointer (some ⟨X, 0, none⟩) := y0; have HF := Z_ hF; clear hd hm hb hF; go_simp; exact hK'.out _ _ _ (by simp only [y0]; rfl) trivial ⟨rfl, HF.out⟩
     case sk10 =>
      refine weave.stepg_plain rfl ?_
      have y0 := hd 9 (by decide) (by kernel_rfl); replace y0 : x 70 = .pointer (some ⟨X, 0, none⟩) := y0; have HF := Z_ hF; clear hd hm hb hF; go_simp; exact hK'.out _ _ _ (by simp only [y0]; rfl) trivial ⟨rfl, HF.out⟩
     case sk11 =>
      refine weave.stepg_plain rfl ?_
      have hq := KidJ.low hF (by have := hb 3 _ (by decide) rfl (by kernel_rfl); omega) (Q := u.cell? ⟨X, 2, none⟩ = some (.slice (some ⟨rb, ro, none⟩) j rc)) (fun h => (h.1.1.x.cell 2).trans rfl) (fun _ _ _ h => (h.1.x.cell 2).trans rfl); have y0 := hd 10 (by decide) (by kernel_rfl); replace y0 : x 71 = .pointer (some ⟨X, 2, none⟩) := y0; have HF := Z_ hF; clear hd hm hb hF; go_simp; exact hK'.out _ _ _ (by simp only [y0]; rfl) trivial ⟨rfl, HF.out⟩
     case sk12 =>
      refine weave.stepg_plain rfl ?_
      have hj9 := hj0; have hj8 : (0 : Int) < (j : Int) := by omega
      have y0 := hd 11 (by decide) (by kernel_rfl); replace y0 : x 72 = .slice (some ⟨rb, ro, none⟩) j rc := y0; have HF := Z_ hF; clear hd hm hb hF; go_simp; exact hK'.out _ _ _ (by simp only [y0]; rfl) trivial ⟨rfl, HF.out⟩
     case sk13 =>
      refine weave.stepg_plain rfl ?_
      have hq := (KidJ.pre hF (by have := hb 0 _ (by decide) rfl (by kernel_rfl); omega)).2; have hq1 := hq.2.1; have hq2 := hq.2.2; have hq3 := hq.1.1; have hq4 := hq.1.2; have y0 := hd 12 (by decide) (by kernel_rfl); replace y0 : x 73 = .pointer (some ⟨rb, ro, none⟩) := y0; have HF := Z_ hF; clear hd hm hb hF; go_simp; exact hK'.out _ _ _ (by simp only [y0]; rfl) trivial ⟨rfl, HF.out⟩
     case sk14 =>
      refine weave.stepg_plain rfl ?_
      have y0 := hd 13 (by decide) (by kernel_rfl); replace y0 : x 74 = .pointer (some ⟨g0, 0, none⟩) := y0; have HF := Z_ hF; clear hd hm hb hF; go_simp; exact hK'.out _ _ _ (by simp only [y0]; rfl) trivial ⟨rfl, HF.out⟩
     case sk15 =>
      refine weave.stepg_plain rfl ?_
      have y0 := hd 14 (by decide) (by kernel_rfl); replace y0 : x 75 = .pointer (some ⟨g0, 0, none⟩) := y0; have HF := Z_ hF; clear hd hm hb hF; go_simp; exact hK'.out _ _ _ (by simp only [y0]; rfl) trivial ⟨rfl, HF.out⟩
     case sk16 =>
      refine weave.stepg_plain rfl ?_
      have hq := (KidJ.pre hF (by have := hb 0 _ (by decide) rfl (by kernel_rfl); omega)).2; have hq1 := hq.2.1; have hq2 := hq.2.2; have hq3 := hq.1.1; have hq4 := hq.1.2; have y0 := hd 15 (by decide) (by kernel_rfl); replace y0 : x 76 = .pointer (some ⟨g0, 14, none⟩) := y0; have HF := Z_ hF; clear hd hm hb hF; go_simp; exact hK'.out _ _ _ (by simp only [y0]; rfl) trivial ⟨rfl, HF.out⟩
     case sk17 =>
      refine weave.stepg_plain rfl ?_
      obtain rfl := List.eq_nil_of_length_eq_zero (hm 0 (by kernel_rfl)); have y0 := hd 7 (by decide) (by kernel_rfl); replace y0 : x 68 = .int .i64 ctx := y0; have y1 := hd 16 (by decide) (by kernel_rfl); replace y1 : x 77 = .int .i64 lab0 := y1; have HF := Z_ hF; clear hd hm hb hF; go_simp; refine (join_any _ _ u).mono ?_
      rintro e u2 ⟨rfl, rfl⟩; exact hK'.out _ _ _ (by simp only [y0, y1]; rfl) trivial ⟨rfl, HF.out⟩
     case sk18 =>
      refine weave.stepg_plain rfl ?_
      obtain ⟨v0, rfl⟩ : ∃ v0, vs = [v0] := by match vs, hm 1 (by kernel_rfl) with | [v0], _ => exact ⟨_, rfl⟩
      have y0 := hd 5 (by decide) (by kernel_rfl); replace y0 : x 66 = .pointer (some ⟨C, 0, none⟩) := y0; have y1 := hd 6 (by decide) (by kernel_rfl); replace y1 : x 67 = .agg #[.int .i64 6, .string t1, .int .i64 m1, .slice a1 N1 c1] := y1; have y2 := hd 17 (by decide) (by kernel_rfl) 78 (by kernel_rfl); replace y2 : x 78 = v0 := y2; obtain ⟨rz, hF⟩ := hF; subst rz; have hF9 := (show (_ ∧ _) ∧ _ from hF).1; have HX9 := Z_ (HBK.out _ false (joinF ctx lab0) u q vlj L (deep + 1) pcj hF9.1.cs hF9.1.pc HU.out (by have := HQ2.out; omega) HLL.out (by have := HDD.out.1; omega) (by have h1 := HDD.out.2; have h2 := HSL.out; omega)); have HF := Z_ hF9.1; have HKF := Z_ hF9.2; clear hd hm hb hF hF9; go_simp; refine HX9.out.mono ?_
      rintro e u2 ⟨hC9, hT9⟩; obtain ⟨RX, hRX⟩ : ∃ RX, blF E pr (joinF ctx lab0) false L (deep + 1) y q = RX := ⟨_, rfl⟩; rw [hRX] at hT9; have HRX := Z_ hRX; cases RX with
      | bad c9 p9 =>
       obtain rfl : e = _ := hT9; have hc9 := HF.out.chg.trans hC9 HF.out.ls; go_wp2_with fail
       exact ⟨rfl, hc9, by rw [← HTT.out, ← HT3.out, HRX.out]; rfl⟩
      | ok t6 =>
       obtain ⟨g6, vl6, pc6, rfl, hg6, hcs6, hpc6, hta6, hfr6, hkd6⟩ := hT9; have hsb6 := HF.out.call hC9 hcs6 hpc6 hfr6
       have hkb6 := HKF.out.chg hC9 (fun e => by
        have h1 := HF.out.cs.cB; have h2 := HF.out.cs.pB; have h3 := HF.out.hB; have h4 := HF.out.hNX; have h5 := HXK.out
        rcases e with e | e | e
        ·omega
        ·omega
        ·have := HVW.out _ e; omega)
       exact hK'.out _ _ _ (by simp only [y0, y1, y2]; rfl) trivial ⟨rfl, (t6, L), by rw [hRX]; rfl, g6, vl6, pc6, rfl, ⟨hsb6, hkb6⟩, trAt_keeps (keeps_hide (Nat.le_refl _) fun i hi hm => ⟨kid_hid HRW.out HXK.out HKF.out.lt hm, rfl⟩) _ _ hta6, g6, rfl⟩
     case sk19 =>
      refine weave.stepg_plain rfl ?_
      obtain ⟨v0, v1, rfl⟩ : ∃ v0 v1, vs = [v0, v1] := by match vs, hm 2 (by kernel_rfl) with | [v0, v1], _ => exact ⟨_, _, rfl⟩
      have y0 := hd 18 (by decide) (by kernel_rfl) 79 (by kernel_rfl); replace y0 : x 79 = v1 := y0; obtain ⟨rz, t6, hRt, g6, vl6, pc6, rfl, hF⟩ := hF; have hBB := hF.1; have HG := Z_ (ofp.growx_own (hBB.1.grow)); have HF := Z_ hF; clear hd hm hb hF hBB; go_simp; exact hK'.out _ _ _ (by simp only [y0]; rfl) trivial (⟨rz, t6, hRt, g6, vl6, pc6, rfl, (ofp.pushx_slice chk.tr_keeps (fun u' hE => ⟨HF.out.1.1.extend hE, HF.out.1.2.ext hE⟩) (fun i e => (HG.out i e).2) HF.out rfl)⟩)
     case sk20 =>
      refine weave.stepg_plain rfl ?_
      obtain ⟨v0, v1, v2, rfl⟩ : ∃ v0 v1 v2, vs = [v0, v1, v2] := by match vs, hm 3 (by kernel_rfl) with | [v0, v1, v2], _ => exact ⟨_, _, _, rfl⟩
      have y0 := hd 4 (by decide) (by kernel_rfl); replace y0 : x 65 = .slice (some ⟨rb, ro, none⟩) j rc := y0; have y1 := hd 19 (by decide) (by kernel_rfl) 80 (by kernel_rfl); replace y1 : x 80 = v2 := y1; obtain ⟨rz, t6, hRt, g6, vl6, pc6, rfl, hF⟩ := hF; have hF2 := hF; obtain ⟨hBB, hxx, gg, rfl, hgb, hgr⟩ := hF2; obtain ⟨us, hu1, ho, hu3⟩ := (hBB.1.grow).ex; obtain ⟨i0_, hi_, hz0, hz1, hz2⟩ := synw.info_split ofp.info_tree; have hbz : (X + 1) ≤ u.heap.size := by have := hBB.1.x.lt; omega
      refine wp_append_lies _ _ _ 341 rfl ((X + 1)) 219 i0_ (.pointer none) 1 8 Tryz.underlying341 hi_ hz0 hz1 hz2 rfl (by decide) (.slice (some ⟨rb, ro, none⟩) j rc) ks.length (us.flatMap fun u => u.cells.toList) y0 ho ⟨gg, 0, none⟩ 1 1 [.pointer (some ⟨g6, 0, none⟩)] y1 rfl ?_ (by intro z_ hz_; simp only [List.mem_cons, List.not_mem_nil, or_false] at hz_; rcases hz_ with rfl <;> rfl) (by decide) (by unfold maxLen; have := HKL.out; omega) (by have := HKL.out; omega) hbz u.heap.size rfl ?_
      ·intro j q hj; have e : (⟨gg, 0, none⟩ : Addr).add j = ⟨gg, j, none⟩ := (by unfold Addr.add; split <;> simp_all); rw [e, hgb.cell]; simpa [Value.cells] using hj
      ·intro g9 c9 w9 ho9 hg9 ha9 hl9
       exact hK'.out _ _ _ rfl trivial (⟨rz, t6, hRt, g6, vl6, pc6, rfl, (ofp.pushx_append chk.tr_keeps hF hu1 hu3 rfl (fun r acc1 hG hC ha => ⟨hBB.1.more hG hC ha, hBB.2.chg hC (fun e => by have := HRW.out _ e; omega)⟩) ho9 hg9 ha9)⟩)
     case sk21 =>
      refine weave.stepg_plain rfl ?_
      have y0 := hd 0 (by decide) (by kernel_rfl); replace y0 : x 61 = .pointer (some ⟨X, 0, none⟩) := y0; have HF := Z_ hF; clear hd hm hb hF; go_simp; exact hK'.out _ _ _ (by simp only [y0]; rfl) trivial ⟨rfl, HF.out⟩
     case sk22 =>
      refine weave.stepg_plain rfl ?_
      have y0 := hd 21 (by decide) (by kernel_rfl); replace y0 : x 82 = .pointer (some ⟨X, 0, none⟩) := y0; have HF := Z_ hF; clear hd hm hb hF; go_simp; exact hK'.out _ _ _ (by simp only [y0]; rfl) trivial ⟨rfl, HF.out⟩
     case sk23 =>
      refine weave.stepg_plain rfl ?_
      obtain ⟨v0, v1, v2, v3, rfl⟩ : ∃ v0 v1 v2 v3, vs = [v0, v1, v2, v3] := by match vs, hm 4 (by kernel_rfl) with | [v0, v1, v2, v3], _ => exact ⟨_, _, _, _, rfl⟩
      have y0 := hd 22 (by decide) (by kernel_rfl); replace y0 : x 83 = .pointer (some ⟨X, 2, none⟩) := y0; have y1 := hd 20 (by decide) (by kernel_rfl) 81 (by kernel_rfl); replace y1 : x 81 = v3 := y1; obtain ⟨rz, t6, hRt, g6, vl6, pc6, rfl, hF⟩ := hF; have hF2 := hF; obtain ⟨hBB, gg, cc, rfl⟩ := hF2; have hq := hBB.1.x.cell; have hqf := hBB.1.x.frozen; have hql := hBB.1.x.lt; unfold trC at hq; have HF := Z_ hF; clear hd hm hb hF hBB; go_simp; exact hK'.out _ _ undef (by simp only [y0, y1]; rfl) trivial (⟨rz, t6, hRt, g6, vl6, pc6, rfl, (ofp.pushx_store (z := undef) HF.out (fun h => ⟨h.1.put (j := 2) rfl, h.2.setOther (p := ⟨X, 2, none⟩) (by have := HXK.out; show Kb ≠ X; omega) _⟩))⟩)
    case fink =>
     intro x9 vs9 w9 hl hF hk9; obtain ⟨v0, v1, v2, v3, v4, rfl⟩ : ∃ v0 v1 v2 v3 v4, vs9 = [v0, v1, v2, v3, v4] := by match vs9, hl with | [v0, v1, v2, v3, v4], _ => exact ⟨_, _, _, _, _, rfl⟩
     obtain ⟨-, t6, hRt, g6, vl6, pc6, -, hF⟩ := hF; have hS9 := (show _ ∧ _ from hF).1; obtain ⟨RX, hRX⟩ : ∃ RX, blF E pr (joinF ctx lab0) false L (deep + 1) y q = RX := ⟨_, rfl⟩; have hT3 := HT3.out; rw [hRX] at hRt hT3; cases RX with
     | bad c9 p9 => cases hRt
     | ok y6 =>
      cases hRt
      have HS9 := Z_ hS9; have HT9 := Z_ (show RowT E pr ctx ba L deep (l.drop (j + 1)) (q + szF y) (ks ++ [y6]) = TR from hT3); clear hk9 hl hF hS9 hT3 hRX; have hcc := HS9.out.cs.c.cell; have hcf := HS9.out.cs.c.frozen; have hcl := HS9.out.cs.c.lt; unfold ckC at hcc; have hwd2 : wrap64 deep = deep := IntWalk.wrap64_in _ (by have := HDD.out; omega); have HS10 := Z_ (HS9.out.turnC (deep' := deep) (chg_set (Chg.refl _ w9) 3 (.int .i64 deep)) (HS9.out.cs.c.set 3 (.int .i64 deep))); go_wp2_with fail
      go_roundw
      case rel => exact ⟨j + 1, q + szF y, _, vl6, ks ++ [y6], pc6, by omega, by go_num, Z_ (by rw [List.length_append, HKL.out]; rfl), Z_ (by have := HQ2.out; omega), HT9, HS10⟩
      case measure => simp [intOf]; omega
   ·have h6b : (k1 == 6) = false := beq_eq_false_iff_ne.2 h6
    have HEX := Z_ (expr_any (H := H) HMV.out (show L.length ≤ 1000 by have := HLN.out; omega) y HISY.out (by rcases HFY.out with h | h; exact absurd (HYK.out.symm.trans h) h6; exact h) (W := W) (C := C) (Mo := Mo) (D := D) (K := K) (P := P) (B := B) (E := E) (vl := vlj) (deep := deep) (bod := bod) (fac := fac) (dc := dc) (pc := pcj) (ctx := ctx))
    have HT3 := Z_ (show (match exF E L ctx ba y q with
     | .bad c q => (.bad c q : Rz (List Tr))
     | .ok y_1 => RowT E pr ctx ba L deep (l.drop (j + 1)) (q + szF y) (ks ++ [y_1])) = TR by have h := HT2.out; rw [if_neg h6] at h; exact h)
    clear HT2; have hba := HBA.out; go_upto_region 6 with (fail)
    clear hkc hkl; refine wp_region_weaveg [11, 12, 13, 16] (fun i v _ => v = ([.pointer (some ⟨X, 0, none⟩), .pointer (some ⟨X, 0, none⟩), .pointer (some ⟨X, 0, none⟩), .pointer (some ⟨X, 2, none⟩), .slice ra j rc, .pointer (some ⟨C, 0, none⟩), .agg #[.int .i64 k1, .string t1, .int .i64 m1, .slice a1 N1 c1], .int .i64 ctx, .pointer (some ⟨Nb, 0, none⟩), .int .i64 k, .bool ba, undef, undef, undef, .pointer (some ⟨X, 0, none⟩), .pointer (some ⟨X, 2, none⟩), undef] : List Value).getD i undef) (KidF (fun u9 => SB W u u9 C Mo D K P B Nb X E (.slice la n lc) vlj L deep (q : Nat) bod fac dc pcj pr #[.int .i64 k, .string t, .int .i64 m, .slice (some ⟨b, o, none⟩) N cc] (fun rv => trC k m rv zRef (.string ⟨#[]⟩) (.bool false) (.slice none 0 0) (.int .i64 0) (.bool false) (.int .i64 0) 0 ctx) (.slice ra j rc) (.slice ra j rc) ks ∧ Blk u9 Kb #[.int .i64 k1, .string t1, .int .i64 m1, .slice a1 N1 c1] 24) (fun vl9 L9 pc9 u9 rN9 r9 lq9 => SB W u u9 C Mo D K P B Nb X E (.slice la n lc) vl9 L deep ((q + szF y) : Nat) bod fac dc pc9 pr #[.int .i64 k, .string t, .int .i64 m, .slice (some ⟨b, o, none⟩) N cc] (fun rv => trC k m rv zRef (.string ⟨#[]⟩) (.bool false) (.slice none 0 0) (.int .i64 0) (.bool false) (.int .i64 0) 0 ctx) rN9 r9 lq9 ∧ Blk u9 Kb #[.int .i64 k1, .string t1, .int .i64 m1, .slice a1 N1 c1] 24) X (.slice ra j rc) ks ((exF E L ctx ba y q).bind fun t => .ok (t, L))) (fun _ _ => True) (frame := ?frae) (fun x => ?hfae) synw.mixed (by kernel_rfl) (by kernel_rfl) (fun _ _ _ _ h _ => h) ?h0e ?ste ?fine
    case hfae =>
     simp only [chain.frameOf, chain.fill, chain.setOpt, chain.dstOf, List.size_toArray, List.length_cons, List.length_nil, List.getElem?_toArray, List.getElem?_cons_succ, List.getElem?_cons_zero, List.setIfInBounds_toArray, List.set_cons_succ, List.set_cons_zero]; exact rfl
    case h0e => exact ⟨HS5.out.extend (Chg.refl _ _).drew, HK.out.drew⟩
    case ste =>
     refine AllFrom.cons (fun x vs u hF hm hb hd K' hK' => ?se0) (AllFrom.cons (fun x vs u hF hm hb hd K' hK' => ?se1) (AllFrom.cons (fun x vs u hF hm hb hd K' hK' => ?se2) (AllFrom.cons (fun x vs u hF hm hb hd K' hK' => ?se3) (AllFrom.cons (fun x vs u hF hm hb hd K' hK' => ?se4) (AllFrom.cons (fun x vs u hF hm hb hd K' hK' => ?se5) (AllFrom.cons (fun x vs u hF hm hb hd K' hK' => ?se6) (AllFrom.cons (fun x vs u hF hm hb hd K' hK' => ?se7) (AllFrom.cons (fun x vs u hF hm hb hd K' hK' => ?se8) (AllFrom.cons (fun x vs u hF hm hb hd K' hK' => ?se9) (AllFrom.cons (fun x vs u hF hm hb hd K' hK' => ?se10) (AllFrom.cons (fun x vs u hF hm hb hd K' hK' => ?se11) (AllFrom.cons (fun x vs u hF hm hb hd K' hK' => ?se12) (AllFrom.cons (fun x vs u hF hm hb hd K' hK' => ?se13) (AllFrom.cons (fun x vs u hF hm hb hd K' hK' => ?se14) (AllFrom.cons (fun x vs u hF hm hb hd K' hK' => ?se15) (AllFrom.cons (fun x vs u hF hm hb hd K' hK' => ?se16) (AllFrom.nil)))))))))))))))))
     case se0 =>
      refine weave.stepg_plain rfl ?_
      have HF := Z_ hF; clear hd hm hb hF; go_simp; exact hK'.out _ _ _ (rfl) trivial ⟨rfl, HF.out⟩
     case se1 =>
      refine weave.stepg_plain rfl ?_
      have HF := Z_ hF; clear hd hm hb hF; go_simp; exact hK'.out _ _ _ (rfl) trivial ⟨rfl, HF.out⟩
     case se2 =>
      refine weave.stepg_plain rfl ?_
      have y0 := hd 1 (by decide) (by kernel_rfl); replace y0 : x 35 = .pointer (some ⟨X, 0, none⟩) := y0; have HF := Z_ hF; clear hd hm hb hF; go_simp; exact hK'.out _ _ _ (by simp only [y0]; rfl) trivial ⟨rfl, HF.out⟩
     case se3 =>
      refine weave.stepg_plain rfl ?_
      have y0 := hd 2 (by decide) (by kernel_rfl); replace y0 : x 36 = .pointer (some ⟨X, 0, none⟩) := y0; have HF := Z_ hF; clear hd hm hb hF; go_simp; exact hK'.out _ _ _ (by simp only [y0]; rfl) trivial ⟨rfl, HF.out⟩
     case se4 =>
      refine weave.stepg_plain rfl ?_
      have hq := KidF.low hF (by have := hb 2 _ (by decide) rfl (by kernel_rfl); omega) (Q := u.cell? ⟨X, 2, none⟩ = some (.slice ra j rc)) (fun h => (h.1.x.cell 2).trans rfl) (fun _ _ _ h => (h.1.x.cell 2).trans rfl); have y0 := hd 3 (by decide) (by kernel_rfl); replace y0 : x 37 = .pointer (some ⟨X, 2, none⟩) := y0; have HF := Z_ hF; clear hd hm hb hF; go_simp; exact hK'.out _ _ _ (by simp only [y0]; rfl) trivial ⟨rfl, HF.out⟩
     case se5 =>
      refine weave.stepg_plain rfl ?_
      have HF := Z_ hF; clear hd hm hb hF; go_simp; exact hK'.out _ _ _ (rfl) trivial ⟨rfl, HF.out⟩
     case se6 =>
      refine weave.stepg_plain rfl ?_
      have hq := KidF.any hF (Q := ∀ o9, u.cell? ⟨Kb, o9, none⟩ = #[.int .i64 k1, .string t1, .int .i64 m1, .slice a1 N1 c1][o9]?) (fun h => h.2.cell) (fun _ _ _ _ _ _ h => h.2.cell); have HF := Z_ hF; clear hd hm hb hF; go_simp; exact hK'.out _ _ _ (rfl) trivial ⟨rfl, HF.out⟩
     case se7 =>
      refine weave.stepg_plain rfl ?_
      have HF := Z_ hF; clear hd hm hb hF; go_simp; exact hK'.out _ _ _ (rfl) trivial ⟨rfl, HF.out⟩
     case se8 =>
      refine weave.stepg_plain rfl ?_
      have HF := Z_ hF; clear hd hm hb hF; go_simp; exact hK'.out _ _ _ (rfl) trivial ⟨rfl, HF.out⟩
     case se9 =>
      refine weave.stepg_plain rfl ?_
      have hq := KidF.any hF (Q := ∀ o9, u.cell? ⟨Nb, o9, none⟩ = #[.int .i64 k, .string t, .int .i64 m, .slice (some ⟨b, o, none⟩) N cc][o9]?) (fun h => h.1.nb.cell) (fun _ _ _ _ _ _ h => h.1.nb.cell); have y0 := hd 8 (by decide) (by kernel_rfl); replace y0 : x 42 = .pointer (some ⟨Nb, 0, none⟩) := y0; have HF := Z_ hF; clear hd hm hb hF; go_simp; exact hK'.out _ _ _ (by simp only [y0]; rfl) trivial ⟨rfl, HF.out⟩
     case se10 =>
      refine weave.stepg_plain rfl ?_
      have y0 := hd 9 (by decide) (by kernel_rfl); replace y0 : x 43 = .int .i64 k := y0; have HF := Z_ hF; clear hd hm hb hF; go_simp; exact hK'.out _ _ _ (by simp only [y0]; rfl) trivial ⟨rfl, HF.out⟩
     case se11 =>
      refine weave.stepg_plain rfl ?_
      obtain rfl := List.eq_nil_of_length_eq_zero (hm 0 (by kernel_rfl)); have y0 := hd 5 (by decide) (by kernel_rfl); replace y0 : x 39 = .pointer (some ⟨C, 0, none⟩) := y0; have y1 := hd 6 (by decide) (by kernel_rfl); replace y1 : x 40 = .agg #[.int .i64 k1, .string t1, .int .i64 m1, .slice a1 N1 c1] := y1; have y2 := hd 7 (by decide) (by kernel_rfl); replace y2 : x 41 = .int .i64 ctx := y2; have y3 := hd 10 (by decide) (by kernel_rfl); replace y3 : x 44 = .bool ba := y3; have hF9 := (show _ ∧ _ from hF); have HX9 := Z_ (HEX.out _ ba u q hF9.1.cs HU.out (by have := HQ2.out; omega)); have HF := Z_ hF9.1; have HKF := Z_ hF9.2; clear hd hm hb hF hF9; go_simp; refine HX9.out.mono ?_
      rintro e u2 ⟨hC9, hT9⟩; obtain ⟨RX, hRX⟩ : ∃ RX, exF E L ctx ba y q = RX := ⟨_, rfl⟩; rw [hRX] at hT9; have HRX := Z_ hRX; cases RX with
      | bad c9 p9 =>
       obtain rfl : e = _ := hT9; have hc9 := HF.out.chg.trans (hC9.weak (S' := LS C P vlj) fun _ _ e => .inl e) HF.out.ls; go_wp2_with fail
       exact ⟨rfl, hc9, by rw [← HTT.out, ← HT3.out, HRX.out]; rfl⟩
      | ok t6 =>
       obtain ⟨g6, rfl, hg6, hta6, hcb6, hkd6⟩ := hT9; have hsb6 := HF.out.turnC hC9 hcb6; have hkb6 := HKF.out.chg hC9 (by have h1 := HF.out.cs.cB; have h3 := HF.out.hB; have h4 := HF.out.hNX; have h5 := HXK.out; omega); exact hK'.out _ _ _ (by simp only [y0, y1, y2, y3]; rfl) trivial ⟨(t6, L), by rw [hRX]; rfl, g6, vlj, pcj, rfl, ⟨hsb6, hkb6⟩, trAt_keeps (keeps_hide (Nat.le_refl _) fun i hi hm => ⟨kid_hid2 HRW.out HVW.out HXK.out HKF.out.lt hm, rfl⟩) _ _ hta6, g6, rfl⟩
     case se12 =>
      refine weave.stepg_plain rfl ?_
      obtain ⟨v0, rfl⟩ : ∃ v0, vs = [v0] := by match vs, hm 1 (by kernel_rfl) with | [v0], _ => exact ⟨_, rfl⟩
      have y0 := hd 11 (by decide) (by kernel_rfl) 45 (by kernel_rfl); replace y0 : x 45 = v0 := y0; obtain ⟨t6, hRt, g6, vl6, pc6, rfl, hF⟩ := hF; have hBB := hF.1; have HG := Z_ (ofp.growx_own (hBB.1.grow)); have HF := Z_ hF; clear hd hm hb hF hBB; go_simp; exact hK'.out _ _ _ (by simp only [y0]; rfl) trivial (⟨t6, hRt, g6, vl6, pc6, rfl, (ofp.pushx_slice chk.tr_keeps (fun u' hE => ⟨HF.out.1.1.extend hE, HF.out.1.2.ext hE⟩) (fun i e => (HG.out i e).2) HF.out rfl)⟩)
     case se13 =>
      refine weave.stepg_plain rfl ?_
      obtain ⟨v0, v1, rfl⟩ : ∃ v0 v1, vs = [v0, v1] := by match vs, hm 2 (by kernel_rfl) with | [v0, v1], _ => exact ⟨_, _, rfl⟩
      have y0 := hd 4 (by decide) (by kernel_rfl); replace y0 : x 38 = .slice ra j rc := y0; have y1 := hd 12 (by decide) (by kernel_rfl) 46 (by kernel_rfl); replace y1 : x 46 = v1 := y1; obtain ⟨t6, hRt, g6, vl6, pc6, rfl, hF⟩ := hF; have hF2 := hF; obtain ⟨hBB, hxx, gg, rfl, hgb, hgr⟩ := hF2; obtain ⟨us, hu1, ho, hu3⟩ := (hBB.1.grow).ex; obtain ⟨i0_, hi_, hz0, hz1, hz2⟩ := synw.info_split ofp.info_tree; have hbz : (X + 1) ≤ u.heap.size := by have := hBB.1.x.lt; omega
      refine wp_append_lies _ _ _ 341 rfl ((X + 1)) 219 i0_ (.pointer none) 1 8 Tryz.underlying341 hi_ hz0 hz1 hz2 rfl (by decide) (.slice ra j rc) ks.length (us.flatMap fun u => u.cells.toList) y0 ho ⟨gg, 0, none⟩ 1 1 [.pointer (some ⟨g6, 0, none⟩)] y1 rfl ?_ (by intro z_ hz_; simp only [List.mem_cons, List.not_mem_nil, or_false] at hz_; rcases hz_ with rfl <;> rfl) (by decide) (by unfold maxLen; have := HKL.out; omega) (by have := HKL.out; omega) hbz u.heap.size rfl ?_
      ·intro j q hj; have e : (⟨gg, 0, none⟩ : Addr).add j = ⟨gg, j, none⟩ := (by unfold Addr.add; split <;> simp_all); rw [e, hgb.cell]; simpa [Value.cells] using hj
      ·intro g9 c9 w9 ho9 hg9 ha9 hl9
       exact hK'.out _ _ _ rfl trivial (⟨t6, hRt, g6, vl6, pc6, rfl, (ofp.pushx_append chk.tr_keeps hF hu1 hu3 rfl (fun r acc1 hG hC ha => ⟨hBB.1.more hG hC ha, hBB.2.chg hC (fun e => by have := HRW.out _ e; omega)⟩) ho9 hg9 ha9)⟩)
     case se14 =>
      refine weave.stepg_plain rfl ?_
      have y0 := hd 0 (by decide) (by kernel_rfl); replace y0 : x 34 = .pointer (some ⟨X, 0, none⟩) := y0; have HF := Z_ hF; clear hd hm hb hF; go_simp; exact hK'.out _ _ _ (by simp only [y0]; rfl) trivial ⟨rfl, HF.out⟩
     case se15 =>
      refine weave.stepg_plain rfl ?_
      have y0 := hd 14 (by decide) (by kernel_rfl); replace y0 : x 48 = .pointer (some ⟨X, 0, none⟩) := y0; have HF := Z_ hF; clear hd hm hb hF; go_simp; exact hK'.out _ _ _ (by simp only [y0]; rfl) trivial ⟨rfl, HF.out⟩
     case se16 =>
      refine weave.stepg_plain rfl ?_
      obtain ⟨v0, v1, v2, rfl⟩ : ∃ v0 v1 v2, vs = [v0, v1, v2] := by match vs, hm 3 (by kernel_rfl) with | [v0, v1, v2], _ => exact ⟨_, _, _, rfl⟩
      have y0 := hd 15 (by decide) (by kernel_rfl); replace y0 : x 49 = .pointer (some ⟨X, 2, none⟩) := y0; have y1 := hd 13 (by decide) (by kernel_rfl) 47 (by kernel_rfl); replace y1 : x 47 = v2 := y1; obtain ⟨t6, hRt, g6, vl6, pc6, rfl, hF⟩ := hF; have hF2 := hF; obtain ⟨hBB, gg, cc, rfl⟩ := hF2; have hq := hBB.1.x.cell; have hqf := hBB.1.x.frozen; have hql := hBB.1.x.lt; unfold trC at hq; have HF := Z_ hF; clear hd hm hb hF hBB; go_simp; exact hK'.out _ _ undef (by simp only [y0, y1]; rfl) trivial (⟨t6, hRt, g6, vl6, pc6, rfl, (ofp.pushx_store (z := undef) HF.out (fun h => ⟨h.1.put (j := 2) rfl, h.2.setOther (p := ⟨X, 2, none⟩) (by have := HXK.out; show Kb ≠ X; omega) _⟩))⟩)
    case fine =>
     intro x9 vs9 w9 hl hF hk9; obtain ⟨v0, v1, v2, v3, rfl⟩ : ∃ v0 v1 v2 v3, vs9 = [v0, v1, v2, v3] := by match vs9, hl with | [v0, v1, v2, v3], _ => exact ⟨_, _, _, _, rfl⟩
     obtain ⟨t6, hRt, g6, vl6, pc6, -, hF⟩ := hF; have hS9 := (show _ ∧ _ from hF).1; obtain ⟨RX, hRX⟩ : ∃ RX, exF E L ctx ba y q = RX := ⟨_, rfl⟩; have hT3 := HT3.out; rw [hRX] at hRt hT3; cases RX with
     | bad c9 p9 => cases hRt
     | ok y6 =>
      cases hRt
      have HS9 := Z_ hS9; have HT9 := Z_ (show RowT E pr ctx ba L deep (l.drop (j + 1)) (q + szF y) (ks ++ [y6]) = TR from hT3); clear hk9 hl hF hS9 hT3 hRX; go_wp2_with fail
      go_roundw
      case rel => exact ⟨j + 1, q + szF y, _, vl6, ks ++ [y6], pc6, by omega, by go_num, Z_ (by rw [List.length_append, HKL.out]; rfl), Z_ (by have := HQ2.out; omega), HT9, HS9⟩
      case measure => simp [intOf]; omega
  ·obtain rfl : j = N := by omega
   have hjd : decide ((j : Int) < (j : Int)) = false := by simp
   have hT := HT.out; have hQ := HQ.out; rw [List.drop_of_length_le (by rw [HN.out]; exact Nat.le_refl _)] at hT hQ; obtain rfl : q = pe := hQ; have hR0 : RowT E pr ctx ba L deep [] q ks = .ok ks := by unfold RowT; simp [stksF, Rz.bind]
   rw [hR0] at hT; have HTE := Z_ (show endF pr L deep ctx last k t m ks p = T by have h := HTT.out; rw [← hT] at h; exact h); obtain ⟨-, hK17⟩ := stks_kid l none (p + 1) ks (by rw [HST.out, ← hT]) HIS.out; have hks0 : 0 < ks.length := by rw [HKL.out]; exact HNPOS.out
   obtain ⟨rb, ro, rc, hrow, hrb, hall⟩ := row_at HS.out.grow hks0; obtain ⟨g0, a2, c2, p0, p1, p2, p3, p4, p5, hr0, hg0, ht0, hc0⟩ := hall 0 hks0; rw [← head_at hks0] at ht0 hc0; have HALL := Z_ hall; rw [HKL.out] at hrow; subst hrow; have hI0 := head_in hks0 hK17; obtain ⟨tr0, hy0⟩ : ∃ tr0, ks.headD default = tr0 := ⟨_, rfl⟩; rw [hy0] at ht0 hc0 hI0; have HI0 := Z_ hI0; have HY0 := Z_ hy0; have HRB := Z_ hrb; have HR0 := Z_ hr0; have HG0 := Z_ hg0; have HT0 := Z_ ht0; have HC0 := Z_ hc0; clear hT hR0 hy0 HT HQ HI HIH hK17 hI0 hall hrb hr0 hg0 ht0 hc0 HST HTT HIS HFK; have hbc := HS.out.nb.cell; have hks := HKS.out; unfold KdS at hks; obtain rfl | rfl | rfl | rfl | rfl | rfl | rfl | rfl : k = 7 ∨ k = 8 ∨ k = 9 ∨ k = 10 ∨ k = 11 ∨ k = 12 ∨ k = 13 ∨ k = 14 := by omega
   ·have hT9 := HTE.out
    unfold endF at hT9; rw [HY0.out] at hT9; have HT9 := Z_ (show (if (L.any fun l => decide (l.deep = deep) && decide (l.name = t)) = true then .bad 5 p else if 20 ≤ L.length then .bad 1 p else if flowB m [tr0.lab, ctx] = false then .bad 7 p else .ok (.mk 7 m ks ⟨(L.length : Nat), noText, noText, m, 0⟩ 0 ctx, L ++ [⟨t, m, deep⟩]) : Rz (Tr × List Loc)) = T from hT9); obtain ⟨ga, gc, hvl, hgl1, hgl2, hgall⟩ := HS.out.cs.loc.row loc_keeps loc_lies; rw [HLN.out] at hvl hgl1; subst hvl; have HGALL := Z_ hgall; have hcc := HS.out.cs.c.cell; unfold ckC at hcc; clear hT9 hgall; go_wp2_with fail
    clear hcc hbc; obtain ⟨wo, hwo⟩ : ∃ wo, wo = wr := ⟨_, rfl⟩; subst hwo; go_loopw [103] (fun i wr => ∃ e : Nat, e ≤ n ∧ i = .int .i64 (e : Nat) ∧ Hid (((L.take e).any fun l => decide (l.deep = deep) && decide (l.name = t)) = false) ∧ Hid (Ext wo wr)) (fun i _ => n - (intOf i).toNat)
    case atStart => exact ⟨0, Nat.zero_le _, rfl, Z_ (by simp), Z_ (Chg.refl _ _)⟩
    case round =>
     obtain ⟨e, he, rfl, HA, HZ⟩ := hrel; by_cases hlt : e < n
     ·have hei : (e : Int) < (n : Int) := by omega
      have hed : decide ((e : Int) < (n : Int)) = true := by simpa using hei
      have hel : e < L.length := by rw [HLN.out]; exact hlt
      obtain ⟨lb, lo, rfl, hlb, hin⟩ := HGALL.out e hel; rw [hide_size] at hlb; have hin := locIn_keeps (Ext.keeps HZ.out) _ _ _ (locIn_keeps (keeps_bare _ _) _ _ _ hin); have hlb2 := Nat.lt_of_lt_of_le hlb HZ.out.size; have HSTEP := Z_ (any_take hel (P := fun l => decide (l.deep = deep) && decide (l.name = t))); have HALLB := Z_ (any_at hel (P := fun l => decide (l.deep = deep) && decide (l.name = t))); generalize L[e] = y at hin HSTEP HALLB; obtain ⟨yn, yb, yd⟩ := y; obtain ⟨q0, q1, q2, -⟩ := hin; simp only at q0 q1 q2; have HL5 := Z_ (Blk.made wr #[.string yn, .int .i64 yb, .int .i64 yd] 340); have HE6 := Z_ (HZ.out.alloc (.cells #[.string yn, .int .i64 yb, .int .i64 yd] 340)); have HS6 := Z_ (HS.out.extend HE6.out); obtain ⟨Lb, hLb⟩ : ∃ Lb, wr.heap.size = Lb := ⟨_, rfl⟩; rw [hLb] at HL5; have HL6 := HL5; clear HL5 hlb; go_upto_region 18 with (fail)
      try rw [hLb]
      generalize wr.alloc (.cells #[.string yn, .int .i64 yb, .int .i64 yd] 340) = u6 at *; clear q0 q1 q2 hLb hlb2; by_cases hyd : yd = deep
      ·have hyd2 := hyd.symm
       subst hyd2; have HD6 := Z_ (And.intro (rfl : deep = deep) (rfl : deep = deep)); by_cases hyn : yn = t
       ·have HTK := Z_ (show T = .bad 5 p from by rw [← HT9.out, if_pos (HALLB.out (by simp [hyn]))])
        have HN6 := Z_ (And.intro (show (yn.toList == t.toList) = true by rw [hyn]; simp) (show (yn.toList != t.toList) = false by rw [hyn]; simp)); clear HTE HT9 HSTEP HALLB HA hyn; refine wp_region_weaveg [15] (fun i v _ => v = ([.pointer (some ⟨Lb, 2, none⟩), .int .i64 deep, .pointer (some ⟨C, 0, none⟩), .pointer (some ⟨C, 0, none⟩), .pointer (some ⟨C, 3, none⟩), .int .i64 deep, .bool false, .bool false, .pointer (some ⟨Lb, 0, none⟩), .string yn, .pointer (some ⟨Nb, 1, none⟩), .string t, .bool false, .bool false, .int .i64 (p : Nat), undef] : List Value).getD i undef) (fun (vs : List Value) (u : World) => vs = [] ∧ Ext u6 u) (fun _ _ => True) (frame := ?frat) (fun x => ?hfat) synw.mixed (by kernel_rfl) (by kernel_rfl) (fun _ _ _ _ h _ => h) ?h0t ?stt ?fint
        case hfat =>
         simp only [chain.frameOf, chain.fill, chain.setOpt, chain.dstOf, List.size_toArray, List.length_cons, List.length_nil, List.getElem?_toArray, List.getElem?_cons_succ, List.getElem?_cons_zero, List.setIfInBounds_toArray, List.set_cons_succ, List.set_cons_zero]; exact rfl
        case h0t => exact ⟨rfl, (Chg.refl _ _).drew⟩
        case stt =>
         refine AllFrom.cons (fun x vs u hF hm hb hd K' hK' => ?st0) (AllFrom.cons (fun x vs u hF hm hb hd K' hK' => ?st1) (AllFrom.cons (fun x vs u hF hm hb hd K' hK' => ?st2) (AllFrom.cons (fun x vs u hF hm hb hd K' hK' => ?st3) (AllFrom.cons (fun x vs u hF hm hb hd K' hK' => ?st4) (AllFrom.cons (fun x vs u hF hm hb hd K' hK' => ?st5) (AllFrom.cons (fun x vs u hF hm hb hd K' hK' => ?st6) (AllFrom.cons (fun x vs u hF hm hb hd K' hK' => ?st7) (AllFrom.cons (fun x vs u hF hm hb hd K' hK' => ?st8) (AllFrom.cons (fun x vs u hF hm hb hd K' hK' => ?st9) (AllFrom.cons (fun x vs u hF hm hb hd K' hK' => ?st10) (AllFrom.cons (fun x vs u hF hm hb hd K' hK' => ?st11) (AllFrom.cons (fun x vs u hF hm hb hd K' hK' => ?st12) (AllFrom.cons (fun x vs u hF hm hb hd K' hK' => ?st13) (AllFrom.cons (fun x vs u hF hm hb hd K' hK' => ?st14) (AllFrom.cons (fun x vs u hF hm hb hd K' hK' => ?st15) (AllFrom.nil))))))))))))))))
         case st0 =>
          refine weave.stepg_plain rfl ?_
          have HF := Z_ hF; clear hd hm hb hF; go_simp; exact hK'.out _ _ _ (rfl) trivial ⟨rfl, HF.out⟩
         case st1 =>
          refine weave.stepg_plain rfl ?_
          have hE8 : Ext u6 u := hF.2; have hq := (HL6.out.ext hE8).cell; clear hE8; have y0 := hd 0 (by decide) (by kernel_rfl); replace y0 : x 107 = .pointer (some ⟨Lb, 2, none⟩) := y0; have HF := Z_ hF; clear hd hm hb hF; go_simp; exact hK'.out _ _ _ (by simp only [y0]; rfl) trivial ⟨rfl, HF.out⟩
         case st2 =>
          refine weave.stepg_plain rfl ?_
          have HF := Z_ hF; clear hd hm hb hF; go_simp; exact hK'.out _ _ _ (rfl) trivial ⟨rfl, HF.out⟩
         case st3 =>
          refine weave.stepg_plain rfl ?_
          have y0 := hd 2 (by decide) (by kernel_rfl); replace y0 : x 109 = .pointer (some ⟨C, 0, none⟩) := y0; have HF := Z_ hF; clear hd hm hb hF; go_simp; exact hK'.out _ _ _ (by simp only [y0]; rfl) trivial ⟨rfl, HF.out⟩
         case st4 =>
          refine weave.stepg_plain rfl ?_
          have y0 := hd 3 (by decide) (by kernel_rfl); replace y0 : x 110 = .pointer (some ⟨C, 0, none⟩) := y0; have HF := Z_ hF; clear hd hm hb hF; go_simp; exact hK'.out _ _ _ (by simp only [y0]; rfl) trivial ⟨rfl, HF.out⟩
         case st5 =>
          refine weave.stepg_plain rfl ?_
          have hE8 : Ext u6 u := hF.2; have hq := (HS6.out.extend hE8).cs.c.cell; unfold ckC at hq; clear hE8; have y0 := hd 4 (by decide) (by kernel_rfl); replace y0 : x 111 = .pointer (some ⟨C, 3, none⟩) := y0; have HF := Z_ hF; clear hd hm hb hF; go_simp; exact hK'.out _ _ _ (by simp only [y0]; rfl) trivial ⟨rfl, HF.out⟩
         case st6 =>
          refine weave.stepg_plain rfl ?_
          have hz1 := HD6.out.1; have hz2 := HD6.out.2; have y0 := hd 1 (by decide) (by kernel_rfl); replace y0 : x 108 = .int .i64 deep := y0; have y1 := hd 5 (by decide) (by kernel_rfl); replace y1 : x 112 = .int .i64 deep := y1; have HF := Z_ hF; clear hd hm hb hF; go_simp; exact hK'.out _ _ _ (by simp only [y0, y1]; rfl) trivial ⟨rfl, HF.out⟩
         case st7 =>
          refine weave.stepg_plain rfl ?_
          have y0 := hd 6 (by decide) (by kernel_rfl); replace y0 : x 113 = .bool false := y0; have HF := Z_ hF; clear hd hm hb hF; go_simp; exact hK'.out _ _ _ (by simp only [y0]; rfl) trivial ⟨rfl, HF.out⟩
         case st8 =>
          have y0 := hd 7 (by decide) (by kernel_rfl); replace y0 : x 114 = .bool false := y0; refine weave.stepg_take rfl (by simp only [y0]; rfl) ?_
          have HF := Z_ hF; clear hd hm hb hF; go_simp; exact hK'.out _ _ _ (by simp only [y0]; rfl) trivial ⟨rfl, HF.out⟩
         case st9 =>
          have hE8 : Ext u6 u := hF.2; have hq := (HL6.out.ext hE8).cell; clear hE8; have y0 := hd 7 (by decide) (by kernel_rfl); replace y0 : x 114 = .bool false := y0; have y1 := hd 8 (by decide) (by kernel_rfl); replace y1 : x 115 = .pointer (some ⟨Lb, 0, none⟩) := y1; refine weave.stepg_take rfl (by simp only [y0]; rfl) ?_
          have HF := Z_ hF; clear hd hm hb hF; go_simp; exact hK'.out _ _ _ (by simp only [y0, y1]; rfl) trivial ⟨rfl, HF.out⟩
         case st10 =>
          have y0 := hd 7 (by decide) (by kernel_rfl); replace y0 : x 114 = .bool false := y0; refine weave.stepg_take rfl (by simp only [y0]; rfl) ?_
          have HF := Z_ hF; clear hd hm hb hF; go_simp; exact hK'.out _ _ _ (by simp only [y0]; rfl) trivial ⟨rfl, HF.out⟩
         case st11 =>
          have hE8 : Ext u6 u := hF.2; have hq := (HS6.out.extend hE8).nb.cell; clear hE8; have y0 := hd 7 (by decide) (by kernel_rfl); replace y0 : x 114 = .bool false := y0; have y1 := hd 10 (by decide) (by kernel_rfl); replace y1 : x 117 = .pointer (some ⟨Nb, 1, none⟩) := y1; refine weave.stepg_take rfl (by simp only [y0]; rfl) ?_
          have HF := Z_ hF; clear hd hm hb hF; go_simp; exact hK'.out _ _ _ (by simp only [y0, y1]; rfl) trivial ⟨rfl, HF.out⟩
         case st12 =>
          have hz1 := HN6.out.1; have hz2 := HN6.out.2; have y0 := hd 7 (by decide) (by kernel_rfl); replace y0 : x 114 = .bool false := y0; have y1 := hd 9 (by decide) (by kernel_rfl); replace y1 : x 116 = .string yn := y1; have y2 := hd 11 (by decide) (by kernel_rfl); replace y2 : x 118 = .string t := y2; refine weave.stepg_take rfl (by simp only [y0]; rfl) ?_
          have HF := Z_ hF; clear hd hm hb hF; go_simp; exact hK'.out _ _ _ (by simp only [y0, y1, y2]; rfl) trivial ⟨rfl, HF.out⟩
         case st13 =>
          refine weave.stepg_plain rfl ?_
          have y0 := hd 7 (by decide) (by kernel_rfl); replace y0 : x 114 = .bool false := y0; have y1 := hd 12 (by decide) (by kernel_rfl); replace y1 : x 119 = .bool false := y1; have HF := Z_ hF; clear hd hm hb hF; go_simp; exact hK'.out _ _ _ (by simp only [y0, y1]; rfl) trivial ⟨rfl, HF.out⟩
         case st14 =>
          refine weave.stepg_plain rfl ?_
          have HF := Z_ hF; clear hd hm hb hF; go_simp; exact hK'.out _ _ _ (rfl) trivial ⟨rfl, HF.out⟩
         case st15 =>
          refine weave.stepg_plain rfl ?_
          obtain rfl := List.eq_nil_of_length_eq_zero (hm 0 (by kernel_rfl)); have y0 := hd 13 (by decide) (by kernel_rfl); replace y0 : x 120 = .bool false := y0; have y1 := hd 14 (by decide) (by kernel_rfl); replace y1 : x 121 = .int .i64 (p : Nat) := y1; have HF := Z_ (show Ext u6 u from hF.2); clear hd hm hb hF; go_simp; refine (must_no 5 (p : Nat) u).mono ?_
          rintro e u2 ⟨rfl, rfl⟩; go_wp2_with fail
          rw [HTK.out]; exact ⟨rfl, sb_bad (HS6.out.extend HF.out)⟩
        case fint =>
         intro x9 vs9 wz hl hF hk9; obtain ⟨rfl, -⟩ := (show vs9 = [] ∧ _ from hF); cases hl
       ·have HNO := Z_ (show (decide (deep = deep) && decide (yn = t)) = false by simp [hyn])
        have HN6 := Z_ (And.intro (show (yn.toList == t.toList) = false from (lists_ne hyn)) (show (yn.toList != t.toList) = true by simp [bne, (lists_ne hyn)])); clear hyn HALLB; refine wp_region_weaveg [15] (fun i v _ => v = ([.pointer (some ⟨Lb, 2, none⟩), .int .i64 deep, .pointer (some ⟨C, 0, none⟩), .pointer (some ⟨C, 0, none⟩), .pointer (some ⟨C, 3, none⟩), .int .i64 deep, .bool false, .bool false, .pointer (some ⟨Lb, 0, none⟩), .string yn, .pointer (some ⟨Nb, 1, none⟩), .string t, .bool true, .bool true, .int .i64 (p : Nat), undef] : List Value).getD i undef) (fun (_ : List Value) (u : World) => Ext u6 u) (fun _ _ => True) (frame := ?frav) (fun x => ?hfav) synw.mixed (by kernel_rfl) (by kernel_rfl) (fun _ _ _ _ h _ => h) ?h0v ?stv ?finv
        case hfav =>
         simp only [chain.frameOf, chain.fill, chain.setOpt, chain.dstOf, List.size_toArray, List.length_cons, List.length_nil, List.getElem?_toArray, List.getElem?_cons_succ, List.getElem?_cons_zero, List.setIfInBounds_toArray, List.set_cons_succ, List.set_cons_zero]; exact rfl
        case h0v => exact (Chg.refl _ _).drew
        case stv =>
         refine AllFrom.cons (fun x vs u hF hm hb hd K' hK' => ?sv0) (AllFrom.cons (fun x vs u hF hm hb hd K' hK' => ?sv1) (AllFrom.cons (fun x vs u hF hm hb hd K' hK' => ?sv2) (AllFrom.cons (fun x vs u hF hm hb hd K' hK' => ?sv3) (AllFrom.cons (fun x vs u hF hm hb hd K' hK' => ?sv4) (AllFrom.cons (fun x vs u hF hm hb hd K' hK' => ?sv5) (AllFrom.cons (fun x vs u hF hm hb hd K' hK' => ?sv6) (AllFrom.cons (fun x vs u hF hm hb hd K' hK' => ?sv7) (AllFrom.cons (fun x vs u hF hm hb hd K' hK' => ?sv8) (AllFrom.cons (fun x vs u hF hm hb hd K' hK' => ?sv9) (AllFrom.cons (fun x vs u hF hm hb hd K' hK' => ?sv10) (AllFrom.cons (fun x vs u hF hm hb hd K' hK' => ?sv11) (AllFrom.cons (fun x vs u hF hm hb hd K' hK' => ?sv12) (AllFrom.cons (fun x vs u hF hm hb hd K' hK' => ?sv13) (AllFrom.cons (fun x vs u hF hm hb hd K' hK' => ?sv14) (AllFrom.cons (fun x vs u hF hm hb hd K' hK' => ?sv15) (AllFrom.nil))))))))))))))))
         case sv0 =>
          refine weave.stepg_plain rfl ?_
          have HF := Z_ hF; clear hd hm hb hF; go_simp; exact hK'.out _ _ _ (rfl) trivial ⟨rfl, HF.out⟩
         case sv1 =>
          refine weave.stepg_plain rfl ?_
          have hE8 : Ext u6 u := hF; have hq := (HL6.out.ext hE8).cell; clear hE8; have y0 := hd 0 (by decide) (by kernel_rfl); replace y0 : x 107 = .pointer (some ⟨Lb, 2, none⟩) := y0; have HF := Z_ hF; clear hd hm hb hF; go_simp; exact hK'.out _ _ _ (by simp only [y0]; rfl) trivial ⟨rfl, HF.out⟩
         case sv2 =>
          refine weave.stepg_plain rfl ?_
          have HF := Z_ hF; clear hd hm hb hF; go_simp; exact hK'.out _ _ _ (rfl) trivial ⟨rfl, HF.out⟩
         case sv3 =>
          refine weave.stepg_plain rfl ?_
          have y0 := hd 2 (by decide) (by kernel_rfl); replace y0 : x 109 = .pointer (some ⟨C, 0, none⟩) := y0; have HF := Z_ hF; clear hd hm hb hF; go_simp; exact hK'.out _ _ _ (by simp only [y0]; rfl) trivial ⟨rfl, HF.out⟩
         case sv4 =>
          refine weave.stepg_plain rfl ?_
          have y0 := hd 3 (by decide) (by kernel_rfl); replace y0 : x 110 = .pointer (some ⟨C, 0, none⟩) := y0; have HF := Z_ hF; clear hd hm hb hF; go_simp; exact hK'.out _ _ _ (by simp only [y0]; rfl) trivial ⟨rfl, HF.out⟩
         case sv5 =>
          refine weave.stepg_plain rfl ?_
          have hE8 : Ext u6 u := hF; have hq := (HS6.out.extend hE8).cs.c.cell; unfold ckC at hq; clear hE8; have y0 := hd 4 (by decide) (by kernel_rfl); replace y0 : x 111 = .pointer (some ⟨C, 3, none⟩) := y0; have HF := Z_ hF; clear hd hm hb hF; go_simp; exact hK'.out _ _ _ (by simp only [y0]; rfl) trivial ⟨rfl, HF.out⟩
         case sv6 =>
          refine weave.stepg_plain rfl ?_
          have hz1 := HD6.out.1; have hz2 := HD6.out.2; have y0 := hd 1 (by decide) (by kernel_rfl); replace y0 : x 108 = .int .i64 deep := y0; have y1 := hd 5 (by decide) (by kernel_rfl); replace y1 : x 112 = .int .i64 deep := y1; have HF := Z_ hF; clear hd hm hb hF; go_simp; exact hK'.out _ _ _ (by simp only [y0, y1]; rfl) trivial ⟨rfl, HF.out⟩
         case sv7 =>
          refine weave.stepg_plain rfl ?_
          have y0 := hd 6 (by decide) (by kernel_rfl); replace y0 : x 113 = .bool false := y0; have HF := Z_ hF; clear hd hm hb hF; go_simp; exact hK'.out _ _ _ (by simp only [y0]; rfl) trivial ⟨rfl, HF.out⟩
         case sv8 =>
          have y0 := hd 7 (by decide) (by kernel_rfl); replace y0 : x 114 = .bool false := y0; refine weave.stepg_take rfl (by simp only [y0]; rfl) ?_
          have HF := Z_ hF; clear hd hm hb hF; go_simp; exact hK'.out _ _ _ (by simp only [y0]; rfl) trivial ⟨rfl, HF.out⟩
         case sv9 =>
          have hE8 : Ext u6 u := hF; have hq := (HL6.out.ext hE8).cell; clear hE8; have y0 := hd 7 (by decide) (by kernel_rfl); replace y0 : x 114 = .bool false := y0; have y1 := hd 8 (by decide) (by kernel_rfl); replace y1 : x 115 = .pointer (some ⟨Lb, 0, none⟩) := y1; refine weave.stepg_take rfl (by simp only [y0]; rfl) ?_
          have HF := Z_ hF; clear hd hm hb hF; go_simp; exact hK'.out _ _ _ (by simp only [y0, y1]; rfl) trivial ⟨rfl, HF.out⟩
         case sv10 =>
          have y0 := hd 7 (by decide) (by kernel_rfl); replace y0 : x 114 = .bool false := y0; refine weave.stepg_take rfl (by simp only [y0]; rfl) ?_
          have HF := Z_ hF; clear hd hm hb hF; go_simp; exact hK'.out _ _ _ (by simp only [y0]; rfl) trivial ⟨rfl, HF.out⟩
         case sv11 =>
          have hE8 : Ext u6 u := hF; have hq := (HS6.out.extend hE8).nb.cell; clear hE8; have y0 := hd 7 (by decide) (by kernel_rfl); replace y0 : x 114 = .bool false := y0; have y1 := hd 10 (by decide) (by kernel_rfl); replace y1 : x 117 = .pointer (some ⟨Nb, 1, none⟩) := y1; refine weave.stepg_take rfl (by simp only [y0]; rfl) ?_
          have HF := Z_ hF; clear hd hm hb hF; go_simp; exact hK'.out _ _ _ (by simp only [y0, y1]; rfl) trivial ⟨rfl, HF.out⟩
         case sv12 =>
          have hz1 := HN6.out.1; have hz2 := HN6.out.2; have y0 := hd 7 (by decide) (by kernel_rfl); replace y0 : x 114 = .bool false := y0; have y1 := hd 9 (by decide) (by kernel_rfl); replace y1 : x 116 = .string yn := y1; have y2 := hd 11 (by decide) (by kernel_rfl); replace y2 : x 118 = .string t := y2; refine weave.stepg_take rfl (by simp only [y0]; rfl) ?_
          have HF := Z_ hF; clear hd hm hb hF; go_simp; exact hK'.out _ _ _ (by simp only [y0, y1, y2]; rfl) trivial ⟨rfl, HF.out⟩
         case sv13 =>
          refine weave.stepg_plain rfl ?_
          have y0 := hd 7 (by decide) (by kernel_rfl); replace y0 : x 114 = .bool false := y0; have y1 := hd 12 (by decide) (by kernel_rfl); replace y1 : x 119 = .bool true := y1; have HF := Z_ hF; clear hd hm hb hF; go_simp; exact hK'.out _ _ _ (by simp only [y0, y1]; rfl) trivial ⟨rfl, HF.out⟩
         case sv14 =>
          refine weave.stepg_plain rfl ?_
          have HF := Z_ hF; clear hd hm hb hF; go_simp; exact hK'.out _ _ _ (rfl) trivial ⟨rfl, HF.out⟩
         case sv15 =>
          refine weave.stepg_plain rfl ?_
          obtain rfl := List.eq_nil_of_length_eq_zero (hm 0 (by kernel_rfl)); have y0 := hd 13 (by decide) (by kernel_rfl); replace y0 : x 120 = .bool true := y0; have y1 := hd 14 (by decide) (by kernel_rfl); replace y1 : x 121 = .int .i64 (p : Nat) := y1; have HF := Z_ (show Ext u6 u from hF); clear hd hm hb hF; go_simp; refine (must_yes 5 (p : Nat) u).mono ?_
          rintro e u2 ⟨rfl, rfl⟩; exact hK'.out _ _ _ (by simp only [y0, y1]; rfl) trivial HF.out
        case finv =>
         intro x9 vs9 wz hl hF hk9; have HEZ := Z_ (show Ext u6 wz from hF); clear hl hF hk9; go_wp2_with fail
         go_roundw
         case rel => exact ⟨e + 1, by omega, by go_num, Z_ (by have h1 := HSTEP.out; have h2 := HA.out; have h3 := HNO.out; first | (rw [h1, h2, h3]; rfl) | (rw [h1, h2]; simpa using h3)), Z_ (HE6.out.ext HEZ.out)⟩
         case measure => simp [intOf]; omega
      ·have HNO := Z_ (show (decide (yd = deep) && decide (yn = t)) = false by simp [hyd])
       have HD6 := Z_ (And.intro (show (yd == deep) = false by simpa using hyd) (show (yd != deep) = true by simpa using hyd)); clear hyd HALLB; refine wp_region_weaveg [15] (fun i v _ => v = ([.pointer (some ⟨Lb, 2, none⟩), .int .i64 yd, .pointer (some ⟨C, 0, none⟩), .pointer (some ⟨C, 0, none⟩), .pointer (some ⟨C, 3, none⟩), .int .i64 deep, .bool true, .bool true, undef, undef, undef, undef, undef, .bool true, .int .i64 (p : Nat), undef] : List Value).getD i undef) (fun (_ : List Value) (u : World) => Ext u6 u) (fun _ _ => True) (frame := ?fraw) (fun x => ?hfaw) synw.mixed (by kernel_rfl) (by kernel_rfl) (fun _ _ _ _ h _ => h) ?h0w ?stw ?finw
       case hfaw =>
        simp only [chain.frameOf, chain.fill, chain.setOpt, chain.dstOf, List.size_toArray, List.length_cons, List.length_nil, List.getElem?_toArray, List.getElem?_cons_succ, List.getElem?_cons_zero, List.setIfInBounds_toArray, List.set_cons_succ, List.set_cons_zero]; exact rfl
       case h0w => exact (Chg.refl _ _).drew
       case stw =>
        refine AllFrom.cons (fun x vs u hF hm hb hd K' hK' => ?sw0) (AllFrom.cons (fun x vs u hF hm hb hd K' hK' => ?sw1) (AllFrom.cons (fun x vs u hF hm hb hd K' hK' => ?sw2) (AllFrom.cons (fun x vs u hF hm hb hd K' hK' => ?sw3) (AllFrom.cons (fun x vs u hF hm hb hd K' hK' => ?sw4) (AllFrom.cons (fun x vs u hF hm hb hd K' hK' => ?sw5) (AllFrom.cons (fun x vs u hF hm hb hd K' hK' => ?sw6) (AllFrom.cons (fun x vs u hF hm hb hd K' hK' => ?sw7) (AllFrom.cons (fun x vs u hF hm hb hd K' hK' => ?sw8) (AllFrom.cons (fun x vs u hF hm hb hd K' hK' => ?sw9) (AllFrom.cons (fun x vs u hF hm hb hd K' hK' => ?sw10) (AllFrom.cons (fun x vs u hF hm hb hd K' hK' => ?sw11) (AllFrom.cons (fun x vs u hF hm hb hd K' hK' => ?sw12) (AllFrom.cons (fun x vs u hF hm hb hd K' hK' => ?sw13) (AllFrom.cons (fun x vs u hF hm hb hd K' hK' => ?sw14) (AllFrom.cons (fun x vs u hF hm hb hd K' hK' => ?sw15) (AllFrom.nil))))))))))))))))
        case sw0 =>
         refine weave.stepg_plain rfl ?_
         have HF := Z_ hF; clear hd hm hb hF; go_simp; exact hK'.out _ _ _ (rfl) trivial ⟨rfl, HF.out⟩
        case sw1 =>
         refine weave.stepg_plain rfl ?_
         have hE8 : Ext u6 u := hF; have hq := (HL6.out.ext hE8).cell; clear hE8; have y0 := hd 0 (by decide) (by kernel_rfl); replace y0 : x 107 = .pointer (some ⟨Lb, 2, none⟩) := y0; have HF := Z_ hF; clear hd hm hb hF; go_simp; exact hK'.out _ _ _ (by simp only [y0]; rfl) trivial ⟨rfl, HF.out⟩
        case sw2 =>
         refine weave.stepg_plain rfl ?_
         have HF := Z_ hF; clear hd hm hb hF; go_simp; exact hK'.out _ _ _ (rfl) trivial ⟨rfl, HF.out⟩
        case sw3 =>
         refine weave.stepg_plain rfl ?_
         have y0 := hd 2 (by decide) (by kernel_rfl); replace y0 : x 109 = .pointer (some ⟨C, 0, none⟩) := y0; have HF := Z_ hF; clear hd hm hb hF; go_simp; exact hK'.out _ _ _ (by simp only [y0]; rfl) trivial ⟨rfl, HF.out⟩
        case sw4 =>
         refine weave.stepg_plain rfl ?_
         have y0 := hd 3 (by decide) (by kernel_rfl); replace y0 : x 110 = .pointer (some ⟨C, 0, none⟩) := y0; have HF := Z_ hF; clear hd hm hb hF; go_simp; exact hK'.out _ _ _ (by simp only [y0]; rfl) trivial ⟨rfl, HF.out⟩
        case sw5 =>
         refine weave.stepg_plain rfl ?_
         have hE8 : Ext u6 u := hF; have hq := (HS6.out.extend hE8).cs.c.cell; unfold ckC at hq; clear hE8; have y0 := hd 4 (by decide) (by kernel_rfl); replace y0 : x 111 = .pointer (some ⟨C, 3, none⟩) := y0; have HF := Z_ hF; clear hd hm hb hF; go_simp; exact hK'.out _ _ _ (by simp only [y0]; rfl) trivial ⟨rfl, HF.out⟩
        case sw6 =>
         refine weave.stepg_plain rfl ?_
         have hz1 := HD6.out.1; have hz2 := HD6.out.2; have y0 := hd 1 (by decide) (by kernel_rfl); replace y0 : x 108 = .int .i64 yd := y0; have y1 := hd 5 (by decide) (by kernel_rfl); replace y1 : x 112 = .int .i64 deep := y1; have HF := Z_ hF; clear hd hm hb hF; go_simp; exact hK'.out _ _ _ (by simp only [y0, y1]; rfl) trivial ⟨rfl, HF.out⟩
        case sw7 =>
         refine weave.stepg_plain rfl ?_
         have y0 := hd 6 (by decide) (by kernel_rfl); replace y0 : x 113 = .bool true := y0; have HF := Z_ hF; clear hd hm hb hF; go_simp; exact hK'.out _ _ _ (by simp only [y0]; rfl) trivial ⟨rfl, HF.out⟩
        case sw8 =>
         have y0 := hd 7 (by decide) (by kernel_rfl); replace y0 : x 114 = .bool true := y0; have HF := Z_ hF; refine weave.stepg_skip (c := true) rfl (by simp only [y0]; rfl) rfl ?_
         exact hK'.out _ _ _ rfl trivial ⟨rfl, HF.out⟩
        case sw9 =>
         have y0 := hd 7 (by decide) (by kernel_rfl); replace y0 : x 114 = .bool true := y0; have HF := Z_ hF; refine weave.stepg_skip (c := true) rfl (by simp only [y0]; rfl) rfl ?_
         exact hK'.out _ _ _ rfl trivial ⟨rfl, HF.out⟩
        case sw10 =>
         have y0 := hd 7 (by decide) (by kernel_rfl); replace y0 : x 114 = .bool true := y0; have HF := Z_ hF; refine weave.stepg_skip (c := true) rfl (by simp only [y0]; rfl) rfl ?_
         exact hK'.out _ _ _ rfl trivial ⟨rfl, HF.out⟩
        case sw11 =>
         have y0 := hd 7 (by decide) (by kernel_rfl); replace y0 : x 114 = .bool true := y0; have HF := Z_ hF; refine weave.stepg_skip (c := true) rfl (by simp only [y0]; rfl) rfl ?_
         exact hK'.out _ _ _ rfl trivial ⟨rfl, HF.out⟩
        case sw12 =>
         have y0 := hd 7 (by decide) (by kernel_rfl); replace y0 : x 114 = .bool true := y0; have HF := Z_ hF; refine weave.stepg_skip (c := true) rfl (by simp only [y0]; rfl) rfl ?_
         exact hK'.out _ _ _ rfl trivial ⟨rfl, HF.out⟩
        case sw13 =>
         refine weave.stepg_plain rfl ?_
         have y0 := hd 7 (by decide) (by kernel_rfl); replace y0 : x 114 = .bool true := y0; have y1 := hd 12 (by decide) (by kernel_rfl); replace y1 : x 119 = undef := y1; have HF := Z_ hF; clear hd hm hb hF; go_simp; exact hK'.out _ _ _ (by simp only [y0, y1]; rfl) trivial ⟨rfl, HF.out⟩
        case sw14 =>
         refine weave.stepg_plain rfl ?_
         have HF := Z_ hF; clear hd hm hb hF; go_simp; exact hK'.out _ _ _ (rfl) trivial ⟨rfl, HF.out⟩
        case sw15 =>
         refine weave.stepg_plain rfl ?_
         obtain rfl := List.eq_nil_of_length_eq_zero (hm 0 (by kernel_rfl)); have y0 := hd 13 (by decide) (by kernel_rfl); replace y0 : x 120 = .bool true := y0; have y1 := hd 14 (by decide) (by kernel_rfl); replace y1 : x 121 = .int .i64 (p : Nat) := y1; have HF := Z_ (show Ext u6 u from hF); clear hd hm hb hF; go_simp; refine (must_yes 5 (p : Nat) u).mono ?_
         rintro e u2 ⟨rfl, rfl⟩; exact hK'.out _ _ _ (by simp only [y0, y1]; rfl) trivial HF.out
       case finw =>
        intro x9 vs9 wz hl hF hk9; have HEZ := Z_ (show Ext u6 wz from hF); clear hl hF hk9; go_wp2_with fail
        go_roundw
        case rel => exact ⟨e + 1, by omega, by go_num, Z_ (by have h1 := HSTEP.out; have h2 := HA.out; have h3 := HNO.out; first | (rw [h1, h2, h3]; rfl) | (rw [h1, h2]; simpa using h3)), Z_ (HE6.out.ext HEZ.out)⟩
        case measure => simp [intOf]; omega
     ·obtain rfl : e = n := by omega
      have hed : decide ((e : Int) < (e : Int)) = false := by simp
      have HT8 := Z_ (show (if 20 ≤ L.length then .bad 1 p else if flowB m [tr0.lab, ctx] = false then .bad 7 p else .ok (.mk 7 m ks ⟨(L.length : Nat), noText, noText, m, 0⟩ 0 ctx, L ++ [⟨t, m, deep⟩]) : Rz (Tr × List Loc)) = T from by have h9 := HT9.out; have h := HA.out; rw [List.take_of_length_le (by rw [HLN.out]; exact Nat.le_refl _)] at h; rw [if_neg (by rw [h]; decide)] at h9; exact h9); have HS2 := Z_ (HS.out.extend HZ.out); have hcc := HS2.out.cs.c.cell; unfold ckC at hcc; have hxc := HS2.out.x.cell; unfold trC at hxc; have hr0 := (HZ.out.cell (p := ⟨rb, ro, none⟩) HRB.out id).trans HR0.out; have hc0 := (HZ.out.cell (p := ⟨g0, 14, none⟩) HG0.out id).trans ((HC0.out 14 (by decide)).trans rfl); replace hc0 : wr.cell? ⟨g0, 14, none⟩ = some (.int .i64 tr0.lab) := hc0; have hrb := Nat.lt_of_lt_of_le HRB.out HZ.out.size; have hg0 := Nat.lt_of_lt_of_le HG0.out HZ.out.size; have hjp : 0 < j := by rw [← HKL.out]; exact hks0
      have hjq : (0 : Int) < (j : Int) := by omega
      clear HTE HT9 HALL HGALL HA HZ; by_cases h20 : e < 20
      ·have h20d : decide ((e : Int) < 20) = true := decide_eq_true (by omega)
       have HT7 := Z_ (show (if flowB m [tr0.lab, ctx] = false then .bad 7 p else .ok (.mk 7 m ks ⟨(L.length : Nat), noText, noText, m, 0⟩ 0 ctx, L ++ [⟨t, m, deep⟩]) : Rz (Tr × List Loc)) = T from by have h9 := HT8.out; rw [if_neg (by rw [HLN.out]; omega)] at h9; exact h9); clear HT8; go_wp2_with fail
       refine (must_yes 1 (p : Nat) _).mono ?_
       rintro e9 w8 ⟨rfl, rfl⟩; go_wp2_with fail
       have hb9 := Blk.made w8 #[.int .i64 tr0.lab, .int .i64 ctx] 3; have HS9 := Z_ (HS2.out.extend ((Chg.refl _ w8).alloc (.cells #[.int .i64 tr0.lab, .int .i64 ctx] 3))); have HFL := Z_ (show Calls Tryz.prog 283 #[.int .i64 (p : Nat), .int .i64 (m), .slice (some ⟨w8.heap.size, 0, none⟩) 2 2] (w8.alloc (.cells #[.int .i64 tr0.lab, .int .i64 ctx] 3)) (FlowPost (m) [tr0.lab, ctx] (p : Nat) _) from flows_any (p : Nat) (m) (some ⟨w8.heap.size, 0, none⟩) 2 [tr0.lab, ctx] _ (flow_row hb9) (Nat.le_refl _) (by simp)); clear hb9; skip
       refine HFL.out.mono ?_
       rintro e9 w9 ⟨hy1, hy2, rfl⟩; cases hfl : flowB (m) [tr0.lab, ctx] with
       | true =>
        obtain rfl := hy1 hfl; have HFLT := Z_ hfl; clear HFL hy1 hy2 hfl; generalize w8.alloc (.cells #[.int .i64 tr0.lab, .int .i64 ctx] 3) = w9 at *; have HTK := Z_ (show T = .ok (.mk 7 m ks ⟨(L.length : Nat), noText, noText, m, 0⟩ 0 ctx, L ++ [⟨t, m, deep⟩]) from by have h9 := HT7.out; rw [if_neg (by rw [HFLT.out]; decide)] at h9; exact h9.symm); clear HT7 hcc hxc hr0 hc0 hrb hg0 hjp hjq h20; have hbc := HS9.out.nb.cell; go_wp2_with fail
        refine (make_any HS9.out.cs HS9.out.pc (by rw [HLN.out]; omega) t HTX.out m).mono ?_
        rintro e9 w10 ⟨vl9, pc9, rfl, hC9, hcs9, hpc9, hfr9⟩; have HSM := Z_ (HS9.out.call hC9 hcs9 hpc9 hfr9); clear hC9 hcs9 hpc9 hfr9 hbc; have hxc := HSM.out.x.cell; have hxf := HSM.out.x.frozen; have hxl := HSM.out.x.lt; unfold trC at hxc; go_wp2_with fail
        go_ret
        rw [HTK.out]; have H1 := HSM.out.put (j := 3) (v := .int .i64 (L.length : Nat)) (xc' := fun rv => trC 7 m rv ⟨(L.length : Nat), noText, noText, 0, 0⟩ (.string ⟨#[]⟩) (.bool false) (.slice none 0 0) (.int .i64 0) (.bool false) (.int .i64 0) 0 ctx) rfl; have H2 := H1.put (j := 4) (v := .string ⟨#[]⟩) (xc' := fun rv => trC 7 m rv ⟨(L.length : Nat), noText, noText, 0, 0⟩ (.string ⟨#[]⟩) (.bool false) (.slice none 0 0) (.int .i64 0) (.bool false) (.int .i64 0) 0 ctx) rfl; have H3 := H2.put (j := 5) (v := .string ⟨#[]⟩) (xc' := fun rv => trC 7 m rv ⟨(L.length : Nat), noText, noText, 0, 0⟩ (.string ⟨#[]⟩) (.bool false) (.slice none 0 0) (.int .i64 0) (.bool false) (.int .i64 0) 0 ctx) rfl; have H4 := H3.put (j := 6) (v := .int .i64 m) (xc' := fun rv => trC 7 m rv ⟨(L.length : Nat), noText, noText, m, 0⟩ (.string ⟨#[]⟩) (.bool false) (.slice none 0 0) (.int .i64 0) (.bool false) (.int .i64 0) 0 ctx) rfl
        have H5 := H4.put (j := 7) (v := .int .i64 0) (xc' := fun rv => trC 7 m rv ⟨(L.length : Nat), noText, noText, m, 0⟩ (.string ⟨#[]⟩) (.bool false) (.slice none 0 0) (.int .i64 0) (.bool false) (.int .i64 0) 0 ctx) rfl; exact sb_fin H5 (by constructor <;> (unfold maxLen; show noText.size ≤ _; decide))
       | false =>
        obtain rfl := hy2 hfl; have HTK := Z_ (show T = .bad 7 p from by rw [← HT7.out, if_pos hfl]); clear HFL hy1 hy2; go_wp2_with fail
        rw [HTK.out]; exact ⟨rfl, sb_bad HS9.out⟩
      ·have h20d : decide ((e : Int) < 20) = false := decide_eq_false (by omega)
       have HTK := Z_ (show T = .bad 1 p from by rw [← HT8.out, if_pos (by rw [HLN.out]; omega)]); clear HT8; go_wp2_with fail
       refine (must_no 1 (p : Nat) _).mono ?_
       rintro e9 w9 ⟨rfl, rfl⟩; go_wp2_with fail
       rw [HTK.out]; exact ⟨rfl, sb_bad HS2.out⟩
   ·have hxc := HS.out.x.cell
    have hxf := HS.out.x.frozen; have hxl := HS.out.x.lt; unfold trC at hxc; have hr0 := HR0.out; rw [Nat.add_zero] at hr0; have hc0 := HC0.out 14 (by decide); replace hc0 : wr.cell? ⟨g0, 14, none⟩ = some (.int .i64 tr0.lab) := hc0; have hrb := HRB.out; have hg0 := HG0.out; have hjp : 0 < j := by rw [← HKL.out]; exact hks0
    have hjq : (0 : Int) < (j : Int) := by omega
    have hj2 : j = 2 := by have h1 := HF8.out rfl; rw [HN.out] at h1; exact h1
    have hks1 : 1 < ks.length := by rw [HKL.out]; omega
    obtain ⟨g1, b2, d2, s0, s1, s2, s3, s4, s5, hr1, hg1, ht1, hc1⟩ := HALL.out 1 hks1; rw [← tail_at hks1] at ht1 hc1; obtain ⟨tr1, htr1⟩ : ∃ y1, ks.tail.headD default = y1 := ⟨_, rfl⟩; rw [htr1] at hc1; have hc6 := HC0.out 6 (by decide); replace hc6 : wr.cell? ⟨g0, 6, none⟩ = some (.int .i64 tr0.ref.label) := hc6; have HC6 := Z_ hc6; have HC1 := Z_ (show wr.cell? ⟨g1, 14, none⟩ = some (.int .i64 tr1.lab) from hc1 14 (by decide)); have HR1 := Z_ hr1; have HG1 := Z_ hg1; have hT9 := HTE.out; unfold endF at hT9; rw [HY0.out, htr1] at hT9; have HT9 := Z_ (show (if flowB tr0.ref.label [tr1.lab, indexF tr0, ctx] = false then .bad 7 p else .ok (.mk 8 m ks zRef 0 ctx, L) : Rz (Tr × List Loc)) = T from hT9); have hjq1 : (1 : Int) < (j : Int) := by omega
    have HJQ := Z_ hjq1; have HJP := Z_ (show 1 < j by omega); clear hT9 hj2 hr1 hg1 ht1 hc1 hc6 htr1; go_upto_region 25 with (fail)
    clear hxc hxf hxl hr0 hc0 hrb hg0 hjp hjq hjq1; refine wp_region_weaveg [16, 18, 19] (fun i v _ => v = ([.int .i64 (p : Nat), .pointer (some ⟨g0, 0, none⟩), .pointer (some ⟨g0, 0, none⟩), .pointer (some ⟨g0, 3, none⟩), .pointer (some ⟨g0, 6, none⟩), .int .i64 tr0.ref.label, .pointer (some ⟨X, 0, none⟩), .pointer (some ⟨X, 0, none⟩), .pointer (some ⟨X, 2, none⟩), .slice (some ⟨rb, ro, none⟩) j rc, .pointer (some ⟨rb, ro + 1, none⟩), .pointer (some ⟨g1, 0, none⟩), .pointer (some ⟨g1, 0, none⟩), .pointer (some ⟨g1, 14, none⟩), .int .i64 tr1.lab, .pointer (some ⟨g0, 0, none⟩), undef, .int .i64 ctx, undef, undef] : List Value).getD i undef) (FlowI (.int .i64 (indexF tr0)) (FlowF wr tr0.ref.label [tr1.lab, indexF tr0, ctx] 3)) (fun _ _ => True) (frame := ?fras) (fun x => ?hfas) synw.mixed (by kernel_rfl) (by kernel_rfl) (fun _ _ _ _ h _ => h) ?h0s ?sts ?fins
    case hfas =>
     simp only [chain.frameOf, chain.fill, chain.setOpt, chain.dstOf, List.size_toArray, List.length_cons, List.length_nil, List.getElem?_toArray, List.getElem?_cons_succ, List.getElem?_cons_zero, List.setIfInBounds_toArray, List.set_cons_succ, List.set_cons_zero]; exact rfl
    case h0s => exact (Chg.refl _ _).drew
    case sts =>
     refine AllFrom.cons (fun x vs u hF hm hb hd K' hK' => ?ss0) (AllFrom.cons (fun x vs u hF hm hb hd K' hK' => ?ss1) (AllFrom.cons (fun x vs u hF hm hb hd K' hK' => ?ss2) (AllFrom.cons (fun x vs u hF hm hb hd K' hK' => ?ss3) (AllFrom.cons (fun x vs u hF hm hb hd K' hK' => ?ss4) (AllFrom.cons (fun x vs u hF hm hb hd K' hK' => ?ss5) (AllFrom.cons (fun x vs u hF hm hb hd K' hK' => ?ss6) (AllFrom.cons (fun x vs u hF hm hb hd K' hK' => ?ss7) (AllFrom.cons (fun x vs u hF hm hb hd K' hK' => ?ss8) (AllFrom.cons (fun x vs u hF hm hb hd K' hK' => ?ss9) (AllFrom.cons (fun x vs u hF hm hb hd K' hK' => ?ss10) (AllFrom.cons (fun x vs u hF hm hb hd K' hK' => ?ss11) (AllFrom.cons (fun x vs u hF hm hb hd K' hK' => ?ss12) (AllFrom.cons (fun x vs u hF hm hb hd K' hK' => ?ss13) (AllFrom.cons (fun x vs u hF hm hb hd K' hK' => ?ss14) (AllFrom.cons (fun x vs u hF hm hb hd K' hK' => ?ss15) (AllFrom.cons (fun x vs u hF hm hb hd K' hK' => ?ss16) (AllFrom.cons (fun x vs u hF hm hb hd K' hK' => ?ss17) (AllFrom.cons (fun x vs u hF hm hb hd K' hK' => ?ss18) (AllFrom.cons (fun x vs u hF hm hb hd K' hK' => ?ss19) (AllFrom.nil))))))))))))))))))))
     case ss0 =>
      refine weave.stepg_plain rfl ?_
      have HF := Z_ hF; clear hd hm hb hF; go_simp; exact hK'.out _ _ _ (rfl) trivial ⟨rfl, HF.out⟩
     case ss1 =>
      refine weave.stepg_plain rfl ?_
      have HF := Z_ hF; clear hd hm hb hF; go_simp; exact hK'.out _ _ _ (rfl) trivial ⟨rfl, HF.out⟩
     case ss2 =>
      refine weave.stepg_plain rfl ?_
      have y0 := hd 1 (by decide) (by kernel_rfl); replace y0 : x 165 = .pointer (some ⟨g0, 0, none⟩) := y0; have HF := Z_ hF; clear hd hm hb hF; go_simp; exact hK'.out _ _ _ (by simp only [y0]; rfl) trivial ⟨rfl, HF.out⟩
     case ss3 =>
      refine weave.stepg_plain rfl ?_
      have y0 := hd 2 (by decide) (by kernel_rfl); replace y0 : x 166 = .pointer (some ⟨g0, 0, none⟩) := y0; have HF := Z_ hF; clear hd hm hb hF; go_simp; exact hK'.out _ _ _ (by simp only [y0]; rfl) trivial ⟨rfl, HF.out⟩
     case ss4 =>
      refine weave.stepg_plain rfl ?_
      have y0 := hd 3 (by decide) (by kernel_rfl); replace y0 : x 167 = .pointer (some ⟨g0, 3, none⟩) := y0; have HF := Z_ hF; clear hd hm hb hF; go_simp; exact hK'.out _ _ _ (by simp only [y0]; rfl) trivial ⟨rfl, HF.out⟩
     case ss5 =>
      refine weave.stepg_plain rfl ?_
      have hE8 := FlowI.ext hF; have hq := (hE8.cell (p := ⟨g0, 6, none⟩) HG0.out id).trans HC6.out; clear hE8; have y0 := hd 4 (by decide) (by kernel_rfl); replace y0 : x 168 = .pointer (some ⟨g0, 6, none⟩) := y0; have HF := Z_ hF; clear hd hm hb hF; go_simp; exact hK'.out _ _ _ (by simp only [y0]; rfl) trivial ⟨rfl, HF.out⟩
     case ss6 =>
      refine weave.stepg_plain rfl ?_
      have HF := Z_ hF; clear hd hm hb hF; go_simp; exact hK'.out _ _ _ (rfl) trivial ⟨rfl, HF.out⟩
     case ss7 =>
      refine weave.stepg_plain rfl ?_
      have y0 := hd 6 (by decide) (by kernel_rfl); replace y0 : x 170 = .pointer (some ⟨X, 0, none⟩) := y0; have HF := Z_ hF; clear hd hm hb hF; go_simp; exact hK'.out _ _ _ (by simp only [y0]; rfl) trivial ⟨rfl, HF.out⟩
     case ss8 =>
      refine weave.stepg_plain rfl ?_
      have y0 := hd 7 (by decide) (by kernel_rfl); replace y0 : x 171 = .pointer (some ⟨X, 0, none⟩) := y0; have HF := Z_ hF; clear hd hm hb hF; go_simp; exact hK'.out _ _ _ (by simp only [y0]; rfl) trivial ⟨rfl, HF.out⟩
     case ss9 =>
      refine weave.stepg_plain rfl ?_
      have hE8 := FlowI.ext hF; have hq := (HS.out.extend hE8).x.cell 2; replace hq : u.cell? ⟨X, 2, none⟩ = some (.slice (some ⟨rb, ro, none⟩) j rc) := hq; clear hE8; have y0 := hd 8 (by decide) (by kernel_rfl); replace y0 : x 172 = .pointer (some ⟨X, 2, none⟩) := y0; have HF := Z_ hF; clear hd hm hb hF; go_simp; exact hK'.out _ _ _ (by simp only [y0]; rfl) trivial ⟨rfl, HF.out⟩
     case ss10 =>
      refine weave.stepg_plain rfl ?_
      have hj8 := HJQ.out; have hj9 := HJP.out; have y0 := hd 9 (by decide) (by kernel_rfl); replace y0 : x 173 = .slice (some ⟨rb, ro, none⟩) j rc := y0; have HF := Z_ hF; clear hd hm hb hF; go_simp; exact hK'.out _ _ _ (by simp only [y0]; rfl) trivial ⟨rfl, HF.out⟩
     case ss11 =>
      refine weave.stepg_plain rfl ?_
      have hE8 := FlowI.ext hF; have hq := (hE8.cell (p := ⟨rb, ro + 1, none⟩) HRB.out id).trans HR1.out; clear hE8; have y0 := hd 10 (by decide) (by kernel_rfl); replace y0 : x 174 = .pointer (some ⟨rb, ro + 1, none⟩) := y0; have HF := Z_ hF; clear hd hm hb hF; go_simp; exact hK'.out _ _ _ (by simp only [y0]; rfl) trivial ⟨rfl, HF.out⟩
     case ss12 =>
      refine weave.stepg_plain rfl ?_
      have y0 := hd 11 (by decide) (by kernel_rfl); replace y0 : x 175 = .pointer (some ⟨g1, 0, none⟩) := y0; have HF := Z_ hF; clear hd hm hb hF; go_simp; exact hK'.out _ _ _ (by simp only [y0]; rfl) trivial ⟨rfl, HF.out⟩
     case ss13 =>
      refine weave.stepg_plain rfl ?_
      have y0 := hd 12 (by decide) (by kernel_rfl); replace y0 : x 176 = .pointer (some ⟨g1, 0, none⟩) := y0; have HF := Z_ hF; clear hd hm hb hF; go_simp; exact hK'.out _ _ _ (by simp only [y0]; rfl) trivial ⟨rfl, HF.out⟩
     case ss14 =>
      refine weave.stepg_plain rfl ?_
      have hE8 := FlowI.ext hF; have hq := (hE8.cell (p := ⟨g1, 14, none⟩) HG1.out id).trans HC1.out; clear hE8; have y0 := hd 13 (by decide) (by kernel_rfl); replace y0 : x 177 = .pointer (some ⟨g1, 14, none⟩) := y0; have HF := Z_ hF; clear hd hm hb hF; go_simp; exact hK'.out _ _ _ (by simp only [y0]; rfl) trivial ⟨rfl, HF.out⟩
     case ss15 =>
      refine weave.stepg_plain rfl ?_
      have HF := Z_ hF; clear hd hm hb hF; go_simp; exact hK'.out _ _ _ (rfl) trivial ⟨rfl, HF.out⟩
     case ss16 =>
      refine weave.stepg_plain rfl ?_
      obtain rfl := List.eq_nil_of_length_eq_zero (hm 0 (by kernel_rfl)); have y0 := hd 15 (by decide) (by kernel_rfl); replace y0 : x 179 = .pointer (some ⟨g0, 0, none⟩) := y0; have HF := Z_ hF; have HX9 := Z_ (index_any tr0 _ u (trAt_keeps (Ext.keeps ((Chg.refl _ wr).ext hF)) _ _ HT0.out) HI0.out); clear hd hm hb hF; go_simp; refine HX9.out.mono ?_
      rintro e u2 ⟨rfl, rfl⟩; exact hK'.out _ _ _ (by simp only [y0]; rfl) trivial ⟨rfl, HF.out⟩
     case ss17 =>
      refine weave.stepg_plain rfl ?_
      have HF := Z_ hF; clear hd hm hb hF; go_simp; exact hK'.out _ _ _ (rfl) trivial ⟨rfl, HF.out⟩
     case ss18 =>
      refine weave.stepg_plain rfl ?_
      obtain ⟨v0, rfl⟩ : ∃ v0, vs = [v0] := by match vs, hm 1 (by kernel_rfl) with | [v0], _ => exact ⟨_, rfl⟩
      have y0 := hd 14 (by decide) (by kernel_rfl); replace y0 : x 178 = .int .i64 tr1.lab := y0; have y1 := hd 16 (by decide) (by kernel_rfl) 180 (by kernel_rfl); replace y1 : x 180 = v0 := y1; have y2 := hd 17 (by decide) (by kernel_rfl); replace y2 : x 181 = .int .i64 ctx := y2; obtain ⟨rv, hF⟩ := hF; subst rv; have HF := Z_ hF; clear hd hm hb hF; go_simp; exact hK'.out _ _ _ (by simp only [y0, y1, y2]; rfl) trivial (⟨rfl, flow_made HF.out rfl⟩)
     case ss19 =>
      refine weave.stepg_plain rfl ?_
      obtain ⟨v0, v1, rfl⟩ : ∃ v0 v1, vs = [v0, v1] := by match vs, hm 2 (by kernel_rfl) with | [v0, v1], _ => exact ⟨_, _, rfl⟩
      have y0 := hd 0 (by decide) (by kernel_rfl); replace y0 : x 164 = .int .i64 (p : Nat) := y0; have y1 := hd 5 (by decide) (by kernel_rfl); replace y1 : x 169 = .int .i64 tr0.ref.label := y1; have y2 := hd 18 (by decide) (by kernel_rfl) 182 (by kernel_rfl); replace y2 : x 182 = v1 := y2; obtain ⟨rv, hF⟩ := hF; subst rv; obtain ⟨hE9, g9, rfl, hb9⟩ := hF; have HFL := Z_ (show Calls Tryz.prog 283 #[.int .i64 (p : Nat), .int .i64 (tr0.ref.label), .slice (some ⟨g9, 0, none⟩) 3 3] u (FlowPost (tr0.ref.label) [tr1.lab, indexF tr0, ctx] (p : Nat) u) from flows_any (p : Nat) (tr0.ref.label) (some ⟨g9, 0, none⟩) 3 [tr1.lab, indexF tr0, ctx] u (flow_row hb9) (Nat.le_refl _) (by simp)); have HEU := Z_ hE9; clear hd hm hb hE9 hb9; go_simp; refine HFL.out.mono ?_
      rintro e u2 ⟨hy1, hy2, rfl⟩; cases hfl : flowB (tr0.ref.label) [tr1.lab, indexF tr0, ctx] with
      | true =>
       obtain rfl := hy1 hfl; exact hK'.out _ _ _ (by simp only [y0, y1, y2]; rfl) trivial ⟨rfl, ⟨hfl, HEU.out⟩⟩
      | false =>
       obtain rfl := hy2 hfl; have HTK := Z_ (show T = .bad 7 p from by rw [← HT9.out, if_pos hfl]); clear HTE HFL hy1 hy2; go_wp2_with fail
       rw [HTK.out]; exact ⟨rfl, sb_bad (HS.out.extend HEU.out)⟩
    case fins =>
     intro x9 vs9 wz hl hF hk9; obtain ⟨v0, v1, v2, rfl⟩ : ∃ v0 v1 v2, vs9 = [v0, v1, v2] := by match vs9, hl with | [v0, v1, v2], _ => exact ⟨_, _, _, rfl⟩
     obtain ⟨-, hfl, hEz⟩ := hF; have HSZ := Z_ (HS.out.extend hEz); have HTK := Z_ (show T = .ok (.mk _ m ks zRef 0 ctx, L) from by rw [← HT9.out, if_neg (by rw [hfl]; decide)]); clear HTE hfl hEz hk9 hl; go_wp2_with fail
     go_ret
     rw [HTK.out]; exact sb_fin HSZ.out (by constructor <;> decide)
   ·have HTK := Z_ (show T = .ok (.mk _ m ks zRef 0 ctx, L) from HTE.out.symm)
    clear HTE; go_wp2_with fail
    go_ret
    rw [HTK.out]; exact sb_fin HS.out (by constructor <;> decide)
   ·have HTK := Z_ (show T = .ok (.mk _ m ks zRef 0 ctx, L) from HTE.out.symm)
    clear HTE; go_wp2_with fail
    go_ret
    rw [HTK.out]; exact sb_fin HS.out (by constructor <;> decide)
   ·have HTK := Z_ (show T = .ok (.mk _ m ks zRef 0 ctx, L) from HTE.out.symm)
    clear HTE; go_wp2_with fail
    go_ret
    rw [HTK.out]; exact sb_fin HS.out (by constructor <;> decide)
   ·have hxc := HS.out.x.cell
    have hxf := HS.out.x.frozen; have hxl := HS.out.x.lt; unfold trC at hxc; have hr0 := HR0.out; rw [Nat.add_zero] at hr0; have hc0 := HC0.out 14 (by decide); replace hc0 : wr.cell? ⟨g0, 14, none⟩ = some (.int .i64 tr0.lab) := hc0; have hrb := HRB.out; have hg0 := HG0.out; have hjp : 0 < j := by rw [← HKL.out]; exact hks0
    have hjq : (0 : Int) < (j : Int) := by omega
    have hT9 := HTE.out; unfold endF at hT9; rw [HY0.out] at hT9; have HT9 := Z_ (show (if flowB m [tr0.lab, ctx] = false then .bad 7 p else .ok (.mk 12 m ks zRef 0 ctx, L) : Rz (Tr × List Loc)) = T from hT9); clear hT9; go_upto_region 27 with (fail)
    go_wp2_with fail
    have hb9 := Blk.made wr #[.int .i64 tr0.lab, .int .i64 ctx] 3; have HS9 := Z_ (HS.out.extend ((Chg.refl _ wr).alloc (.cells #[.int .i64 tr0.lab, .int .i64 ctx] 3))); have HFL := Z_ (show Calls Tryz.prog 283 #[.int .i64 (p : Nat), .int .i64 (m), .slice (some ⟨wr.heap.size, 0, none⟩) 2 2] (wr.alloc (.cells #[.int .i64 tr0.lab, .int .i64 ctx] 3)) (FlowPost (m) [tr0.lab, ctx] (p : Nat) _) from flows_any (p : Nat) (m) (some ⟨wr.heap.size, 0, none⟩) 2 [tr0.lab, ctx] _ (flow_row hb9) (Nat.le_refl _) (by simp)); clear hb9; have HE9 := Z_ (show Ext wr (wr.alloc (.cells #[.int .i64 tr0.lab, .int .i64 ctx] 3)) from (Chg.refl _ wr).alloc _); refine HFL.out.mono ?_
    rintro e9 w9 ⟨hy1, hy2, rfl⟩; cases hfl : flowB (m) [tr0.lab, ctx] with
    | true =>
     obtain rfl := hy1 hfl; have HTK := Z_ (show T = .ok (.mk _ m ks zRef 0 ctx, L) from by rw [← HT9.out, if_neg (by rw [hfl]; decide)]); clear HTE HFL hy1 hy2; go_wp2_with fail
     go_ret
     rw [HTK.out]; exact sb_fin HS9.out (by constructor <;> decide)
    | false =>
     obtain rfl := hy2 hfl; have HTK := Z_ (show T = .bad 7 p from by rw [← HT9.out, if_pos hfl]); clear HTE HFL hy1 hy2; go_wp2_with fail
     rw [HTK.out]; exact ⟨rfl, sb_bad HS9.out⟩
   ·have hxc := HS.out.x.cell
    have hxf := HS.out.x.frozen; have hxl := HS.out.x.lt; unfold trC at hxc; have hr0 := HR0.out; rw [Nat.add_zero] at hr0; have hc0 := HC0.out 14 (by decide); replace hc0 : wr.cell? ⟨g0, 14, none⟩ = some (.int .i64 tr0.lab) := hc0; have hrb := HRB.out; have hg0 := HG0.out; have hjp : 0 < j := by rw [← HKL.out]; exact hks0
    have hjq : (0 : Int) < (j : Int) := by omega
    have hc6 := HC0.out 6 (by decide); replace hc6 : wr.cell? ⟨g0, 6, none⟩ = some (.int .i64 tr0.ref.label) := hc6; have HC6 := Z_ hc6; clear hc6; have hT9 := HTE.out; unfold endF at hT9; rw [HY0.out] at hT9; have HT9 := Z_ (show (if flowB m [ctx] = false then .bad 7 p else if flowB tr0.ref.label [m, indexF tr0, ctx] = false then .bad 7 p else .ok (.mk 13 m ks zRef 0 ctx, L) : Rz (Tr × List Loc)) = T from hT9); clear hT9; go_upto_region 30 with (fail)
    go_wp2_with fail
    have hb9 := Blk.made wr #[.int .i64 ctx] 3; have HS9 := Z_ (HS.out.extend ((Chg.refl _ wr).alloc (.cells #[.int .i64 ctx] 3))); have HFL := Z_ (show Calls Tryz.prog 283 #[.int .i64 (p : Nat), .int .i64 (m), .slice (some ⟨wr.heap.size, 0, none⟩) 1 1] (wr.alloc (.cells #[.int .i64 ctx] 3)) (FlowPost (m) [ctx] (p : Nat) _) from flows_any (p : Nat) (m) (some ⟨wr.heap.size, 0, none⟩) 1 [ctx] _ (flow_row hb9) (Nat.le_refl _) (by simp)); clear hb9; have HE9 := Z_ (show Ext wr (wr.alloc (.cells #[.int .i64 ctx] 3)) from (Chg.refl _ wr).alloc _); refine HFL.out.mono ?_
    rintro e9 w9 ⟨hy1, hy2, rfl⟩; cases hfl : flowB (m) [ctx] with
    | true =>
     obtain rfl := hy1 hfl; have HFLT := Z_ hfl; clear HFL hy1 hy2 hfl; generalize wr.alloc (.cells #[.int .i64 ctx] 3) = w9 at *; go_upto_region 31 with (fail)
     refine wp_region_weaveg [8, 10, 11] (fun i v _ => v = ([.int .i64 (p : Nat), .pointer (some ⟨g0, 0, none⟩), .pointer (some ⟨g0, 0, none⟩), .pointer (some ⟨g0, 3, none⟩), .pointer (some ⟨g0, 6, none⟩), .int .i64 tr0.ref.label, .int .i64 m, .pointer (some ⟨g0, 0, none⟩), undef, .int .i64 ctx, undef, undef] : List Value).getD i undef) (FlowI (.int .i64 (indexF tr0)) (FlowF w9 tr0.ref.label [m, indexF tr0, ctx] 3)) (fun _ _ => True) (frame := ?fraq) (fun x => ?hfaq) synw.mixed (by kernel_rfl) (by kernel_rfl) (fun _ _ _ _ h _ => h) ?h0q ?stq ?finq
     case hfaq =>
      simp only [chain.frameOf, chain.fill, chain.setOpt, chain.dstOf, List.size_toArray, List.length_cons, List.length_nil, List.getElem?_toArray, List.getElem?_cons_succ, List.getElem?_cons_zero, List.setIfInBounds_toArray, List.set_cons_succ, List.set_cons_zero]; exact rfl
     case h0q => exact (Chg.refl _ _).drew
     case stq =>
      refine AllFrom.cons (fun x vs u hF hm hb hd K' hK' => ?sq0) (AllFrom.cons (fun x vs u hF hm hb hd K' hK' => ?sq1) (AllFrom.cons (fun x vs u hF hm hb hd K' hK' => ?sq2) (AllFrom.cons (fun x vs u hF hm hb hd K' hK' => ?sq3) (AllFrom.cons (fun x vs u hF hm hb hd K' hK' => ?sq4) (AllFrom.cons (fun x vs u hF hm hb hd K' hK' => ?sq5) (AllFrom.cons (fun x vs u hF hm hb hd K' hK' => ?sq6) (AllFrom.cons (fun x vs u hF hm hb hd K' hK' => ?sq7) (AllFrom.cons (fun x vs u hF hm hb hd K' hK' => ?sq8) (AllFrom.cons (fun x vs u hF hm hb hd K' hK' => ?sq9) (AllFrom.cons (fun x vs u hF hm hb hd K' hK' => ?sq10) (AllFrom.cons (fun x vs u hF hm hb hd K' hK' => ?sq11) (AllFrom.nil))))))))))))
      case sq0 =>
       refine weave.stepg_plain rfl ?_
       have HF := Z_ hF; clear hd hm hb hF; go_simp; exact hK'.out _ _ _ (rfl) trivial ⟨rfl, HF.out⟩
      case sq1 =>
       refine weave.stepg_plain rfl ?_
       have HF := Z_ hF; clear hd hm hb hF; go_simp; exact hK'.out _ _ _ (rfl) trivial ⟨rfl, HF.out⟩
      case sq2 =>
       refine weave.stepg_plain rfl ?_
       have y0 := hd 1 (by decide) (by kernel_rfl); replace y0 : x 214 = .pointer (some ⟨g0, 0, none⟩) := y0; have HF := Z_ hF; clear hd hm hb hF; go_simp; exact hK'.out _ _ _ (by simp only [y0]; rfl) trivial ⟨rfl, HF.out⟩
      case sq3 =>
       refine weave.stepg_plain rfl ?_
       have y0 := hd 2 (by decide) (by kernel_rfl); replace y0 : x 215 = .pointer (some ⟨g0, 0, none⟩) := y0; have HF := Z_ hF; clear hd hm hb hF; go_simp; exact hK'.out _ _ _ (by simp only [y0]; rfl) trivial ⟨rfl, HF.out⟩
      case sq4 =>
       refine weave.stepg_plain rfl ?_
       have y0 := hd 3 (by decide) (by kernel_rfl); replace y0 : x 216 = .pointer (some ⟨g0, 3, none⟩) := y0; have HF := Z_ hF; clear hd hm hb hF; go_simp; exact hK'.out _ _ _ (by simp only [y0]; rfl) trivial ⟨rfl, HF.out⟩
      case sq5 =>
       refine weave.stepg_plain rfl ?_
       have hE8 := HE9.out.ext (FlowI.ext hF); have hq := (hE8.cell (p := ⟨g0, 6, none⟩) HG0.out id).trans HC6.out; clear hE8; have y0 := hd 4 (by decide) (by kernel_rfl); replace y0 : x 217 = .pointer (some ⟨g0, 6, none⟩) := y0; have HF := Z_ hF; clear hd hm hb hF; go_simp; exact hK'.out _ _ _ (by simp only [y0]; rfl) trivial ⟨rfl, HF.out⟩
      case sq6 =>
       refine weave.stepg_plain rfl ?_
       have HF := Z_ hF; clear hd hm hb hF; go_simp; exact hK'.out _ _ _ (rfl) trivial ⟨rfl, HF.out⟩
      case sq7 =>
       refine weave.stepg_plain rfl ?_
       have HF := Z_ hF; clear hd hm hb hF; go_simp; exact hK'.out _ _ _ (rfl) trivial ⟨rfl, HF.out⟩
      case sq8 =>
       refine weave.stepg_plain rfl ?_
       obtain rfl := List.eq_nil_of_length_eq_zero (hm 0 (by kernel_rfl)); have y0 := hd 7 (by decide) (by kernel_rfl); replace y0 : x 220 = .pointer (some ⟨g0, 0, none⟩) := y0; have HF := Z_ hF; have HX9 := Z_ (index_any tr0 _ u (trAt_keeps (Ext.keeps (HE9.out.ext hF)) _ _ HT0.out) HI0.out); clear hd hm hb hF; go_simp; refine HX9.out.mono ?_
       rintro e u2 ⟨rfl, rfl⟩; exact hK'.out _ _ _ (by simp only [y0]; rfl) trivial ⟨rfl, HF.out⟩
      case sq9 =>
       refine weave.stepg_plain rfl ?_
       have HF := Z_ hF; clear hd hm hb hF; go_simp; exact hK'.out _ _ _ (rfl) trivial ⟨rfl, HF.out⟩
      case sq10 =>
       refine weave.stepg_plain rfl ?_
       obtain ⟨v0, rfl⟩ : ∃ v0, vs = [v0] := by match vs, hm 1 (by kernel_rfl) with | [v0], _ => exact ⟨_, rfl⟩
       have y0 := hd 6 (by decide) (by kernel_rfl); replace y0 : x 219 = .int .i64 m := y0; have y1 := hd 8 (by decide) (by kernel_rfl) 221 (by kernel_rfl); replace y1 : x 221 = v0 := y1; have y2 := hd 9 (by decide) (by kernel_rfl); replace y2 : x 222 = .int .i64 ctx := y2; obtain ⟨rv, hF⟩ := hF; subst rv; have HF := Z_ hF; clear hd hm hb hF; go_simp; exact hK'.out _ _ _ (by simp only [y0, y1, y2]; rfl) trivial (⟨rfl, flow_made HF.out rfl⟩)
      case sq11 =>
       refine weave.stepg_plain rfl ?_
       obtain ⟨v0, v1, rfl⟩ : ∃ v0 v1, vs = [v0, v1] := by match vs, hm 2 (by kernel_rfl) with | [v0, v1], _ => exact ⟨_, _, rfl⟩
       have y0 := hd 0 (by decide) (by kernel_rfl); replace y0 : x 213 = .int .i64 (p : Nat) := y0; have y1 := hd 5 (by decide) (by kernel_rfl); replace y1 : x 218 = .int .i64 tr0.ref.label := y1; have y2 := hd 10 (by decide) (by kernel_rfl) 223 (by kernel_rfl); replace y2 : x 223 = v1 := y2; obtain ⟨rv, hF⟩ := hF; subst rv; obtain ⟨hE9, g9, rfl, hb9⟩ := hF; have HFL := Z_ (show Calls Tryz.prog 283 #[.int .i64 (p : Nat), .int .i64 (tr0.ref.label), .slice (some ⟨g9, 0, none⟩) 3 3] u (FlowPost (tr0.ref.label) [m, indexF tr0, ctx] (p : Nat) u) from flows_any (p : Nat) (tr0.ref.label) (some ⟨g9, 0, none⟩) 3 [m, indexF tr0, ctx] u (flow_row hb9) (Nat.le_refl _) (by simp)); have HEU := Z_ hE9; clear hd hm hb hE9 hb9; go_simp; refine HFL.out.mono ?_
       rintro e u2 ⟨hy1, hy2, rfl⟩; cases hfl : flowB (tr0.ref.label) [m, indexF tr0, ctx] with
       | true =>
        obtain rfl := hy1 hfl; exact hK'.out _ _ _ (by simp only [y0, y1, y2]; rfl) trivial ⟨rfl, ⟨hfl, HEU.out⟩⟩
       | false =>
        obtain rfl := hy2 hfl; have HTK := Z_ (show T = .bad 7 p from by rw [← HT9.out, if_neg (by rw [HFLT.out]; decide), if_pos hfl]); clear HTE HFL hy1 hy2; go_wp2_with fail
        rw [HTK.out]; exact ⟨rfl, sb_bad (HS9.out.extend HEU.out)⟩
     case finq =>
      intro x9 vs9 wz hl hF hk9; obtain ⟨v0, v1, v2, rfl⟩ : ∃ v0 v1 v2, vs9 = [v0, v1, v2] := by match vs9, hl with | [v0, v1, v2], _ => exact ⟨_, _, _, rfl⟩
      obtain ⟨-, hfl, hEz⟩ := hF; have HSZ := Z_ (HS9.out.extend hEz); have HTK := Z_ (show T = .ok (.mk _ m ks zRef 0 ctx, L) from by rw [← HT9.out, if_neg (by rw [HFLT.out]; decide), if_neg (by rw [hfl]; decide)]); clear HTE hfl hEz hk9 hl; go_wp2_with fail
      go_ret
      rw [HTK.out]; exact sb_fin HSZ.out (by constructor <;> decide)
    | false =>
     obtain rfl := hy2 hfl; have HTK := Z_ (show T = .bad 7 p from by rw [← HT9.out, if_pos hfl]); clear HTE HFL hy1 hy2; go_wp2_with fail
     rw [HTK.out]; exact ⟨rfl, sb_bad HS9.out⟩
   ·have hxc := HS.out.x.cell
    have hxf := HS.out.x.frozen; have hxl := HS.out.x.lt; unfold trC at hxc; have hr0 := HR0.out; rw [Nat.add_zero] at hr0; have hc0 := HC0.out 14 (by decide); replace hc0 : wr.cell? ⟨g0, 14, none⟩ = some (.int .i64 tr0.lab) := hc0; have hrb := HRB.out; have hg0 := HG0.out; have hjp : 0 < j := by rw [← HKL.out]; exact hks0
    have hjq : (0 : Int) < (j : Int) := by omega
    have hcc := HS.out.cs.c.cell; unfold ckC at hcc; obtain ⟨p1, p2, p3, pbl, pmo, hpce, -⟩ := HS.out.pc; have hpp := HS.out.cs.p.cell; rw [hpce] at hpp; obtain ⟨gv, hgv⟩ : ∃ gv, pr.gives = gv := ⟨_, rfl⟩; rw [hgv] at hpp; have HPC2 := Z_ hpce; have HGV := Z_ hgv; have hT9 := HTE.out; unfold endF at hT9; rw [HY0.out, hgv] at hT9; have HT9 := Z_ (show (if (last && gv) = false then .bad 2 p else if flowB pr.given [tr0.lab] = false then .bad 7 p else .ok (.mk 14 m ks zRef 0 ctx, L) : Rz (Tr × List Loc)) = T from hT9); clear hT9 hpce hgv; by_cases hlg : last = true ∧ gv = true
    ·obtain ⟨rfl, rfl⟩ := hlg
     go_wp2_with fail
     refine (must_yes 2 (p : Nat) _).mono ?_
     rintro e w9 ⟨rfl, rfl⟩; have HC14 := Z_ hc0; have HJQ := Z_ hjq; have HJP := Z_ hjp; have HRR := Z_ hr0; go_upto_region 34 with (fail)
     clear hcc hpp hxc hxf hxl hr0 hc0 hrb hg0 hjp hjq; refine wp_region_weaveg [18, 19] (fun i v _ => v = ([.int .i64 (p : Nat), .pointer (some ⟨C, 0, none⟩), .pointer (some ⟨C, 0, none⟩), .pointer (some ⟨C, 5, none⟩), .pointer (some ⟨P, 0, none⟩), .pointer (some ⟨P, 0, none⟩), .pointer (some ⟨P, 0, none⟩), .pointer (some ⟨P, 5, none⟩), .int .i64 pr.given, .pointer (some ⟨X, 0, none⟩), .pointer (some ⟨X, 0, none⟩), .pointer (some ⟨X, 2, none⟩), .slice (some ⟨rb, ro, none⟩) j rc, .pointer (some ⟨rb, ro, none⟩), .pointer (some ⟨g0, 0, none⟩), .pointer (some ⟨g0, 0, none⟩), .pointer (some ⟨g0, 14, none⟩), .int .i64 tr0.lab, undef, undef] : List Value).getD i undef) (FlowF w9 pr.given [tr0.lab] 1) (fun _ _ => True) (frame := ?frar) (fun x => ?hfar) synw.mixed (by kernel_rfl) (by kernel_rfl) (fun _ _ _ _ h _ => h) ?h0r ?str ?finr
     case hfar =>
      simp only [chain.frameOf, chain.fill, chain.setOpt, chain.dstOf, List.size_toArray, List.length_cons, List.length_nil, List.getElem?_toArray, List.getElem?_cons_succ, List.getElem?_cons_zero, List.setIfInBounds_toArray, List.set_cons_succ, List.set_cons_zero]; exact rfl
     case h0r => exact (Chg.refl _ _).drew
     case str =>
      refine AllFrom.cons (fun x vs u hF hm hb hd K' hK' => ?sr0) (AllFrom.cons (fun x vs u hF hm hb hd K' hK' => ?sr1) (AllFrom.cons (fun x vs u hF hm hb hd K' hK' => ?sr2) (AllFrom.cons (fun x vs u hF hm hb hd K' hK' => ?sr3) (AllFrom.cons (fun x vs u hF hm hb hd K' hK' => ?sr4) (AllFrom.cons (fun x vs u hF hm hb hd K' hK' => ?sr5) (AllFrom.cons (fun x vs u hF hm hb hd K' hK' => ?sr6) (AllFrom.cons (fun x vs u hF hm hb hd K' hK' => ?sr7) (AllFrom.cons (fun x vs u hF hm hb hd K' hK' => ?sr8) (AllFrom.cons (fun x vs u hF hm hb hd K' hK' => ?sr9) (AllFrom.cons (fun x vs u hF hm hb hd K' hK' => ?sr10) (AllFrom.cons (fun x vs u hF hm hb hd K' hK' => ?sr11) (AllFrom.cons (fun x vs u hF hm hb hd K' hK' => ?sr12) (AllFrom.cons (fun x vs u hF hm hb hd K' hK' => ?sr13) (AllFrom.cons (fun x vs u hF hm hb hd K' hK' => ?sr14) (AllFrom.cons (fun x vs u hF hm hb hd K' hK' => ?sr15) (AllFrom.cons (fun x vs u hF hm hb hd K' hK' => ?sr16) (AllFrom.cons (fun x vs u hF hm hb hd K' hK' => ?sr17) (AllFrom.cons (fun x vs u hF hm hb hd K' hK' => ?sr18) (AllFrom.cons (fun x vs u hF hm hb hd K' hK' => ?sr19) (AllFrom.nil))))))))))))))))))))
      case sr0 =>
       refine weave.stepg_plain rfl ?_
       have HF := Z_ hF; clear hd hm hb hF; go_simp; exact hK'.out _ _ _ (rfl) trivial ⟨rfl, HF.out⟩
      case sr1 =>
       refine weave.stepg_plain rfl ?_
       have HF := Z_ hF; clear hd hm hb hF; go_simp; exact hK'.out _ _ _ (rfl) trivial ⟨rfl, HF.out⟩
      case sr2 =>
       refine weave.stepg_plain rfl ?_
       have y0 := hd 1 (by decide) (by kernel_rfl); replace y0 : x 241 = .pointer (some ⟨C, 0, none⟩) := y0; have HF := Z_ hF; clear hd hm hb hF; go_simp; exact hK'.out _ _ _ (by simp only [y0]; rfl) trivial ⟨rfl, HF.out⟩
      case sr3 =>
       refine weave.stepg_plain rfl ?_
       have y0 := hd 2 (by decide) (by kernel_rfl); replace y0 : x 242 = .pointer (some ⟨C, 0, none⟩) := y0; have HF := Z_ hF; clear hd hm hb hF; go_simp; exact hK'.out _ _ _ (by simp only [y0]; rfl) trivial ⟨rfl, HF.out⟩
      case sr4 =>
       refine weave.stepg_plain rfl ?_
       have hE8 := FlowF.ext hF; have hq := (HS.out.extend hE8).cs.c.cell; unfold ckC at hq; clear hE8; have y0 := hd 3 (by decide) (by kernel_rfl); replace y0 : x 243 = .pointer (some ⟨C, 5, none⟩) := y0; have HF := Z_ hF; clear hd hm hb hF; go_simp; exact hK'.out _ _ _ (by simp only [y0]; rfl) trivial ⟨rfl, HF.out⟩
      case sr5 =>
       refine weave.stepg_plain rfl ?_
       have y0 := hd 4 (by decide) (by kernel_rfl); replace y0 : x 244 = .pointer (some ⟨P, 0, none⟩) := y0; have HF := Z_ hF; clear hd hm hb hF; go_simp; exact hK'.out _ _ _ (by simp only [y0]; rfl) trivial ⟨rfl, HF.out⟩
      case sr6 =>
       refine weave.stepg_plain rfl ?_
       have y0 := hd 5 (by decide) (by kernel_rfl); replace y0 : x 245 = .pointer (some ⟨P, 0, none⟩) := y0; have HF := Z_ hF; clear hd hm hb hF; go_simp; exact hK'.out _ _ _ (by simp only [y0]; rfl) trivial ⟨rfl, HF.out⟩
      case sr7 =>
       refine weave.stepg_plain rfl ?_
       have y0 := hd 6 (by decide) (by kernel_rfl); replace y0 : x 246 = .pointer (some ⟨P, 0, none⟩) := y0; have HF := Z_ hF; clear hd hm hb hF; go_simp; exact hK'.out _ _ _ (by simp only [y0]; rfl) trivial ⟨rfl, HF.out⟩
      case sr8 =>
       refine weave.stepg_plain rfl ?_
       have hE8 := FlowF.ext hF; have hq := (HS.out.extend hE8).cs.p.cell 5; rw [HPC2.out] at hq; replace hq : u.cell? ⟨P, 5, none⟩ = some (.int .i64 pr.given) := hq; clear hE8; have y0 := hd 7 (by decide) (by kernel_rfl); replace y0 : x 247 = .pointer (some ⟨P, 5, none⟩) := y0; have HF := Z_ hF; clear hd hm hb hF; go_simp; exact hK'.out _ _ _ (by simp only [y0]; rfl) trivial ⟨rfl, HF.out⟩
      case sr9 =>
       refine weave.stepg_plain rfl ?_
       have HF := Z_ hF; clear hd hm hb hF; go_simp; exact hK'.out _ _ _ (rfl) trivial ⟨rfl, HF.out⟩
      case sr10 =>
       refine weave.stepg_plain rfl ?_
       have y0 := hd 9 (by decide) (by kernel_rfl); replace y0 : x 249 = .pointer (some ⟨X, 0, none⟩) := y0; have HF := Z_ hF; clear hd hm hb hF; go_simp; exact hK'.out _ _ _ (by simp only [y0]; rfl) trivial ⟨rfl, HF.out⟩
      case sr11 =>
       refine weave.stepg_plain rfl ?_
       have y0 := hd 10 (by decide) (by kernel_rfl); replace y0 : x 250 = .pointer (some ⟨X, 0, none⟩) := y0; have HF := Z_ hF; clear hd hm hb hF; go_simp; exact hK'.out _ _ _ (by simp only [y0]; rfl) trivial ⟨rfl, HF.out⟩
      case sr12 =>
       refine weave.stepg_plain rfl ?_
       have hE8 := FlowF.ext hF; have hq := (HS.out.extend hE8).x.cell 2; replace hq : u.cell? ⟨X, 2, none⟩ = some (.slice (some ⟨rb, ro, none⟩) j rc) := hq; clear hE8; have y0 := hd 11 (by decide) (by kernel_rfl); replace y0 : x 251 = .pointer (some ⟨X, 2, none⟩) := y0; have HF := Z_ hF; clear hd hm hb hF; go_simp; exact hK'.out _ _ _ (by simp only [y0]; rfl) trivial ⟨rfl, HF.out⟩
      case sr13 =>
       refine weave.stepg_plain rfl ?_
       have hj8 := HJQ.out; have hj9 := HJP.out; have y0 := hd 12 (by decide) (by kernel_rfl); replace y0 : x 252 = .slice (some ⟨rb, ro, none⟩) j rc := y0; have HF := Z_ hF; clear hd hm hb hF; go_simp; exact hK'.out _ _ _ (by simp only [y0]; rfl) trivial ⟨rfl, HF.out⟩
      case sr14 =>
       refine weave.stepg_plain rfl ?_
       have hE8 := FlowF.ext hF; have hq := (hE8.cell (p := ⟨rb, ro, none⟩) HRB.out id).trans HRR.out; clear hE8; have y0 := hd 13 (by decide) (by kernel_rfl); replace y0 : x 253 = .pointer (some ⟨rb, ro, none⟩) := y0; have HF := Z_ hF; clear hd hm hb hF; go_simp; exact hK'.out _ _ _ (by simp only [y0]; rfl) trivial ⟨rfl, HF.out⟩
      case sr15 =>
       refine weave.stepg_plain rfl ?_
       have y0 := hd 14 (by decide) (by kernel_rfl); replace y0 : x 254 = .pointer (some ⟨g0, 0, none⟩) := y0; have HF := Z_ hF; clear hd hm hb hF; go_simp; exact hK'.out _ _ _ (by simp only [y0]; rfl) trivial ⟨rfl, HF.out⟩
      case sr16 =>
       refine weave.stepg_plain rfl ?_
       have y0 := hd 15 (by decide) (by kernel_rfl); replace y0 : x 255 = .pointer (some ⟨g0, 0, none⟩) := y0; have HF := Z_ hF; clear hd hm hb hF; go_simp; exact hK'.out _ _ _ (by simp only [y0]; rfl) trivial ⟨rfl, HF.out⟩
      case sr17 =>
       refine weave.stepg_plain rfl ?_
       have hE8 := FlowF.ext hF; have hq := (hE8.cell (p := ⟨g0, 14, none⟩) HG0.out id).trans HC14.out; clear hE8; have y0 := hd 16 (by decide) (by kernel_rfl); replace y0 : x 256 = .pointer (some ⟨g0, 14, none⟩) := y0; have HF := Z_ hF; clear hd hm hb hF; go_simp; exact hK'.out _ _ _ (by simp only [y0]; rfl) trivial ⟨rfl, HF.out⟩
      case sr18 =>
       refine weave.stepg_plain rfl ?_
       obtain rfl := List.eq_nil_of_length_eq_zero (hm 0 (by kernel_rfl)); have y0 := hd 17 (by decide) (by kernel_rfl); replace y0 : x 257 = .int .i64 tr0.lab := y0; have HF := Z_ hF; clear hd hm hb hF; go_simp; exact hK'.out _ _ _ (by simp only [y0]; rfl) trivial (flow_made HF.out rfl)
      case sr19 =>
       refine weave.stepg_plain rfl ?_
       obtain ⟨v0, rfl⟩ : ∃ v0, vs = [v0] := by match vs, hm 1 (by kernel_rfl) with | [v0], _ => exact ⟨_, rfl⟩
       have y0 := hd 0 (by decide) (by kernel_rfl); replace y0 : x 240 = .int .i64 (p : Nat) := y0; have y1 := hd 8 (by decide) (by kernel_rfl); replace y1 : x 248 = .int .i64 pr.given := y1; have y2 := hd 18 (by decide) (by kernel_rfl) 258 (by kernel_rfl); replace y2 : x 258 = v0 := y2; obtain ⟨hE9, g9, rfl, hb9⟩ := hF; have HFL := Z_ (show Calls Tryz.prog 283 #[.int .i64 (p : Nat), .int .i64 (pr.given), .slice (some ⟨g9, 0, none⟩) 1 1] u (FlowPost (pr.given) [tr0.lab] (p : Nat) u) from flows_any (p : Nat) (pr.given) (some ⟨g9, 0, none⟩) 1 [tr0.lab] u (flow_row hb9) (Nat.le_refl _) (by simp)); have HEU := Z_ hE9; clear hd hm hb hE9 hb9; go_simp; refine HFL.out.mono ?_
       rintro e u2 ⟨hy1, hy2, rfl⟩; cases hfl : flowB (pr.given) [tr0.lab] with
       | true =>
        obtain rfl := hy1 hfl; exact hK'.out _ _ _ (by simp only [y0, y1, y2]; rfl) trivial ⟨hfl, HEU.out⟩
       | false =>
        obtain rfl := hy2 hfl; have HTK := Z_ (show T = .bad 7 p from by rw [← HT9.out, if_neg (by decide), if_pos hfl]); clear HTE HFL hy1 hy2; go_wp2_with fail
        rw [HTK.out]; exact ⟨rfl, sb_bad (HS.out.extend HEU.out)⟩
     case finr =>
      intro x9 vs9 wz hl hF hk9; obtain ⟨v0, v1, rfl⟩ : ∃ v0 v1, vs9 = [v0, v1] := by match vs9, hl with | [v0, v1], _ => exact ⟨_, _, rfl⟩
      obtain ⟨hfl, hEz⟩ := hF; have HSZ := Z_ (HS.out.extend hEz); have HTK := Z_ (show T = .ok (.mk _ m ks zRef 0 ctx, L) from by rw [← HT9.out, if_neg (by decide), if_neg (by rw [hfl]; decide)]); clear HTE hfl hEz hk9 hl; go_wp2_with fail
      go_ret
      rw [HTK.out]; exact sb_fin HSZ.out (by constructor <;> decide)
    ·have HTK := Z_ (show T = .bad 2 p from by rw [← HT9.out, if_pos (by cases last <;> cases gv <;> simp_all)])
     have hkey : last = false ∨ (last = true ∧ gv = false) := by cases last <;> cases gv <;> simp_all
     clear HTE HT9 hlg; rcases hkey with rfl | ⟨rfl, rfl⟩
     ·go_wp2_with fail
      refine (must_no 2 (p : Nat) _).mono ?_
      rintro e w9 ⟨rfl, rfl⟩; go_wp2_with fail
      rw [HTK.out]; exact ⟨rfl, sb_bad HS.out⟩
     ·go_wp2_with fail
      refine (must_no 2 (p : Nat) _).mono ?_
      rintro e w9 ⟨rfl, rfl⟩; go_wp2_with fail
      rw [HTK.out]; exact ⟨rfl, sb_bad HS.out⟩
end chk
end Go.Proofs.YtpcihajmcejliacGreatDoor
