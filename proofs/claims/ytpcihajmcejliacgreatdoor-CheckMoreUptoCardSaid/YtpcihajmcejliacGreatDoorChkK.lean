/- The walk of the checker's block. What a statement's kids are, in plain Lean; the statement's tree when it is done. -/
import Derived.Test.YtpcihajmcejliacGreatDoorWeaveG
namespace Go.Proofs.YtpcihajmcejliacGreatDoor
open Go.RowKit
namespace chk
open synw ofp
def StatC (W : World) (C Mo D K P B : Nat) (E : CEnv) (bod fac : Value) (dc : Array Value) (pr : FProc) (H : Nat → Bool) (x : Nd) : Prop := ∀ (v : Value) (last : Bool) (ctx : Int) (u : World) (p : Nat) (vl : Value) (L : List Loc) (deep : Int) (pc : Array Value), CS W u C Mo D K P B E vl L deep (p : Nat) bod fac dc pc → PcOk pr pc → NdAt (hide H W) x v → p + szF x ≤ 1000 → L.length ≤ 20 → 0 ≤ deep → deep + szF x ≤ 2000 →
 Calls Tryz.prog 235 #[.pointer (some ⟨C, 0, none⟩), v, .int .i64 ctx, .bool last] u (LcPost W u C Mo D K P B E vl deep (p + szF x) bod fac dc pr x.kd (stF E pr ctx last L deep x p))
def BlockC (W : World) (C Mo D K P B : Nat) (E : CEnv) (bod fac : Value) (dc : Array Value) (pr : FProc) (H : Nat → Bool) (x : Nd) : Prop := ∀ (v : Value) (outer : Bool) (ctx : Int) (u : World) (p : Nat) (vl : Value) (L : List Loc) (deep : Int) (pc : Array Value), CS W u C Mo D K P B E vl L deep (p : Nat) bod fac dc pc → PcOk pr pc → NdAt (hide H W) x v → p + szF x ≤ 1000 → L.length ≤ 20 → 0 ≤ deep → deep + szF x ≤ 2000 →
 Calls Tryz.prog 187 #[.pointer (some ⟨C, 0, none⟩), v, .int .i64 ctx, .bool outer] u (LcPost W u C Mo D K P B E vl deep (p + szF x) bod fac dc pr x.kd ((blF E pr ctx outer L deep x p).bind fun t => .ok (t, L)))
def KidF (pre : World → Prop) (sb : Value → List Loc → Array Value → World → Value → Value → List Tr → Prop) (X : Nat) (row : Value) (ks : List Tr) (T : Rz (Tr × List Loc)) : List Value → World → Prop
 | [], u => pre u
 | v :: r, u => ∃ t, T = .ok t ∧ ∃ g vl pc, v = .pointer (some ⟨g, 0, none⟩) ∧ ofp.PushX (sb vl t.2 pc) (ofp.ownB vl) OTr (X + 1) 219 row ks t.1 v r u
theorem KidF.any {pre : World → Prop} {sb : Value → List Loc → Array Value → World → Value → Value → List Tr → Prop} {X : Nat} {row : Value} {ks : List Tr} {T : Rz (Tr × List Loc)} {vs : List Value} {u : World} {Q : Prop} (h : KidF pre sb X row ks T vs u) (h1 : pre u → Q) (h2 : ∀ vl L pc rN r lq, sb vl L pc u rN r lq → Q) : Q := by
 match vs, h with
 | [], h => exact h1 h
 | _ :: _, h =>
  obtain ⟨t, -, g, vl, pc, -, hp⟩ := h; obtain ⟨rN, r, l, hb⟩ := ofp.PushX.any hp; exact h2 _ _ _ _ _ _ hb
theorem KidF.low {pre : World → Prop} {sb : Value → List Loc → Array Value → World → Value → Value → List Tr → Prop} {X : Nat} {row : Value} {ks : List Tr} {T : Rz (Tr × List Loc)} {vs : List Value} {u : World} {Q : Prop} (h : KidF pre sb X row ks T vs u) (hl : vs.length ≤ 2) (h1 : pre u → Q) (h2 : ∀ vl L pc, sb vl L pc u row row ks → Q) : Q := by
 match vs, hl, h with
 | [], _, h => exact h1 h
 | _ :: _, hl, h =>
  obtain ⟨t, -, g, vl, pc, -, hp⟩ := h; exact h2 _ _ _ (ofp.PushX.B hp (by simpa using hl))
theorem end_ext {pr : FProc} {L : List Loc} {deep ctx : Int} {last : Bool} {k : Int} {t : ByteArray} {m : Int} {ks : List Tr} {p : Nat} {y : Tr} {L' : List Loc} (h : endF pr L deep ctx last k t m ks p = .ok (y, L')) : (∃ M, L' = L ++ M) ∧ (L.length ≤ 20 → L'.length ≤ 20) ∧ y.kd = k := by
 have same : ∀ {z : Tr}, (.ok (z, L) : Rz (Tr × List Loc)) = .ok (y, L') → z.kd = k → (∃ M, L' = L ++ M) ∧ (L.length ≤ 20 → L'.length ≤ 20) ∧ y.kd = k := fun e hk => by
  cases e; exact ⟨⟨[], by simp⟩, id, hk⟩
 unfold endF at h
 repeat' split at h
 all_goals first
  | (cases h; done)
  | exact same h rfl
  | skip
 rename_i h7 h8 h9 h10
 cases h
 exact ⟨⟨_, rfl⟩, fun _ => by rw [List.length_append, List.length_singleton]; omega, rfl⟩
theorem st_ext {E : CEnv} {pr : FProc} {ctx : Int} {last : Bool} {L : List Loc} {deep : Int} {x : Nd} {p : Nat} {y : Tr} {L' : List Loc} (h : stF E pr ctx last L deep x p = .ok (y, L')) : (∃ M, L' = L ++ M) ∧ (L.length ≤ 20 → L'.length ≤ 20) ∧ y.kd = x.kd := by
 obtain ⟨k, t, m, l⟩ := x; rw [stF] at h; cases hs : stksF E pr ctx (decide (k = 9)) L deep l none (p + 1) with
 | bad c q => rw [hs] at h; cases h
 | ok ks => rw [hs] at h; exact end_ext h
def RowS (E : CEnv) (pr : FProc) (ctx : Int) (outer : Bool) (L : List Loc) (deep : Int) (l : List Nd) (p : Nat) (ks : List Tr) : Rz (List Tr) := (stsF E pr ctx outer L deep l p).bind fun ys => .ok (ks ++ ys)
theorem rows_cons {E : CEnv} {pr : FProc} {ctx : Int} {outer : Bool} {L : List Loc} {deep : Int} {x : Nd} {r : List Nd} {p : Nat} {ks : List Tr} : RowS E pr ctx outer L deep (x :: r) p ks = match stF E pr ctx (outer && r.isEmpty) L deep x p with
 | .bad c q => .bad c q
 | .ok y => RowS E pr ctx outer y.2 deep r (p + szF x) (ks ++ [y.1]) := by
 unfold RowS; rw [stsF]; cases stF E pr ctx (outer && r.isEmpty) L deep x p with
 | bad c q => rfl
 | ok y =>
  simp only [Rz.bind]; cases stsF E pr ctx outer y.2 deep r (p + szF x) with
  | bad c q => rfl
  | ok ys => simp
theorem kid_hid {X Kb S i : Nat} {row vl : Value} (hr : ∀ i, row.ownBlock = some i → i < Kb) (hx : X < Kb) (hs : Kb < S) (hm : rowHid S vl i = false) : (rowHid (X + 1) row i || ofp.ownB vl i) = false := by
 simp only [rowHid, ofp.ownB, Bool.or_eq_false_iff, decide_eq_false_iff_not] at hm ⊢; exact ⟨⟨by omega, fun e => by have := hr i e; omega⟩, hm.2⟩
set_option maxRecDepth 100000 in
set_option maxHeartbeats 16000000 in
theorem block_any {W : World} {C Mo D K P B : Nat} {E : CEnv} {bod fac : Value} {dc : Array Value} {pr : FProc} {H : Nat → Bool} (x : Nd) (hIH : ∀ y ∈ x.kids, StatC W C Mo D K P B E bod fac dc pr H y) : BlockC W C Mo D K P B E bod fac dc pr H x := by
 intro v outer ctx u p vl L deep pc hCS hpc hnd hsz hL hd0 hd1; obtain ⟨k, t, m, l⟩ := x; rw [ndAt_mk] at hnd; obtain ⟨a, cc, rfl, hl1, hl2, hl3, hl4⟩ := hnd; obtain ⟨T, hT⟩ : ∃ T, (blF E pr ctx outer L deep (.mk k t m l) p).bind (fun t => (.ok (t, L) : Rz (Tr × List Loc))) = T := ⟨_, rfl⟩; rw [hT]; rw [blF] at hT; have HIH := Z_ (show ∀ y ∈ l, StatC W C Mo D K P B E bod fac dc pr H y from hIH); obtain ⟨N, hN⟩ : ∃ N, l.length = N := ⟨_, rfl⟩; rw [hN] at hl1 ⊢; have HN := Z_ hN; obtain ⟨pe, hpe⟩ : ∃ pe, p + szF (.mk k t m l) = pe := ⟨_, rfl⟩; have hdsz : deep + (szL l : Int) ≤ 2000 := by simp only [szF] at hd1; omega
 rw [hpe] at hsz ⊢; have hpe2 : p + 1 + szL l = pe := by rw [← hpe]; simp only [szF]; omega
 have HPE := Z_ hpe2; have HI := Z_ (fun (u : World) (hE : Ext W u) => hl4.keeps (keeps_chg hE fun i _ e => e.elim) fun b o y => ndIn_keeps (keeps_chg hE fun i _ e => e.elim) b o y); have HT := Z_ (show ((RowS E pr ctx outer L deep l (p + 1) []).bind fun ks => (.ok (.mk k 0 ks zRef 0 ctx, L) : Rz (Tr × List Loc))) = T by rw [← hT]; unfold RowS; cases stsF E pr ctx outer L deep l (p + 1) <;> rfl); have HVL := Z_ (fun i e => (grow_own hCS.loc i e).2); have HLL := Z_ hL; have HUB := Z_ hCS.hu; have HDD := Z_ (And.intro hd0 hdsz); have hE0 := (Chg.refl (fun _ => False) u).alloc (.cells #[.int .i64 k, .string t, .int .i64 m, .slice a N cc] 24); have HC := Z_ (hCS.extend hE0); have HB := Z_ (Blk.made u #[.int .i64 k, .string t, .int .i64 m, .slice a N cc] 24); have HE := Z_ (hE0.weak (S' := LS C P vl) fun _ _ e => e.elim); have HPC := Z_ hpc
 obtain ⟨Nb, hNb⟩ : ∃ Nb, u.heap.size = Nb := ⟨_, rfl⟩; have HNB := Z_ hNb; rw [hNb] at HB HVL HUB; have hNl : N ≤ 1000 := by have h1 := len_szL l; omega
 have hp : p ≤ 1000 := by omega
 obtain ⟨n, hn⟩ : ∃ n, L.length = n := ⟨_, rfl⟩; have HLN := Z_ hn; have hn20 : n ≤ 20 := by omega
 clear hE0 hCS hl4 hT hIH hN hpe hpe2 hpc hL hd0 hd1 hdsz hn; go_enter Tryz.func187, Tryz.ntmps187
 go_upto_region 1 with (fail)
 try rw [hNb]
 generalize u.alloc (.cells #[.int .i64 k, .string t, .int .i64 m, .slice a N cc] 24) = u1 at *; go_wp2_with fail
 refine (next_any HC.out.c (by omega) (by omega)).mono ?_
 rintro e w2 ⟨rfl, hC2, hB2⟩; have HC2 := Z_ (HC.out.turnC hC2 hB2); have HB2 := Z_ (HB.out.chg hC2 (by have := HC.out.cB; have := HUB.out; omega)); have HE2 := Z_ (HE.out.then (hC2.weak fun i _ e => .inl e)); clear hC2 hB2 HC HB HE; have hbc := HB2.out.cell; obtain ⟨la, lc, hvl, -, -⟩ := grow_slice HC2.out.loc; rw [HLN.out] at hvl; have hcc := HC2.out.c.cell; unfold ckC at hcc; subst hvl; go_upto_region 4 with (fail)
 have HX := Z_ (show Blk (w2.alloc (.cells #[.int .i64 k, .int .i64 0, .slice none 0 0, .int .i64 0, .string ⟨#[]⟩, .string ⟨#[]⟩, .int .i64 0, .int .i64 0, .string ⟨#[]⟩, .bool false, .slice none 0 0, .int .i64 0, .bool false, .int .i64 0, .int .i64 0, .int .i64 ctx] 345)) w2.heap.size #[.int .i64 k, .int .i64 0, .slice none 0 0, .int .i64 0, .string ⟨#[]⟩, .string ⟨#[]⟩, .int .i64 0, .int .i64 0, .string ⟨#[]⟩, .bool false, .slice none 0 0, .int .i64 0, .bool false, .int .i64 0, .int .i64 0, .int .i64 ctx] 345 from Blk.made w2 _ _); have HB3 := Z_ (HB2.out.alloc (.cells #[.int .i64 k, .int .i64 0, .slice none 0 0, .int .i64 0, .string ⟨#[]⟩, .string ⟨#[]⟩, .int .i64 0, .int .i64 0, .string ⟨#[]⟩, .bool false, .slice none 0 0, .int .i64 0, .bool false, .int .i64 0, .int .i64 0, .int .i64 ctx] 345)); have HC3 := Z_ (HC2.out.extend ((Chg.refl _ w2).alloc (.cells #[.int .i64 k, .int .i64 0, .slice none 0 0, .int .i64 0, .string ⟨#[]⟩, .string ⟨#[]⟩, .int .i64 0, .int .i64 0, .string ⟨#[]⟩, .bool false, .slice none 0 0, .int .i64 0, .bool false, .int .i64 0, .int .i64 0, .int .i64 ctx] 345)))
 have HE3 := Z_ (HE2.out.alloc (.cells #[.int .i64 k, .int .i64 0, .slice none 0 0, .int .i64 0, .string ⟨#[]⟩, .string ⟨#[]⟩, .int .i64 0, .int .i64 0, .string ⟨#[]⟩, .bool false, .slice none 0 0, .int .i64 0, .bool false, .int .i64 0, .int .i64 0, .int .i64 ctx] 345)); obtain ⟨X, hX⟩ : ∃ X, w2.heap.size = X := ⟨_, rfl⟩; rw [hX] at HX; have hNX : Nb < X := by have := HB2.out.lt; omega
 try rw [hX]
 clear hbc hcc hX HC2 HB2 HE2; generalize w2.alloc (.cells #[.int .i64 k, .int .i64 0, .slice none 0 0, .int .i64 0, .string ⟨#[]⟩, .string ⟨#[]⟩, .int .i64 0, .int .i64 0, .string ⟨#[]⟩, .bool false, .slice none 0 0, .int .i64 0, .bool false, .int .i64 0, .int .i64 0, .int .i64 ctx] 345) = u3 at *; have HSB := Z_ (show SB W u u3 C Mo D K P B Nb X E (.slice la n lc) (.slice la n lc) L deep ((p + 1) : Nat) bod fac dc pc pr #[.int .i64 k, .string t, .int .i64 m, .slice a N cc] (fun rv => trC k 0 rv zRef (.string ⟨#[]⟩) (.bool false) (.slice none 0 0) (.int .i64 0) (.bool false) (.int .i64 0) 0 ctx) (.slice none 0 0) (.slice none 0 0) [] from ⟨HC3.out, HPC.out, HB3.out, HX.out, growx_nil _ _ _ _ _ _, HE3.out, fun i e => .inl ⟨e, HVL.out i e⟩, fun i e => (by cases e), by have := HNB.out; omega, HUB.out, hNX⟩); clear HC3 HPC HB3 HX HE3; have hbc := HSB.out.nb.cell; go_wp2_with fail
 clear hbc; go_loopw [28] (fun i wr => ∃ (j q : Nat) (row vlj : Value) (ks : List Tr) (M : List Loc) (pcj : Array Value), j ≤ N ∧ i = .int .i64 (j : Nat) ∧ Hid (ks.length = j) ∧ Hid (q + szL (l.drop j) = pe) ∧ Hid ((L ++ M).length ≤ 20) ∧ Hid (((RowS E pr ctx outer (L ++ M) deep (l.drop j) q ks).bind fun ks => (.ok (.mk k 0 ks zRef 0 ctx, L) : Rz (Tr × List Loc))) = T) ∧ Hid (SB W u wr C Mo D K P B Nb X E (.slice la n lc) vlj (L ++ M) deep (q : Nat) bod fac dc pcj pr #[.int .i64 k, .string t, .int .i64 m, .slice a N cc] (fun rv => trC k 0 rv zRef (.string ⟨#[]⟩) (.bool false) (.slice none 0 0) (.int .i64 0) (.bool false) (.int .i64 0) 0 ctx) row row ks)) (fun i _ => N - (intOf i).toNat)
 case atStart => exact ⟨0, p + 1, .slice none 0 0, .slice la n lc, [], [], _, Nat.zero_le _, rfl, Z_ rfl, Z_ (by have := HPE.out; rw [List.drop_zero]; exact this), Z_ (by rw [List.append_nil]; exact HLL.out), by rw [List.append_nil, List.drop_zero]; exact HT, by rw [List.append_nil]; exact HSB⟩
 clear HSB HT
 case round =>
  obtain ⟨j, q, row, vlj, ks, M, pcj, hj, rfl, HKL, HQ, HML, HT, HS⟩ := hrel; by_cases hlt : j < N
  ·have hji : (j : Int) < (N : Int) := by omega
   have hjd : decide ((j : Int) < (N : Int)) = true := by simpa using hji
   have hjl : j < l.length := by rw [HN.out]; exact hlt
   obtain ⟨b, o, rfl, hb, uv, hu, hus, hcl⟩ := HI.out W (Chg.refl _ _) j hjl; rw [hide_size] at hb; have hE := HS.out.cs.ext; have hbl := Nat.lt_of_lt_of_le hb hE.size; have HIY := Z_ (HIH.out l[j] (List.getElem_mem hjl)); have hT := HT.out; rw [List.drop_eq_getElem_cons hjl, rows_cons] at hT; have hQ := HQ.out; rw [List.drop_eq_getElem_cons hjl] at hQ; simp only [szL] at hQ; have HSL := Z_ (show szF l[j] ≤ szL l by have h1 := ofw.szL_le l j; rw [List.drop_eq_getElem_cons hjl] at h1; simp only [szL] at h1; omega); obtain ⟨lb, hlb⟩ : ∃ lb, (l.drop (j + 1)).isEmpty = lb := ⟨_, rfl⟩
   have hlb2 : ((j : Int) == (N : Int) - 1) = lb := by
    rw [← hlb]; by_cases e : j + 1 = N
    ·rw [List.drop_of_length_le (by rw [HN.out]; omega)]
     have : (j : Int) = (N : Int) - 1 := by omega
     simp [this]
    ·have h1 : ¬ ((j : Int) = (N : Int) - 1) := by omega
     have h2 : (l.drop (j + 1)).isEmpty = false := by
      rw [List.isEmpty_eq_false_iff]; intro h3; rw [List.drop_eq_nil_iff] at h3; rw [HN.out] at h3; omega
     rw [h2]; exact beq_eq_false_iff_ne.2 h1
   rw [hlb] at hT; generalize l[j] = y at hu hT hQ HIY HSL; have HU := Z_ hu; obtain ⟨k1, t1, m1, a1, N1, c1, rfl⟩ := nd_form hu; have q0 : wr.cell? ⟨b, o + j * 4, none⟩ = some (.int .i64 k1) := (hE.cell (p := ⟨b, o + j * 4, none⟩) hb id).trans ((keeps_bare _ W).2 _ _ ((hcl 0 (by decide)).trans rfl)); have q1 : wr.cell? ⟨b, o + j * 4 + 1, none⟩ = some (.string t1) := (hE.cell (p := ⟨b, o + j * 4 + 1, none⟩) hb id).trans ((keeps_bare _ W).2 _ _ ((hcl 1 (by decide)).trans rfl)); have q2 : wr.cell? ⟨b, o + j * 4 + 2, none⟩ = some (.int .i64 m1) := (hE.cell (p := ⟨b, o + j * 4 + 2, none⟩) hb id).trans ((keeps_bare _ W).2 _ _ ((hcl 2 (by decide)).trans rfl)); have q3 : wr.cell? ⟨b, o + j * 4 + 3, none⟩ = some (.slice a1 N1 c1) := (hE.cell (p := ⟨b, o + j * 4 + 3, none⟩) hb id).trans ((keeps_bare _ W).2 _ _ ((hcl 3 (by decide)).trans rfl)); have HK := Z_ (Blk.made wr #[.int .i64 k1, .string t1, .int .i64 m1, .slice a1 N1 c1] 24)
   have HS5 := Z_ (HS.out.extend ((Chg.refl (fun _ => False) wr).alloc (.cells #[.int .i64 k1, .string t1, .int .i64 m1, .slice a1 N1 c1] 24))); have hw5 := HS.out.x.lt; have HRW := Z_ (fun i e => (growx_own HS.out.grow i e).2); have HVW := Z_ (fun i e => (grow_own HS.out.cs.loc i e).2); obtain ⟨Kb, hKb⟩ : ∃ Kb, wr.heap.size = Kb := ⟨_, rfl⟩; rw [hKb] at HK hw5 HRW HVW; have HXK := Z_ hw5; obtain ⟨RY, hRY⟩ : ∃ RY, stF E pr ctx (outer && lb) (L ++ M) deep y q = RY := ⟨_, rfl⟩; rw [hRY] at hT; have HRY := Z_ hRY; have HT2 := Z_ hT; have HQ2 := Z_ hQ; have hwN : IntKind.i64.wrap ((N : Int) - 1) = (N : Int) - 1 := IntWalk.i64_in _ (by omega); clear hT hQ HT HQ hcl hus hu hw5 HS hE hlb hRY; go_upto_region 7 with (fail)
   try rw [hKb]
   generalize wr.alloc (.cells #[.int .i64 k1, .string t1, .int .i64 m1, .slice a1 N1 c1] 24) = u5 at *; clear q0 q1 q2 q3 hKb; obtain ⟨ra, rc, hrow, -, -⟩ := ofp.growx_slice HS5.out.grow; rw [HKL.out] at hrow; subst hrow; cases outer with
   | true =>
    refine wp_region_weaveg [17, 18, 19, 22] (fun i v _ => v = ([.pointer (some ⟨X, 0, none⟩), .pointer (some ⟨X, 0, none⟩), .pointer (some ⟨X, 0, none⟩), .pointer (some ⟨X, 2, none⟩), .slice ra j rc, .pointer (some ⟨C, 0, none⟩), .agg #[.int .i64 k1, .string t1, .int .i64 m1, .slice a1 N1 c1], .int .i64 ctx, .bool true, .bool true, .int .i64 (j : Nat), .pointer (some ⟨Nb, 3, none⟩), .slice (some ⟨b, o, none⟩) N cc, .int .i64 (N : Nat), .int .i64 ((N : Int) - 1), .bool lb, .bool lb, undef, undef, undef, .pointer (some ⟨X, 0, none⟩), .pointer (some ⟨X, 2, none⟩), undef] : List Value).getD i undef) (KidF (fun u9 => SB W u u9 C Mo D K P B Nb X E (.slice la n lc) vlj (L ++ M) deep (q : Nat) bod fac dc pcj pr #[.int .i64 k, .string t, .int .i64 m, .slice (some ⟨b, o, none⟩) N cc] (fun rv => trC k 0 rv zRef (.string ⟨#[]⟩) (.bool false) (.slice none 0 0) (.int .i64 0) (.bool false) (.int .i64 0) 0 ctx) (.slice ra j rc) (.slice ra j rc) ks ∧ Blk u9 Kb #[.int .i64 k1, .string t1, .int .i64 m1, .slice a1 N1 c1] 24) (fun vl9 L9 pc9 u9 rN9 r9 lq9 => SB W u u9 C Mo D K P B Nb X E (.slice la n lc) vl9 L9 deep ((q + szF y) : Nat) bod fac dc pc9 pr #[.int .i64 k, .string t, .int .i64 m, .slice (some ⟨b, o, none⟩) N cc] (fun rv => trC k 0 rv zRef (.string ⟨#[]⟩) (.bool false) (.slice none 0 0) (.int .i64 0) (.bool false) (.int .i64 0) 0 ctx) rN9 r9 lq9 ∧ Blk u9 Kb #[.int .i64 k1, .string t1, .int .i64 m1, .slice a1 N1 c1] 24) X (.slice ra j rc) ks RY) (fun _ _ => True) (frame := ?frat) (fun x => ?hfat) synw.mixed (by kernel_rfl) (by kernel_rfl) (fun _ _ _ _ h _ => h) ?h0t ?stt ?fint
    case hfat =>
     simp only [chain.frameOf, chain.fill, chain.setOpt, chain.dstOf, List.size_toArray, List.length_cons, List.length_nil, List.getElem?_toArray, List.getElem?_cons_succ, List.getElem?_cons_zero, List.setIfInBounds_toArray, List.set_cons_succ, List.set_cons_zero]; exact rfl
    case h0t => exact ⟨HS5.out.extend (Chg.refl _ _).drew, HK.out.drew⟩
    case stt =>
     refine AllFrom.cons (fun x vs u hF hm hb hd K' hK' => ?st0) (AllFrom.cons (fun x vs u hF hm hb hd K' hK' => ?st1) (AllFrom.cons (fun x vs u hF hm hb hd K' hK' => ?st2) (AllFrom.cons (fun x vs u hF hm hb hd K' hK' => ?st3) (AllFrom.cons (fun x vs u hF hm hb hd K' hK' => ?st4) (AllFrom.cons (fun x vs u hF hm hb hd K' hK' => ?st5) (AllFrom.cons (fun x vs u hF hm hb hd K' hK' => ?st6) (AllFrom.cons (fun x vs u hF hm hb hd K' hK' => ?st7) (AllFrom.cons (fun x vs u hF hm hb hd K' hK' => ?st8) (AllFrom.cons (fun x vs u hF hm hb hd K' hK' => ?st9) (AllFrom.cons (fun x vs u hF hm hb hd K' hK' => ?st10) (AllFrom.cons (fun x vs u hF hm hb hd K' hK' => ?st11) (AllFrom.cons (fun x vs u hF hm hb hd K' hK' => ?st12) (AllFrom.cons (fun x vs u hF hm hb hd K' hK' => ?st13) (AllFrom.cons (fun x vs u hF hm hb hd K' hK' => ?st14) (AllFrom.cons (fun x vs u hF hm hb hd K' hK' => ?st15) (AllFrom.cons (fun x vs u hF hm hb hd K' hK' => ?st16) (AllFrom.cons (fun x vs u hF hm hb hd K' hK' => ?st17) (AllFrom.cons (fun x vs u hF hm hb hd K' hK' => ?st18) (AllFrom.cons (fun x vs u hF hm hb hd K' hK' => ?st19) (AllFrom.cons (fun x vs u hF hm hb hd K' hK' => ?st20) (AllFrom.cons (fun x vs u hF hm hb hd K' hK' => ?st21) (AllFrom.cons (fun x vs u hF hm hb hd K' hK' => ?st22) (AllFrom.nil)))))))))))))))))))))))
     case st0 =>
      refine weave.stepg_plain rfl ?_
      have HF := Z_ hF; clear hd hm hb hF; go_simp; exact hK'.out _ _ _ (rfl) trivial ⟨rfl, HF.out⟩
     case st1 =>
      refine weave.stepg_plain rfl ?_
      have HF := Z_ hF; clear hd hm hb hF; go_simp; exact hK'.out _ _ _ (rfl) trivial ⟨rfl, HF.out⟩
     case st2 =>
      refine weave.stepg_plain rfl ?_
      have y0 := hd 1 (by decide) (by kernel_rfl); replace y0 : x 34 = .pointer (some ⟨X, 0, none⟩) := y0; have HF := Z_ hF; clear hd hm hb hF; go_simp; exact hK'.out _ _ _ (by simp only [y0]; rfl) trivial ⟨rfl, HF.out⟩
     case st3 =>
      refine weave.stepg_plain rfl ?_
      have y0 := hd 2 (by decide) (by kernel_rfl); replace y0 : x 35 = .pointer (some ⟨X, 0, none⟩) := y0; have HF := Z_ hF; clear hd hm hb hF; go_simp; exact hK'.out _ _ _ (by simp only [y0]; rfl) trivial ⟨rfl, HF.out⟩
     case st4 =>
      refine weave.stepg_plain rfl ?_
      have hq := KidF.low hF (by have := hb 2 _ (by decide) rfl (by kernel_rfl); omega) (Q := u.cell? ⟨X, 2, none⟩ = some (.slice ra j rc)) (fun h => (h.1.x.cell 2).trans rfl) (fun _ _ _ h => (h.1.x.cell 2).trans rfl); have y0 := hd 3 (by decide) (by kernel_rfl); replace y0 : x 36 = .pointer (some ⟨X, 2, none⟩) := y0; have HF := Z_ hF; clear hd hm hb hF; go_simp; exact hK'.out _ _ _ (by simp only [y0]; rfl) trivial ⟨rfl, HF.out⟩
     case st5 =>
      refine weave.stepg_plain rfl ?_
      have HF := Z_ hF; clear hd hm hb hF; go_simp; exact hK'.out _ _ _ (rfl) trivial ⟨rfl, HF.out⟩
     case st6 =>
      refine weave.stepg_plain rfl ?_
      have hq := KidF.any hF (Q := ∀ o9, u.cell? ⟨Kb, o9, none⟩ = #[.int .i64 k1, .string t1, .int .i64 m1, .slice a1 N1 c1][o9]?) (fun h => h.2.cell) (fun _ _ _ _ _ _ h => h.2.cell); have HF := Z_ hF; clear hd hm hb hF; go_simp; exact hK'.out _ _ _ (rfl) trivial ⟨rfl, HF.out⟩
     case st7 =>
      refine weave.stepg_plain rfl ?_
      have HF := Z_ hF; clear hd hm hb hF; go_simp; exact hK'.out _ _ _ (rfl) trivial ⟨rfl, HF.out⟩
     case st8 =>
      refine weave.stepg_plain rfl ?_
      have HF := Z_ hF; clear hd hm hb hF; go_simp; exact hK'.out _ _ _ (rfl) trivial ⟨rfl, HF.out⟩
     case st9 =>
      refine weave.stepg_plain rfl ?_
      have y0 := hd 8 (by decide) (by kernel_rfl); replace y0 : x 41 = .bool true := y0; have HF := Z_ hF; clear hd hm hb hF; go_simp; exact hK'.out _ _ _ (by simp only [y0]; rfl) trivial ⟨rfl, HF.out⟩
     case st10 =>
      have y0 := hd 9 (by decide) (by kernel_rfl); replace y0 : x 42 = .bool true := y0; refine weave.stepg_take rfl (by simp only [y0]; rfl) ?_
      have HF := Z_ hF; clear hd hm hb hF; go_simp; exact hK'.out _ _ _ (by simp only [y0]; rfl) trivial ⟨rfl, HF.out⟩
     case st11 =>
      have y0 := hd 9 (by decide) (by kernel_rfl); replace y0 : x 42 = .bool true := y0; refine weave.stepg_take rfl (by simp only [y0]; rfl) ?_
      have HF := Z_ hF; clear hd hm hb hF; go_simp; exact hK'.out _ _ _ (by simp only [y0]; rfl) trivial ⟨rfl, HF.out⟩
     case st12 =>
      have hq := KidF.any hF (Q := ∀ o9, u.cell? ⟨Nb, o9, none⟩ = #[.int .i64 k, .string t, .int .i64 m, .slice (some ⟨b, o, none⟩) N cc][o9]?) (fun h => h.1.nb.cell) (fun _ _ _ _ _ _ h => h.1.nb.cell); have y0 := hd 9 (by decide) (by kernel_rfl); replace y0 : x 42 = .bool true := y0; have y1 := hd 11 (by decide) (by kernel_rfl); replace y1 : x 44 = .pointer (some ⟨Nb, 3, none⟩) := y1; refine weave.stepg_take rfl (by simp only [y0]; rfl) ?_
      have HF := Z_ hF; clear hd hm hb hF; go_simp; exact hK'.out _ _ _ (by simp only [y0, y1]; rfl) trivial ⟨rfl, HF.out⟩
     case st13 =>
      have y0 := hd 9 (by decide) (by kernel_rfl); replace y0 : x 42 = .bool true := y0; have y1 := hd 12 (by decide) (by kernel_rfl); replace y1 : x 45 = .slice (some ⟨b, o, none⟩) N cc := y1; refine weave.stepg_take rfl (by simp only [y0]; rfl) ?_
      have HF := Z_ hF; clear hd hm hb hF; go_simp; exact hK'.out _ _ _ (by simp only [y0, y1]; rfl) trivial ⟨rfl, HF.out⟩
     case st14 =>
      have y0 := hd 9 (by decide) (by kernel_rfl); replace y0 : x 42 = .bool true := y0; have y1 := hd 13 (by decide) (by kernel_rfl); replace y1 : x 46 = .int .i64 (N : Nat) := y1; refine weave.stepg_take rfl (by simp only [y0]; rfl) ?_
      have HF := Z_ hF; clear hd hm hb hF; go_simp; exact hK'.out _ _ _ (by simp only [y0, y1]; rfl) trivial ⟨rfl, HF.out⟩
     case st15 =>
      have y0 := hd 9 (by decide) (by kernel_rfl); replace y0 : x 42 = .bool true := y0; have y1 := hd 10 (by decide) (by kernel_rfl); replace y1 : x 43 = .int .i64 (j : Nat) := y1; have y2 := hd 14 (by decide) (by kernel_rfl); replace y2 : x 47 = .int .i64 ((N : Int) - 1) := y2; refine weave.stepg_take rfl (by simp only [y0]; rfl) ?_
      have HF := Z_ hF; clear hd hm hb hF; go_simp; exact hK'.out _ _ _ (by simp only [y0, y1, y2]; rfl) trivial ⟨rfl, HF.out⟩
     case st16 =>
      refine weave.stepg_plain rfl ?_
      have y0 := hd 9 (by decide) (by kernel_rfl); replace y0 : x 42 = .bool true := y0; have y1 := hd 15 (by decide) (by kernel_rfl); replace y1 : x 48 = .bool lb := y1; have HF := Z_ hF; clear hd hm hb hF; go_simp; exact hK'.out _ _ _ (by simp only [y0, y1]; rfl) trivial ⟨rfl, HF.out⟩
     case st17 =>
      refine weave.stepg_plain rfl ?_
      obtain rfl := List.eq_nil_of_length_eq_zero (hm 0 (by kernel_rfl)); have y0 := hd 5 (by decide) (by kernel_rfl); replace y0 : x 38 = .pointer (some ⟨C, 0, none⟩) := y0; have y1 := hd 6 (by decide) (by kernel_rfl); replace y1 : x 39 = .agg #[.int .i64 k1, .string t1, .int .i64 m1, .slice a1 N1 c1] := y1; have y2 := hd 7 (by decide) (by kernel_rfl); replace y2 : x 40 = .int .i64 ctx := y2; have y3 := hd 16 (by decide) (by kernel_rfl); replace y3 : x 49 = .bool lb := y3; have HX9 := Z_ (HIY.out _ lb ctx u q vlj (L ++ M) deep pcj hF.1.cs hF.1.pc HU.out (by have := HQ2.out; omega) HML.out HDD.out.1 (by have h1 := HDD.out.2; have h2 := HSL.out; omega)); have hF9 := (show _ ∧ _ from hF); have HF := Z_ hF9.1; have HKF := Z_ hF9.2; have hF9 := (show _ ∧ _ from hF); have HF := Z_ hF9.1; have HKF := Z_ hF9.2; clear hd hm hb hF hF9; go_simp; refine HX9.out.mono ?_
      rintro e u2 ⟨hC9, hT9⟩; have hry := HRY.out; replace hry : stF E pr ctx lb (L ++ M) deep y q = RY := hry; rw [hry] at hT9; cases RY with
      | bad c9 p9 =>
       obtain rfl : e = _ := hT9; have hc9 := HF.out.chg.trans hC9 HF.out.ls; go_wp2_with fail
       exact ⟨rfl, hc9, by rw [← HT2.out]; rfl⟩
      | ok t6 =>
       obtain ⟨g6, vl6, pc6, rfl, hg6, hcs6, hpc6, hta6, hfr6, hkd6⟩ := hT9; have hsb6 := HF.out.call hC9 hcs6 hpc6 hfr6
       have hkb6 := HKF.out.chg hC9 (fun e => by
        have h1 := HF.out.cs.cB; have h2 := HF.out.cs.pB; have h3 := HF.out.hB; have h4 := HF.out.hNX; have h5 := HXK.out
        rcases e with e | e | e
        ·omega
        ·omega
        ·have := HVW.out _ e; omega)
       exact hK'.out _ _ _ (by simp only [y0, y1, y2, y3]; rfl) trivial ⟨t6, rfl, g6, vl6, pc6, rfl, ⟨hsb6, hkb6⟩, trAt_keeps (keeps_hide (Nat.le_refl _) fun i hi hm => ⟨kid_hid HRW.out HXK.out HKF.out.lt hm, rfl⟩) _ _ hta6, g6, rfl⟩
     case st18 =>
      refine weave.stepg_plain rfl ?_
      obtain ⟨v0, rfl⟩ : ∃ v0, vs = [v0] := by match vs, hm 1 (by kernel_rfl) with | [v0], _ => exact ⟨_, rfl⟩
      have y0 := hd 17 (by decide) (by kernel_rfl) 50 (by kernel_rfl); replace y0 : x 50 = v0 := y0; obtain ⟨t6, hRt, g6, vl6, pc6, rfl, hF⟩ := hF; have hBB := hF.1; have HG := Z_ (ofp.growx_own (hBB.1.grow)); have HF := Z_ hF; clear hd hm hb hF hBB; go_simp; exact hK'.out _ _ _ (by simp only [y0]; rfl) trivial (⟨t6, hRt, g6, vl6, pc6, rfl, (ofp.pushx_slice chk.tr_keeps (fun u' hE => ⟨HF.out.1.1.extend hE, HF.out.1.2.ext hE⟩) (fun i e => (HG.out i e).2) HF.out rfl)⟩)
     case st19 =>
      refine weave.stepg_plain rfl ?_
      obtain ⟨v0, v1, rfl⟩ : ∃ v0 v1, vs = [v0, v1] := by match vs, hm 2 (by kernel_rfl) with | [v0, v1], _ => exact ⟨_, _, rfl⟩
      have y0 := hd 4 (by decide) (by kernel_rfl); replace y0 : x 37 = .slice ra j rc := y0; have y1 := hd 18 (by decide) (by kernel_rfl) 51 (by kernel_rfl); replace y1 : x 51 = v1 := y1; obtain ⟨t6, hRt, g6, vl6, pc6, rfl, hF⟩ := hF; have hF2 := hF; obtain ⟨hBB, hxx, gg, rfl, hgb, hgr⟩ := hF2; obtain ⟨us, hu1, ho, hu3⟩ := (hBB.1.grow).ex; obtain ⟨i0_, hi_, hz0, hz1, hz2⟩ := synw.info_split ofp.info_tree; have hbz : (X + 1) ≤ u.heap.size := by have := hBB.1.x.lt; omega
      refine wp_append_lies _ _ _ 341 rfl ((X + 1)) 219 i0_ (.pointer none) 1 8 Tryz.underlying341 hi_ hz0 hz1 hz2 rfl (by decide) (.slice ra j rc) ks.length (us.flatMap fun u => u.cells.toList) y0 ho ⟨gg, 0, none⟩ 1 1 [.pointer (some ⟨g6, 0, none⟩)] y1 rfl ?_ (by intro z_ hz_; simp only [List.mem_cons, List.not_mem_nil, or_false] at hz_; rcases hz_ with rfl <;> rfl) (by decide) (by unfold maxLen; have := HKL.out; omega) (by have := HKL.out; omega) hbz u.heap.size rfl ?_
      ·intro j q hj; have e : (⟨gg, 0, none⟩ : Addr).add j = ⟨gg, j, none⟩ := (by unfold Addr.add; split <;> simp_all); rw [e, hgb.cell]; simpa [Value.cells] using hj
      ·intro g9 c9 w9 ho9 hg9 ha9 hl9
       exact hK'.out _ _ _ rfl trivial (⟨t6, hRt, g6, vl6, pc6, rfl, (ofp.pushx_append chk.tr_keeps hF hu1 hu3 rfl (fun r acc1 hG hC ha => ⟨hBB.1.more hG hC ha, hBB.2.chg hC (fun e => by have := HRW.out _ e; omega)⟩) ho9 hg9 ha9)⟩)
     case st20 =>
      refine weave.stepg_plain rfl ?_
      have y0 := hd 0 (by decide) (by kernel_rfl); replace y0 : x 33 = .pointer (some ⟨X, 0, none⟩) := y0; have HF := Z_ hF; clear hd hm hb hF; go_simp; exact hK'.out _ _ _ (by simp only [y0]; rfl) trivial ⟨rfl, HF.out⟩
     case st21 =>
      refine weave.stepg_plain rfl ?_
      have y0 := hd 20 (by decide) (by kernel_rfl); replace y0 : x 53 = .pointer (some ⟨X, 0, none⟩) := y0; have HF := Z_ hF; clear hd hm hb hF; go_simp; exact hK'.out _ _ _ (by simp only [y0]; rfl) trivial ⟨rfl, HF.out⟩
     case st22 =>
      refine weave.stepg_plain rfl ?_
      obtain ⟨v0, v1, v2, rfl⟩ : ∃ v0 v1 v2, vs = [v0, v1, v2] := by match vs, hm 3 (by kernel_rfl) with | [v0, v1, v2], _ => exact ⟨_, _, _, rfl⟩
      have y0 := hd 21 (by decide) (by kernel_rfl); replace y0 : x 54 = .pointer (some ⟨X, 2, none⟩) := y0; have y1 := hd 19 (by decide) (by kernel_rfl) 52 (by kernel_rfl); replace y1 : x 52 = v2 := y1; obtain ⟨t6, hRt, g6, vl6, pc6, rfl, hF⟩ := hF; have hF2 := hF; obtain ⟨hBB, gg, cc, rfl⟩ := hF2; have hq := hBB.1.x.cell; have hqf := hBB.1.x.frozen; have hql := hBB.1.x.lt; unfold trC at hq; have HF := Z_ hF; clear hd hm hb hF hBB; go_simp; exact hK'.out _ _ undef (by simp only [y0, y1]; rfl) trivial (⟨t6, hRt, g6, vl6, pc6, rfl, (ofp.pushx_store (z := undef) HF.out (fun h => ⟨h.1.put (j := 2) rfl, h.2.setOther (p := ⟨X, 2, none⟩) (by have := HXK.out; show Kb ≠ X; omega) _⟩))⟩)
    case fint =>
     intro x9 vs9 w9 hl hF hk9; obtain ⟨v0, v1, v2, v3, rfl⟩ : ∃ v0 v1 v2 v3, vs9 = [v0, v1, v2, v3] := by match vs9, hl with | [v0, v1, v2, v3], _ => exact ⟨_, _, _, _, rfl⟩
     obtain ⟨t6, hRt, g6, vl6, pc6, -, hF⟩ := hF; have hS9 := (show _ ∧ _ from hF).1; subst hRt; obtain ⟨y6, L6⟩ := t6; obtain ⟨⟨M6, rfl⟩, hl6, -⟩ := st_ext HRY.out; have HS9 := Z_ hS9; have HT9 := Z_ (show ((RowS E pr ctx true (L ++ M ++ M6) deep (l.drop (j + 1)) (q + szF y) (ks ++ [y6])).bind fun ks => (.ok (.mk k 0 ks zRef 0 ctx, L) : Rz (Tr × List Loc))) = T from HT2.out); have HL6 := Z_ (hl6 HML.out); clear hk9 hl hF hS9 hl6; go_wp2_with fail
     go_roundw
     case rel => exact ⟨j + 1, q + szF y, _, vl6, ks ++ [y6], M ++ M6, pc6, by omega, by go_num, Z_ (by rw [List.length_append, HKL.out]; rfl), Z_ (by have := HQ2.out; omega), by rw [← List.append_assoc]; exact HL6, by rw [← List.append_assoc]; exact HT9, by rw [← List.append_assoc]; exact HS9⟩
     case measure => simp [intOf]; omega
   | false =>
    refine wp_region_weaveg [17, 18, 19, 22] (fun i v _ => v = ([.pointer (some ⟨X, 0, none⟩), .pointer (some ⟨X, 0, none⟩), .pointer (some ⟨X, 0, none⟩), .pointer (some ⟨X, 2, none⟩), .slice ra j rc, .pointer (some ⟨C, 0, none⟩), .agg #[.int .i64 k1, .string t1, .int .i64 m1, .slice a1 N1 c1], .int .i64 ctx, .bool false, .bool false, undef, undef, undef, undef, undef, undef, .bool false, undef, undef, undef, .pointer (some ⟨X, 0, none⟩), .pointer (some ⟨X, 2, none⟩), undef] : List Value).getD i undef) (KidF (fun u9 => SB W u u9 C Mo D K P B Nb X E (.slice la n lc) vlj (L ++ M) deep (q : Nat) bod fac dc pcj pr #[.int .i64 k, .string t, .int .i64 m, .slice (some ⟨b, o, none⟩) N cc] (fun rv => trC k 0 rv zRef (.string ⟨#[]⟩) (.bool false) (.slice none 0 0) (.int .i64 0) (.bool false) (.int .i64 0) 0 ctx) (.slice ra j rc) (.slice ra j rc) ks ∧ Blk u9 Kb #[.int .i64 k1, .string t1, .int .i64 m1, .slice a1 N1 c1] 24) (fun vl9 L9 pc9 u9 rN9 r9 lq9 => SB W u u9 C Mo D K P B Nb X E (.slice la n lc) vl9 L9 deep ((q + szF y) : Nat) bod fac dc pc9 pr #[.int .i64 k, .string t, .int .i64 m, .slice (some ⟨b, o, none⟩) N cc] (fun rv => trC k 0 rv zRef (.string ⟨#[]⟩) (.bool false) (.slice none 0 0) (.int .i64 0) (.bool false) (.int .i64 0) 0 ctx) rN9 r9 lq9 ∧ Blk u9 Kb #[.int .i64 k1, .string t1, .int .i64 m1, .slice a1 N1 c1] 24) X (.slice ra j rc) ks RY) (fun _ _ => True) (frame := ?fraf) (fun x => ?hfaf) synw.mixed (by kernel_rfl) (by kernel_rfl) (fun _ _ _ _ h _ => h) ?h0f ?stf ?finf
    case hfaf =>
     simp only [chain.frameOf, chain.fill, chain.setOpt, chain.dstOf, List.size_toArray, List.length_cons, List.length_nil, List.getElem?_toArray, List.getElem?_cons_succ, List.getElem?_cons_zero, List.setIfInBounds_toArray, List.set_cons_succ, List.set_cons_zero]; exact rfl
    case h0f => exact ⟨HS5.out.extend (Chg.refl _ _).drew, HK.out.drew⟩
    case stf =>
     refine AllFrom.cons (fun x vs u hF hm hb hd K' hK' => ?sf0) (AllFrom.cons (fun x vs u hF hm hb hd K' hK' => ?sf1) (AllFrom.cons (fun x vs u hF hm hb hd K' hK' => ?sf2) (AllFrom.cons (fun x vs u hF hm hb hd K' hK' => ?sf3) (AllFrom.cons (fun x vs u hF hm hb hd K' hK' => ?sf4) (AllFrom.cons (fun x vs u hF hm hb hd K' hK' => ?sf5) (AllFrom.cons (fun x vs u hF hm hb hd K' hK' => ?sf6) (AllFrom.cons (fun x vs u hF hm hb hd K' hK' => ?sf7) (AllFrom.cons (fun x vs u hF hm hb hd K' hK' => ?sf8) (AllFrom.cons (fun x vs u hF hm hb hd K' hK' => ?sf9) (AllFrom.cons (fun x vs u hF hm hb hd K' hK' => ?sf10) (AllFrom.cons (fun x vs u hF hm hb hd K' hK' => ?sf11) (AllFrom.cons (fun x vs u hF hm hb hd K' hK' => ?sf12) (AllFrom.cons (fun x vs u hF hm hb hd K' hK' => ?sf13) (AllFrom.cons (fun x vs u hF hm hb hd K' hK' => ?sf14) (AllFrom.cons (fun x vs u hF hm hb hd K' hK' => ?sf15) (AllFrom.cons (fun x vs u hF hm hb hd K' hK' => ?sf16) (AllFrom.cons (fun x vs u hF hm hb hd K' hK' => ?sf17) (AllFrom.cons (fun x vs u hF hm hb hd K' hK' => ?sf18) (AllFrom.cons (fun x vs u hF hm hb hd K' hK' => ?sf19) (AllFrom.cons (fun x vs u hF hm hb hd K' hK' => ?sf20) (AllFrom.cons (fun x vs u hF hm hb hd K' hK' => ?sf21) (AllFrom.cons (fun x vs u hF hm hb hd K' hK' => ?sf22) (AllFrom.nil)))))))))))))))))))))))
     case sf0 =>
      refine weave.stepg_plain rfl ?_
      have HF := Z_ hF; clear hd hm hb hF; go_simp; exact hK'.out _ _ _ (rfl) trivial ⟨rfl, HF.out⟩
     case sf1 =>
      refine weave.stepg_plain rfl ?_
      have HF := Z_ hF; clear hd hm hb hF; go_simp; exact hK'.out _ _ _ (rfl) trivial ⟨rfl, HF.out⟩
     case sf2 =>
      refine weave.stepg_plain rfl ?_
      have y0 := hd 1 (by decide) (by kernel_rfl); replace y0 : x 34 = .pointer (some ⟨X, 0, none⟩) := y0; have HF := Z_ hF; clear hd hm hb hF; go_simp; exact hK'.out _ _ _ (by simp only [y0]; rfl) trivial ⟨rfl, HF.out⟩
     case sf3 =>
      refine weave.stepg_plain rfl ?_
      have y0 := hd 2 (by decide) (by kernel_rfl); replace y0 : x 35 = .pointer (some ⟨X, 0, none⟩) := y0; have HF := Z_ hF; clear hd hm hb hF; go_simp; exact hK'.out _ _ _ (by simp only [y0]; rfl) trivial ⟨rfl, HF.out⟩
     case sf4 =>
      refine weave.stepg_plain rfl ?_
      have hq := KidF.low hF (by have := hb 2 _ (by decide) rfl (by kernel_rfl); omega) (Q := u.cell? ⟨X, 2, none⟩ = some (.slice ra j rc)) (fun h => (h.1.x.cell 2).trans rfl) (fun _ _ _ h => (h.1.x.cell 2).trans rfl); have y0 := hd 3 (by decide) (by kernel_rfl); replace y0 : x 36 = .pointer (some ⟨X, 2, none⟩) := y0; have HF := Z_ hF; clear hd hm hb hF; go_simp; exact hK'.out _ _ _ (by simp only [y0]; rfl) trivial ⟨rfl, HF.out⟩
     case sf5 =>
      refine weave.stepg_plain rfl ?_
      have HF := Z_ hF; clear hd hm hb hF; go_simp; exact hK'.out _ _ _ (rfl) trivial ⟨rfl, HF.out⟩
     case sf6 =>
      refine weave.stepg_plain rfl ?_
      have hq := KidF.any hF (Q := ∀ o9, u.cell? ⟨Kb, o9, none⟩ = #[.int .i64 k1, .string t1, .int .i64 m1, .slice a1 N1 c1][o9]?) (fun h => h.2.cell) (fun _ _ _ _ _ _ h => h.2.cell); have HF := Z_ hF; clear hd hm hb hF; go_simp; exact hK'.out _ _ _ (rfl) trivial ⟨rfl, HF.out⟩
     case sf7 =>
      refine weave.stepg_plain rfl ?_
      have HF := Z_ hF; clear hd hm hb hF; go_simp; exact hK'.out _ _ _ (rfl) trivial ⟨rfl, HF.out⟩
     case sf8 =>
      refine weave.stepg_plain rfl ?_
      have HF := Z_ hF; clear hd hm hb hF; go_simp; exact hK'.out _ _ _ (rfl) trivial ⟨rfl, HF.out⟩
     case sf9 =>
      refine weave.stepg_plain rfl ?_
      have y0 := hd 8 (by decide) (by kernel_rfl); replace y0 : x 41 = .bool false := y0; have HF := Z_ hF; clear hd hm hb hF; go_simp; exact hK'.out _ _ _ (by simp only [y0]; rfl) trivial ⟨rfl, HF.out⟩
     case sf10 =>
      have y0 := hd 9 (by decide) (by kernel_rfl); replace y0 : x 42 = .bool false := y0; have HF := Z_ hF; refine weave.stepg_skip (c := false) rfl (by simp only [y0]; rfl) rfl ?_
      exact hK'.out _ _ _ rfl trivial ⟨rfl, HF.out⟩
     case sf11 =>
      have y0 := hd 9 (by decide) (by kernel_rfl); replace y0 : x 42 = .bool false := y0; have HF := Z_ hF; refine weave.stepg_skip (c := false) rfl (by simp only [y0]; rfl) rfl ?_
      exact hK'.out _ _ _ rfl trivial ⟨rfl, HF.out⟩
     case sf12 =>
      have y0 := hd 9 (by decide) (by kernel_rfl); replace y0 : x 42 = .bool false := y0; have HF := Z_ hF; refine weave.stepg_skip (c := false) rfl (by simp only [y0]; rfl) rfl ?_
      exact hK'.out _ _ _ rfl trivial ⟨rfl, HF.out⟩
     case sf13 =>
      have y0 := hd 9 (by decide) (by kernel_rfl); replace y0 : x 42 = .bool false := y0; have HF := Z_ hF; refine weave.stepg_skip (c := false) rfl (by simp only [y0]; rfl) rfl ?_
      exact hK'.out _ _ _ rfl trivial ⟨rfl, HF.out⟩
     case sf14 =>
      have y0 := hd 9 (by decide) (by kernel_rfl); replace y0 : x 42 = .bool false := y0; have HF := Z_ hF; refine weave.stepg_skip (c := false) rfl (by simp only [y0]; rfl) rfl ?_
      exact hK'.out _ _ _ rfl trivial ⟨rfl, HF.out⟩
     case sf15 =>
      have y0 := hd 9 (by decide) (by kernel_rfl); replace y0 : x 42 = .bool false := y0; have HF := Z_ hF; refine weave.stepg_skip (c := false) rfl (by simp only [y0]; rfl) rfl ?_
      exact hK'.out _ _ _ rfl trivial ⟨rfl, HF.out⟩
     case sf16 =>
      refine weave.stepg_plain rfl ?_
      have y0 := hd 9 (by decide) (by kernel_rfl); replace y0 : x 42 = .bool false := y0; have y1 := hd 15 (by decide) (by kernel_rfl); replace y1 : x 48 = undef := y1; have HF := Z_ hF; clear hd hm hb hF; go_simp; exact hK'.out _ _ _ (by simp only [y0, y1]; rfl) trivial ⟨rfl, HF.out⟩
     case sf17 =>
      refine weave.stepg_plain rfl ?_
      obtain rfl := List.eq_nil_of_length_eq_zero (hm 0 (by kernel_rfl)); have y0 := hd 5 (by decide) (by kernel_rfl); replace y0 : x 38 = .pointer (some ⟨C, 0, none⟩) := y0; have y1 := hd 6 (by decide) (by kernel_rfl); replace y1 : x 39 = .agg #[.int .i64 k1, .string t1, .int .i64 m1, .slice a1 N1 c1] := y1; have y2 := hd 7 (by decide) (by kernel_rfl); replace y2 : x 40 = .int .i64 ctx := y2; have y3 := hd 16 (by decide) (by kernel_rfl); replace y3 : x 49 = .bool false := y3; have HX9 := Z_ (HIY.out _ false ctx u q vlj (L ++ M) deep pcj hF.1.cs hF.1.pc HU.out (by have := HQ2.out; omega) HML.out HDD.out.1 (by have h1 := HDD.out.2; have h2 := HSL.out; omega)); have hF9 := (show _ ∧ _ from hF); have HF := Z_ hF9.1; have HKF := Z_ hF9.2; have hF9 := (show _ ∧ _ from hF); have HF := Z_ hF9.1; have HKF := Z_ hF9.2; clear hd hm hb hF hF9; go_simp; refine HX9.out.mono ?_
      rintro e u2 ⟨hC9, hT9⟩; have hry := HRY.out; replace hry : stF E pr ctx false (L ++ M) deep y q = RY := hry; rw [hry] at hT9; cases RY with
      | bad c9 p9 =>
       obtain rfl : e = _ := hT9; have hc9 := HF.out.chg.trans hC9 HF.out.ls; go_wp2_with fail
       exact ⟨rfl, hc9, by rw [← HT2.out]; rfl⟩
      | ok t6 =>
       obtain ⟨g6, vl6, pc6, rfl, hg6, hcs6, hpc6, hta6, hfr6, hkd6⟩ := hT9; have hsb6 := HF.out.call hC9 hcs6 hpc6 hfr6
       have hkb6 := HKF.out.chg hC9 (fun e => by
        have h1 := HF.out.cs.cB; have h2 := HF.out.cs.pB; have h3 := HF.out.hB; have h4 := HF.out.hNX; have h5 := HXK.out
        rcases e with e | e | e
        ·omega
        ·omega
        ·have := HVW.out _ e; omega)
       exact hK'.out _ _ _ (by simp only [y0, y1, y2, y3]; rfl) trivial ⟨t6, rfl, g6, vl6, pc6, rfl, ⟨hsb6, hkb6⟩, trAt_keeps (keeps_hide (Nat.le_refl _) fun i hi hm => ⟨kid_hid HRW.out HXK.out HKF.out.lt hm, rfl⟩) _ _ hta6, g6, rfl⟩
     case sf18 =>
      refine weave.stepg_plain rfl ?_
      obtain ⟨v0, rfl⟩ : ∃ v0, vs = [v0] := by match vs, hm 1 (by kernel_rfl) with | [v0], _ => exact ⟨_, rfl⟩
      have y0 := hd 17 (by decide) (by kernel_rfl) 50 (by kernel_rfl); replace y0 : x 50 = v0 := y0; obtain ⟨t6, hRt, g6, vl6, pc6, rfl, hF⟩ := hF; have hBB := hF.1; have HG := Z_ (ofp.growx_own (hBB.1.grow)); have HF := Z_ hF; clear hd hm hb hF hBB; go_simp; exact hK'.out _ _ _ (by simp only [y0]; rfl) trivial (⟨t6, hRt, g6, vl6, pc6, rfl, (ofp.pushx_slice chk.tr_keeps (fun u' hE => ⟨HF.out.1.1.extend hE, HF.out.1.2.ext hE⟩) (fun i e => (HG.out i e).2) HF.out rfl)⟩)
     case sf19 =>
      refine weave.stepg_plain rfl ?_
      obtain ⟨v0, v1, rfl⟩ : ∃ v0 v1, vs = [v0, v1] := by match vs, hm 2 (by kernel_rfl) with | [v0, v1], _ => exact ⟨_, _, rfl⟩
      have y0 := hd 4 (by decide) (by kernel_rfl); replace y0 : x 37 = .slice ra j rc := y0; have y1 := hd 18 (by decide) (by kernel_rfl) 51 (by kernel_rfl); replace y1 : x 51 = v1 := y1; obtain ⟨t6, hRt, g6, vl6, pc6, rfl, hF⟩ := hF; have hF2 := hF; obtain ⟨hBB, hxx, gg, rfl, hgb, hgr⟩ := hF2; obtain ⟨us, hu1, ho, hu3⟩ := (hBB.1.grow).ex; obtain ⟨i0_, hi_, hz0, hz1, hz2⟩ := synw.info_split ofp.info_tree; have hbz : (X + 1) ≤ u.heap.size := by have := hBB.1.x.lt; omega
      refine wp_append_lies _ _ _ 341 rfl ((X + 1)) 219 i0_ (.pointer none) 1 8 Tryz.underlying341 hi_ hz0 hz1 hz2 rfl (by decide) (.slice ra j rc) ks.length (us.flatMap fun u => u.cells.toList) y0 ho ⟨gg, 0, none⟩ 1 1 [.pointer (some ⟨g6, 0, none⟩)] y1 rfl ?_ (by intro z_ hz_; simp only [List.mem_cons, List.not_mem_nil, or_false] at hz_; rcases hz_ with rfl <;> rfl) (by decide) (by unfold maxLen; have := HKL.out; omega) (by have := HKL.out; omega) hbz u.heap.size rfl ?_
      ·intro j q hj; have e : (⟨gg, 0, none⟩ : Addr).add j = ⟨gg, j, none⟩ := (by unfold Addr.add; split <;> simp_all); rw [e, hgb.cell]; simpa [Value.cells] using hj
      ·intro g9 c9 w9 ho9 hg9 ha9 hl9
       exact hK'.out _ _ _ rfl trivial (⟨t6, hRt, g6, vl6, pc6, rfl, (ofp.pushx_append chk.tr_keeps hF hu1 hu3 rfl (fun r acc1 hG hC ha => ⟨hBB.1.more hG hC ha, hBB.2.chg hC (fun e => by have := HRW.out _ e; omega)⟩) ho9 hg9 ha9)⟩)
     case sf20 =>
      refine weave.stepg_plain rfl ?_
      have y0 := hd 0 (by decide) (by kernel_rfl); replace y0 : x 33 = .pointer (some ⟨X, 0, none⟩) := y0; have HF := Z_ hF; clear hd hm hb hF; go_simp; exact hK'.out _ _ _ (by simp only [y0]; rfl) trivial ⟨rfl, HF.out⟩
     case sf21 =>
      refine weave.stepg_plain rfl ?_
      have y0 := hd 20 (by decide) (by kernel_rfl); replace y0 : x 53 = .pointer (some ⟨X, 0, none⟩) := y0; have HF := Z_ hF; clear hd hm hb hF; go_simp; exact hK'.out _ _ _ (by simp only [y0]; rfl) trivial ⟨rfl, HF.out⟩
     case sf22 =>
      refine weave.stepg_plain rfl ?_
      obtain ⟨v0, v1, v2, rfl⟩ : ∃ v0 v1 v2, vs = [v0, v1, v2] := by match vs, hm 3 (by kernel_rfl) with | [v0, v1, v2], _ => exact ⟨_, _, _, rfl⟩
      have y0 := hd 21 (by decide) (by kernel_rfl); replace y0 : x 54 = .pointer (some ⟨X, 2, none⟩) := y0; have y1 := hd 19 (by decide) (by kernel_rfl) 52 (by kernel_rfl); replace y1 : x 52 = v2 := y1; obtain ⟨t6, hRt, g6, vl6, pc6, rfl, hF⟩ := hF; have hF2 := hF; obtain ⟨hBB, gg, cc, rfl⟩ := hF2; have hq := hBB.1.x.cell; have hqf := hBB.1.x.frozen; have hql := hBB.1.x.lt; unfold trC at hq; have HF := Z_ hF; clear hd hm hb hF hBB; go_simp; exact hK'.out _ _ undef (by simp only [y0, y1]; rfl) trivial (⟨t6, hRt, g6, vl6, pc6, rfl, (ofp.pushx_store (z := undef) HF.out (fun h => ⟨h.1.put (j := 2) rfl, h.2.setOther (p := ⟨X, 2, none⟩) (by have := HXK.out; show Kb ≠ X; omega) _⟩))⟩)
    case finf =>
     intro x9 vs9 w9 hl hF hk9; obtain ⟨v0, v1, v2, v3, rfl⟩ : ∃ v0 v1 v2 v3, vs9 = [v0, v1, v2, v3] := by match vs9, hl with | [v0, v1, v2, v3], _ => exact ⟨_, _, _, _, rfl⟩
     obtain ⟨t6, hRt, g6, vl6, pc6, -, hF⟩ := hF; have hS9 := (show _ ∧ _ from hF).1; subst hRt; obtain ⟨y6, L6⟩ := t6; obtain ⟨⟨M6, rfl⟩, hl6, -⟩ := st_ext HRY.out; have HS9 := Z_ hS9; have HT9 := Z_ (show ((RowS E pr ctx false (L ++ M ++ M6) deep (l.drop (j + 1)) (q + szF y) (ks ++ [y6])).bind fun ks => (.ok (.mk k 0 ks zRef 0 ctx, L) : Rz (Tr × List Loc))) = T from HT2.out); have HL6 := Z_ (hl6 HML.out); clear hk9 hl hF hS9 hl6; go_wp2_with fail
     go_roundw
     case rel => exact ⟨j + 1, q + szF y, _, vl6, ks ++ [y6], M ++ M6, pc6, by omega, by go_num, Z_ (by rw [List.length_append, HKL.out]; rfl), Z_ (by have := HQ2.out; omega), by rw [← List.append_assoc]; exact HL6, by rw [← List.append_assoc]; exact HT9, by rw [← List.append_assoc]; exact HS9⟩
     case measure => simp [intOf]; omega
  ·obtain rfl : j = N := by omega
   have hjd : decide ((j : Int) < (j : Int)) = false := by simp
   have hT := HT.out; have hQ := HQ.out; rw [List.drop_of_length_le (by rw [HN.out]; exact Nat.le_refl _)] at hT hQ; have hR0 : RowS E pr ctx outer (L ++ M) deep [] q ks = .ok ks := by unfold RowS; simp [stsF, Rz.bind]
   rw [hR0] at hT; obtain rfl : q = pe := hQ; have HTB := Z_ (show T = .ok (.mk k 0 ks zRef 0 ctx, L) from hT.symm); obtain ⟨ga, gc, hv, hv1, hv2⟩ := grow_slice HS.out.cs.loc; have hlen : n ≤ (L ++ M).length := by rw [List.length_append, HLN.out]; omega
   subst hv; obtain ⟨gn, hgn⟩ : ∃ gn, (L ++ M).length = gn := ⟨_, rfl⟩; rw [hgn] at hlen hv1 HS; have HGN := Z_ hgn; have hcc := HS.out.cs.c.cell; have hcf := HS.out.cs.c.frozen; have hcl := HS.out.cs.c.lt; unfold ckC at hcc; have hgi : (n : Int) ≤ (gc : Int) := by omega
   have hg0 : (0 : Int) ≤ (n : Int) := by omega
   clear hT hR0 HT HQ HI HIH hgn; go_wp2_with fail
   have hC9 := chg_set (S := C) (Chg.refl _ wr) 2 (.slice ga n gc); have hC8 : Chg (LS C P (.slice ga gn gc)) wr (wr.setCell ⟨C, 2, none⟩ (.slice ga n gc)) := hC9.weak fun _ _ e => .inl e
   have hgl : Grow 3 340 OLoc B (wr.setCell ⟨C, 2, none⟩ (.slice ga n gc)) (.slice ga n gc) L := by
    have h1 := HS.out.cs.loc.chg loc_keeps hC9 (fun i e => by have := HS.out.cs.cB; omega); have h2 := grow_trunc h1; rw [HLN.out] at h2; exact h2
   have hown : ∀ i, (Value.slice ga n gc).ownBlock = some i → (Value.slice ga gn gc).ownBlock = some i := fun i e => by
    cases ga with
    | none => cases e
    | some z => exact e
   have hcs := HS.out.cs.turnL hC8 (HS.out.cs.c.set 2 (.slice ga n gc)) (HS.out.cs.p.chg hC9 (fun e => HS.out.cs.cP e.symm)) hgl; have hsb := HS.out.call hC8 hcs HS.out.pc (fun i e => .inl (hown i e)); have htr := tr_made2 (B := u.heap.size) hsb.x hsb.grow (by have := hsb.h0; have := hsb.hNX; omega) (by constructor <;> decide) (fun i e => by rcases hsb.fresh i e with f | f <;> (have := hsb.hNX; omega)) hsb.apart; have HFN := Z_ (And.intro hsb (And.intro htr hcs)); clear hC9 hC8 hgl hsb htr hcs hcc hcf hcl; go_ret
   refine ⟨HFN.out.1.chg, ?_⟩
   rw [HTB.out]; exact ⟨X, _, _, rfl, by have := HFN.out.1.h0; have := HFN.out.1.hNX; omega, HFN.out.2.2, HFN.out.1.pc, HFN.out.2.1, fun i e => by rcases HFN.out.1.fresh i e with f | f; exact .inl f.1; exact .inr (by have := HFN.out.1.h0; have := HFN.out.1.hNX; omega), rfl⟩
end chk
end Go.Proofs.YtpcihajmcejliacGreatDoor
namespace Go.Proofs.YtpcihajmcejliacGreatDoor
open Go.RowKit
namespace chk
open synw ofp
theorem fin_kid {E : CEnv} {L : List Loc} {ctx : Int} {alone : Bool} {k : Int} {t : ByteArray} {m : Int} {ks : List Tr} {p : Nat} {y : Tr} (h : finF E L ctx alone k t m ks p = .ok y) : y.kd = k ∧ y.kids = ks := by
 unfold finF at h; split at h
 ·cases hv : varF E L t p with
  | bad c q => rw [hv] at h; cases h
  | ok r =>
   rw [hv] at h; simp only [Rz.bind] at h; split at h
   ·cases h; exact ⟨rfl, rfl⟩
   ·cases h
 ·split at h
  ·cases hv : callF E ctx alone t ks p with
   | bad c q => rw [hv] at h; cases h
   | ok r => rw [hv] at h; cases h; exact ⟨rfl, rfl⟩
  ·cases h; exact ⟨rfl, rfl⟩
theorem exs_len {E : CEnv} {L : List Loc} {ctx : Int} : ∀ (l : List Nd) (p : Nat) (ks : List Tr), exsF E L ctx l p = .ok ks → ks.length = l.length := by
 intro l; induction l with
 | nil => intro p ks h; rw [exsF] at h; cases h; rfl
 | cons x r ih =>
  intro p ks h; rw [exsF] at h; cases h1 : exF E L ctx false x p with
  | bad c q => rw [h1] at h; cases h
  | ok y =>
   rw [h1] at h; simp only [Rz.bind] at h; cases h2 : exsF E L ctx r (p + szF x) with
   | bad c q => rw [h2] at h; cases h
   | ok ys => rw [h2] at h; cases h; rw [List.length_cons, List.length_cons, ih _ _ h2]
theorem ex_kid {E : CEnv} {L : List Loc} {ctx : Int} {alone : Bool} {x : Nd} {p : Nat} {y : Tr} (h : exF E L ctx alone x p = .ok y) : y.kd = x.kd ∧ y.kids.length = x.kids.length := by
 obtain ⟨k, t, m, l⟩ := x; rw [exF] at h; cases h1 : exsF E L ctx l (p + 1) with
 | bad c q => rw [h1] at h; cases h
 | ok ks =>
  rw [h1] at h; obtain ⟨e1, e2⟩ := fin_kid h; exact ⟨e1, by rw [e2, exs_len _ _ _ h1]; rfl⟩
theorem bl_kid {E : CEnv} {pr : FProc} {ctx : Int} {outer : Bool} {L : List Loc} {deep : Int} {x : Nd} {p : Nat} {y : Tr} (h : blF E pr ctx outer L deep x p = .ok y) : y.kd = x.kd := by
 obtain ⟨k, t, m, l⟩ := x; rw [blF] at h; cases h1 : stsF E pr ctx outer L deep l (p + 1) with
 | bad c q => rw [h1] at h; cases h
 | ok ks => rw [h1] at h; cases h; rfl
theorem item_kid {x : Nd} (h : IsNd x) (hk : x.kd = 17) : 0 < x.kids.length := by
 obtain ⟨k, t, m, l⟩ := x; obtain rfl : k = 17 := hk; have hf := h.form; show 0 < l.length
 cases hf
 simp
theorem stks_kid {E : CEnv} {pr : FProc} {ctx : Int} {alone : Bool} {L : List Loc} {deep : Int} : ∀ (l : List Nd) (b : Option Int) (p : Nat) (ks : List Tr), stksF E pr ctx alone L deep l b p = .ok ks → (∀ y ∈ l, IsNd y) → ks.length = l.length ∧ ∀ y ∈ ks, y.kd = 17 → 0 < y.kids.length := by
 intro l; induction l with
 | nil => intro b p ks h _; rw [stksF] at h; cases h; exact ⟨rfl, fun y hy => by cases hy⟩
 | cons x r ih =>
  intro b p ks h hn; rw [stksF] at h; cases h1 : (if x.kd = 6 then blF E pr (joinF ctx (b.getD 0)) false L (deep + 1) x p else exF E L ctx alone x p) with
  | bad c q => rw [h1] at h; cases h
  | ok y =>
   rw [h1] at h; simp only [Rz.bind] at h; cases h2 : stksF E pr ctx alone L deep r (some (b.getD y.lab)) (p + szF x) with
   | bad c q => rw [h2] at h; cases h
   | ok ys =>
    rw [h2] at h; cases h
    obtain ⟨e1, e2⟩ := ih _ _ _ h2 (fun z hz => hn z (List.mem_cons_of_mem _ hz)); refine ⟨by rw [List.length_cons, List.length_cons, e1], fun z hz hk => ?_⟩
    rcases List.mem_cons.1 hz with rfl | hz
    ·split at h1
     ·rename_i h6
      have := bl_kid h1; omega
     ·obtain ⟨e3, e4⟩ := ex_kid h1
      rw [e4]; exact item_kid (hn x (List.mem_cons_self ..)) (by rw [← e3]; exact hk)
    ·exact e2 z hz hk
def FlowI (z0 : Value) (F : List Value → World → Prop) : List Value → World → Prop
 | [], u => F [] u
 | v :: r, u => v = z0 ∧ F r u
theorem FlowI.ext {w0 : World} {z : Int} {ls : List Int} {n : Nat} {z0 : Value} {vs : List Value} {u : World} (h : FlowI z0 (FlowF w0 z ls n) vs u) : Ext w0 u := by
 match vs, h with
 | [], h => exact h
 | _ :: _, h => exact h.2.ext
theorem head_in {ks : List Tr} (h : 0 < ks.length) {P : Tr → Prop} (hP : ∀ y ∈ ks, P y) : P (ks.headD default) := by
 rw [head_at h]; exact hP _ (List.getElem_mem h)
theorem tail_at {l : List Tr} (h : 1 < l.length) : l.tail.headD default = l[1] := by
 match l, h with
 | _ :: _ :: _, _ => rfl
theorem lists_ne {a b : ByteArray} (h : a ≠ b) : (a.toList == b.toList) = false := by rw [ByteArray.toList_eq, ByteArray.toList_eq]; simpa using fun e => h (ByteArray.ext (Array.toList_inj.1 e))
theorem any_take {α : Type} {l : List α} {e : Nat} (h : e < l.length) {P : α → Bool} : (l.take (e + 1)).any P = ((l.take e).any P || P l[e]) := by
 rw [List.take_succ_eq_append_getElem h, List.any_append]; simp
theorem any_at {α : Type} {l : List α} {e : Nat} (h : e < l.length) {P : α → Bool} : P l[e] = true → l.any P = true := fun hp => List.any_eq_true.2 ⟨_, List.getElem_mem h, hp⟩
variable {W u0 u u' : World} {C Mo D K P B Nb X : Nat} {E : CEnv} {vl0 vl : Value} {L : List Loc} {deep : Int} {at_ : Nat} {bod fac : Value} {dc pc : Array Value} {pr : FProc} {nc : Array Value}
theorem sb_fin {k m : Int} {r : CRef} {p0 p1 p2 p3 p4 p5 : Value} {ctx : Int} {row : Value} {ks : List Tr} (h : SB W u0 u C Mo D K P B Nb X E vl0 vl L deep (at_ : Nat) bod fac dc pc pr nc (fun rv => trC k m rv r p0 p1 p2 p3 p4 p5 0 ctx) row row ks) (hr : RefOk r) : LcPost W u0 C Mo D K P B E vl0 deep at_ bod fac dc pr k (.ok (.mk k m ks r 0 ctx, L)) (.returned (.pointer (some ⟨X, 0, none⟩))) u := by
 have h1 := h.h0; have h2 := h.hNX
 have ho := growx_own h.grow; refine ⟨h.chg, X, vl, pc, rfl, by omega, h.cs, h.pc, tr_made2 (B := u0.heap.size) h.x h.grow (by omega) hr (fun i e => by rcases h.fresh i e with f | f <;> omega) h.apart, fun i e => ?_, rfl⟩
 rcases h.fresh i e with f | f
 ·exact .inl f.1
 ·exact .inr (by omega)
theorem sb_bad {rN row : Value} {xc : Value → Array Value} {ks : List Tr} {at2 : Int} {c : Int} {p : Nat} {kd : Int} (h : SB W u0 u C Mo D K P B Nb X E vl0 vl L deep at2 bod fac dc pc pr nc xc rN row ks) : LcPost W u0 C Mo D K P B E vl0 deep at_ bod fac dc pr kd (.bad c p) (.panicked (firstC c (p : Nat))) u := ⟨h.chg, rfl⟩
theorem row_at {w : World} {Y : Nat → Bool} {B : Nat} {row : Value} {ks : List Tr} (h : GrowX Y 1 219 OTr B w row ks) (hp : 0 < ks.length) : ∃ rb ro c, row = .slice (some ⟨rb, ro, none⟩) ks.length c ∧ rb < w.heap.size ∧ ∀ (j : Nat) (h : j < ks.length), ∃ g a2 c2 p0 p1 p2 p3 p4 p5, w.cell? ⟨rb, ro + j, none⟩ = some (.pointer (some ⟨g, 0, none⟩)) ∧ g < w.heap.size ∧ TrAt w ks[j] (.pointer (some ⟨g, 0, none⟩)) ∧ (∀ i, i < 16 → w.cell? ⟨g, i, none⟩ = (trC ks[j].kd ks[j].nm (.slice a2 ks[j].kids.length c2) ks[j].ref p0 p1 p2 p3 p4 p5 ks[j].lab ks[j].ctx)[i]?) := by
 obtain ⟨a, c, e, -, -, h3⟩ := growx_row h tr_keeps tr_lies; have h3 := h3.keeps (keeps_bare _ _) (trIn_keeps (keeps_bare _ _)); obtain ⟨rb, ro, rfl, hb, -⟩ := h3 0 hp; refine ⟨rb, ro, c, e, hb, fun j hj => ?_⟩
 obtain ⟨rb2, ro2, e2, -, u, hu, ht⟩ := h3 j hj; cases e2
 obtain ⟨g, a2, c2, p0, p1, p2, p3, p4, p5, rfl, hg, hc, -⟩ := tr_cells ht; exact ⟨g, a2, c2, p0, p1, p2, p3, p4, p5, by simpa using hu, hg, ht, hc⟩
end chk
end Go.Proofs.YtpcihajmcejliacGreatDoor
