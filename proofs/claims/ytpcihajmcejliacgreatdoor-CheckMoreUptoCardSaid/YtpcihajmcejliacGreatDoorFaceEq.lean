/- The walk of the program's Look: all declarations of a text. The walks of chapter 4's small functions: what a label is; a text's place in a list; whether two rows, two procedures are one. The walks of slices.Equal, as the faces' comparisons use it: of rows of numbers, of rows of variables. -/
import Derived.Test.YtpcihajmcejliacGreatDoorOfD
import Derived.Test.YtpcihajmcejliacGreatDoorChkV
import Derived.Test.YtpcihajmcejliacGreatDoorOfS
namespace Go.Proofs.YtpcihajmcejliacGreatDoor
open Go.RowKit
namespace oflk
open synw ofp ofmap
theorem nd_avoid {w : World} {M : Nat → Bool} (hM : ∀ b o s, M b = true → w.cell? ⟨b, o, none⟩ ≠ some (.string s)) : ∀ x v, NdAt w x v → NdAt (hide M w) x v := by
 refine nd_ind fun k t m l ih v h => ?_
 rw [ndAt_mk] at h ⊢; obtain ⟨a, c, e, h1, h2, h3, h4⟩ := h; refine ⟨a, c, e, h1, h2, h3, fun j hj => ?_⟩
 obtain ⟨b, o, ea, hb, u, hu, hs, hc⟩ := h4 j hj; obtain ⟨ku, tu, mu, au, nu, cu, rfl⟩ := nd_form hu
 have hMb : M b = false := by
  cases hq : M b with
  | false => rfl
  | true => exact absurd ((hc 1 (by decide)).trans rfl) (hM b _ tu hq)
 refine ⟨b, o, ea, by rw [hide_size]; exact hb, _, ih _ (List.getElem_mem hj) _ hu, hs, fun i hi => ?_⟩
 rw [hide_cell M w _ hMb]; exact hc i hi
def LookPost (w : World) (R : FFace × List ByteArray × Int × Int) (x : Nd) (e : Ending) (w' : World) : Prop :=
 Ext w w' ∧ ∃ vp, e = .returned (.tuple #[vp, .agg #[.int .i64 R.2.2.1, .int .i64 R.2.2.2]]) ∧ (R.2.2.1 = 0 → ∃ D a1 c1 a2 c2 a3 c3 d3 d4 d5 d6 d8, vp = .pointer (some ⟨D, 0, none⟩) ∧ NdAt (hide (below w.heap.size) w') x (.agg #[d3, d4, d5, d6]) ∧ ((varsF x.kids).length ≤ c1 ∧ c1 ≤ maxLen ∧ (procsF x.kids).length ≤ c2 ∧ c2 ≤ maxLen) ∧
  Blk w' D #[.string x.tx, .slice a1 (varsF x.kids).length c1, .slice a2 (procsF x.kids).length c2, d3, d4, d5, d6, .slice a3 (impsF x.kids).length c3, d8] 128 ∧
  AllIn 4 VarIn (hide (below w.heap.size) w') a1 (varsF x.kids) ∧ AllIn 6 ProcIn (hide (below w.heap.size) w') a2 (procsF x.kids) ∧ RowAt 1 StrIn (impsF x.kids) (.slice a3 (impsF x.kids).length c3) (hide (below w.heap.size) w') ∧ (varsF x.kids).length ≤ 1000 ∧ (procsF x.kids).length ≤ 1000 ∧ x.tx.size ≤ 10000 ∧ ∀ y ∈ x.kids, y.tx.size ≤ 10000)
theorem nd_small {w : World} {x : Nd} {v : Value} (h : NdAt w x v) : x.tx.size ≤ 10000 ∧ ∀ y ∈ x.kids, y.tx.size ≤ 10000 := by
 obtain ⟨k, t, m, l⟩ := x; rw [ndAt_mk] at h; obtain ⟨a, c, e, h1, h2, h3, h4⟩ := h; refine ⟨h3, fun y hy => ?_⟩
 obtain ⟨j, hj, rfl⟩ := List.getElem_of_mem (show y ∈ l from hy); obtain ⟨b, o, ea, hb, u, hu, hs, hc⟩ := h4 j hj; generalize l[j] = y at hu; obtain ⟨k2, t2, m2, l2⟩ := y; rw [ndAt_mk] at hu; obtain ⟨a2, c2, e2, g1, g2, g3, g4⟩ := hu; exact g3
theorem look_imp {m : ByteArray} {x : Nd} {r : List Nd} {I L : List (List UInt8)} {p : Nat} (hk : x.kd = 2) : lookF m (x :: r) I L p = if I.contains x.key = true then (5, p) else if x.tx = m then (5, p) else if 5 ≤ I.length then (1, p) else lookF m r (I ++ [x.key]) L (p + szF x) := by
 rw [lookF, if_pos hk]
theorem look_oth {m : ByteArray} {x : Nd} {r : List Nd} {I L : List (List UInt8)} {p : Nat} (hk : x.kd ≠ 2) : lookF m (x :: r) I L p = if L.contains x.key = true then (5, p) else if 20 ≤ L.length then (1, p) else if (declF x p).1 = 0 then lookF m r I (L ++ [x.key]) (p + szF x) else declF x p := by
 rw [lookF, if_neg hk]
theorem szF_imp {x : Nd} (h : ImpOk x) : szF x = 1 := by
 obtain ⟨k, t, m, l⟩ := x; have e : l = [] := h.kids; subst e; rfl
theorem len_le_szL (l : List Nd) : l.length ≤ szL l := by
 induction l with
 | nil => exact Nat.le_refl _
 | cons x r ih => have := sz_pos x; simp only [List.length_cons, szL]; omega
theorem post_dead {w u w' : World} {Q : FFace × List ByteArray × Int × Int} {x : Nd} {LF : Int × Nat} {fa : FFace} {ia : List ByteArray} {c : Int} {p : Nat} {R F : Nat} (hQ : (if LF.1 = 0 then (fa, ia, (0 : Int), (0 : Int)) else (noFace, [], LF.1, (LF.2 : Int))) = Q) (hF : LF = (c, p)) (hc : c ≠ 0) (hE : Ext w u) (hC : Chg (fun i => i = R ∨ i = F) u w') (hR : w.heap.size = R) (hRF : R < F) : LookPost w Q x (.returned (.tuple #[.pointer none, .agg #[.int .i64 c, .int .i64 (p : Nat)]])) w' := by
 subst hF; rw [if_neg hc] at hQ; subst hQ; exact ⟨hE.trans hC (fun i hi e => by omega), _, rfl, fun h => absurd h hc⟩
def ImpF (P : List (ByteArray × Int) → World → Prop) (A A2 : List (ByteArray × Int)) : List Value → World → Prop
 | [], u => P A u
 | _ :: _, u => P A2 u
theorem ImpF.any {P : List (ByteArray × Int) → World → Prop} {A A2 : List (ByteArray × Int)} {vs : List Value} {u : World} (h : ImpF P A A2 vs u) : ∃ X, P X u := by
 match vs, h with
 | [], h => exact ⟨_, h⟩
 | _ :: _, h => exact ⟨_, h⟩
theorem look_name {m : ByteArray} {x : Nd} {r : List Nd} {I : List (List UInt8)} {L : List (ByteArray × Int)} {p : Nat} (hk : x.kd ≠ 2) : lookF m (x :: r) I (keysF L) p = if (nameF L x p).1 = 0 then lookF m r I (keysF L ++ [x.key]) (p + szF x) else nameF L x p := by
 rw [look_oth hk]; unfold nameF; have e : (keysF L).length = L.length := by simp [keysF]
 rw [e]; by_cases h1 : (keysF L).contains x.key = true
 ·rw [if_pos h1, if_pos h1, if_neg (show ¬ (5 : Int) = 0 by decide)]
 ·rw [if_neg h1, if_neg h1]
  by_cases h2 : 20 ≤ L.length
  ·rw [if_pos h2, if_pos h2, if_neg (show ¬ (1 : Int) = 0 by decide)]
  ·rw [if_neg h2, if_neg h2]
theorem name_len {x : Nd} {L : List (ByteArray × Int)} {p : Nat} (h : (nameF L x p).1 = 0) : L.length < 20 := by
 unfold nameF at h; by_cases h1 : (keysF L).contains x.key = true
 ·rw [if_pos h1] at h; cases h
 ·rw [if_neg h1] at h
  by_cases h2 : 20 ≤ L.length
  ·rw [if_pos h2] at h; cases h
  ·omega
theorem keys_one (L : List (ByteArray × Int)) (x : Nd) (p : Int) : keysF (L ++ [(x.tx, p)]) = keysF L ++ [x.key] := by simp [keysF, Nd.key]
theorem vars_take {l : List Nd} {q : Nat} (h : q < l.length) : varsF (l.take (q + 1)) = varsF (l.take q) ++ (if isVar l[q] = true then [varOf l[q]] else []) := by
 rw [List.take_succ_eq_append_getElem h]; simp only [varsF, List.filter_append, List.map_append]; congr 1
 cases hv : isVar l[q] <;> simp [List.filter, hv]
theorem procs_take {l : List Nd} {q : Nat} (h : q < l.length) : procsF (l.take (q + 1)) = procsF (l.take q) ++ (if isProc l[q] = true then [procOf l[q]] else []) := by
 rw [List.take_succ_eq_append_getElem h]; simp only [procsF, List.filter_append, List.map_append]; congr 1
 cases hv : isProc l[q] <;> simp [List.filter, hv]
theorem imps_take {l : List Nd} {q : Nat} (h : q < l.length) : impsF (l.take (q + 1)) = impsF (l.take q) ++ (if isImp l[q] = true then [l[q].tx] else []) := by
 rw [List.take_succ_eq_append_getElem h]; simp only [impsF, List.filter_append, List.map_append]; congr 1
 cases hv : isImp l[q] <;> simp [List.filter, hv]
theorem vars_len (l : List Nd) (q : Nat) : (varsF (l.take q)).length ≤ q := by
 have h2 : (varsF (l.take q)).length ≤ (l.take q).length := by rw [varsF, List.length_map]; exact List.length_filter_le _ _
 have h3 := List.length_take_le q l; omega
theorem procs_len (l : List Nd) (q : Nat) : (procsF (l.take q)).length ≤ q := by
 have h2 : (procsF (l.take q)).length ≤ (l.take q).length := by rw [procsF, List.length_map]; exact List.length_filter_le _ _
 have h3 := List.length_take_le q l; omega
theorem look_good {w w0 wr u : World} {R F D Mn Ma B : Nat} {t0 : ByteArray} {n0 n1 n2 n3 rv rp ri : Value} {x : Nd} {L A : List (ByteArray × Int)} {fa : FFace} {ia : List ByteArray} (hD : DS w0 wr D Mn Ma B t0 n0 n1 n2 n3 rv rp ri rv rp ri (varsF x.kids) (procsF x.kids) (impsF x.kids) L A) (ht : x.tx = t0) (hC : Chg (fun i => i = R ∨ i = F) wr u) (hRF : R < F) (hFD : F < D) (hw : Ext w w0) (hwR : w.heap.size = R) (hlen : x.kids.length ≤ 1000) (hsm : x.tx.size ≤ 10000 ∧ ∀ y ∈ x.kids, y.tx.size ≤ 10000) (hnd : NdAt (hide (below w.heap.size) u) x (.agg #[n0, n1, n2, n3])) :
  LookPost w (fa, ia, 0, 0) x (.returned (.tuple #[.pointer (some ⟨D, 0, none⟩), .agg #[.int .i64 0, .int .i64 0]])) u := by
 have hdB := hD.dDB; have hblk := hD.d; obtain ⟨a1, c1, e1, p1, p2, p3⟩ := hD.rows.gv.row var_keeps var_lies; obtain ⟨a2, c2, e2, r1, r2, r3⟩ := growx_row hD.rows.gp proc_keeps proc_lies; obtain ⟨a3, c3, e3, q1, q2, q3⟩ := hD.rows.gi.row str_keeps str_lies; have hwB : w.heap.size ≤ B := by have := hw.size; have := hD.hD; omega
 have hK : Keeps (hide (below B) wr) (hide (below w.heap.size) u) := (keeps_chg (M := below B) hC (fun i hi e => by unfold below; rw [decide_eq_true_eq]; omega)).trans (keeps_hide (Nat.le_refl _) fun i hi hm => ⟨by simp [below] at hm ⊢; omega, rfl⟩); have hv := vars_len x.kids x.kids.length; have hp := procs_len x.kids x.kids.length; rw [List.take_length] at hv hp; rw [e1, e2, e3] at hblk; refine ⟨(hw.ext hD.ext).trans hC (fun i hi e => by omega), _, rfl, fun _ => ⟨D, a1, c1, a2, c2, a3, c3, _, _, _, _, _, rfl, hnd, ⟨p1, p2, r1, r2⟩, by rw [ht]; exact hblk.chg hC (by omega), p3.keeps hK fun b o y => VarIn.keeps hK, r3.keeps hK fun b o y => ProcIn.keeps hK, ⟨a3, c3, rfl, q1, q2, q3.keeps hK fun b o y h => ⟨hK.2 _ _ h.1, h.2⟩⟩, by omega, by omega, hsm⟩⟩
theorem keys_snoc (L : List (ByteArray × Int)) (x : ByteArray) (v : Int) : keysF (L ++ [(x, v)]) = keysF L ++ [x.data.toList] := by simp [keysF]
set_option maxRecDepth 100000 in
set_option maxHeartbeats 8000000 in
theorem look_any (s : ByteArray) (w : World) (hs : s.size ≤ 9223372036854775807) (hv : ErrVar w) (hm : MaxVar w) :
  Calls Tryz.prog 54 #[.string s] w (LookPost w (ofR s) (parseR s).1) := by
 obtain ⟨Q, hQ⟩ : ∃ Q, ofR s = Q := ⟨_, rfl⟩; rw [hQ]; unfold ofR at hQ; have hwf := ofd.parse_wf s; obtain ⟨R, hR⟩ : ∃ R, w.heap.size = R := ⟨_, rfl⟩; obtain ⟨F, hF⟩ : ∃ F, R + 1 = F := ⟨_, rfl⟩; have hR0 := (Blk.made w #[.pointer none] 122).alloc (.cells #[.int .i64 0, .int .i64 0] 27); have hF0 := Blk.made2 w (.cells #[.pointer none] 122) #[.int .i64 0, .int .i64 0] 27; rw [hR] at hR0 hF0; rw [hF] at hF0; have hX0 := ((Chg.refl (fun _ => False) w).alloc (.cells #[.pointer none] 122)).alloc (.cells #[.int .i64 0, .int .i64 0] 27); have HC := Z_ (parse_anyX s _ hs (hv.ext hX0) (hm.ext hX0)); have hz0 : ((w.alloc (.cells #[.pointer none] 122)).alloc (.cells #[.int .i64 0, .int .i64 0] 27)).heap.size = F + 1 := by simp; omega
 unfold ParsePostX at HC; rw [hz0] at HC; obtain ⟨T, hT⟩ : ∃ T, parseR s = T := ⟨_, rfl⟩; rw [hT] at hQ hwf HC ⊢; obtain ⟨x, c, a⟩ := T; simp only at hQ hwf ⊢; have HQ := Z_ hQ; have HWF := Z_ hwf; have hRF : R < F := by omega
 have HR0 := Z_ hR0; have HF0 := Z_ hF0; have HX0 := Z_ hX0; have hmf : ∀ (fn : Fn) (first cap : Array Value) (w : World), (Instr.makeFunc fn first cap).run Tryz.prog w = .ok (.func fn first cap) w := fun _ _ _ _ => rfl
 have hmk := @run_makeMap Tryz.prog; clear hT hQ hR0 hF0 hX0 hwf hv hm; go_enter_defers Tryz.func54, Tryz.ntmps54
 go_upto_region 1 with (fail)
 try rw [hF]
 generalize (w.alloc (.cells #[.pointer none] 122)).alloc (.cells #[.int .i64 0, .int .i64 0] 27) = u0 at *; go_wp2_with fail
 refine HC.out.mono ?_
 rintro e w1 ⟨hE1, v1, rfl, hn1x⟩; have hn1 := ndAt_keeps (keeps_bare _ _) _ _ hn1x; have hR1 := HR0.out.ext hE1; have hF1 := HF0.out.ext hE1; have hX1 := HX0.out.ext hE1
 have hnd1 := nd_avoid (M := fun i => decide (i = R) || decide (i = F)) (fun b o s hb => by
  simp only [Bool.or_eq_true, decide_eq_true_eq] at hb; rcases hb with rfl | rfl
  ·rw [hR1.cell]; match o with
   | 0 => simp
   | o + 1 => simp
  ·rw [hF1.cell]; match o with
   | 0 => simp
   | 1 => simp
   | o + 2 => simp) _ _ hn1
 obtain ⟨k0, t0, n0, a0, l0, c0, rfl⟩ := nd_form hn1; have HNX1 := Z_ hn1x; have HND1 := Z_ hnd1; have HR1 := Z_ hR1; have HF1 := Z_ hF1; have HX1 := Z_ hX1; have hFl := hF1.lt; clear hn1 hn1x hnd1 hR1 hF1 hX1 hE1 HC HR0 HF0 HX0; have hf1 := HF1.out.cell; have hff1 := HF1.out.frozen; go_upto_region 2 with (fail)
 have hEN := (Chg.refl (fun i => i = F) w1).setCell (p := ⟨F, 0, none⟩) (fun _ => rfl) (.int .i64 c); have hEN2 := (hEN.setCell (p := ⟨F, 1, none⟩) (fun _ => rfl) (.int .i64 a)).alloc (.cells #[.int .i64 k0, .string t0, .int .i64 n0, .slice a0 l0 c0] 24); have HRB := Z_ (HR1.out.chg hEN2 (by omega)); have HFB := Z_ (((HF1.out.set 0 (.int .i64 c)).set 1 (.int .i64 a)).alloc (.cells #[.int .i64 k0, .string t0, .int .i64 n0, .slice a0 l0 c0] 24)); have HNB := Z_ (Blk.made ((w1.setCell ⟨F, 0, none⟩ (.int .i64 c)).setCell ⟨F, 1, none⟩ (.int .i64 a)) #[.int .i64 k0, .string t0, .int .i64 n0, .slice a0 l0 c0] 24); have HXB := Z_ (HX1.out.trans hEN2 (fun i hi e => by omega)); have HND := Z_ (ndAt_keeps (keeps_chg (M := fun i => decide (i = R) || decide (i = F)) hEN2 fun i _ e => by simp [e]) _ _ HND1.out); have HNX := Z_ (ndAt_keeps (keeps_chg (M := below (F + 1)) hEN2 fun i _ e => by subst e; simp [below]) _ _ HNX1.out)
 clear HNX1; obtain ⟨N0, hN0⟩ : ∃ N0, ((w1.setCell ⟨F, 0, none⟩ (.int .i64 c)).setCell ⟨F, 1, none⟩ (.int .i64 a)).heap.size = N0 := ⟨_, rfl⟩; have hNw : w1.heap.size = N0 := by rw [← hN0]; simp
 rw [hN0] at HNB; rw [hNw] at hFl ⊢; clear hEN hEN2 hf1 hff1 HR1 HF1 HX1 HND1 hN0 hNw; generalize ((w1.setCell ⟨F, 0, none⟩ (.int .i64 c)).setCell ⟨F, 1, none⟩ (.int .i64 a)).alloc (.cells #[.int .i64 k0, .string t0, .int .i64 n0, .slice a0 l0 c0] 24) = u1 at *; have hf := HFB.out.cell; by_cases hc0 : c = 0
 ·subst hc0
  obtain ⟨hdk, hsz, ha0⟩ := HWF.out rfl; have ha00 : a = 0 := ha0; subst ha00; have hq := HQ.out; rw [if_pos rfl] at hq; have HQ2 := Z_ hq; obtain ⟨kx, tx, nx, l⟩ := x; have HSM := Z_ (nd_small HND.out); have hnd := HND.out; rw [ndAt_mk] at hnd; obtain ⟨a9, c9, e9, hl1, hl2, hl3, hl4⟩ := hnd; cases e9
  obtain ⟨N, hN⟩ : ∃ N, l.length = N := ⟨_, rfl⟩; rw [hN] at HNB hl1; have hszl : szL l ≤ 499 := by have h : szL l + 1 ≤ 500 := hsz; omega
  have HDK := Z_ (show ∀ y ∈ l, DeclOk y from hdk); have HN := Z_ hN; have HI := Z_ (fun (u : World) (hE : Ext u1 u) => hl4.keeps (keeps_chg (M := fun i => decide (i = R) || decide (i = F)) hE fun i _ e => e.elim) fun b o y => ndIn_keeps (keeps_chg hE fun i _ e => e.elim) b o y); have HHF := Z_ (fun (i : Nat) (h : (decide (i = R) || decide (i = F)) = false) => h); rw [hN]; have hl0 : lookF t0 l [] [] 1 = lookF t0 l [] [] 1 := rfl; obtain ⟨LF, hLF⟩ : ∃ LF, lookF t0 l [] [] 1 = LF := ⟨_, rfl⟩; have hlo := ofd.look_ok t0 l [] [] 1; rw [hLF] at hlo; have HLO := Z_ hlo; have HLF := Z_ hLF; have HQ3 := Z_ (show (if LF.1 = 0 then (faceF false (.mk k0 t0 n0 l), impsF l, (0 : Int), (0 : Int)) else (noFace, [], LF.1, (LF.2 : Int))) = Q by rw [← hLF]; exact HQ2.out); have HL3 := Z_ hl3; have HNE := HNX; rw [hN] at HNE; clear HNX; clear hq HQ HQ2 HWF hdk hN hl4 hlo hLF hl0 ha0 HND hsz
  have HNU := Z_ (fun (u : World) (hE : Chg (fun i => i = R ∨ i = F) u1 u) => ndAt_keeps (keeps_hide (M' := below R) (Nat.le_refl _) fun i hi hm => ⟨by simp [below] at hm ⊢; omega, rfl⟩) _ _ (ndAt_keeps (keeps_chg (M := below (F + 1)) hE fun i _ e => by rcases e with e | e <;> (subst e; simp [below]; try omega)) _ _ HNE.out)); clear HNE; have hr1 := HRB.out.cell; have hrf1 := HRB.out.frozen; have hrl1 := HRB.out.lt; have hn1 := HNB.out.cell; have hnl1 := HNB.out.lt; go_upto_region 6 with (fail)
  obtain ⟨Ma, hMa⟩ : ∃ Ma, u1.heap.size = Ma := ⟨_, rfl⟩; obtain ⟨D, hD⟩ : ∃ D, Ma + 1 = D := ⟨_, rfl⟩; rw [hMa] at hrl1 hnl1
  try rw [hMa]
  try rw [hD]
  obtain ⟨w0, hw0⟩ : ∃ w0, u1.setCell ⟨R, 0, none⟩ (.pointer (some ⟨D, 0, none⟩)) = w0 := ⟨_, rfl⟩; rw [hw0]; have hC0 : Chg (fun i => i = R) u1 w0 := by rw [← hw0]; exact chg_set (Chg.refl _ _) 0 _
  have hsz0 : w0.heap.size = Ma := by rw [← hw0, ← hMa]; simp
  have HR0 := Z_ (show Blk w0 R #[.pointer (some ⟨D, 0, none⟩)] 122 from by rw [← hw0]; have := HRB.out.set 0 (.pointer (some ⟨D, 0, none⟩)); exact this); have HF0 := Z_ (show Blk w0 F #[.int .i64 0, .int .i64 0] 27 from HFB.out.chg hC0 (by omega)); have HN0 := Z_ (HNB.out.chg hC0 (by have := HNB.out.lt; have := hFl; omega)); have HX0 := Z_ (HXB.out.trans hC0 (fun i hi e => by omega)); have HNV := Z_ (fun (u : World) (hE : Chg (fun i => i = R ∨ i = F) w0 u) => HNU.out u ((hC0.weak fun _ _ e => .inl e).then hE)); clear HNU; have HI0 := Z_ (fun (u : World) (hE : Ext w0 u) => (HI.out u1 (Chg.refl _ _)).keeps (keeps_chg (M := fun i => decide (i = R) || decide (i = F)) (hC0.then (hE.weak fun _ _ h => h.elim)) fun i _ e => by simp [e]) fun b o y => ndIn_keeps (keeps_chg (M := fun i => decide (i = R) || decide (i = F)) (hC0.then (hE.weak fun _ _ h => h.elim)) fun i _ e => by simp [e]) b o y)
  have hDA := Blk.made (w0.alloc (.map #[] 0)) #[.string ⟨#[]⟩, .slice none 0 0, .slice none 0 0, .int .i64 k0, .string t0, .int .i64 n0, .slice a0 N c0, .slice none 0 0, .map (some Ma)] 128; rw [show (w0.alloc (.map #[] 0)).heap.size = D by simp [hsz0, hD]] at hDA; have hAM := WMap.made w0; rw [hsz0] at hAM; have hEA : Ext w0 ((w0.alloc (.map #[] 0)).alloc (.cells #[.string ⟨#[]⟩, .slice none 0 0, .slice none 0 0, .int .i64 k0, .string t0, .int .i64 n0, .slice a0 N c0, .slice none 0 0, .map (some Ma)] 128)) := ((Chg.refl _ _).alloc _).alloc _; have hAM2 := hAM.chg ((Chg.refl (fun _ => False) (w0.alloc (.map #[] 0))).alloc (.cells #[.string ⟨#[]⟩, .slice none 0 0, .slice none 0 0, .int .i64 k0, .string t0, .int .i64 n0, .slice a0 N c0, .slice none 0 0, .map (some Ma)] 128)) id; have hszA : ((w0.alloc (.map #[] 0)).alloc (.cells #[.string ⟨#[]⟩, .slice none 0 0, .slice none 0 0, .int .i64 k0, .string t0, .int .i64 n0, .slice a0 N c0, .slice none 0 0, .map (some Ma)] 128)).heap.size = Ma + 2 := by simp [hsz0]
  clear hr1 hrf1 hrl1 hn1 hf HI HRB HFB HNB HXB hw0 hAM hMa; generalize (w0.alloc (.map #[] 0)).alloc (.cells #[.string ⟨#[]⟩, .slice none 0 0, .slice none 0 0, .int .i64 k0, .string t0, .int .i64 n0, .slice a0 N c0, .slice none 0 0, .map (some Ma)] 128) = uA at *; have HDA := Z_ hDA; have HAM := Z_ hAM2; have HEA := Z_ hEA; have HSA := Z_ hszA; clear hDA hAM2 hEA hszA; have hr := (HR0.out.ext HEA.out).cell; have hn := (HN0.out.ext HEA.out).cell; have hd := HDA.out.cell; have hdf := HDA.out.frozen; have hdl := HDA.out.lt; go_upto_region 8 with (fail)
  obtain ⟨Mn, hMn⟩ : ∃ Mn, uA.heap.size = Mn := ⟨_, rfl⟩; have hCD := chg_set (S := D) (Chg.refl _ uA) 0 (.string t0); have hEB := hCD.alloc (.map #[] 0); have hNM := WMap.made (uA.setCell ⟨D, 0, none⟩ (.string t0)); rw [show (uA.setCell ⟨D, 0, none⟩ (.string t0)).heap.size = Mn by rw [← hMn]; simp] at hNM; have hDB : Blk ((uA.setCell ⟨D, 0, none⟩ (.string t0)).alloc (.map #[] 0)) D #[.string t0, .slice none 0 0, .slice none 0 0, .int .i64 k0, .string t0, .int .i64 n0, .slice a0 N c0, .slice none 0 0, .map (some Ma)] 128 := by have := (HDA.out.set 0 (.string t0)).alloc (.map #[] 0); exact this
  have hsA := HSA.out; obtain ⟨B, hB⟩ : ∃ B, Mn + 1 = B := ⟨_, rfl⟩
  have hDS : DS w0 ((uA.setCell ⟨D, 0, none⟩ (.string t0)).alloc (.map #[] 0)) D Mn Ma B t0 (.int .i64 k0) (.string t0) (.int .i64 n0) (.slice a0 N c0) (.slice none 0 0) (.slice none 0 0) (.slice none 0 0) (.slice none 0 0) (.slice none 0 0) (.slice none 0 0) [] [] [] [] [] :=
   ⟨HEA.out.trans hEB (fun i hi e => by omega), hDB, hNM, HAM.out.chg hEB (by omega), Three.nil _ _, by omega, by omega, by omega, by omega, by omega, by omega, by omega, by omega, by omega, by simp; omega⟩
  have HDS := Z_ hDS
  try rw [hMn]
  clear hr hn hd hdf hdl hCD hEB hNM hDB hDS HDA HAM HEA HSA; generalize (uA.setCell ⟨D, 0, none⟩ (.string t0)).alloc (.map #[] 0) = uB at *; have hn := (HN0.out.ext HDS.out.ext).cell; have hNm : N ≤ 9223372036854775807 := by have h1 := hl1; have h2 := hl2; unfold maxLen at h2; omega
  clear hl1 hl2 hmk; go_wp2_with fail
  go_loopw [6, 35] (fun p i wr => ∃ (q pn : Nat) (rv rp ri : Value) (L A : List (ByteArray × Int)), q ≤ N ∧ p = .int .i64 (pn : Nat) ∧ i = .int .i64 (q : Nat) ∧ Hid (lookF t0 (l.drop q) (keysF A) (keysF L) pn = LF) ∧ Hid (DS w0 wr D Mn Ma B t0 (.int .i64 k0) (.string t0) (.int .i64 n0) (.slice a0 N c0) rv rp ri rv rp ri (varsF (l.take q)) (procsF (l.take q)) (impsF (l.take q)) L A) ∧ A.length ≤ 5 ∧ L.length ≤ 20 ∧ A.length = (impsF (l.take q)).length ∧ Hid (pn + szL (l.drop q) ≤ 1000)) (fun _ i _ => N - (intOf i).toNat)
  case atStart => exact ⟨0, 1, .slice none 0 0, .slice none 0 0, .slice none 0 0, [], [], Nat.zero_le _, rfl, rfl, HLF, HDS, Nat.zero_le _, Nat.zero_le _, rfl, Z_ (by show 1 + szL l ≤ 1000; omega)⟩
  clear HDS HLF hn
  case round =>
   obtain ⟨q, pn, rv, rp, ri, L, A, hq, rfl, rfl, HT, HDS, hAl, hLl, hAI, HZ⟩ := hrel; by_cases hlt : q < N
   ·have hqi : (q : Int) < (N : Int) := by omega
    have hqd : decide ((q : Int) < (N : Int)) = true := by simpa using hqi
    have hql : q < l.length := by rw [HN.out]; exact hlt
    obtain ⟨b, o, rfl, hb, u, hu, hus, hcl⟩ := HI0.out w0 (Chg.refl _ _) q hql; rw [hide_size] at hb; have hbl := Nat.lt_of_lt_of_le hb HDS.out.ext.size; have hy := HDK.out l[q] (List.getElem_mem hql); have hT := HT.out; rw [List.drop_eq_getElem_cons hql] at hT; have hZ := HZ.out; rw [szL_drop hql] at hZ; have HVT := Z_ (vars_take hql); have HPT := Z_ (procs_take hql); have HIT := Z_ (imps_take hql); have HU := Z_ hu; generalize l[q] = y at hy hT hZ HU hu HVT HPT HIT; obtain ⟨k1, t1, n1, l1⟩ := y; rw [ndAt_mk] at hu; obtain ⟨a1, c1, rfl, h11, h12, h13, h14⟩ := hu; have q0 : wr.cell? ⟨b, o + q * 4, none⟩ = some (.int .i64 k1) := (HDS.out.ext.cell (p := ⟨b, o + q * 4, none⟩) hb id).trans ((keeps_bare _ w0).2 _ _ ((hcl 0 (by decide)).trans rfl)); have q1 : wr.cell? ⟨b, o + q * 4 + 1, none⟩ = some (.string t1) := (HDS.out.ext.cell (p := ⟨b, o + q * 4 + 1, none⟩) hb id).trans ((keeps_bare _ w0).2 _ _ ((hcl 1 (by decide)).trans rfl))
    have q2 : wr.cell? ⟨b, o + q * 4 + 2, none⟩ = some (.int .i64 n1) := (HDS.out.ext.cell (p := ⟨b, o + q * 4 + 2, none⟩) hb id).trans ((keeps_bare _ w0).2 _ _ ((hcl 2 (by decide)).trans rfl)); have q3 : wr.cell? ⟨b, o + q * 4 + 3, none⟩ = some (.slice a1 l1.length c1) := (HDS.out.ext.cell (p := ⟨b, o + q * 4 + 3, none⟩) hb id).trans ((keeps_bare _ w0).2 _ _ ((hcl 3 (by decide)).trans rfl)); obtain ⟨N1, hN1⟩ : ∃ N1, l1.length = N1 := ⟨_, rfl⟩; rw [hN1] at q3 h11 HU; have HN1 := Z_ hN1; have HDX := Z_ (HDS.out.extend ((Chg.refl (fun _ => False) wr).alloc (.cells #[.int .i64 k1, .string t1, .int .i64 n1, .slice a1 N1 c1] 24))); have HK := Z_ (Blk.made wr #[.int .i64 k1, .string t1, .int .i64 n1, .slice a1 N1 c1] 24); have HU1 := Z_ (fun (u : World) (hE : Ext w0 u) => ndAt_keeps (keeps_chg (M := fun i => decide (i = R) || decide (i = F)) hE fun i _ e => e.elim) _ _ HU.out)
    obtain ⟨K, hK⟩ : ∃ K, wr.heap.size = K := ⟨_, rfl⟩; have HOWN := Z_ (fun i e => (grow_own HDS.out.rows.gi i e).2); have HOWV := Z_ (fun i e => (grow_own HDS.out.rows.gv i e).2); have HOWP := Z_ (fun i e => (growx_own HDS.out.rows.gp i e).2); rw [hK] at HK HOWN HOWV HOWP; have hBK : B ≤ K := by have := HDS.out.hu; omega
    have HZ1 := Z_ hZ; clear hcl hus h14 HU HT HZ hZ hN1; go_upto_region 12 with (fail)
    clear q0 q1 q2 q3 HDS
    try rw [hK]
    generalize wr.alloc (.cells #[.int .i64 k1, .string t1, .int .i64 n1, .slice a1 N1 c1] 24) = u1 at *; have hk := HK.out.cell; have hbig : K < u1.heap.size := HK.out.lt; have hr := (HR0.out.ext HDX.out.ext).cell; have hd := HDX.out.d.cell; have hn := (HN0.out.ext HDX.out.ext).cell; have hrl := (HR0.out.ext HDX.out.ext).lt; by_cases hki : k1 = 2
    ·subst hki
     have hT2 := hT; rw [look_imp (by rfl)] at hT2
     have himp : ImpOk (.mk 2 t1 n1 l1) := by
      rcases hy with h | h | h
      ·exact h
      ·exact absurd h.kd (by show ¬ (2 : Int) = 3; decide)
      ·exact absurd h.kd (by show ¬ (2 : Int) = 4; decide)
     have hs1 := szF_imp himp; rw [hs1] at hT2 HZ1; have HS1 := Z_ hs1; have HT := Z_ hT2; clear hT hT2 hy himp hs1; obtain ⟨Bq, hBq⟩ : ∃ Bq, (assF A t1).isSome = Bq := ⟨_, rfl⟩; have hlook := fun n => (HDX.out.am.drewN n).look (s := t1) (by unfold maxLen; omega)
     rw [hBq] at hlook; have HBQ := Z_ ((ass_keys A t1).symm.trans hBq); generalize (assF A t1).getD 0 = ca at *; go_upto_region 13 with (fail)
     go_quiet (fail)
     have hnq := (Chg.refl (fun _ => False) u1).drewN nq; replace HDX := Z_ (HDX.out.extend hnq); replace HK := Z_ (HK.out.ext hnq); have hbig2 := HK.out.lt; clear hlook hr hd hn hk hrl hbig hnq; generalize u1.drewN nq = u2 at *; have hr := (HR0.out.ext HDX.out.ext).cell; have hd := HDX.out.d.cell; have hn := (HN0.out.ext HDX.out.ext).cell; have hk := HK.out.cell; cases Bq with
     | true =>
      have HT9 := Z_ (show LF = (5, pn) from (by have h := HT.out; rw [if_pos (show (keysF A).contains (Nd.mk 2 t1 n1 l1).key = true from HBQ.out)] at h; exact h.symm)); clear hBq; go_wp2_with fail
      refine (must_no 5 (pn : Nat) _).mono ?_
      rintro e w2 ⟨rfl, rfl⟩; have hRu := HR0.out.ext HDX.out.ext; have hFu := HF0.out.ext HDX.out.ext; have hXu := HX0.out.ext HDX.out.ext; go_wp2_with fail
      refine leaves_cons (f := 111) (args := #[.pointer (some ⟨R, 0, none⟩), .pointer (some ⟨F, 0, none⟩)]) (by simp) (by simp [go_sem]) ?_
      refine (ofc.catch_look R F _ _ _ 5 (pn : Nat) _ hRu hFu (by omega)).mono ?_
      rintro e u' w'' ⟨rfl, rfl, hRz, hFz, hCz⟩; exact ⟨_, results_pc rfl _ _ rfl hRz Tryz.underlying122 rfl rfl hFz Tryz.underlying27 rfl (by kernel_rfl), post_dead HQ3.out HT9.out (by decide) hXu hCz hR hRF⟩
     | false =>
      have hT2 := HT.out; rw [if_neg (by rw [show (keysF A).contains (Nd.mk 2 t1 n1 l1).key = false from HBQ.out]; exact Bool.false_ne_true)] at hT2; have HT := Z_ hT2
      have hnone : assF A t1 = none := by cases hq : assF A t1 with
       | none => rfl
       | some c => rw [hq] at hBq; cases hBq
      clear hT2 hBq; by_cases htt : t1 = t0
      ·have h3 : (t1.toList == t0.toList) = true := by rw [htt]; simp
       have HTT := Z_ htt; clear htt; have HT9 := Z_ (show LF = (5, pn) from (by have h := HT.out; rw [if_pos (show (Nd.mk 2 t1 n1 l1).tx = t0 from HTT.out)] at h; exact h.symm)); go_wp2_with fail
       refine (must_no 5 (pn : Nat) _).mono ?_
       rintro e w2 ⟨rfl, rfl⟩; have hRu := HR0.out.ext HDX.out.ext; have hFu := HF0.out.ext HDX.out.ext; have hXu := HX0.out.ext HDX.out.ext; go_wp2_with fail
       refine leaves_cons (f := 111) (args := #[.pointer (some ⟨R, 0, none⟩), .pointer (some ⟨F, 0, none⟩)]) (by simp) (by simp [go_sem]) ?_
       refine (ofc.catch_look R F _ _ _ 5 (pn : Nat) _ hRu hFu (by omega)).mono ?_
       rintro e u' w'' ⟨rfl, rfl, hRz, hFz, hCz⟩; exact ⟨_, results_pc rfl _ _ rfl hRz Tryz.underlying122 rfl rfl hFz Tryz.underlying27 rfl (by kernel_rfl), post_dead HQ3.out HT9.out (by decide) hXu hCz hR hRF⟩
      ·have h3 : (t1.toList == t0.toList) = false := by rw [ByteArray.toList_eq, ByteArray.toList_eq]; simpa using fun e => htt (ByteArray.ext (Array.toList_inj.1 e))
       have hT2 := HT.out; rw [if_neg (show ¬ (Nd.mk 2 t1 n1 l1).tx = t0 from htt)] at hT2; have HT := Z_ hT2; clear hT2 htt; go_wp2_with fail
       refine (must_yes 5 (pn : Nat) _).mono ?_
       rintro e w2 ⟨rfl, rfl⟩; obtain ⟨ra, rc, hrow, -, -⟩ := grow_slice HDX.out.rows.gi; subst hrow; by_cases h5 : 5 ≤ (impsF (l.take q)).length
       ·have h5i : ¬ ((impsF (l.take q)).length : Int) < 5 := by omega
        have h5d : decide (((impsF (l.take q)).length : Int) < 5) = false := by simpa using h5i
        have h5n : decide ((impsF (l.take q)).length < 5) = false := by simpa using h5
        have HT9 := Z_ (show LF = (1, pn) from (by have h := HT.out; rw [if_pos (show 5 ≤ (keysF A).length by unfold keysF; rw [List.length_map, hAI]; exact h5)] at h; exact h.symm)); go_wp2_with fail
        refine (must_no 1 (pn : Nat) _).mono ?_
        rintro e w2 ⟨rfl, rfl⟩; have hRu := HR0.out.ext HDX.out.ext; have hFu := HF0.out.ext HDX.out.ext; have hXu := HX0.out.ext HDX.out.ext; go_wp2_with fail
        refine leaves_cons (f := 111) (args := #[.pointer (some ⟨R, 0, none⟩), .pointer (some ⟨F, 0, none⟩)]) (by simp) (by simp [go_sem]) ?_
        refine (ofc.catch_look R F _ _ _ 1 (pn : Nat) _ hRu hFu (by omega)).mono ?_
        rintro e u' w'' ⟨rfl, rfl, hRz, hFz, hCz⟩; exact ⟨_, results_pc rfl _ _ rfl hRz Tryz.underlying122 rfl rfl hFz Tryz.underlying27 rfl (by kernel_rfl), post_dead HQ3.out HT9.out (by decide) hXu hCz hR hRF⟩
       ·have h5i : ((impsF (l.take q)).length : Int) < 5 := by omega
        have h5d : decide (((impsF (l.take q)).length : Int) < 5) = true := by simpa using h5i
        have h5n : decide ((impsF (l.take q)).length < 5) = true := by simp; omega
        have hT2 := HT.out; rw [if_neg (show ¬ 5 ≤ (keysF A).length by unfold keysF; rw [List.length_map, hAI]; exact h5)] at hT2; have HT := Z_ hT2; clear hT2; go_wp2_with fail
        refine (must_yes 1 (pn : Nat) _).mono ?_
        rintro e w2 ⟨rfl, rfl⟩; clear hr hd hn hk; go_upto_region 16 with (fail)
        have HAI := Z_ hAI; have HH5 := Z_ h5; clear h3 h5i h5d h5n h5 hqd hqi hAI hmf hsz0 hMn hsA hR hD hB; refine wp_region_weave [7] (fun i v _ => v = ([.pointer (some ⟨D, 0, none⟩), .pointer (some ⟨D, 0, none⟩), .pointer (some ⟨D, 8, none⟩), .map (some Ma), .pointer (some ⟨K, 1, none⟩), .string t1, .int .i64 (pn : Nat), undef] : List Value).getD i undef) (ImpF (fun A u => DS w0 u D Mn Ma B t0 (.int .i64 k0) (.string t0) (.int .i64 n0) (.slice (some ⟨b, o, none⟩) N c0) rv rp (.slice ra (impsF (l.take q)).length rc) rv rp (.slice ra (impsF (l.take q)).length rc) (varsF (l.take q)) (procsF (l.take q)) (impsF (l.take q)) L A ∧ Blk u K #[.int .i64 2, .string t1, .int .i64 n1, .slice a1 N1 c1] 24) A (A ++ [(t1, (pn : Int))])) (fun _ _ => True) (frame := ?fram) (fun x => ?hfam) synw.mixed (by kernel_rfl) (by kernel_rfl) (fun _ _ _ _ h _ => h) ?h0m ?stm ?finm
        case hfam =>
         simp only [chain.frameOf, chain.fill, chain.setOpt, chain.dstOf, List.size_toArray, List.length_cons, List.length_nil, List.getElem?_toArray, List.getElem?_cons_succ, List.getElem?_cons_zero, List.setIfInBounds_toArray, List.set_cons_succ, List.set_cons_zero]; exact rfl
        case h0m => exact ⟨HDX.out.extend (Chg.refl _ _).drew, HK.out.ext (Chg.refl _ _).drew⟩
        case stm =>
         refine AllFrom.cons (fun x vs u hF hm hb hd K' hK' => ?sm0) (AllFrom.cons (fun x vs u hF hm hb hd K' hK' => ?sm1) (AllFrom.cons (fun x vs u hF hm hb hd K' hK' => ?sm2) (AllFrom.cons (fun x vs u hF hm hb hd K' hK' => ?sm3) (AllFrom.cons (fun x vs u hF hm hb hd K' hK' => ?sm4) (AllFrom.cons (fun x vs u hF hm hb hd K' hK' => ?sm5) (AllFrom.cons (fun x vs u hF hm hb hd K' hK' => ?sm6) (AllFrom.cons (fun x vs u hF hm hb hd K' hK' => ?sm7) (AllFrom.nil))))))))
         case sm0 =>
          obtain ⟨A9, hA9, hK9⟩ := ImpF.any hF; have hr := (HR0.out.ext hA9.ext).cell; clear hA9 hK9; have HF := Z_ hF; clear hd hm hb hF; go_simp; exact hK'.out _ _ _ (rfl) trivial ⟨rfl, HF.out⟩
         case sm1 =>
          have y0 := hd 0 (by decide) (by kernel_rfl); replace y0 : x 71 = .pointer (some ⟨D, 0, none⟩) := y0; have HF := Z_ hF; clear hd hm hb hF; go_simp; exact hK'.out _ _ _ (by simp only [y0]; rfl) trivial ⟨rfl, HF.out⟩
         case sm2 =>
          have y0 := hd 1 (by decide) (by kernel_rfl); replace y0 : x 72 = .pointer (some ⟨D, 0, none⟩) := y0; have HF := Z_ hF; clear hd hm hb hF; go_simp; exact hK'.out _ _ _ (by simp only [y0]; rfl) trivial ⟨rfl, HF.out⟩
         case sm3 =>
          obtain ⟨A9, hA9, hK9⟩ := ImpF.any hF; have hdc : u.cell? ⟨D, 8, none⟩ = some (.map (some Ma)) := (hA9.d.cell 8).trans rfl; clear hA9 hK9; have y0 := hd 2 (by decide) (by kernel_rfl); replace y0 : x 73 = .pointer (some ⟨D, 8, none⟩) := y0; have HF := Z_ hF; clear hd hm hb hF; go_simp; exact hK'.out _ _ _ (by simp only [y0]; rfl) trivial ⟨rfl, HF.out⟩
         case sm4 =>
          have HF := Z_ hF; clear hd hm hb hF; go_simp; exact hK'.out _ _ _ (rfl) trivial ⟨rfl, HF.out⟩
         case sm5 =>
          obtain ⟨A9, hA9, hK9⟩ := ImpF.any hF; have hk := hK9.cell; clear hA9 hK9; have y0 := hd 4 (by decide) (by kernel_rfl); replace y0 : x 75 = .pointer (some ⟨K, 1, none⟩) := y0; have HF := Z_ hF; clear hd hm hb hF; go_simp; exact hK'.out _ _ _ (by simp only [y0]; rfl) trivial ⟨rfl, HF.out⟩
         case sm6 =>
          have HF := Z_ hF; clear hd hm hb hF; go_simp; exact hK'.out _ _ _ (rfl) trivial ⟨rfl, HF.out⟩
         case sm7 =>
          obtain rfl := List.eq_nil_of_length_eq_zero (hm 0 (by kernel_rfl)); have y0 := hd 3 (by decide) (by kernel_rfl); replace y0 : x 74 = .map (some Ma) := y0; have y1 := hd 5 (by decide) (by kernel_rfl); replace y1 : x 76 = .string t1 := y1; have y2 := hd 6 (by decide) (by kernel_rfl); replace y2 : x 77 = .int .i64 (pn : Nat) := y2; have hpn : pn ≤ 1000 := by have := HZ1.out; omega
          have hF0 := (show _ ∧ _ from hF); obtain ⟨hFD, hFK⟩ := hF0; obtain ⟨w9, hput, hM2, hg2⟩ := hFD.am.put (x := t1) (v := (pn : Nat)) hnone (by unfold maxLen; omega) (by unfold maxLen; omega) (by omega) (by omega); have HD7 := Z_ (hFD.imp hg2 hM2); have HK7 := Z_ (hFK.chg (grown_at hg2) (by have := hFD.maB; omega)); clear hd hm hb hF hM2 hg2 hFD hFK; go_simp; exact hK'.out _ _ undef (by simp only [y0, y1, y2]; rfl) trivial ⟨HD7.out, HK7.out⟩
        case finm =>
         intro x vs w9 hl hF hk9; obtain ⟨v0, rfl⟩ : ∃ v0, vs = [v0] := by match vs, hl with | [v0], _ => exact ⟨_, rfl⟩
         clear hk9 hl; obtain ⟨hFD, hFK⟩ := (show _ ∧ _ from hF); have HD2 := Z_ hFD; have HK2 := Z_ hFK; clear hF hFD hFK HDX HK; go_upto_region 17 with (fail)
         refine wp_region_weave [7, 8, 11] (fun i v _ => v = ([.pointer (some ⟨D, 0, none⟩), .pointer (some ⟨D, 0, none⟩), .pointer (some ⟨D, 0, none⟩), .pointer (some ⟨D, 7, none⟩), .slice ra (impsF (l.take q)).length rc, .pointer (some ⟨K, 1, none⟩), .string t1, undef, undef, .pointer (some ⟨D, 0, none⟩), .pointer (some ⟨D, 7, none⟩), undef] : List Value).getD i undef) (ofp.PushX (fun u rN r lq => DS w0 u D Mn Ma B t0 (.int .i64 k0) (.string t0) (.int .i64 n0) (.slice (some ⟨b, o, none⟩) N c0) rv rp rN rv rp r (varsF (l.take q)) (procsF (l.take q)) lq L (A ++ [(t1, (pn : Int))]) ∧ Blk u K #[.int .i64 2, .string t1, .int .i64 n1, .slice a1 N1 c1] 24) (fun _ => false) OStr (B) 9 (.slice ra (impsF (l.take q)).length rc) (impsF (l.take q)) t1 (.string t1)) (fun _ _ => True) (frame := ?frai) (fun x => ?hfai) synw.mixed (by kernel_rfl) (by kernel_rfl) (fun _ _ _ _ h _ => h) ?h0i ?sti ?fini
         case hfai =>
          simp only [chain.frameOf, chain.fill, chain.setOpt, chain.dstOf, List.size_toArray, List.length_cons, List.length_nil, List.getElem?_toArray, List.getElem?_cons_succ, List.getElem?_cons_zero, List.setIfInBounds_toArray, List.set_cons_succ, List.set_cons_zero]; exact rfl
         case h0i => exact ⟨⟨HD2.out.extend (Chg.refl _ _).drew, HK2.out.ext (Chg.refl _ _).drew⟩, rfl, h13⟩
         case sti =>
          refine AllFrom.cons (fun x vs u hF hm hb hd K' hK' => ?si0) (AllFrom.cons (fun x vs u hF hm hb hd K' hK' => ?si1) (AllFrom.cons (fun x vs u hF hm hb hd K' hK' => ?si2) (AllFrom.cons (fun x vs u hF hm hb hd K' hK' => ?si3) (AllFrom.cons (fun x vs u hF hm hb hd K' hK' => ?si4) (AllFrom.cons (fun x vs u hF hm hb hd K' hK' => ?si5) (AllFrom.cons (fun x vs u hF hm hb hd K' hK' => ?si6) (AllFrom.cons (fun x vs u hF hm hb hd K' hK' => ?si7) (AllFrom.cons (fun x vs u hF hm hb hd K' hK' => ?si8) (AllFrom.cons (fun x vs u hF hm hb hd K' hK' => ?si9) (AllFrom.cons (fun x vs u hF hm hb hd K' hK' => ?si10) (AllFrom.cons (fun x vs u hF hm hb hd K' hK' => ?si11) (AllFrom.nil))))))))))))
          case si0 =>
           obtain ⟨_, _, _, hBA⟩ := ofp.PushX.any hF; have hr := (HR0.out.ext hBA.1.ext).cell; clear hBA; have HF := Z_ hF; clear hd hm hb hF; go_simp; exact hK'.out _ _ _ (rfl) trivial ⟨rfl, HF.out⟩
          case si1 =>
           obtain ⟨_, _, _, hBA⟩ := ofp.PushX.any hF; have hr := (HR0.out.ext hBA.1.ext).cell; clear hBA; have HF := Z_ hF; clear hd hm hb hF; go_simp; exact hK'.out _ _ _ (rfl) trivial ⟨rfl, HF.out⟩
          case si2 =>
           have y0 := hd 1 (by decide) (by kernel_rfl); replace y0 : x 79 = .pointer (some ⟨D, 0, none⟩) := y0; have HF := Z_ hF; clear hd hm hb hF; go_simp; exact hK'.out _ _ _ (by simp only [y0]; rfl) trivial ⟨rfl, HF.out⟩
          case si3 =>
           have y0 := hd 2 (by decide) (by kernel_rfl); replace y0 : x 80 = .pointer (some ⟨D, 0, none⟩) := y0; have HF := Z_ hF; clear hd hm hb hF; go_simp; exact hK'.out _ _ _ (by simp only [y0]; rfl) trivial ⟨rfl, HF.out⟩
          case si4 =>
           have hBA := ofp.PushX.B hF (by have := hb 1 _ (by decide) rfl (by kernel_rfl); omega); have hc : u.cell? ⟨D, 7, none⟩ = some (.slice ra (impsF (l.take q)).length rc) := (hBA.1.d.cell 7).trans rfl; clear hBA; have y0 := hd 3 (by decide) (by kernel_rfl); replace y0 : x 81 = .pointer (some ⟨D, 7, none⟩) := y0; have HF := Z_ hF; clear hd hm hb hF; go_simp; exact hK'.out _ _ _ (by simp only [y0]; rfl) trivial ⟨rfl, HF.out⟩
          case si5 =>
           have HF := Z_ hF; clear hd hm hb hF; go_simp; exact hK'.out _ _ _ (rfl) trivial ⟨rfl, HF.out⟩
          case si6 =>
           have hBA := ofp.PushX.B hF (by have := hb 0 _ (by decide) rfl (by kernel_rfl); omega); have hc := hBA.2.cell; clear hBA; have y0 := hd 5 (by decide) (by kernel_rfl); replace y0 : x 83 = .pointer (some ⟨K, 1, none⟩) := y0; have HF := Z_ hF; clear hd hm hb hF; go_simp; exact hK'.out _ _ _ (by simp only [y0]; rfl) trivial ⟨rfl, HF.out⟩
          case si7 =>
           obtain rfl := List.eq_nil_of_length_eq_zero (hm 0 (by kernel_rfl)); have y0 := hd 6 (by decide) (by kernel_rfl); replace y0 : x 84 = .string t1 := y0; have hBB := hF.1; have HG := Z_ (ofp.growx_own (grow_x hBB.1.rows.gi str_any (fun _ => false))); have HF := Z_ hF; clear hd hm hb hF hBB; go_simp; exact hK'.out _ _ _ (by simp only [y0]; rfl) trivial (ofp.pushx_slice ofp.str_keeps (fun u' hE => ⟨HF.out.1.1.extend hE, HF.out.1.2.ext hE⟩) (fun i e => (HG.out i e).2) HF.out rfl)
          case si8 =>
           obtain ⟨v0, rfl⟩ : ∃ v0, vs = [v0] := by match vs, hm 1 (by kernel_rfl) with | [v0], _ => exact ⟨_, rfl⟩
           have y0 := hd 4 (by decide) (by kernel_rfl); replace y0 : x 82 = .slice ra (impsF (l.take q)).length rc := y0; have y1 := hd 7 (by decide) (by kernel_rfl) 85 (by kernel_rfl); replace y1 : x 85 = v0 := y1; have hF2 := hF; obtain ⟨hBB, hxx, gg, rfl, hgb, hgr⟩ := hF2; obtain ⟨us, hu1, ho, hu3⟩ := (grow_x hBB.1.rows.gi str_any (fun _ => false)).ex; obtain ⟨i0_, hi_, hz0, hz1, hz2⟩ := synw.info_split ofp.info_str; have hbz : B ≤ u.heap.size := by exact hBB.1.hu
           refine wp_append_lies _ _ _ 39 rfl (B) 9 i0_ (.string ⟨#[]⟩) 1 16 Tryz.underlying39 hi_ hz0 hz1 hz2 rfl (by decide) (.slice ra (impsF (l.take q)).length rc) (impsF (l.take q)).length (us.flatMap fun u => u.cells.toList) y0 ho ⟨gg, 0, none⟩ 1 1 [.string t1] y1 rfl ?_ (by intro z_ hz_; simp only [List.mem_cons, List.not_mem_nil, or_false] at hz_; rcases hz_ with rfl <;> rfl) (by decide) (by unfold maxLen; have := HH5.out; omega) (by have := HH5.out; omega) hbz u.heap.size rfl ?_
           ·intro j q hj; have e : (⟨gg, 0, none⟩ : Addr).add j = ⟨gg, j, none⟩ := (by unfold Addr.add; split <;> simp_all); rw [e, hgb.cell]; simpa [Value.cells] using hj
           ·intro g9 c9 w9 ho9 hg9 ha9 hl9
            exact hK'.out _ _ _ rfl trivial (ofp.pushx_append ofp.str_keeps hF hu1 hu3 rfl (fun r acc1 hG hC ha => ⟨hBB.1.turn hC (fun i e => (grow_own hBB.1.rows.gi i e).1) (hBB.1.rows.pushI (x_grow hG str_any) hC ha), hBB.2.chg hC (fun e => by have := HOWN.out _ e; omega)⟩) ho9 hg9 ha9)
          case si9 =>
           have y0 := hd 0 (by decide) (by kernel_rfl); replace y0 : x 78 = .pointer (some ⟨D, 0, none⟩) := y0; have HF := Z_ hF; clear hd hm hb hF; go_simp; exact hK'.out _ _ _ (by simp only [y0]; rfl) trivial ⟨rfl, HF.out⟩
          case si10 =>
           have y0 := hd 9 (by decide) (by kernel_rfl); replace y0 : x 87 = .pointer (some ⟨D, 0, none⟩) := y0; have HF := Z_ hF; clear hd hm hb hF; go_simp; exact hK'.out _ _ _ (by simp only [y0]; rfl) trivial ⟨rfl, HF.out⟩
          case si11 =>
           obtain ⟨v0, v1, rfl⟩ : ∃ v0 v1, vs = [v0, v1] := by match vs, hm 2 (by kernel_rfl) with | [v0, v1], _ => exact ⟨_, _, rfl⟩
           have y0 := hd 10 (by decide) (by kernel_rfl); replace y0 : x 88 = .pointer (some ⟨D, 7, none⟩) := y0; have y1 := hd 8 (by decide) (by kernel_rfl) 86 (by kernel_rfl); replace y1 : x 86 = v1 := y1; have hF2 := hF; obtain ⟨hBB, gg, cc, rfl⟩ := hF2; have hc := hBB.1.d.cell 7; have hf := hBB.1.d.frozen 7; have hl := hBB.1.d.lt; simp at hc
           have HF := Z_ hF; clear hd hm hb hF hBB; go_simp; exact hK'.out _ _ undef (by simp only [y0, y1]; rfl) trivial (ofp.pushx_store (z := undef) HF.out (fun h => ⟨h.1.putI, h.2.setOther (p := ⟨D, 7, none⟩) (by have := h.1.dDB; show K ≠ D; omega) _⟩))
         case fini =>
          intro x9 vs9 w9 hl hF hk9; obtain ⟨v0, v1, v2, rfl⟩ : ∃ v0 v1 v2, vs9 = [v0, v1, v2] := by match vs9, hl with | [v0, v1, v2], _ => exact ⟨_, _, _, rfl⟩
          clear hk9 hl; obtain ⟨hFD, hFK⟩ := (show _ ∧ _ from hF); have HD9 := Z_ hFD; have hk := hFK.cell; have hWW := ofw.weight_any (.mk 2 t1 n1 l1) _ w9 _ (HU1.out _ hFD.ext) (by rw [HS1.out]; decide); rw [HS1.out] at hWW; have HWW := Z_ hWW; clear hF hFD hFK hWW; go_wp2_with fail
          refine HWW.out.mono ?_
          rintro e w5 ⟨rfl, hE5⟩; have HD5 := Z_ (HD9.out.extend hE5); clear hE5 hk HWW HD9; have hw1 : IntKind.i64.wrap ((pn : Int) + 1) = ((pn + 1 : Nat) : Int) := by have := HZ1.out; rw [wrap_small _ (by omega) (by omega)]; omega
          have hw3 : IntKind.i64.wrap ((pn : Int) + ((1 : Nat) : Int)) = ((pn + 1 : Nat) : Int) := hw1; go_wp2_with fail
          go_roundw
          case rel =>
           have hv : varsF (l.take (q + 1)) = varsF (l.take q) := by have h := HVT.out; rw [show isVar (Nd.mk 2 t1 n1 l1) = false from rfl] at h; simpa using h
           have hp : procsF (l.take (q + 1)) = procsF (l.take q) := by have h := HPT.out; rw [show isProc (Nd.mk 2 t1 n1 l1) = false from rfl] at h; simpa using h
           have hi : impsF (l.take (q + 1)) = impsF (l.take q) ++ [t1] := by have h := HIT.out; rw [show isImp (Nd.mk 2 t1 n1 l1) = true from rfl, if_pos rfl] at h; exact h
           have h5q := HH5.out; have hai := HAI.out; exact ⟨q + 1, pn + 1, rv, rp, _, L, A ++ [(t1, (pn : Int))], by omega, by first | rfl | go_num, by go_num, Z_ (by rw [keys_snoc]; exact HT.out), by rw [hv, hp, hi]; exact HD5, by simp; omega, hLl, by rw [hi]; simp; omega, Z_ (by have := HZ1.out; omega)⟩
          case measure => simp [intOf]; omega
    ·have hki2 : (k1 == 2) = false := by simpa using hki
     have hT2 := hT; rw [look_name (show (Nd.mk k1 t1 n1 l1).kd ≠ 2 from hki)] at hT2
     have hvp : VarOk (.mk k1 t1 n1 l1) ∨ ProcOk (.mk k1 t1 n1 l1) := by
      rcases hy with h | h
      ·exact absurd h.kd hki
      ·exact h
     have hzz : szF (.mk k1 t1 n1 l1) = szL l1 + 1 := by simp [szF, Nat.add_comm]
     have hpn : pn ≤ 1000 := by have := HZ1.out; omega
     have hkl : (Nd.mk k1 t1 n1 l1).kids.length ≤ 1000 := by have h1 := len_le_szL l1; have := HZ1.out; show l1.length ≤ 1000; omega
     have hvs : (varsF (l.take q)).length ≤ 1000 := by have h1 := vars_len l q; have h2 := len_le_szL l; have := HN.out; omega
     have hps : (procsF (l.take q)).length ≤ 1000 := by have h1 := procs_len l q; have h2 := len_le_szL l; have := HN.out; omega
     have hdc := ofdec.declare_any pn HDX.out (HU1.out w0 (Chg.refl _ _)) hvp hkl hpn hLl hvs hps; have HNL := Z_ (name_len (x := .mk k1 t1 n1 l1) (L := L) (p := pn)); obtain ⟨FX, hFX⟩ : ∃ FX, nameF L (.mk k1 t1 n1 l1) pn = FX := ⟨_, rfl⟩; rw [hFX] at hT2 hdc HNL; have HDC := Z_ hdc; have HT := Z_ hT2; have HVP := Z_ hvp; have HZZ := Z_ hzz; clear hT hT2 hy hvp hzz hkl hvs hps hdc hFX; go_wp2_with fail
     refine HDC.out.mono ?_
     rintro e w2 hpost; clear HDC hk hr hd hn hrl hbig; by_cases hF0 : FX.1 = 0
     ·obtain ⟨rfl, rv2, rp2, hDS2, hC2⟩ := hpost.1 hF0
      have HD2 := Z_ hDS2
      have HK2 := Z_ (HK.out.chg hC2 (fun e => by
       have h1 := HDX.out.dDB; have h2 := HDX.out.mnB
       rcases e with e | e | e | e
       ·omega
       ·omega
       ·have := HOWV.out _ e; omega
       ·have := HOWP.out _ e; omega))
      have hL20 := HNL.out hF0; have HTL := Z_ (show lookF t0 (l.drop (q + 1)) (keysF A) (keysF L ++ [Nd.key (.mk k1 t1 n1 l1)]) (pn + szF (.mk k1 t1 n1 l1)) = LF by have h := HT.out; rw [if_pos hF0] at h; exact h); clear hpost hDS2 hC2 hF0 HT HNL HDX HK; have hk := HK2.out.cell; have hbig := HK2.out.lt; have hWW := ofw.weight_any (.mk k1 t1 n1 l1) _ w2 _ (HU1.out _ HD2.out.ext) (by have := HZ1.out; omega); obtain ⟨z, hz⟩ : ∃ z, szF (.mk k1 t1 n1 l1) = z := ⟨_, rfl⟩; rw [hz] at hWW HZ1 HTL; have HWW := Z_ hWW; clear hz hWW; go_wp2_with fail
      refine HWW.out.mono ?_
      rintro e w5 ⟨rfl, hE5⟩; have HD5 := Z_ (HD2.out.extend hE5); clear hE5 hk HWW HD2; have hw1 : IntKind.i64.wrap ((pn : Int) + (z : Nat)) = ((pn + z : Nat) : Int) := by have := HZ1.out; rw [wrap_small _ (by omega) (by omega)]; omega
      go_wp2_with fail
      go_roundw
      case rel =>
       have hnI : isImp (Nd.mk k1 t1 n1 l1) = false := decide_eq_false hki; have hi : impsF (l.take (q + 1)) = impsF (l.take q) := by have h := HIT.out; rw [hnI] at h; simpa using h
       have hD9 := HD5.out
       have hvp9 : (isVar (Nd.mk k1 t1 n1 l1) = true ∧ isProc (Nd.mk k1 t1 n1 l1) = false) ∨ (isVar (Nd.mk k1 t1 n1 l1) = false ∧ isProc (Nd.mk k1 t1 n1 l1) = true) := by
        rcases HVP.out with h | h
        ·have e : k1 = 3 := h.kd
         subst e; exact .inl ⟨rfl, rfl⟩
        ·have e : k1 = 4 := h.kd
         subst e; exact .inr ⟨rfl, rfl⟩
       have hDS9 : DS w0 w5 D Mn Ma B t0 (.int .i64 k0) (.string t0) (.int .i64 n0) (.slice (some ⟨b, o, none⟩) N c0) rv2 rp2 ri rv2 rp2 ri (varsF (l.take (q + 1))) (procsF (l.take (q + 1))) (impsF (l.take (q + 1))) (L ++ [(t1, (pn : Int))]) A := by
        rcases hvp9 with ⟨h1, h2⟩ | ⟨h1, h2⟩
        ·have hv := HVT.out; have hp := HPT.out
         rw [h1, if_pos rfl] at hv; rw [h2, if_neg Bool.false_ne_true, List.append_nil] at hp; rw [h1, if_pos rfl, if_pos rfl] at hD9; rw [hv, hp, hi]; exact hD9
        ·have hv := HVT.out; have hp := HPT.out
         rw [h1, if_neg Bool.false_ne_true, List.append_nil] at hv; rw [h2, if_pos rfl] at hp; rw [h1, if_neg Bool.false_ne_true, if_neg Bool.false_ne_true] at hD9; rw [hv, hp, hi]; exact hD9
       exact ⟨q + 1, pn + z, rv2, rp2, ri, L ++ [(t1, (pn : Int))], A, by omega, by first | rfl | go_num, by go_num, Z_ (by rw [show keysF (L ++ [(t1, (pn : Int))]) = keysF L ++ [Nd.key (.mk k1 t1 n1 l1)] from keys_one L (.mk k1 t1 n1 l1) pn]; exact HTL.out), Z_ hDS9, hAl, by simp; omega, by rw [hi]; exact hAI, Z_ (by have := HZ1.out; omega)⟩
      case measure => simp [intOf]; omega
     ·obtain ⟨rfl, hE2⟩ := hpost.2 hF0
      have HE2 := Z_ hE2; have HF0N := Z_ hF0; have HTN := Z_ (show LF = (FX.1, FX.2) by have h := HT.out; rw [if_neg hF0] at h; exact h.symm); clear hpost hE2 hF0 HT HDX HK; go_wp2_with fail
      have hRu := HR0.out.ext HE2.out; have hFu := HF0.out.ext HE2.out; have hXu := HX0.out.ext HE2.out; obtain ⟨c9, p9⟩ := FX; have hF9 : c9 ≠ 0 := HF0N.out; refine leaves_cons (f := 111) (args := #[.pointer (some ⟨R, 0, none⟩), .pointer (some ⟨F, 0, none⟩)]) (by simp) (by simp [go_sem]) ?_
      refine (ofc.catch_look R F _ _ _ c9 (p9 : Nat) _ hRu hFu (by omega)).mono ?_
      rintro e u' w'' ⟨rfl, rfl, hRz, hFz, hCz⟩; exact ⟨_, results_pc rfl _ _ rfl hRz Tryz.underlying122 rfl rfl hFz Tryz.underlying27 rfl (by kernel_rfl), post_dead HQ3.out HTN.out hF9 hXu hCz hR hRF⟩
   ·obtain rfl : q = N := by omega
    have hqd : decide ((q : Int) < (q : Int)) = false := by simp
    have hT2 := HT.out; have hDL : l.drop q = [] := by rw [List.drop_eq_nil_iff]; have := HN.out; omega
    rw [hDL] at hT2; have hLF0 : LF = (0, 0) := hT2.symm; have HQ9 := Z_ (show (faceF false (Nd.mk k0 t0 n0 l), impsF l, (0 : Int), (0 : Int)) = Q by have h := HQ3.out; rw [hLF0] at h; exact h); have hTK : l.take q = l := by rw [List.take_of_length_le]; have := HN.out; omega
    have hDE := HDS.out; rw [hTK] at hDE; have HDE := Z_ hDE; have HLE := Z_ (show (Nd.mk k0 t0 n0 l).kids.length ≤ 1000 by have h1 := len_le_szL l; show l.length ≤ 1000; omega); have H3 := Z_ (And.intro (HR0.out.ext HDS.out.ext) (HF0.out.ext HDS.out.ext)); clear hT2 hDL hLF0 hTK hDE; go_upto_region 21 with (fail)
    refine wp_region_weave [2, 3] (fun i v _ => v = ([.pointer (some ⟨D, 0, none⟩), .agg #[.int .i64 0, .int .i64 0], undef, undef] : List Value).getD i undef) (fun _ u => Blk u R #[.pointer (some ⟨D, 0, none⟩)] 122 ∧ Blk u F #[.int .i64 0, .int .i64 0] 27 ∧ Chg (fun i => i = R ∨ i = F) wr u) (fun _ _ => True) (frame := ?frae) (fun x => ?hfae) synw.mixed (by kernel_rfl) (by kernel_rfl) (fun _ _ _ _ h _ => h) ?h0e ?ste ?fine
    case hfae =>
     simp only [chain.frameOf, chain.fill, chain.setOpt, chain.dstOf, List.size_toArray, List.length_cons, List.length_nil, List.getElem?_toArray, List.getElem?_cons_succ, List.getElem?_cons_zero, List.setIfInBounds_toArray, List.set_cons_succ, List.set_cons_zero]; exact rfl
    case h0e => exact ⟨H3.out.1.drew, H3.out.2.drew, (Chg.refl _ _).drew⟩
    case ste =>
     refine AllFrom.cons (fun x vs u hF hm hb hd K' hK' => ?se0) (AllFrom.cons (fun x vs u hF hm hb hd K' hK' => ?se1) (AllFrom.cons (fun x vs u hF hm hb hd K' hK' => ?se2) (AllFrom.cons (fun x vs u hF hm hb hd K' hK' => ?se3) (AllFrom.nil))))
     case se0 =>
      have hc := hF.1.cell; have HF := Z_ hF; clear hd hm hb hF; go_simp; exact hK'.out _ _ _ (rfl) trivial ⟨rfl, HF.out⟩
     case se1 =>
      have hc := hF.2.1.cell; have HF := Z_ hF; clear hd hm hb hF; go_simp; exact hK'.out _ _ _ (rfl) trivial ⟨rfl, HF.out⟩
     case se2 =>
      have y0 := hd 0 (by decide) (by kernel_rfl); replace y0 : x 99 = .pointer (some ⟨D, 0, none⟩) := y0; have hc := hF.1.cell; have hf := hF.1.frozen; have hl := hF.1.lt; have HF := Z_ hF; clear hd hm hb hF; go_simp; exact hK'.out _ _ undef (by simp only [y0]; rfl) trivial ⟨HF.out.1.set 0 _, HF.out.2.1.setOther (p := ⟨R, 0, none⟩) (by show F ≠ R; omega) _, HF.out.2.2.setCell (p := ⟨R, 0, none⟩) (fun _ => .inl rfl) _⟩
     case se3 =>
      have y0 := hd 1 (by decide) (by kernel_rfl); replace y0 : x 100 = .agg #[.int .i64 0, .int .i64 0] := y0; have hc := hF.2.1.cell; have hf := hF.2.1.frozen; have hl := hF.2.1.lt; have HF := Z_ hF; clear hd hm hb hF; go_simp; exact hK'.out _ _ undef (by simp only [y0]; rfl) trivial ⟨(HF.out.1.setOther (p := ⟨F, 0, none⟩) (by show R ≠ F; omega) _).setOther (p := ⟨F, 1, none⟩) (by show R ≠ F; omega) _, (HF.out.2.1.set 0 _).set 1 _, (HF.out.2.2.setCell (p := ⟨F, 0, none⟩) (fun _ => .inr rfl) _).setCell (p := ⟨F, 1, none⟩) (fun _ => .inr rfl) _⟩
    case fine =>
     intro x9 vs9 w9 hl hF hk9; have HP9 := Z_ hF; clear hk9 hl hF; go_wp2_with fail
     refine leaves_cons (f := 111) (args := #[.pointer (some ⟨R, 0, none⟩), .pointer (some ⟨F, 0, none⟩)]) (by simp) (by simp [go_sem]) ?_
     refine (ofc.idle_look R F _).mono ?_
     rintro e u' w'' ⟨rfl, rfl, rfl⟩; exact ⟨_, results_pc rfl _ _ rfl HP9.out.1 Tryz.underlying122 rfl rfl HP9.out.2.1 Tryz.underlying27 rfl (by kernel_rfl), by rw [← HQ9.out]; exact look_good HDE.out rfl HP9.out.2.2 hRF (by omega) HX0.out hR (by have := HLE.out; exact this) HSM.out (by rw [hR]; exact HNV.out _ ((HDE.out.ext.weak fun _ _ e => e.elim).then HP9.out.2.2))⟩
 ·have HQ2 := Z_ (show (noFace, [], c, a) = Q by have h := HQ.out; rw [if_neg hc0] at h; exact h)
  have hcn : (c != 0) = true := by simpa using hc0
  clear HQ; go_upto_region 3 with (fail)
  have hR3 : Blk u1 R #[.pointer none] 122 := HRB.out; have hF3 : Blk u1 F #[.int .i64 c, .int .i64 a] 27 := HFB.out; have hX3 : Ext w u1 := HXB.out; have H3 := Z_ (And.intro hR3 (And.intro hF3 hX3)); clear hR3 hF3 hX3; refine wp_region_weave [1, 2] (fun i v _ => v = ([.agg #[.int .i64 c, .int .i64 a], undef, undef] : List Value).getD i undef) (fun _ u => Blk u R #[.pointer none] 122 ∧ Blk u F #[.int .i64 c, .int .i64 a] 27 ∧ Ext w u) (fun _ _ => True) (frame := ?frac) (fun x => ?hfac) synw.mixed (by kernel_rfl) (by kernel_rfl) (fun _ _ _ _ h _ => h) ?h0c ?stc ?finc
  case hfac =>
   simp only [chain.frameOf, chain.fill, chain.setOpt, chain.dstOf, List.size_toArray, List.length_cons, List.length_nil, List.getElem?_toArray, List.getElem?_cons_succ, List.getElem?_cons_zero, List.setIfInBounds_toArray, List.set_cons_succ, List.set_cons_zero]; exact rfl
  case h0c => exact ⟨H3.out.1.drew, H3.out.2.1.drew, H3.out.2.2.drew⟩
  case stc =>
   refine AllFrom.cons (fun x vs u hF hm hb hd K' hK' => ?sc0) (AllFrom.cons (fun x vs u hF hm hb hd K' hK' => ?sc1) (AllFrom.cons (fun x vs u hF hm hb hd K' hK' => ?sc2) (AllFrom.nil)))
   case sc0 =>
    have hc := hF.2.1.cell; have HF := Z_ hF; clear hd hm hb hF; go_simp; exact hK'.out _ _ _ (rfl) trivial ⟨rfl, HF.out⟩
   case sc1 =>
    have hc := hF.1.cell; have hf := hF.1.frozen; have hl := hF.1.lt; have HF := Z_ hF; clear hd hm hb hF; go_simp; exact hK'.out _ _ undef rfl trivial ⟨HF.out.1.set 0 _, HF.out.2.1.setOther (p := ⟨R, 0, none⟩) (by show F ≠ R; omega) _, HF.out.2.2.setNew (p := ⟨R, 0, none⟩) (by show w.heap.size ≤ R; omega) _⟩
   case sc2 =>
    have y0 := hd 0 (by decide) (by kernel_rfl); replace y0 : x 19 = .agg #[.int .i64 c, .int .i64 a] := y0; have hc := hF.2.1.cell; have hf := hF.2.1.frozen; have hl := hF.2.1.lt; have HF := Z_ hF; clear hd hm hb hF; go_simp; exact hK'.out _ _ undef (by simp only [y0]; rfl) trivial ⟨(HF.out.1.setOther (p := ⟨F, 0, none⟩) (by show R ≠ F; omega) _).setOther (p := ⟨F, 1, none⟩) (by show R ≠ F; omega) _, (HF.out.2.1.set 0 _).set 1 _, (HF.out.2.2.setNew (p := ⟨F, 0, none⟩) (by show w.heap.size ≤ F; omega) _).setNew (p := ⟨F, 1, none⟩) (by show w.heap.size ≤ F; omega) _⟩
  case finc =>
   intro x9 vs9 w9 hl hF hk9; have HP9 := Z_ hF; clear hk9 hl hF; go_wp2_with fail
   exact ⟨_, results_pc rfl _ _ rfl HP9.out.1 Tryz.underlying122 rfl rfl HP9.out.2.1 Tryz.underlying27 rfl (by kernel_rfl), HP9.out.2.2, _, by rw [← HQ2.out], fun h => absurd (by rw [← HQ2.out] at h; exact h) hc0⟩
end oflk
end Go.Proofs.YtpcihajmcejliacGreatDoor
namespace Go.Proofs.YtpcihajmcejliacGreatDoor
open Go.RowKit
namespace face
theorem label_any (n : Int) (w : World) : Calls Tryz.prog 57 #[.int .i64 n] w fun e w' => e = .returned (.bool (labB n)) ∧ w' = w := by
 go_enter Tryz.func57, Tryz.ntmps57
 go_wp2
 all_goals go_ret
 all_goals go_light
 all_goals refine ⟨ret_bool ?_, rfl⟩
 all_goals simp_all [labB]
end face
end Go.Proofs.YtpcihajmcejliacGreatDoor
namespace Go.Proofs.YtpcihajmcejliacGreatDoor
open Go.RowKit
instance : DecidableEq FVar := fun ⟨a, b, c, d⟩ ⟨a', b', c', d'⟩ => decidable_of_iff (a = a' ∧ b = b' ∧ c = c' ∧ d = d') (by simp)
instance : DecidableEq FProc := fun ⟨a, b, c, d, e, f⟩ ⟨a', b', c', d', e', f'⟩ => decidable_of_iff (a = a' ∧ b = b' ∧ c = c' ∧ d = d' ∧ e = e' ∧ f = f') (by simp)
instance : DecidableEq FFace := fun ⟨a, b, c⟩ ⟨a', b', c'⟩ => decidable_of_iff (a = a' ∧ b = b' ∧ c = c') (by simp)
namespace face
end face
end Go.Proofs.YtpcihajmcejliacGreatDoor
