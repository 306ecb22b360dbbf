/- The walk of the program's May: a face. The walk of the law FaceOwn. -/
import Derived.Deep.RegionHeld3
import Derived.StillTailTactics
import Derived.Test.YtpcihajmcejliabGreatDoorChain
import Derived.Test.YtpcihajmcejliabGreatDoorFaceR
namespace Go.Proofs.YtpcihajmcejliabGreatDoor
open Go.RowKit Go.WideMaps Go.Maps
def varN (v : FVar) : Bool := varT v && nameB v.key
def procN (p : FProc) : Bool := procT p && nameB p.key
namespace face
theorem may_eq2 (f : FFace) : mayFaceB f = (f.vars.all varN && f.procs.all procN && (nameB f.modn.data.toList && decide (f.vars.length + f.procs.length ≤ 20) && distinctB f.keys)) := by
 rw [mayFaceB, FFace.keys]
 have e1 : f.vars.all varN = (f.vars.all varT && (f.vars.map FVar.key).all nameB) := by
  induction f.vars with
  | nil => rfl
  | cons x r ih => simp only [List.all_cons, List.map_cons, ih, varN]; cases varT x <;> cases nameB x.key <;> cases r.all varT <;> rfl
 have e2 : f.procs.all procN = (f.procs.all procT && (f.procs.map FProc.key).all nameB) := by
  induction f.procs with
  | nil => rfl
  | cons x r ih => simp only [List.all_cons, List.map_cons, ih, procN]; cases procT x <;> cases nameB x.key <;> cases r.all procT <;> rfl
 rw [e1, e2, List.all_append]; cases f.vars.all varT <;> cases f.procs.all procT <;> cases (f.vars.map FVar.key).all nameB <;> cases (f.procs.map FProc.key).all nameB <;> cases nameB f.modn.data.toList <;> cases decide (f.vars.length + f.procs.length ≤ 20) <;> cases distinctB (f.vars.map FVar.key ++ f.procs.map FProc.key) <;> rfl
theorem keyLaw : Keyed Tryz.prog 9 := string_keyed Tryz.underlying9
theorem zeroInt (w : World) : (zeroValue 3).run Tryz.prog w = .ok (.int .i64 0) w := by kernel_rfl
theorem keys_len (f : FFace) : f.keys.length = f.vars.length + f.procs.length := by simp [FFace.keys]
theorem keys_var (f : FFace) (k : Nat) (h : k < f.vars.length) : f.keys.take (k + 1) = f.keys.take k ++ [f.vars[k].name.data.toList] := by
 have h2 : k < f.keys.length := by rw [keys_len]; omega
 rw [List.take_succ_eq_append_getElem h2]; congr 2
 simp [FFace.keys, FVar.key, h]
theorem keys_proc (f : FFace) (n : Nat) (hn : f.vars.length = n) (j : Nat) (h : j < f.procs.length) : f.keys.take (n + j + 1) = f.keys.take (n + j) ++ [f.procs[j].name.data.toList] := by
 subst hn; have h2 : f.vars.length + j < f.keys.length := by rw [keys_len]; omega
 rw [List.take_succ_eq_append_getElem h2]; congr 2
 simp [FFace.keys, FProc.key]
theorem grown_chg {w w' : World} {b : Nat} (h : w.grownBy w' (some b)) : Chg (fun i => i = b) w w' :=
 ⟨h.os, h.tape, h.output, h.size, fun k hk hn => h.block k hk (fun e => hn (by cases e; rfl))⟩
theorem ext_grown {w w' : World} (h : Ext w w') : w.grownBy w' none :=
 ⟨h.os, h.tape, h.output, h.size, fun k hk _ => h.block k hk id⟩
set_option maxRecDepth 100000 in
set_option maxHeartbeats 8000000 in
theorem may_any (x : FFace) (v : Value) (w : World) (hx : FaceAt w x v) (hsum : x.vars.length + x.procs.length < maxLen) (hev : ErrVar w) (hmv : MaxVar w) :
  Calls Tryz.prog 32 #[v] w fun e w' => e = .returned (.bool (mayFaceB x)) ∧ Ext w w' := by
 have hmm := @run_makeMap Tryz.prog; obtain ⟨a, am, c, cm, rfl, ha, hc, hmod, ha1, ha2, hc1, hc2⟩ := hx; unfold maxLen at ha2 hc2 hmod; rw [may_eq2]; have HLK := Z_ (keys_len x); have HKV := Z_ (keys_var x); have HKP := Z_ (keys_proc x); generalize x.keys = K at *; obtain ⟨xn, xv, xp⟩ := x; simp only at *; have HA := Z_ (And.intro ha hc); obtain ⟨n1, hn1⟩ : ∃ n, xv.length = n := ⟨_, rfl⟩; obtain ⟨n2, hn2⟩ : ∃ n, xp.length = n := ⟨_, rfl⟩; rw [hn1, hn2] at HLK; simp only [hn1, hn2] at ha1 hc1 hsum ⊢; have HKP := Z_ (HKP.out n1 hn1); have H1 := Z_ hn1; have H2 := Z_ hn2; have HNM := Z_ (fun w hev hmv => name.isname_any xn w hmod hev hmv); generalize nameB xn.data.toList = A1 at *; have hB1 : Blk (w.alloc (.cells #[.string xn, .slice a n1 am, .slice c n2 cm] 52)) w.heap.size #[.string xn, .slice a n1 am, .slice c n2 cm] 52 := Blk.made _ _ _
 have hE : Ext w ((w.alloc (.cells #[.string xn, .slice a n1 am, .slice c n2 cm] 52)).alloc (.map #[] 0)) := ((Chg.refl _ _).alloc _).alloc _; have hz : (w.alloc (.cells #[.string xn, .slice a n1 am, .slice c n2 cm] 52)).heap.size = w.heap.size + 1 := by simp
 have hMap := World.ownsMap_made (w.alloc (.cells #[.string xn, .slice a n1 am, .slice c n2 cm] 52)) Tryz.prog 9 (plainElem (H := Unit) Tryz.prog 3); rw [hz] at hMap; have hX := hB1.alloc (.map #[] 0); have hz0 : ((w.alloc (.cells #[.string xn, .slice a n1 am, .slice c n2 cm] 52)).alloc (.map #[] 0)).heap.size = w.heap.size + 2 := by simp
 have HX := Z_ hX; have HE := Z_ hE; have HM := Z_ hMap; have HZ := Z_ hz0; generalize hB : (xv.all varN && xp.all procN && (A1 && decide (n1 + n2 ≤ 20) && distinctB K)) = B; have HF1 := Z_ (fun h : xv.all varN = false => show B = false by rw [← hB, h]; rfl); have HF2 := Z_ (fun h : xp.all procN = false => show B = false by rw [← hB, h]; cases xv.all varN <;> rfl); have HT := Z_ (fun (h : xv.all varN = true) (h2 : xp.all procN = true) => show B = (A1 && decide (n1 + n2 ≤ 20) && distinctB K) by rw [← hB, h, h2]; rfl); clear ha hc hn1 hn2 hB1 hE hz hMap hX hz0 hB; go_enter Tryz.func32, Tryz.ntmps32
 go_wp2_with fail
 generalize (w.alloc (.cells #[.string xn, .slice a n1 am, .slice c n2 cm] 52)).alloc (.map #[] 0) = w0 at *; have hEw := HE.out; have hz0 := HZ.out; have hsum' := hsum; unfold maxLen at hsum'; have HEV := Z_ (fun (w' : World) (h : Ext w w') => hev.ext h); have HMV := Z_ (fun (w' : World) (h : Ext w w') => hmv.ext h); have hM := HM.out; clear hev hmv HM HZ HE; go_loopw [14] (fun i wr => ∃ (k : Nat) (D : DataW Unit), k ≤ n1 ∧ i = .int .i64 k ∧ wr.ownsMap Tryz.prog 9 (plainElem Tryz.prog 3) (w.heap.size + 1) k D ∧ MapOf D (K.take k) ∧ Hid ((xv.take k).all varN = true) ∧ Chg (fun b => b = w.heap.size + 1) w0 wr) (fun i _ => n1 - (intOf i).toNat)
 case atStart => exact ⟨0, _, Nat.zero_le _, rfl, hM, mapOf_nil, by simp [Hid], Chg.refl _ _⟩
 case round =>
  obtain ⟨k, D, hk, rfl, hown, hmo, hrel, hC⟩ := hrel; have HMO := Z_ hmo; clear hM hmo; have hEr : Ext w wr := hEw.trans hC (fun i hi e => by omega); have hzr := hC.size; by_cases hlt : k < n1
  ·have hki : (k : Int) < (n1 : Int) := by omega
   have hlk : k < xv.length := by rw [H1.out]; exact hlt
   obtain ⟨bl, ol, rfl, hbl, cl⟩ := HA.out.1 k hlk; have hbl' := Nat.lt_of_lt_of_le hbl hEr.size; obtain ⟨l0, l1, l2, l3, lz⟩ := VarIn.ext hEr hbl cl; have hs := all_snoc varN xv k hlk; rw [hrel.out, Bool.true_and] at hs; have HBAD := Z_ (fun h => HF1.out (all_bad hlk h)); have HW := Z_ (HKV.out k hlk); clear cl; generalize xv[k] = x at *; obtain ⟨vn, vp, vl, vs⟩ := x; simp only at l0 l1 l2 l3 lz HW; have HS := Z_ hs; have hvt : varN ⟨vn, vp, vl, vs⟩ = (vp && labB vl && decide (0 ≤ vs) && decide (vs ≤ 64) && nameB vn.data.toList) := rfl; have HVN := Z_ (fun w hev hmv => name.isname_any vn w (by unfold maxLen at lz; exact lz) hev hmv); obtain ⟨lb, hlb⟩ : ∃ b, labB vl = b := ⟨_, rfl⟩; obtain ⟨nb, hnb⟩ : ∃ b, nameB vn.data.toList = b := ⟨_, rfl⟩; rw [hlb, hnb] at hvt; rw [hnb] at HVN; have HVT := Z_ hvt; have HLB := Z_ hlb; clear hs hvt hlb hnb hrel; cases vp
   ·have HT2 := Z_ (HBAD.out (by rw [HVT.out]; rfl))
    go_wp2_with fail
    go_ret
    exact ⟨ret_bool HT2.out.symm, hEr.alloc _⟩
   ·cases nb
    ·have HT2 := Z_ (HBAD.out (by rw [HVT.out, Bool.and_false]))
     go_wp2_with fail
     refine (HVN.out _ (HEV.out _ (hEr.alloc _)) (HMV.out _ (hEr.alloc _))).mono ?_
     rintro e w2 ⟨rfl, hE2⟩; have hK := (Blk.made _ _ _).ext hE2; have hKc := hK.cell; have hKl := hK.lt; have hEr2 := (hEr.alloc _).ext hE2; have hC2 := (hC.alloc _).ext hE2; have hown2 := (hown.alloc _).kept (ext_grown hE2) (by simp); clear hown hC hE2 hEr hK; go_wp2_with fail
     go_ret
     exact ⟨ret_bool HT2.out.symm, hEr2⟩
    ·cases lb
     ·have HT2 := Z_ (HBAD.out (by rw [HVT.out]; rfl))
      go_wp2_with fail
      refine (HVN.out _ (HEV.out _ (hEr.alloc _)) (HMV.out _ (hEr.alloc _))).mono ?_
      rintro e w2 ⟨rfl, hE2⟩; have hK := (Blk.made _ _ _).ext hE2; have hKc := hK.cell; have hKl := hK.lt; have hEr2 := (hEr.alloc _).ext hE2; have hC2 := (hC.alloc _).ext hE2; have hown2 := (hown.alloc _).kept (ext_grown hE2) (by simp); clear hown hC hE2 hEr hK; go_wp2_with (go_at_call 103; refine (label_any _ _).mono ?_; rintro e w' ⟨rfl, rfl⟩; rw [HLB.out])
      go_ret
      exact ⟨ret_bool HT2.out.symm, hEr2⟩
     ·by_cases h0 : vs < 0
      ·have HT2 := Z_ (HBAD.out (by rw [HVT.out, decide_eq_false (show ¬ 0 ≤ vs by omega)]; rfl))
       go_wp2_with fail
       refine (HVN.out _ (HEV.out _ (hEr.alloc _)) (HMV.out _ (hEr.alloc _))).mono ?_
       rintro e w2 ⟨rfl, hE2⟩; have hK := (Blk.made _ _ _).ext hE2; have hKc := hK.cell; have hKl := hK.lt; have hEr2 := (hEr.alloc _).ext hE2; have hC2 := (hC.alloc _).ext hE2; have hown2 := (hown.alloc _).kept (ext_grown hE2) (by simp); clear hown hC hE2 hEr hK; go_wp2_with (go_at_call 103; refine (label_any _ _).mono ?_; rintro e w' ⟨rfl, rfl⟩; rw [HLB.out])
       go_ret
       exact ⟨ret_bool HT2.out.symm, hEr2⟩
      ·by_cases h64 : 64 < vs
       ·have HT2 := Z_ (HBAD.out (by rw [HVT.out, decide_eq_false (show ¬ vs ≤ 64 by omega), Bool.and_false]; rfl))
        go_wp2_with fail
        refine (HVN.out _ (HEV.out _ (hEr.alloc _)) (HMV.out _ (hEr.alloc _))).mono ?_
        rintro e w2 ⟨rfl, hE2⟩; have hK := (Blk.made _ _ _).ext hE2; have hKc := hK.cell; have hKl := hK.lt; have hEr2 := (hEr.alloc _).ext hE2; have hC2 := (hC.alloc _).ext hE2; have hown2 := (hown.alloc _).kept (ext_grown hE2) (by simp); clear hown hC hE2 hEr hK; go_wp2_with (go_at_call 103; refine (label_any _ _).mono ?_; rintro e w' ⟨rfl, rfl⟩; rw [HLB.out])
        go_ret
        exact ⟨ret_bool HT2.out.symm, hEr2⟩
       ·have HT2 := Z_ (HS.out.trans (by rw [HVT.out, decide_eq_true (show 0 ≤ vs by omega), decide_eq_true (show vs ≤ 64 by omega)]))
        have hkey := keyOf_string_mk (P := Tryz.prog) (k := 9) Tryz.underlying9 lz; clear HS HBAD HVT; go_wp2_with fail
        refine (HVN.out _ (HEV.out _ (hEr.alloc _)) (HMV.out _ (hEr.alloc _))).mono ?_
        rintro e w2 ⟨rfl, hE2⟩; have hK := (Blk.made _ _ _).ext hE2; have hKc := hK.cell; have hKl := hK.lt; have hEr2 := (hEr.alloc _).ext hE2; have hC2 := (hC.alloc _).ext hE2; have hown2 := (hown.alloc _).kept (ext_grown hE2) (by simp); clear hown hC hE2 hEr hK; have hkm : k < maxLen := by omega
        go_wp2_with (first
          | (at_lookup; refine wpList_lookup_own_int _ rfl _ _ 91 rfl 9 3 .i64 keyLaw Tryz.underlying91 Tryz.underlying3 (zeroInt _) (w.heap.size + 1) (k) D rfl hown2 _ _ rfl hkey ?_; intro cc hat hwc)
          | (at_mapUpdate; refine wpList_mapUpdate_own _ rfl _ _ _ 91 rfl 9 3 keyLaw Tryz.underlying91 _ (w.heap.size + 1) (k) D rfl hown2 (by omega) _ _ _ rfl rfl hkey _ [] (plainElem_int Tryz.underlying3 (wrap64_wf _)) ?_; intro w3 hown3 hgrow3)
          | (go_at_call 103; refine (label_any _ _).mono ?_; rintro e w' ⟨rfl, rfl⟩; rw [HLB.out]))
        have hC3 := hC2.then (grown_chg hgrow3)
        have hmo3 := mapOf_put HMO.out (hown2.tidy keyLaw) vn.data.toList (.lit (.int .i64 (wrap64 (cc + 1)))); rw [← HW.out] at hmo3; clear hgrow3 hown2; go_wp2_with fail
        go_roundw
        case rel => exact ⟨k + 1, _, by omega, by go_num, hown3, hmo3, HT2.out, hC3⟩
        case measure => simp [intOf]; omega
  ·obtain rfl : k = n1 := by omega
   have HVN := Z_ (HT.out (all_whole H1.out hrel.out)); have hX := HX.out.chg hC (by omega); have x2 := hX.cell 2; have hxl := hX.lt; simp at x2
   clear hX hrel HT HF1 HKV; go_wp2_with fail
   clear x2 hxl; go_loopw [52] (fun i wr => ∃ (j : Nat) (D : DataW Unit), j ≤ n2 ∧ i = .int .i64 j ∧ wr.ownsMap Tryz.prog 9 (plainElem Tryz.prog 3) (w.heap.size + 1) (k + j) D ∧ MapOf D (K.take (k + j)) ∧ Hid ((xp.take j).all procN = true) ∧ Chg (fun b => b = w.heap.size + 1) w0 wr) (fun i _ => n2 - (intOf i).toNat)
   case atStart => exact ⟨0, _, Nat.zero_le _, rfl, hown, HMO.out, by simp [Hid], hC⟩
   case round =>
    clear hown hC hEr hzr HMO; obtain ⟨j, D, hj, rfl, hown, hmo, hrel, hC⟩ := hrel; have HMO := Z_ hmo; have hEr : Ext w wr := hEw.trans hC (fun i hi e => by omega); have hzr := hC.size; have HX2 := Z_ (HX.out.chg hC (by omega)); clear hmo; by_cases hlt2 : j < n2
    ·have hki : (j : Int) < (n2 : Int) := by omega
     have hlk : j < xp.length := by rw [H2.out]; exact hlt2
     obtain ⟨bl, ol, rfl, hbl, cl⟩ := HA.out.2 j hlk; have hbl' := Nat.lt_of_lt_of_le hbl hEr.size; obtain ⟨l0, l1, ⟨pa, pc, l2, p1, p2, p3⟩, l3, l4, l5, lz⟩ := ProcIn.ext hEr hbl cl; have hs := all_snoc procN xp j hlk; rw [hrel.out, Bool.true_and] at hs; have HBAD := Z_ (fun h => HF2.out (all_bad hlk h)); have HW := Z_ (HKP.out j hlk); clear cl; generalize xp[j] = x at *; obtain ⟨pn, pp, pl, pw, pg, pv⟩ := x; simp only at l0 l1 l2 l3 l4 l5 lz HW p1 p2; have HS := Z_ hs; have HP1 := Z_ p1; obtain ⟨np, hnp⟩ : ∃ n, pl.length = n := ⟨_, rfl⟩; have hvt : procN ⟨pn, pp, pl, pw, pg, pv⟩ = (pp && decide (pl.length ≤ 5) && labB pw && labB pv && (pg || pv == 0) && pl.all labB && nameB pn.data.toList) := rfl; have HPN := Z_ (fun w hev hmv => name.isname_any pn w (by unfold maxLen at lz; exact lz) hev hmv); rw [hnp] at hvt l2 p2; have HNP := Z_ hnp; obtain ⟨lw, hlw⟩ : ∃ b, labB pw = b := ⟨_, rfl⟩
     obtain ⟨lg, hlg⟩ : ∃ b, labB pv = b := ⟨_, rfl⟩; obtain ⟨nb, hnb⟩ : ∃ b, nameB pn.data.toList = b := ⟨_, rfl⟩; rw [hlw, hlg, hnb] at hvt; rw [hnb] at HPN; have HVT := Z_ hvt; have HLW := Z_ hlw; have HLG := Z_ hlg; clear hs hvt hlw hlg hnb hnp p1 hrel; unfold maxLen at p3; cases pp
     ·have HT2 := Z_ (HBAD.out (by rw [HVT.out]; rfl))
      go_wp2_with fail
      go_ret
      exact ⟨ret_bool HT2.out.symm, hEr.alloc _⟩
     ·cases nb
      ·have HT2 := Z_ (HBAD.out (by rw [HVT.out, Bool.and_false]))
       go_wp2_with fail
       refine (HPN.out _ (HEV.out _ (hEr.alloc _)) (HMV.out _ (hEr.alloc _))).mono ?_
       rintro e w2 ⟨rfl, hE2⟩; have hK := (Blk.made _ _ _).ext hE2; have hKc := hK.cell; have hKl := hK.lt; have hEr2 := (hEr.alloc _).ext hE2; have hC2 := (hC.alloc _).ext hE2; have hown2 := (hown.alloc _).kept (ext_grown hE2) (by simp); have HP2 := Z_ (HP1.out.mono (Nat.le_trans (by simp) hE2.size) (fun b o x hb h => IntIn.ext (((Chg.refl _ _).alloc _).ext hE2) hb h)); clear hown hC hE2 hEr hK; go_wp2_with fail
       go_ret
       exact ⟨ret_bool HT2.out.symm, hEr2⟩
      ·by_cases h5 : 5 < np
       ·have HT2 := Z_ (HBAD.out (by rw [HVT.out, decide_eq_false (show ¬ np ≤ 5 by omega)]; rfl))
        have h5i : (5 : Int) < (np : Int) := by omega
        go_wp2_with fail
        refine (HPN.out _ (HEV.out _ (hEr.alloc _)) (HMV.out _ (hEr.alloc _))).mono ?_
        rintro e w2 ⟨rfl, hE2⟩; have hK := (Blk.made _ _ _).ext hE2; have hKc := hK.cell; have hKl := hK.lt; have hEr2 := (hEr.alloc _).ext hE2; have hC2 := (hC.alloc _).ext hE2; have hown2 := (hown.alloc _).kept (ext_grown hE2) (by simp); have HP2 := Z_ (HP1.out.mono (Nat.le_trans (by simp) hE2.size) (fun b o x hb h => IntIn.ext (((Chg.refl _ _).alloc _).ext hE2) hb h)); clear hown hC hE2 hEr hK; go_wp2_with fail
        go_ret
        exact ⟨ret_bool HT2.out.symm, hEr2⟩
       ·have h5i : ¬ (5 : Int) < (np : Int) := by omega
        have HVT3 := Z_ (HVT.out.trans (by rw [decide_eq_true (show np ≤ 5 by omega)])); clear HVT; cases lw
        ·have HT2 := Z_ (HBAD.out (by rw [HVT3.out]; rfl))
         go_wp2_with fail
         refine (HPN.out _ (HEV.out _ (hEr.alloc _)) (HMV.out _ (hEr.alloc _))).mono ?_
         rintro e w2 ⟨rfl, hE2⟩; have hK := (Blk.made _ _ _).ext hE2; have hKc := hK.cell; have hKl := hK.lt; have hEr2 := (hEr.alloc _).ext hE2; have hC2 := (hC.alloc _).ext hE2; have hown2 := (hown.alloc _).kept (ext_grown hE2) (by simp); have HP2 := Z_ (HP1.out.mono (Nat.le_trans (by simp) hE2.size) (fun b o x hb h => IntIn.ext (((Chg.refl _ _).alloc _).ext hE2) hb h)); clear hown hC hE2 hEr hK; go_wp2_with (go_at_call 103; refine (label_any _ _).mono ?_; rintro e w' ⟨rfl, rfl⟩; first | rw [HLW.out] | rw [HLG.out])
         go_ret
         exact ⟨ret_bool HT2.out.symm, hEr2⟩
        ·cases lg
         ·have HT2 := Z_ (HBAD.out (by rw [HVT3.out]; rfl))
          go_wp2_with fail
          refine (HPN.out _ (HEV.out _ (hEr.alloc _)) (HMV.out _ (hEr.alloc _))).mono ?_
          rintro e w2 ⟨rfl, hE2⟩; have hK := (Blk.made _ _ _).ext hE2; have hKc := hK.cell; have hKl := hK.lt; have hEr2 := (hEr.alloc _).ext hE2; have hC2 := (hC.alloc _).ext hE2; have hown2 := (hown.alloc _).kept (ext_grown hE2) (by simp); have HP2 := Z_ (HP1.out.mono (Nat.le_trans (by simp) hE2.size) (fun b o x hb h => IntIn.ext (((Chg.refl _ _).alloc _).ext hE2) hb h)); clear hown hC hE2 hEr hK; go_wp2_with (go_at_call 103; refine (label_any _ _).mono ?_; rintro e w' ⟨rfl, rfl⟩; first | rw [HLW.out] | rw [HLG.out])
          go_ret
          exact ⟨ret_bool HT2.out.symm, hEr2⟩
         ·have hgv : (pg || pv == 0) = false ∨ (pg || pv == 0) = true := by cases (pg || pv == 0) <;> simp
          rcases hgv with hgv | hgv
          ·have HT2 := Z_ (HBAD.out (by rw [HVT3.out, hgv]; rfl))
           cases pg
           ·have hv0 : (pv == 0) = false := hgv
            have hv1 : ¬ pv = 0 := by simpa using hv0
            have hv2 : (pv != 0) = true := by simpa using hv1
            clear hgv; go_wp2_with fail
            refine (HPN.out _ (HEV.out _ (hEr.alloc _)) (HMV.out _ (hEr.alloc _))).mono ?_
            rintro e w2 ⟨rfl, hE2⟩; have hK := (Blk.made _ _ _).ext hE2; have hKc := hK.cell; have hKl := hK.lt; have hEr2 := (hEr.alloc _).ext hE2; have hC2 := (hC.alloc _).ext hE2; have hown2 := (hown.alloc _).kept (ext_grown hE2) (by simp); have HP2 := Z_ (HP1.out.mono (Nat.le_trans (by simp) hE2.size) (fun b o x hb h => IntIn.ext (((Chg.refl _ _).alloc _).ext hE2) hb h)); clear hown hC hE2 hEr hK; go_wp2_with (go_at_call 103; refine (label_any _ _).mono ?_; rintro e w' ⟨rfl, rfl⟩; first | rw [HLW.out] | rw [HLG.out])
            go_ret
            exact ⟨ret_bool HT2.out.symm, hEr2⟩
           ·cases hgv
          ·have HVT4 := Z_ (HVT3.out.trans (by rw [hgv]; show (pl.all labB && true) = _; rw [Bool.and_true] : _ = pl.all labB))
           clear HVT3
           have hpass : pg = true ∨ (pg = false ∧ pv = 0) := by
            cases pg
            ·right; exact ⟨rfl, by simpa using hgv⟩
            ·left; rfl
           have hkey := keyOf_string_mk (P := Tryz.prog) (k := 9) Tryz.underlying9 lz; clear hgv; rcases hpass with rfl | ⟨rfl, rfl⟩
           all_goals
            go_wp2_with fail
            refine (HPN.out _ (HEV.out _ (hEr.alloc _)) (HMV.out _ (hEr.alloc _))).mono ?_
            rintro e w2 ⟨rfl, hE2⟩; have hK := (Blk.made _ _ _).ext hE2; have hKc := hK.cell; have hKl := hK.lt; have hEr2 := (hEr.alloc _).ext hE2; have hC2 := (hC.alloc _).ext hE2; have hown2 := (hown.alloc _).kept (ext_grown hE2) (by simp); have HP2 := Z_ (HP1.out.mono (Nat.le_trans (by simp) hE2.size) (fun b o x hb h => IntIn.ext (((Chg.refl _ _).alloc _).ext hE2) hb h)); clear hown hC hE2 hEr hK; go_wp2_with (go_at_call 103; refine (label_any _ _).mono ?_; rintro e w' ⟨rfl, rfl⟩; first | rw [HLW.out] | rw [HLG.out])
            clear l0 l1 l2 l3 l4 l5; go_loop [96] (fun i => ∃ q : Nat, q ≤ np ∧ i = .int .i64 q ∧ Hid ((pl.take q).all labB = true)) (fun i => np - (intOf i).toNat)
            case atStart => exact ⟨0, Nat.zero_le _, rfl, by simp [Hid]⟩
            case round =>
             obtain ⟨q, hq, rfl, hrel3⟩ := hrel; by_cases hlt3 : q < np
             ·have hqi : (q : Int) < (np : Int) := by omega
              have hlq : q < pl.length := by rw [HNP.out]; exact hlt3
              obtain ⟨bp, op, rfl, hbp, cp⟩ := HP2.out q hlq; unfold IntIn at cp; rw [Nat.mul_one] at cp; have hs := all_snoc labB pl q hlq; rw [hrel3.out, Bool.true_and] at hs; have HB2 := Z_ (fun h => HBAD.out (HVT4.out.trans (all_bad hlq h))); generalize pl[q] = z at *; have HS2 := Z_ hs; obtain ⟨lz, hlz⟩ : ∃ b, labB z = b := ⟨_, rfl⟩; have HLZ := Z_ hlz; clear hs hlz; cases lz
              ·have HT2 := Z_ (HB2.out HLZ.out)
               go_wp2_with (go_at_call 103; refine (label_any _ _).mono ?_; rintro e w' ⟨rfl, rfl⟩; rw [HLZ.out])
               go_ret
               exact ⟨ret_bool HT2.out.symm, hEr2⟩
              ·have HT2 := Z_ (HS2.out.trans HLZ.out)
               go_wp2_with (go_at_call 103; refine (label_any _ _).mono ?_; rintro e w' ⟨rfl, rfl⟩; rw [HLZ.out])
               go_round
               case rel => exact ⟨q + 1, by omega, by go_num, HT2.out⟩
               case measure => simp [intOf]; omega
             ·obtain rfl : q = np := by omega
              have HT2 := Z_ (HS.out.trans (HVT4.out.trans (all_whole HNP.out hrel3.out))); clear HS HBAD HVT4; have hkm : k + j < maxLen := by omega
              go_wp2_with (first
              | (at_lookup; refine wpList_lookup_own_int _ rfl _ _ 91 rfl 9 3 .i64 keyLaw Tryz.underlying91 Tryz.underlying3 (zeroInt _) (w.heap.size + 1) (k + j) D rfl hown2 _ _ rfl hkey ?_; intro cc hat hwc)
              | (at_mapUpdate; refine wpList_mapUpdate_own _ rfl _ _ _ 91 rfl 9 3 keyLaw Tryz.underlying91 _ (w.heap.size + 1) (k + j) D rfl hown2 (by omega) _ _ _ rfl rfl hkey _ [] (plainElem_int Tryz.underlying3 (wrap64_wf _)) ?_; intro w3 hown3 hgrow3))
              have hC3 := hC2.then (grown_chg hgrow3)
              have hmo3 := mapOf_put HMO.out (hown2.tidy keyLaw) pn.data.toList (.lit (.int .i64 (wrap64 (cc + 1)))); rw [← HW.out] at hmo3; clear hgrow3 hown2; go_wp2_with fail
              go_roundw
              case rel => exact ⟨j + 1, _, by omega, by go_num, hown3, hmo3, HT2.out, hC3⟩
              case measure => simp [intOf]; omega
    ·obtain rfl : j = n2 := by omega
     have HFIN := Z_ (HVN.out (all_whole H2.out hrel.out)); have hX := HX2.out; have x0 := hX.cell 0; have x1 := hX.cell 1; have x2 := hX.cell 2; have hxl := hX.lt; simp at x0
     simp at x1
     simp at x2
     clear hX; obtain ⟨_, _, hdis⟩ := HMO.out; have hKt : K.take (k + j) = K := List.take_of_length_le (by rw [HLK.out]; exact Nat.le_refl _); rw [hKt, HLK.out] at hdis; have HD := Z_ hdis; clear hdis hKt; cases A1
     ·have HT2 := Z_ (show B = false by rw [HFIN.out]; rfl)
      go_wp2_with fail
      refine (HNM.out _ (HEV.out _ hEr) (HMV.out _ hEr)).mono ?_
      rintro e w2 ⟨rfl, hE2⟩; go_wp2_with fail
      go_ret
      exact ⟨ret_bool HT2.out.symm, hEr.ext hE2⟩
     ·go_wp2_with fail
      refine (HNM.out _ (HEV.out _ hEr) (HMV.out _ hEr)).mono ?_
      rintro e w2 ⟨rfl, hE2⟩; have hX2 := HX2.out.ext hE2; have y1 := hX2.cell 1; have y2 := hX2.cell 2; have hyl := hX2.lt; simp at y1
      simp at y2
      have hown2 := hown.kept (ext_grown hE2) (by simp); have hlen := fun ty => hown2.len (P := Tryz.prog) Tryz.underlying91 ty
      have HEE := Z_ (hEr.ext hE2); have hki2 : (k : Int) + (j : Int) ≤ 9223372036854775806 := by omega
      clear x0 x1 x2 hX2 hown hown2 hE2 hC hEr; by_cases h20 : k + j ≤ 20
      ·have h20i : ((k + j : Nat) : Int) ≤ 20 := by omega
       have h20j : (k : Int) + (j : Int) ≤ 20 := by omega
       obtain ⟨sz, hsz⟩ : ∃ n, Maps.size D = n := ⟨_, rfl⟩; rw [hsz] at HD hlen; by_cases hs : sz = k + j
       ·have HT2 := Z_ (show B = true by rw [HFIN.out, HD.out, decide_eq_true h20, decide_eq_true hs]; rfl)
        subst hs; go_wp2_with fail
        go_ret
        exact ⟨ret_bool HT2.out.symm, HEE.out⟩
       ·have HT2 := Z_ (show B = false by rw [HFIN.out, HD.out, decide_eq_false hs, Bool.and_false])
        have hs1 : ¬ (sz : Int) = (k : Int) + (j : Int) := by omega
        have hs2 : ((sz : Int) == (k : Int) + (j : Int)) = false := by rw [beq_eq_false_iff_ne]; exact hs1
        go_wp2_with fail
        go_ret
        exact ⟨ret_bool HT2.out.symm, HEE.out⟩
      ·have h20j : ¬ (k : Int) + (j : Int) ≤ 20 := by omega
       have HT2 := Z_ (show B = false by rw [HFIN.out, decide_eq_false h20]; rfl); go_wp2_with fail
       go_ret
       exact ⟨ret_bool HT2.out.symm, HEE.out⟩
end face
end Go.Proofs.YtpcihajmcejliabGreatDoor
namespace Go.Proofs.YtpcihajmcejliabGreatDoor
open Go.RowKit
namespace faceOwn
open synw ofp ofd
theorem face_formX {M : Nat → Bool} {w : World} {x : FFace} {v : Value} (h : ofn.FaceX M w x v) : ∃ a i c j, v = .agg #[.string x.modn, .slice a x.vars.length i, .slice c x.procs.length j] ∧ x.vars.length ≤ i ∧ i ≤ maxLen := by
 obtain ⟨a, m, c, d, e, h1, h2, h3, h4, h5, -⟩ := h; exact ⟨_, _, _, _, e, h4, h5⟩
theorem no_may : mayFaceB noFace = false := by decide
set_option maxRecDepth 100000 in
set_option maxHeartbeats 4000000 in
theorem walk (s : ByteArray) (at_ : Int) (w : World) (hs : s.size ≤ 9223372036854775807) (h0 : 0 ≤ at_) (h1 : at_ ≤ 255) (hv : ErrVar w) (hm : MaxVar w) :
  Calls Tryz.prog 10 #[.string s, .int .u8 at_] w fun e w' => e = .returned (.bool true) ∧ Ext w w' := by
 have CA := Z_ (fun (u : World) (hE : Ext w u) => ofq.of_any s u hs (hv.ext hE) (hm.ext hE)); have CM := Z_ (fun (u : World) (x : FFace) (v : Value) (hE : Ext w u) (hx : FaceAt u x v) (hz : x.vars.length + x.procs.length < maxLen) => face.may_any x v u hx hz (hv.ext hE) (hm.ext hE)); have hmay := ofmay.face_may s
 have hno : (ofR s).2.2.1 ≠ 0 → (ofR s).1 = noFace := by
  intro h; unfold ofR at h ⊢; split
  ·rename_i h2
   rw [if_pos h2] at h; split
   ·rename_i h3
    rw [if_pos h3] at h; exact absurd rfl h
   ·rfl
  ·rfl
 obtain ⟨Q, hQ⟩ : ∃ Q, ofR s = Q := ⟨_, rfl⟩; rw [hQ] at CA hmay hno; obtain ⟨x, L, c, a⟩ := Q; have HMAY := Z_ (show c = 0 → mayFaceB x = true from hmay); have HNO := Z_ (show c ≠ 0 → x = noFace from hno); clear hQ hv hm hmay hno; go_enter Tryz.func10, Tryz.ntmps10
 go_wp2_with fail
 refine (CA.out w (Chg.refl _ _)).mono ?_
 rintro e w1 ⟨hE1, vF, vI, rfl, hf1, hi1⟩; replace hf1 : ofn.FaceX (below w.heap.size) w1 x vF := hf1; obtain ⟨b1, k1, rfl, -⟩ := hi1; obtain ⟨a1, i1, c1, j1, rfl, hi1, hi2⟩ := face_formX hf1; have hX1 := ((Chg.refl (fun _ => False) w1).alloc (.cells #[.string x.modn, .slice a1 x.vars.length i1, .slice c1 x.procs.length j1] 52)).alloc (.cells #[.int .i64 c, .int .i64 a] 68); have HA := Z_ ((Blk.made w1 #[.string x.modn, .slice a1 x.vars.length i1, .slice c1 x.procs.length j1] 52).alloc (.cells #[.int .i64 c, .int .i64 a] 68)); have HF := Z_ (Blk.made2 w1 (.cells #[.string x.modn, .slice a1 x.vars.length i1, .slice c1 x.procs.length j1] 52) #[.int .i64 c, .int .i64 a] 68); have HN := Z_ ((FaceAt.keeps (keeps_bare _ _) hf1.at_).ext hX1); have HE2 := Z_ (hE1.ext hX1); obtain ⟨P, hP⟩ : ∃ P, w1.heap.size = P := ⟨_, rfl⟩
 rw [hP] at HA HF; clear hE1 hX1 hf1; go_upto_region 2 with (fail)
 try rw [hP]
 generalize (w1.alloc (.cells #[.string x.modn, .slice a1 x.vars.length i1, .slice c1 x.procs.length j1] 52)).alloc (.cells #[.int .i64 c, .int .i64 a] 68) = u1 at *; clear hP; have q1 := HA.out.cell; have q2 := HF.out.cell; by_cases hc : c = 0
 ·subst hc
  have hmy := HMAY.out rfl; have hfw := ownm.may_few hmy; have HMY := Z_ hmy; have HC1 := Z_ (CM.out u1 x _ HE2.out HN.out (by unfold maxLen; omega)); rw [hmy] at HC1; clear HMAY HNO hmy; go_wp2_with fail
  refine HC1.out.mono ?_
  rintro e w2 ⟨rfl, hE2⟩; have HC2 := Z_ (face.same_any x x _ _ w2 (HN.out.ext hE2) (HN.out.ext hE2)); rw [show decide (x = x) = true by simp] at HC2; have HA2 := Z_ (HA.out.ext hE2); have HN2 := Z_ (HN.out.ext hE2); have HE3 := Z_ (HE2.out.ext hE2); clear q1 q2 HC1 hE2 HA HN HE2 HF; have q1 := HA2.out.cell; go_wp2_with fail
  refine HC2.out.mono ?_
  rintro e w3 ⟨rfl, hE3⟩; have HA3 := Z_ (HA2.out.ext hE3); have HN3 := Z_ (HN2.out.ext hE3); have HE4 := Z_ (HE3.out.ext hE3); have HSZ := Z_ HA3.out.lt; have HEW := Z_ HE4.out.size; clear q1 HC2 hE3 HA2 HN2 HE3; go_wp2_with fail
  refine (CA.out w3 HE4.out).mono ?_
  rintro e w4 ⟨hE4, vF, vI, rfl, hf2, hi3⟩; replace hf2 : ofn.FaceX (below w3.heap.size) w4 x vF := hf2; obtain ⟨b2, k2, rfl, -⟩ := hi3; obtain ⟨a2, i2, c2, j2, rfl, hi3, hi4⟩ := face_formX hf2; have hX2 := ((Chg.refl (fun _ => False) w4).alloc (.cells #[.string x.modn, .slice a2 x.vars.length i2, .slice c2 x.procs.length j2] 52)).alloc (.cells #[.int .i64 0, .int .i64 a] 68); have HB := Z_ ((Blk.made w4 #[.string x.modn, .slice a2 x.vars.length i2, .slice c2 x.procs.length j2] 52).alloc (.cells #[.int .i64 0, .int .i64 a] 68)); have HX := Z_ (hf2.chg hX2 (fun _ e => e.elim)); have hE5 := hE4.ext hX2; have HA4 := Z_ (HA3.out.ext hE5); have HN4 := Z_ (HN3.out.ext hE5); have HE5 := Z_ (HE4.out.ext hE5); have HE35 := Z_ hE5; obtain ⟨R, hR⟩ : ∃ R, w4.heap.size = R := ⟨_, rfl⟩; rw [hR] at HB; clear hE4 hX2 hf2 hE5 HA3 HE4
  go_upto_region 7 with (fail)
  try rw [hR]
  generalize (w4.alloc (.cells #[.string x.modn, .slice a2 x.vars.length i2, .slice c2 x.procs.length j2] 52)).alloc (.cells #[.int .i64 0, .int .i64 a] 68) = u2 at *; clear hR; have q1 := HA4.out.cell; have q2 := HB.out.cell; obtain ⟨n, hn⟩ : ∃ n, x.vars.length = n := ⟨_, rfl⟩; have HNN := Z_ hn; rw [hn] at q1 q2 hi3; by_cases hn0 : n = 0
  ·have HC3 := Z_ (face.same_any x x _ _ u2 HN4.out (FaceAt.keeps (keeps_bare _ _) HX.out.at_))
   rw [show decide (x = x) = true by simp, hn] at HC3; subst hn0; clear hn; go_wp2_with fail
   refine HC3.out.mono ?_
   rintro e w5 ⟨rfl, hE6⟩; go_wp2_with fail
   go_ret
   exact ⟨rfl, HE5.out.ext hE6⟩
  ·have hni : ((n : Int) == 0) = false := by simpa using hn0
   have hn1 : (1 : Int) ≤ (n : Int) := by omega
   obtain ⟨k, hk⟩ : ∃ k : Nat, at_ % (n : Int) = (k : Int) := Int.eq_ofNat_of_zero_le (Int.emod_nonneg _ (by omega)); have hkn : k < n := by have := Int.emod_lt_of_pos at_ (by omega : (0 : Int) < (n : Int)); omega
   have hkv : k < x.vars.length := by rw [hn]; exact hkn
   have hlab := ownm.may_label HMY.out hkv; obtain ⟨g, cs, rfl, hgM, hgB⟩ := ownm.face_blk HX.out hkv; have hg3 : w3.heap.size ≤ g := by simpa [below] using hgM
   have hin : ∃ b o, some (⟨g, 0, none⟩ : Addr) = some ⟨b, o, none⟩ ∧ b < (hide (below w3.heap.size) u2).heap.size ∧ VarIn (hide (below w3.heap.size) u2) b (o + k * 4) x.vars[k] := by
    obtain ⟨a', m', c', d', e', hV, -⟩ := HX.out; injection e' with e'
    injection e' with e'
    injection e' with _ e'
    injection e' with e1 _
    injection e1 with e1 _ _
    subst e1; exact hV k hkv
   obtain ⟨b9, o9, e9, hb9, hin⟩ := hin; injection e9 with e9
   injection e9 with e9 e8
   subst e9 e8; have p2 := (keeps_bare _ _).2 _ _ hin.2.2.1; rw [Nat.zero_add] at p2; obtain ⟨z, hz⟩ : ∃ z, x.vars[k].label = z := ⟨_, rfl⟩; rw [hz] at p2 hlab; have hz0 : 0 ≤ z := by omega
   have hz1 : z ≤ 1 := by omega
   obtain ⟨z2, hz2⟩ : ∃ z2, z2 = 1 - z := ⟨_, rfl⟩; have hzw : IntKind.i64.wrap (1 - z) = z2 := by rw [wrap_small _ (by omega) (by omega)]; exact hz2.symm
   have hY := ownm.turn_face HX.out hgB k z2; have hC := chg_set (S := g) (Chg.refl _ u2) (k * 4 + 2) (.int .i64 z2); have hEY : Ext w3 (u2.setCell ⟨g, k * 4 + 2, none⟩ (.int .i64 z2)) := HE35.out.trans hC (fun i hi e => by omega); have hne : x ≠ turnV x k z2 := by have h := ownm.turn_ne hkv (by rw [hz]; exact hlab); rw [hz, ← hz2] at h; exact h
   have HY := Z_ (hY.ext (Chg.refl _ _).drew); have HEY := Z_ (HE5.out.trans hC (fun i hi e => by have := HE5.out.size; have h2 := HSZ.out; have := HEW.out; omega)).drew; have HXY := Z_ (HN3.out.ext hEY.drew); have hgl := hgB.lt; have hgf := hgB.frozen; have HA5 := Z_ (HA4.out.chg hC (by have := HSZ.out; omega)).drew; have hBg : ∃ Bg, Bg = R ∧ R ≠ g := ⟨R, rfl, by rintro rfl; have := HB.out; unfold Blk at this hgB; rw [hgB] at this; cases this⟩; have HB5 := Z_ (HB.out.chg hC (by obtain ⟨_, -, h⟩ := hBg; exact h)).drew; have HMZ := Z_ (ownm.turn_may (k := k) (z := z2) (by omega) HMY.out); have HNE := Z_ hne; have HLN := Z_ (ownm.turn_len x k z2); clear hY hC hEY hne hin hgB hBg hz hz2 hlab hb9 HX; have hki : (k : Int) < (n : Int) := by omega
   go_wp2_with fail
   clear q1 ; go_still_tail 12, (by kernel_rfl)
   go_upto_region 11 with (fail)
   have HLV := Z_ (show (turnV x k z2).vars.length + (turnV x k z2).procs.length < maxLen by have h := HLN.out; rw [h, show (turnV x k z2).procs = x.procs from rfl]; unfold maxLen; omega); generalize (u2.setCell { block := g, off := k * 4 + 2 } (Value.int IntKind.i64 z2)).drew = W5 at *; rw [hn] at HA5 HB5; have r1 := HA5.out.cell; have r2 := HB5.out.cell; clear q2; have HC5 := Z_ (CM.out W5 _ _ HEY.out HY.out HLV.out); have HC6 := Z_ (fun (u : World) (hE : Ext W5 u) => face.same_any x (turnV x k z2) _ _ u (HXY.out.ext hE) (HY.out.ext hE)); rw [HMZ.out, hn] at HC5; rw [decide_eq_false HNE.out, hn] at HC6; clear HMY HLV hn HNN HN4 HN3; go_wp2_with fail
   refine HC5.out.mono ?_
   rintro e w6 ⟨rfl, hE6⟩; have HA6 := Z_ (HA5.out.ext hE6); have HB6 := Z_ (HB5.out.ext hE6); have HE7 := Z_ hE6; clear r1 r2 hE6; have r1 := HA6.out.cell; have r2 := HB6.out.cell; go_wp2_with fail
   refine (HC6.out _ HE7.out).mono ?_
   rintro e w7 ⟨rfl, hE8⟩; go_wp2_with fail
   go_ret
   exact ⟨rfl, (HEY.out.ext HE7.out).ext hE8⟩
 ·have hx := HNO.out hc
  subst hx; have HC := Z_ (CM.out u1 noFace _ HE2.out HN.out (by decide)); rw [no_may] at HC; have hcn : (c != 0) = true := by simpa using hc
  have hce : (c == 0) = false := by simpa using hc
  clear HMAY HNO; change ∀ o, u1.cell? ⟨P, o, none⟩ = #[.string ⟨#[]⟩, .slice a1 0 i1, .slice c1 0 j1][o]? at q1
  go_wp2_with fail
  refine HC.out.mono ?_
  rintro e w2 ⟨rfl, hE2⟩; go_wp2_with fail
  go_ret
  exact ⟨rfl, HE2.out.ext hE2⟩
end faceOwn
end Go.Proofs.YtpcihajmcejliabGreatDoor
