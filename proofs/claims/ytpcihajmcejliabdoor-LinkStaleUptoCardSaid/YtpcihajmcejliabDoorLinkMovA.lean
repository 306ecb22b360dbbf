/- The walk of the linker's moves. -/
import Derived.Test.YtpcihajmcejliabDoorLinkD
import Derived.StillTactics
import Derived.StillTailTactics
namespace Go.Proofs.YtpcihajmcejliabDoor
open Go.RowKit Go.WideMaps Go.Maps
/-- what is wrong with an image -/
def movErr (lo hi : Int) (l : List FObj) (is : List Ins) : Option (Nat × Int × Int) :=
  if is.length ≤ 20000 ∧ lo ≤ 20000 ∧ hi ≤ 20000 then ordF is 0 4 l else some (0, 1, 0)
/-- what moves comes to -/
def MovesPost (w : World) (S B : Nat) (lo hi : Int) (l : List FObj) (is : List Ins) (e : Ending) (w' : World) : Prop :=
  Chg (fun i => i = S ∨ B ≤ i) w w' ∧ ThrewOr (movErr lo hi l is) (fun w' => ∃ g ci r3 r4 r5 r6 r7, Blk w' S #[.slice (some ⟨g, 0, none⟩) is.length ci, .int .i64 lo, .int .i64 hi, r3, r4, r5, r6, r7] 51 ∧ InsRow w' B (.slice (some ⟨g, 0, none⟩) is.length ci) is) e w'
namespace linkw
open face
theorem movp_no {w w' : World} {S B : Nat} {lo hi : Int} {l : List FObj} {is : List Ins} {m : Nat} {c k : Int} (hc : Chg (fun i => i = S ∨ B ≤ i) w w') (h : movErr lo hi l is = some (m, c, k)) : MovesPost w S B lo hi l is (.panicked (troubleV m c k)) w' := by
  unfold MovesPost; rw [h]; exact ⟨hc, rfl⟩
theorem movp_ok {w w' : World} {S B : Nat} {lo hi : Int} {l : List FObj} {is : List Ins} (hc : Chg (fun i => i = S ∨ B ≤ i) w w') (h : movErr lo hi l is = none) {g ci : Nat} {r3 r4 r5 r6 r7 : Value} (hb : Blk w' S #[.slice (some ⟨g, 0, none⟩) is.length ci, .int .i64 lo, .int .i64 hi, r3, r4, r5, r6, r7] 51) (hI : InsRow w' B (.slice (some ⟨g, 0, none⟩) is.length ci) is) : MovesPost w S B lo hi l is (.returned (.tuple #[])) w' := by
  unfold MovesPost; rw [h]; exact ⟨hc, rfl, g, ci, r3, r4, r5, r6, r7, hb, hI⟩
theorem movErr_no {lo hi : Int} {l : List FObj} {is : List Ins} (h : ¬ (is.length ≤ 20000 ∧ lo ≤ 20000 ∧ hi ≤ 20000)) : movErr lo hi l is = some (0, 1, 0) := by rw [movErr, if_neg h]
theorem movErr_yes {lo hi : Int} {l : List FObj} {is : List Ins} (h : is.length ≤ 20000 ∧ lo ≤ 20000 ∧ hi ≤ 20000) : movErr lo hi l is = ordF is 0 4 l := by rw [movErr, if_pos h]
theorem ord_step {l : List FObj} {is : List Ins} {k base : Nat} (h : k < l.length) {E : Option (Nat × Int × Int)} (hr : ordF is k base (l.drop k) = E) : (ordF1 is k base 0 l[k].code.length).or (ordF is (k + 1) (base + l[k].code.length) (l.drop (k + 1))) = E := by
  rw [List.drop_eq_getElem_cons h, ordF] at hr; exact hr
theorem ord1_step {is : List Ins} {i base q m : Nat} {T E : Option (Nat × Int × Int)} (hq : q < m) (hr : (ordF1 is i base q (m - q)).or T = E) :
    (orderB ((is[base + q]?).getD default) is.length = false → E = some (i, 6, (q : Int))) ∧ (orderB ((is[base + q]?).getD default) is.length = true → (ordF1 is i base (q + 1) (m - (q + 1))).or T = E) := by
  rw [show m - q = (m - (q + 1)) + 1 by omega, ordF1] at hr
  refine ⟨fun e => ?_, fun e => ?_⟩
  · simp only [e, if_true] at hr; simpa using hr.symm
  · simp only [e] at hr; simpa using hr
theorem baseF_mono (f : FObj → Int) (a : Int) {l : List FObj} (hf : ∀ x ∈ l, 0 ≤ f x) {j : Nat} : ∀ d, j + d ≤ l.length → baseF f a l j ≤ baseF f a l (j + d) := by
  intro d
  induction d with
  | zero => intro _; exact Int.le_refl _
  | succ d ih =>
    intro h
    have h1 := ih (by omega)
    have h2 := baseF_step f a (show j + d < l.length by omega)
    have h3 := hf _ (List.getElem_mem (show j + d < l.length by omega))
    rw [show j + (d + 1) = j + d + 1 by omega, h2]; omega
theorem ins_one (is : List Ins) : ∀ u ∈ is.flatMap insCells, u.oneCell' = true := by
  intro u hu
  obtain ⟨i, -, hi⟩ := List.mem_flatMap.1 hu
  simp only [insCells, List.mem_cons, List.mem_nil_iff, or_false] at hi
  rcases hi with rfl | rfl | rfl | rfl | rfl <;> rfl
theorem moves_step {l : List FObj} {cs ls hs : List Int} {k : Nat} (h : k < l.length) {is R : List Ins} (hr : movesF l cs ls hs k is (l.drop k) = R) : movesF l cs ls hs (k + 1) (moveRels l cs ls hs k is.length (is ++ l[k].code) (l[k].relocs.drop 0)) (l.drop (k + 1)) = R := by
  rw [List.drop_eq_getElem_cons h, movesF] at hr
  simpa using hr
theorem rels_step {l : List FObj} {cs ls hs : List Int} {i f q : Nat} {m : List FRel} (h : q < m.length) (is : List Ins) : moveRels l cs ls hs i f is (m.drop q) = moveRels l cs ls hs i f (addAt is (f + m[q].at_.toNat) (relAdd l cs ls hs i m[q])) (m.drop (q + 1)) := by
  rw [List.drop_eq_getElem_cons h, moveRels]
set_option maxRecDepth 100000 in
set_option maxHeartbeats 16000000 in
theorem moves_any (W : World) (a : Option Addr) (l : List FObj) (n cap S B b g0 ci0 q1 c1 q2 c2 q3 c3 : Nat) (lo0 hi0 : Int) (is0 : List Ins) (cs ls hs : List Int) (w : World) (hn : l.length = n) (hl : AllIn 13 ObjIn W a l) (hE0 : Ext W w)
    (hMB : MovB w S B b (.slice (some ⟨g0, 0, none⟩) is0.length ci0) g0 ci0 is0 lo0 hi0 a n cap q1 c1 q2 c2 q3 c3 cs ls hs (modsF l)) (h4 : is0.length = 4) (hWS : W.heap.size ≤ S) (hSB : S < B) (hbB : b < B) (hbS : b ≠ S) (hBw : B ≤ w.heap.size) (hpos : 0 < n) (hm : n ≤ 6)
    (hcs : cs = basesF codeLen 4 l n) (hcok : BasesOk n cs) (hlok : BasesOk n ls) (hhok : BasesOk n hs) (hnum : ∀ x ∈ l, LnkNums x) (hsm : ∀ x ∈ l, ObjSmall x) (hps : ∀ x ∈ l, PlcOk x.procs ∧ PlcOk x.lows ∧ PlcOk x.highs)
    (hrl : ∀ x ∈ l, ∀ r ∈ x.relocs, 0 ≤ r.at_ ∧ r.at_ < x.code.length) :
    Calls Tryd.prog 11 #[.pointer (some ⟨S, 0, none⟩)] w (MovesPost w S B lo0 hi0 l (movesF l cs ls hs 0 is0 l)) := by
  obtain ⟨R, hR⟩ : ∃ R, movesF l cs ls hs 0 is0 l = R := ⟨_, rfl⟩
  rw [hR]
  have hxc := hMB.sb.cell
  have hxl := hMB.sb.lt
  have HPL := Lib.hid (fun (u : World) (vi : Value) (g ci : Nat) (is : List Ins) (hE : Ext W u) (hM : MovB u S B b vi g ci is lo0 hi0 a n cap q1 c1 q2 c2 q3 c3 cs ls hs (modsF l)) (r : FRel) (hr : r.modn.size ≤ maxLen) =>
    place_any W vi (.int .i64 lo0) (.int .i64 hi0) a (some ⟨q1, 0, none⟩) (some ⟨q2, 0, none⟩) (some ⟨q3, 0, none⟩) l cs ls hs n cap c1 c2 c3 S b u r hn hl hE hM.sb hM.map hpos (by omega) (IntRow.all hM.rows.c) (IntRow.all hM.rows.l) (IntRow.all hM.rows.h) hcok hlok hhok hps hr)
  have HEW := Lib.hid (fun (u : World) (hC : Chg (fun i => i = S ∨ B ≤ i) w u) => (hE0.trans hC (fun i hi e => by omega) : Ext W u))
  have HCOK := Lib.hid hcok
  have HR := Lib.hid (show movesF l cs ls hs 0 is0 (l.drop 0) = R by simpa using hR)
  have HN := Lib.hid hn
  have HL := Lib.hid hl
  have HNUM := Lib.hid hnum
  have HSM := Lib.hid hsm
  have HRL := Lib.hid hrl
  have HCS := Lib.hid hcs
  have HI0 := Lib.hid (show (is0.length : Int) = baseF codeLen 4 l 0 by rw [h4]; rfl)
  have HMB := Lib.hid hMB
  clear hR hn hl hE0 hMB hcok hlok hhok hnum hsm hps hrl h4 hcs
  go_enter Tryd.func11, Tryd.ntmps11
  go_wp2_with fail
  clear hxc
  go_loopw [16] (fun i wr => ∃ (k g ci : Nat) (is : List Ins), k ≤ n ∧ i = .int .i64 k ∧ Chg (fun i => i = S ∨ B ≤ i) w wr ∧ Hid ((is.length : Int) = baseF codeLen 4 l k) ∧ Hid (MovB wr S B b (.slice (some ⟨g, 0, none⟩) is.length ci) g ci is lo0 hi0 a n cap q1 c1 q2 c2 q3 c3 cs ls hs (modsF l)) ∧ Hid (movesF l cs ls hs k is (l.drop k) = R)) (fun i _ => n - (intOf i).toNat)
  case atStart => exact ⟨0, g0, ci0, is0, Nat.zero_le _, rfl, Chg.refl _ _, HI0, HMB, HR⟩
  case round =>
    obtain ⟨k, g, ci, is, hk, rfl, hC, HLEN, HMk, hr⟩ := hrel
    obtain ⟨wo, rfl⟩ : ∃ wo, wo = wr := ⟨_, rfl⟩
    clear HMB HI0
    by_cases hlt : k < n
    · have hkl : k < l.length := by rw [HN.out]; exact hlt
      have hEW := HEW.out wo hC
      obtain ⟨bo, o, rfl, hbo, hc⟩ := HL.out k hkl
      have hbo2 := Nat.lt_of_lt_of_le hbo hEW.size
      obtain ⟨fa, am, fc, cm, ia, ic, ca, cc, ra, rc, pa, pc, la, lc, ha, hcp, h0, h1, h2, h3, h4, h5, h6, h7, h8, h9, h10, h11, h12, HO0⟩ := hc
      have eW : ∀ j, wo.cell? ⟨bo, j, none⟩ = W.cell? ⟨bo, j, none⟩ := fun j => hEW.cell (by exact hbo) id
      rw [← eW] at h0 h1 h2 h3 h4 h5 h6 h7 h8 h9 h10 h11 h12
      clear eW
      have HCI := Lib.hid (fun (u : World) (h : Chg (fun i => i = S ∨ B ≤ i) w u) => HO0.rows.2.2.1.mono (HEW.out u h).size fun _ _ _ hb hi => InsIn5.ext (HEW.out u h) hb hi)
      have HRI := Lib.hid (fun (u : World) (h : Chg (fun i => i = S ∨ B ≤ i) w u) => HO0.rows.2.2.2.1.mono (HEW.out u h).size fun _ _ _ hb hi => RelIn.ext (HEW.out u h) hb hi)
      have hnu := (HNUM.out _ (List.getElem_mem hkl)).1
      have hnr := (HSM.out _ (List.getElem_mem hkl)).relocs
      have HST := Lib.hid (HSM.out _ (List.getElem_mem hkl)).strs
      have HRX := Lib.hid (HRL.out _ (List.getElem_mem hkl))
      have HSTEP := Lib.hid (moves_step hkl hr.out)
      have HBS := Lib.hid (baseF_step codeLen 4 hkl)
      have hbl := baseF_le codeLen 4 1048576 (fun x hx => ⟨by unfold codeLen; omega, by unfold codeLen; have := (HNUM.out x hx).1; omega⟩) k (by omega)
      have hle : (is.length : Int) ≤ 4 + 6 * 1048576 ∧ 4 ≤ (is.length : Int) := by rw [HLEN.out]; omega
      have hisp : 0 < is.length := by omega
      clear hr HO0
      generalize l[k] = x at *
      obtain ⟨xf, xi, xc, xr, op, ol, oh, lo, hi', lf, hf⟩ := x
      obtain ⟨xn, xv, xp⟩ := xf
      simp only at hnu hnr HST HRX HSTEP HBS HCI HRI h0 h1 h2 h3 h4 h5 h6 h7 h8 h9 h10 h11 h12
      obtain ⟨mc, hmc⟩ : ∃ m, xc.length = m := ⟨_, rfl⟩
      obtain ⟨mr, hmr⟩ : ∃ m, xr.length = m := ⟨_, rfl⟩
      rw [hmc] at hnu h4
      rw [hmr] at hnr h5
      have HMC := Lib.hid hmc
      have HMR := Lib.hid hmr
      have hxc := HMk.out.sb.cell
      have hgb := HMk.out.base
      have hBwo : B ≤ wo.heap.size := Nat.le_trans hBw hC.size
      have hSwo : S < wo.heap.size := by omega
      clear hmc hmr
      go_wp2_with fail
      clear h0 h1 h2 h3 h4 h5 h6 h7 h8 h9 h10 h11 h12 hxc
      have KO := Blk.made wo #[.string xn, .slice fa xv.length am, .slice fc xp.length cm, .slice ia xi.length ic, .slice ca mc cc, .slice ra mr rc, .slice pa op.length pc, .slice la ol.length lc, .slice ha oh.length hcp, .int .i64 lo, .int .i64 hi', .int .i64 lf, .int .i64 hf] 39
      have HE1 := Lib.hid (hC.alloc (.cells #[.string xn, .slice fa xv.length am, .slice fc xp.length cm, .slice ia xi.length ic, .slice ca mc cc, .slice ra mr rc, .slice pa op.length pc, .slice la ol.length lc, .slice ha oh.length hcp, .int .i64 lo, .int .i64 hi', .int .i64 lf, .int .i64 hf] 39))
      have HB2 := Lib.hid (HMk.out.ext ((Chg.refl _ _).alloc (.cells #[.string xn, .slice fa xv.length am, .slice fc xp.length cm, .slice ia xi.length ic, .slice ca mc cc, .slice ra mr rc, .slice pa op.length pc, .slice la ol.length lc, .slice ha oh.length hcp, .int .i64 lo, .int .i64 hi', .int .i64 lf, .int .i64 hf] 39)))
      have HCI2 := Lib.hid (fun (u : World) (h : Chg (fun i => i = S ∨ B ≤ i) (wo.alloc (.cells #[.string xn, .slice fa xv.length am, .slice fc xp.length cm, .slice ia xi.length ic, .slice ca mc cc, .slice ra mr rc, .slice pa op.length pc, .slice la ol.length lc, .slice ha oh.length hcp, .int .i64 lo, .int .i64 hi', .int .i64 lf, .int .i64 hf] 39)) u) => HCI.out u ((hC.alloc _).then h))
      have hwz : wo.heap.size < (wo.alloc (.cells #[.string xn, .slice fa xv.length am, .slice fc xp.length cm, .slice ia xi.length ic, .slice ca mc cc, .slice ra mr rc, .slice pa op.length pc, .slice la ol.length lc, .slice ha oh.length hcp, .int .i64 lo, .int .i64 hi', .int .i64 lf, .int .i64 hf] 39)).heap.size := by simp
      clear HCI HMk
      generalize wo.alloc (.cells #[.string xn, .slice fa xv.length am, .slice fc xp.length cm, .slice ia xi.length ic, .slice ca mc cc, .slice ra mr rc, .slice pa op.length pc, .slice la ol.length lc, .slice ha oh.length hcp, .int .i64 lo, .int .i64 hi', .int .i64 lf, .int .i64 hf] 39) = w2 at *
      obtain ⟨ko, hko⟩ : ∃ q, wo.heap.size = q := ⟨_, rfl⟩
      have hgko : g < ko := by omega
      have hkoS : ko ≠ S := by omega
      rw [hko] at KO hwz ⊢
      obtain ⟨OB, hOB⟩ : ∃ q : Array Value, #[.string xn, .slice fa xv.length am, .slice fc xp.length cm, .slice ia xi.length ic, .slice ca mc cc, .slice ra mr rc, .slice pa op.length pc, .slice la ol.length lc, .slice ha oh.length hcp, .int .i64 lo, .int .i64 hi', .int .i64 lf, .int .i64 hf] = q := ⟨_, rfl⟩
      rw [hOB] at KO
      have HOBE := Lib.hid hOB
      clear hOB
      refine wp_region_weave [8, 12] (fun i => (([.val (.pointer (some ⟨S, 0, none⟩)), .val (.pointer (some ⟨S, 0, none⟩)), .val (.pointer (some ⟨S, 0, none⟩)), .val (.pointer (some ⟨S, 0, none⟩)), .val (.pointer (some ⟨S, 0, none⟩)), .val (.slice (some ⟨g, 0, none⟩) is.length ci), .val (.pointer (some ⟨ko, 4, none⟩)), .val (.slice ca mc cc), .any, .val (.pointer (some ⟨S, 0, none⟩)), .val (.pointer (some ⟨S, 0, none⟩)), .val (.pointer (some ⟨S, 0, none⟩)), .any] : List Cm).getD i .any).holds w2.heap.size) (fun vs u => Chg (fun i => i = S ∨ B ≤ i) w2 u ∧ Blk u ko OB 39 ∧ (match vs with | [] => MovB u S B b (.slice (some ⟨g, 0, none⟩) is.length ci) g ci is lo0 hi0 (some ⟨bo, o, none⟩) n cap q1 c1 q2 c2 q3 c3 cs ls hs (modsF l) | [x] => ∃ g' cap', x = .slice (some ⟨g', 0, none⟩) (is.length + xc.length) cap' ∧ MovB u S B b (.slice (some ⟨g, 0, none⟩) is.length ci) g' cap' (is ++ xc) lo0 hi0 (some ⟨bo, o, none⟩) n cap q1 c1 q2 c2 q3 c3 cs ls hs (modsF l) | _ => ∃ g' cap', MovB u S B b (.slice (some ⟨g', 0, none⟩) (is.length + xc.length) cap') g' cap' (is ++ xc) lo0 hi0 (some ⟨bo, o, none⟩) n cap q1 c1 q2 c2 q3 c3 cs ls hs (modsF l))) (Chg (fun i => i < w2.heap.size)) (frame := ?fraa) (fun x => ?hfaa) mixed (by kernel_rfl) (by kernel_rfl) (fun i v u u' h hG => Cm.stab _ _ _ _ _ h hG) ?h0a ?sta ?fina
      case hfaa =>
        simp only [chain.frameOf, chain.fill, chain.setOpt, chain.dstOf, List.size_toArray, List.length_cons, List.length_nil, List.getElem?_toArray, List.getElem?_cons_succ, List.getElem?_cons_zero, List.setIfInBounds_toArray, List.set_cons_succ, List.set_cons_zero]
        exact rfl
      case h0a => exact ⟨(Chg.refl _ _).drew, KO.drew, HB2.out.ext (Chg.refl _ _).drew⟩
      case sta =>
        refine AllFrom.cons (fun x vs u hF hm hb hd K' hK' => ?sa0) (AllFrom.cons (fun x vs u hF hm hb hd K' hK' => ?sa1) (AllFrom.cons (fun x vs u hF hm hb hd K' hK' => ?sa2) (AllFrom.cons (fun x vs u hF hm hb hd K' hK' => ?sa3) (AllFrom.cons (fun x vs u hF hm hb hd K' hK' => ?sa4) (AllFrom.cons (fun x vs u hF hm hb hd K' hK' => ?sa5) (AllFrom.cons (fun x vs u hF hm hb hd K' hK' => ?sa6) (AllFrom.cons (fun x vs u hF hm hb hd K' hK' => ?sa7) (AllFrom.cons (fun x vs u hF hm hb hd K' hK' => ?sa8) (AllFrom.cons (fun x vs u hF hm hb hd K' hK' => ?sa9) (AllFrom.cons (fun x vs u hF hm hb hd K' hK' => ?sa10) (AllFrom.cons (fun x vs u hF hm hb hd K' hK' => ?sa11) (AllFrom.cons (fun x vs u hF hm hb hd K' hK' => ?sa12) (AllFrom.nil)))))))))))))
        case sa0 =>
          have HF := Lib.hid hF
          clear hd hm hb hF
          go_simp
          exact hK'.out _ _ _ rfl (Chg.refl _ _) ⟨rfl, HF.out⟩
        case sa1 =>
          have HF := Lib.hid hF
          clear hd hm hb hF
          go_simp
          exact hK'.out _ _ _ rfl (Chg.refl _ _) ⟨rfl, HF.out⟩
        case sa2 =>
          have y0 := hd 1 (by decide) (by kernel_rfl)
          replace y0 : x 28 = .pointer (some ⟨S, 0, none⟩) := y0
          have HF := Lib.hid hF
          clear hd hm hb hF
          go_simp
          exact hK'.out _ _ _ (by simp only [y0]; rfl) (Chg.refl _ _) ⟨rfl, HF.out⟩
        case sa3 =>
          have y0 := hd 2 (by decide) (by kernel_rfl)
          replace y0 : x 29 = .pointer (some ⟨S, 0, none⟩) := y0
          have HF := Lib.hid hF
          clear hd hm hb hF
          go_simp
          exact hK'.out _ _ _ (by simp only [y0]; rfl) (Chg.refl _ _) ⟨rfl, HF.out⟩
        case sa4 =>
          have y0 := hd 3 (by decide) (by kernel_rfl)
          replace y0 : x 30 = .pointer (some ⟨S, 0, none⟩) := y0
          have HF := Lib.hid hF
          clear hd hm hb hF
          go_simp
          exact hK'.out _ _ _ (by simp only [y0]; rfl) (Chg.refl _ _) ⟨rfl, HF.out⟩
        case sa5 =>
          have y0 := hd 4 (by decide) (by kernel_rfl)
          replace y0 : x 31 = .pointer (some ⟨S, 0, none⟩) := y0
          have hsv : vs = [] := List.eq_nil_of_length_eq_zero (by have := hb 0 _ (by decide) rfl (by kernel_rfl); omega)
          subst hsv
          have hSc := hF.2.2.sb.cell
          have HF := Lib.hid hF
          clear hd hm hb hF
          go_simp
          exact hK'.out _ _ _ (by simp only [y0]; rfl) (Chg.refl _ _) ⟨rfl, HF.out⟩
        case sa6 =>
          have HF := Lib.hid hF
          clear hd hm hb hF
          go_simp
          exact hK'.out _ _ _ rfl (Chg.refl _ _) ⟨rfl, HF.out⟩
        case sa7 =>
          have y0 := hd 6 (by decide) (by kernel_rfl)
          replace y0 : x 33 = .pointer (some ⟨ko, 4, none⟩) := y0
          have hO9 := hF.2.1
          rw [← HOBE.out] at hO9
          have hOc := hO9.cell
          clear hO9
          have HF := Lib.hid hF
          clear hd hm hb hF
          go_simp
          exact hK'.out _ _ _ (by simp only [y0]; rfl) (Chg.refl _ _) ⟨rfl, HF.out⟩
        case sa8 =>
          obtain rfl := List.eq_nil_of_length_eq_zero (hm 0 (by kernel_rfl))
          have y0 := hd 5 (by decide) (by kernel_rfl)
          replace y0 : x 32 = .slice (some ⟨g, 0, none⟩) is.length ci := y0
          have y1 := hd 7 (by decide) (by kernel_rfl)
          replace y1 : x 34 = .slice ca mc cc := y1
          have hMB := hF.2.2
          have hci := fun (u : World) (h : Chg (fun i => i = S ∨ B ≤ i) w2 u) => HCI2.out u h
          have hsz := hF.1.size
          have hgN := hMB.base
          obtain ⟨i0_, hi_, hz0, hz1, hz2⟩ := info_parts getw.info_ins
          refine wp_append_src _ _ 23 rfl B 64 i0_ (.agg #[.int .i64 0, .int .i64 0, .int .i64 0, .int .i64 0, .int .i64 0]) 5 40 Tryd.underlying23 hi_ hz0 hz1 hz2 rfl (by decide) (.slice (some ⟨g, 0, none⟩) is.length ci) is.length (is.flatMap insCells) y0 hisp hMB.ins ca mc cc (xc.flatMap insCells) y1 (by rw [insCells_len, HMC.out]) (fun e => by rw [← HMC.out]; exact (ins_news (hci u hF.1)).1 e) (ins_news (hci u hF.1)).2 (ins_one xc) (by unfold maxLen; omega) (by omega) (by omega) ?_
          intro g' cap' w' ho hgr hat
          obtain ⟨hM2, hC2⟩ := hMB.app (news := xc) hSB hbB (by rw [HMC.out]; exact ho) hgr hat
          exact hK'.out _ _ _ rfl (hC2.weak fun i _ e => by omega) ⟨hF.1.then (hC2.weak fun i _ e => Or.inr (by omega)), hF.2.1.chg hC2 (by omega), g', cap', by rw [← HMC.out], hM2⟩
        case sa9 =>
          have y0 := hd 0 (by decide) (by kernel_rfl)
          replace y0 : x 27 = .pointer (some ⟨S, 0, none⟩) := y0
          have HF := Lib.hid hF
          clear hd hm hb hF
          go_simp
          exact hK'.out _ _ _ (by simp only [y0]; rfl) (Chg.refl _ _) ⟨rfl, HF.out⟩
        case sa10 =>
          have y0 := hd 9 (by decide) (by kernel_rfl)
          replace y0 : x 36 = .pointer (some ⟨S, 0, none⟩) := y0
          have HF := Lib.hid hF
          clear hd hm hb hF
          go_simp
          exact hK'.out _ _ _ (by simp only [y0]; rfl) (Chg.refl _ _) ⟨rfl, HF.out⟩
        case sa11 =>
          have y0 := hd 10 (by decide) (by kernel_rfl)
          replace y0 : x 37 = .pointer (some ⟨S, 0, none⟩) := y0
          have HF := Lib.hid hF
          clear hd hm hb hF
          go_simp
          exact hK'.out _ _ _ (by simp only [y0]; rfl) (Chg.refl _ _) ⟨rfl, HF.out⟩
        case sa12 =>
          obtain ⟨x1, rfl⟩ : ∃ x1, vs = [x1] := by match vs, hm 1 (by kernel_rfl) with | [x1], _ => exact ⟨_, rfl⟩
          obtain ⟨g', cap', ex1, hM2⟩ := hF.2.2
          subst ex1
          have y0 := hd 11 (by decide) (by kernel_rfl)
          replace y0 : x 38 = .pointer (some ⟨S, 0, none⟩) := y0
          have y1 := hd 8 (by decide) (by kernel_rfl) 35 (by kernel_rfl)
          replace y1 : x 35 = Value.slice (some ⟨g', 0, none⟩) (is.length + xc.length) cap' := y1
          have hSb := hM2.sb
          have hSc := hSb.cell
          have hSf := hSb.frozen
          have hSl := hSb.lt
          have hM3 := hM2.store hSB hbS (.slice (some ⟨g', 0, none⟩) (is.length + xc.length) cap')
          have hO3 := hF.2.1.setOther (p := ⟨S, 0, none⟩) hkoS (.slice (some ⟨g', 0, none⟩) (is.length + xc.length) cap')
          have hC3 := hF.1.setCell (p := ⟨S, 0, none⟩) (fun _ => Or.inl rfl) (.slice (some ⟨g', 0, none⟩) (is.length + xc.length) cap')
          clear hd hm hb
          go_simp
          exact hK'.out _ _ undef (by simp only [y0, y1]; rfl) ((Chg.refl _ _).setCell (fun _ => by show S < _; omega) _) ⟨hC3, hO3, g', cap', hM3⟩
      case fina =>
        intro x vs u hl hF hq
        clear hq
        obtain ⟨d1, d2, rfl⟩ : ∃ d1 d2, vs = [d1, d2] := by match vs, hl with | [_, _], _ => exact ⟨_, _, rfl⟩
        obtain ⟨hC4, KO4, g', cap', hM4⟩ := hF
        clear hl d1 d2
        rw [← HOBE.out] at KO4
        have HC4 := Lib.hid (HE1.out.then hC4)
        have HM4 := Lib.hid hM4
        obtain ⟨NL, hNL⟩ : ∃ q, is.length + xc.length = q := ⟨_, rfl⟩
        rw [hNL] at HM4
        have HNL := Lib.hid (show (is ++ xc).length = NL by rw [List.length_append]; exact hNL)
        have HFR := Lib.hid (show is.length + mc = NL by rw [← HMC.out]; exact hNL)
        clear KO HB2 HE1 hC4 hM4 HCI2 HOBE OB hNL
        have hOc := KO4.cell
        go_wp2_with fail
        clear hOc KO4
        obtain ⟨FR, hFR⟩ : ∃ q, is.length = q := ⟨_, rfl⟩
        rw [hFR] at hle HFR HSTEP ⊢
        have HFRE := Lib.hid hFR
        clear hFR hisp
        have hle2 : NL ≤ 100000000 := by have := HFR.out; omega
        go_loopw [42] (fun j wr => ∃ (q : Nat) (is2 : List Ins), q ≤ mr ∧ j = .int .i64 q ∧ Chg (fun i => i = S ∨ B ≤ i) w wr ∧ Hid (is2.length = NL) ∧ Hid (MovB wr S B b (.slice (some ⟨g', 0, none⟩) NL cap') g' cap' is2 lo0 hi0 (some ⟨bo, o, none⟩) n cap q1 c1 q2 c2 q3 c3 cs ls hs (modsF l)) ∧ Hid (movesF l cs ls hs (k + 1) (moveRels l cs ls hs k FR is2 (xr.drop q)) (l.drop (k + 1)) = R)) (fun j _ => mr - (intOf j).toNat)
        case atStart => exact ⟨0, is ++ xc, Nat.zero_le _, rfl, HC4.out, HNL, HM4, HSTEP⟩
        case round =>
          obtain ⟨q, is2, hq, rfl, hC5, HL2, HM5, hr⟩ := hrel
          clear HC4 HM4 HNL HSTEP
          by_cases hlt2 : q < mr
          · have hqx : q < xr.length := by rw [HMR.out]; exact hlt2
            obtain ⟨bi, oi, rfl, hbi, hcr⟩ := HRI.out wr hC5 q hqx
            obtain ⟨l0, l1, l2, l3⟩ := hcr
            have HX := Lib.hid (HRX.out _ (List.getElem_mem hqx))
            have hfm := (HST.out _ (List.getElem_mem hqx)).1
            have HT := Lib.hid (show movesF l cs ls hs (k + 1) (moveRels l cs ls hs k FR (addAt is2 (FR + xr[q].at_.toNat) (relAdd l cs ls hs k xr[q])) (xr.drop (q + 1))) (l.drop (k + 1)) = R by rw [← rels_step hqx]; exact hr.out)
            clear hr
            generalize xr[q] = y at *
            obtain ⟨ra_, rk, rm, rn⟩ := y
            simp only at l0 l1 l2 l3 HX hfm HT
            have hb1 : bi < wr.heap.size := hbi
            have hsz5 := hC5.size
            have hS5 : S < wr.heap.size := by omega
            obtain ⟨J, hJ⟩ : ∃ q : Nat, FR + ra_.toNat = q := ⟨_, rfl⟩
            have hx1 : 0 ≤ ra_ := HX.out.1
            have hx2 : ra_ < mc := by have h := HX.out.2; rw [HMC.out] at h; exact h
            have hJi : (FR : Int) + ra_ = (J : Int) := by omega
            have hJn : J < NL := by have := HFR.out; omega
            have hwJ : IntKind.i64.wrap ((FR : Int) + ra_) = (J : Int) := by rw [hJi]; exact IntWalk.i64_in _ (by omega)
            rw [hJ] at HT
            have HWJ := Lib.hid hwJ
            clear hJ hJi hwJ
            obtain ⟨zb, zo, zx, ez, -, hzc, hzx, hz1, hz2⟩ := base_at HCOK.out (IntRow.all HM5.out.rows.c) hlt
            obtain ⟨rfl, rfl⟩ : q1 = zb ∧ 0 = zo := by simpa using ez
            rw [Nat.zero_add] at hzc
            have HZX := Lib.hid hzx
            have hq1l := (World.ownsRow.lt HM5.out.rows.c q1 rfl).2
            clear hzx ez
            have KR := Blk.made wr #[.int .i64 ra_, .int .i64 rk, .string rm, .string rn] 56
            have HC6 := Lib.hid (hC5.alloc (.cells #[.int .i64 ra_, .int .i64 rk, .string rm, .string rn] 56))
            have HM6 := Lib.hid (HM5.out.ext ((Chg.refl _ _).alloc (.cells #[.int .i64 ra_, .int .i64 rk, .string rm, .string rn] 56)))
            have hxc := HM5.out.sb.cell
            by_cases hk1 : rk = 1
            · subst hk1
              have HAD := Lib.hid (show relAdd l cs ls hs k ⟨ra_, 1, rm, rn⟩ = zx by rw [relAdd, if_pos rfl, HZX.out])
              go_wp2_with fail
              clear l0 l1 l2 l3 hxc hzc
              generalize wr.alloc (.cells #[.int .i64 ra_, .int .i64 1, .string rm, .string rn] 56) = w6 at *
              obtain ⟨AD, hAD⟩ : ∃ q, zx = q := ⟨_, rfl⟩
              rw [hAD] at HAD ⊢
              obtain ⟨kr, hkr⟩ : ∃ q, wr.heap.size = q := ⟨_, rfl⟩
              rw [hkr] at KR ⊢
              obtain ⟨-, -, -, -, hgc⟩ := InsRow.cells HM6.out.ins rfl (j := J) (by rw [HL2.out]; exact hJn)
              obtain ⟨x0, hx0⟩ : ∃ q, nAt is2 J = q := ⟨_, rfl⟩
              replace hgc : w6.cell? ⟨g', J * 5 + 4, none⟩ = some (.int .i64 x0) := by rw [← hx0]; exact hgc
              obtain ⟨x9, hx9⟩ : ∃ q, IntKind.i64.wrap (x0 + AD) = q := ⟨_, rfl⟩
              have HAA := Lib.hid (show addAt is2 J (relAdd l cs ls hs k ⟨ra_, 1, rm, rn⟩) = setN is2 J x9 by rw [addAt, HAD.out, hx0, hx9])
              have hwJ := HWJ.out
              have hSc := HM6.out.sb.cell
              have hRc := KR.cell
              have hgb9 := HM6.out.base
              have HX0 := Lib.hid hx0
              clear hx0
              go_still_tail 16, (by kernel_rfl)
              clear hgc hx9 hwJ hSc hRc
              have HM9 := Lib.hid (HM6.out.ext (Chg.refl _ _).drew)
              have HC9 := Lib.hid HC6.out.drew
              have hgf : ∀ o, w6.drew.frozen? ⟨g', o, none⟩ = false := HM9.out.frz
              have hgc2 : w6.drew.cell? ⟨g', J * 5 + 4, none⟩ = some (.int .i64 x0) := by obtain ⟨-, -, -, -, h⟩ := InsRow.cells HM9.out.ins rfl (j := J) (by rw [HL2.out]; exact hJn); rw [← HX0.out]; exact h
              change wpList _ _ _ _ _ w6.drew
              clear KR HM6 HC6
              generalize w6.drew = w9 at *
              go_wp2_with fail
              clear hgf hgc2
              have HM10 := Lib.hid (HM9.out.add hSB hbB (j := J) (by rw [HL2.out]; exact hJn) x9)
              have HC10 := HC9.out.setCell (p := ⟨g', J * 5 + 4, none⟩) (fun _ => Or.inr hgb9.1) (.int .i64 x9)
              have HL10 := Lib.hid (show (setN is2 J x9).length = NL by rw [setN_len]; exact HL2.out)
              rw [HAA.out] at HT
              clear HM9 HC9
              go_roundw
              case rel => exact ⟨q + 1, setN is2 J x9, by omega, by go_num, HC10, HL10, HM10, HT⟩
              case measure => simp [intOf]; omega
            · obtain ⟨AD, hAD⟩ : ∃ q, (placeF l cs ls hs ⟨ra_, rk, rm, rn⟩).1 = q := ⟨_, rfl⟩
              have HAD := Lib.hid (show relAdd l cs ls hs k ⟨ra_, rk, rm, rn⟩ = AD by rw [relAdd, if_neg hk1, hAD])
              have HADE := Lib.hid hAD
              clear hAD
              go_wp2_with fail
              have KR7 := KR
              have hp := HPL.out (wr.alloc (.cells #[.int .i64 ra_, .int .i64 rk, .string rm, .string rn] 56)) _ _ _ _ (HEW.out _ HC6.out) HM6.out ⟨ra_, rk, rm, rn⟩ (Nat.le_trans hfm (by decide))
              refine hp.mono ?_
              rintro e w7 ⟨rfl, hE7⟩
              rw [HADE.out]
              have KR8 := KR7.ext hE7
              have HC8 := Lib.hid (HC6.out.ext hE7)
              have HM8 := Lib.hid (HM6.out.ext hE7)
              generalize (placeF l cs ls hs ⟨ra_, rk, rm, rn⟩).2 = PI at *
              clear l0 l1 l2 l3 hxc hzc hp HM6 HC6 KR KR7 hE7
              go_wp2_with fail
              obtain ⟨kr, hkr⟩ : ∃ q, wr.heap.size = q := ⟨_, rfl⟩
              rw [hkr] at KR8 ⊢
              obtain ⟨-, -, -, -, hgc⟩ := InsRow.cells HM8.out.ins rfl (j := J) (by rw [HL2.out]; exact hJn)
              obtain ⟨x0, hx0⟩ : ∃ q, nAt is2 J = q := ⟨_, rfl⟩
              replace hgc : w7.cell? ⟨g', J * 5 + 4, none⟩ = some (.int .i64 x0) := by rw [← hx0]; exact hgc
              obtain ⟨x9, hx9⟩ : ∃ q, IntKind.i64.wrap (x0 + AD) = q := ⟨_, rfl⟩
              have HAA := Lib.hid (show addAt is2 J (relAdd l cs ls hs k ⟨ra_, rk, rm, rn⟩) = setN is2 J x9 by rw [addAt, HAD.out, hx0, hx9])
              have hwJ := HWJ.out
              have hSc := HM8.out.sb.cell
              have hRc := KR8.cell
              have hgb9 := HM8.out.base
              have HX0 := Lib.hid hx0
              clear hx0
              go_still_tail 16, (by kernel_rfl)
              clear hgc hx9 hwJ hSc hRc
              have HM9 := Lib.hid (HM8.out.ext (Chg.refl _ _).drew)
              have HC9 := Lib.hid HC8.out.drew
              have hgf : ∀ o, w7.drew.frozen? ⟨g', o, none⟩ = false := HM9.out.frz
              have hgc2 : w7.drew.cell? ⟨g', J * 5 + 4, none⟩ = some (.int .i64 x0) := by obtain ⟨-, -, -, -, h⟩ := InsRow.cells HM9.out.ins rfl (j := J) (by rw [HL2.out]; exact hJn); rw [← HX0.out]; exact h
              change wpList _ _ _ _ _ w7.drew
              clear KR8 HM8 HC8
              generalize w7.drew = w9 at *
              go_wp2_with fail
              clear hgf hgc2
              have HM10 := Lib.hid (HM9.out.add hSB hbB (j := J) (by rw [HL2.out]; exact hJn) x9)
              have HC10 := HC9.out.setCell (p := ⟨g', J * 5 + 4, none⟩) (fun _ => Or.inr hgb9.1) (.int .i64 x9)
              have HL10 := Lib.hid (show (setN is2 J x9).length = NL by rw [setN_len]; exact HL2.out)
              rw [HAA.out] at HT
              clear HM9 HC9
              go_roundw
              case rel => exact ⟨q + 1, setN is2 J x9, by omega, by go_num, HC10, HL10, HM10, HT⟩
              case measure => simp [intOf]; omega
          · obtain rfl : q = mr := by omega
            have HT := Lib.hid (show movesF l cs ls hs (k + 1) is2 (l.drop (k + 1)) = R by have := hr.out; rwa [List.drop_of_length_le (by rw [HMR.out]; exact Nat.le_refl _), moveRels] at this)
            have HLE := Lib.hid (show (is2.length : Int) = baseF codeLen 4 l (k + 1) by rw [HBS.out, HL2.out, ← HLEN.out, ← HFR.out, HFRE.out]; show ((FR + mc : Nat) : Int) = FR + ((xc.length : Nat) : Int); rw [HMC.out]; omega)
            have HM9 := Lib.hid (show MovB wr S B b (.slice (some ⟨g', 0, none⟩) is2.length cap') g' cap' is2 lo0 hi0 (some ⟨bo, o, none⟩) n cap q1 c1 q2 c2 q3 c3 cs ls hs (modsF l) by rw [HL2.out]; exact HM5.out)
            clear hr
            go_wp2_with fail
            subst hko
            go_roundw
            case rel => exact ⟨k + 1, g', cap', is2, by omega, by go_num, hC5, HLE, HM9, HT⟩
            case measure => simp [intOf]; omega
    · obtain rfl : k = n := by omega
      obtain rfl : is = R := by have := hr.out; rwa [List.drop_of_length_le (by rw [HN.out]; exact Nat.le_refl _), movesF] at this
      clear hr
      have hxc := HMk.out.sb.cell
      have hsz := hC.size
      have hS9 : S < wo.heap.size := by omega
      have hbl := baseF_le codeLen 4 1048576 (fun x hx => ⟨by unfold codeLen; omega, by unfold codeLen; have := (HNUM.out x hx).1; omega⟩) k (by rw [HN.out]; exact Nat.le_refl _)
      have hle : (is.length : Int) ≤ 4 + 6 * 1048576 ∧ 4 ≤ (is.length : Int) := by rw [HLEN.out]; omega
      have HC := Lib.hid hC
      have HMN := Lib.hid (movErr_no (lo := lo0) (hi := hi0) (l := l) (is := is))
      have HMY := Lib.hid (movErr_yes (lo := lo0) (hi := hi0) (l := l) (is := is))
      clear hC
      obtain ⟨NI, hNI⟩ : ∃ q, is.length = q := ⟨_, rfl⟩
      have HNI := Lib.hid hNI
      rw [hNI] at hle hxc HMN HMY
      clear hNI
      by_cases t1 : (NI : Int) ≤ 20000
      · by_cases t2 : lo0 ≤ 20000
        · by_cases t3 : hi0 ≤ 20000
          · have HE := Lib.hid (HMY.out ⟨by omega, t2, t3⟩)
            clear HMN HMY
            go_wp2_with fail
            refine (must_true _ _ _ _).mono ?_
            rintro e w3 ⟨rfl, rfl⟩
            go_wp2_with fail
            obtain ⟨E, hEE⟩ : ∃ E, ordF is 0 4 l = E := ⟨_, rfl⟩
            have HEE := Lib.hid (show movErr lo0 hi0 l is = E by rw [HE.out, hEE])
            have HE0 := Lib.hid (show ordF is 0 4 (l.drop 0) = E by simpa using hEE)
            have HB0 := Lib.hid (show ((4 : Nat) : Int) = baseF codeLen 4 l 0 from rfl)
            clear hEE HE hxc
            go_loopw [109] (fun i wr => ∃ (j base : Nat), j ≤ k ∧ i = .int .i64 j ∧ Ext wo wr ∧ Hid ((base : Int) = baseF codeLen 4 l j) ∧ Hid (ordF is j base (l.drop j) = E)) (fun i _ => k - (intOf i).toNat)
            case atStart => exact ⟨0, 4, Nat.zero_le _, rfl, Chg.refl _ _, HB0, HE0⟩
            case round =>
              obtain ⟨j, base, hj, rfl, hE1, HBA, hr⟩ := hrel
              clear HB0 HE0
              by_cases hlt : j < k
              · have hjl : j < l.length := by rw [HN.out]; exact hlt
                have hEW := (HEW.out wo HC.out).ext hE1
                obtain ⟨bo, o, rfl, hbo, hc⟩ := HL.out j hjl
                have hbo2 := Nat.lt_of_lt_of_le hbo hEW.size
                obtain ⟨fa, am, fc, cm, ia, ic, ca, cc, ra, rc, pa, pc, la, lc, ha, hcp, h0, h1, h2, h3, h4, h5, h6, h7, h8, h9, h10, h11, h12, -⟩ := ObjIn.ext hEW hbo hc
                have HR1 := Lib.hid (ord_step hjl hr.out)
                have HBS := Lib.hid (baseF_step codeLen 4 hjl)
                have HMO := Lib.hid (baseF_mono codeLen 4 (l := l) (fun x _ => by unfold codeLen; omega) (j := j + 1) (k - (j + 1)) (by rw [HN.out]; omega))
                clear hc hr
                generalize l[j] = x at *
                obtain ⟨xf, xi, xc, xr, op, ol, oh, lo, hi', lf, hf⟩ := x
                obtain ⟨xn, xv, xp⟩ := xf
                simp only at HR1 HBS h0 h1 h2 h3 h4 h5 h6 h7 h8 h9 h10 h11 h12
                obtain ⟨mc, hmc⟩ : ∃ m, xc.length = m := ⟨_, rfl⟩
                rw [hmc] at h4 HR1
                have hbm : base + mc ≤ NI := by
                  have e1 := HMO.out
                  rw [show j + 1 + (k - (j + 1)) = k by omega, HBS.out, ← HBA.out, ← HLEN.out, HNI.out] at e1
                  have e2 : codeLen ⟨⟨xn, xv, xp⟩, xi, xc, xr, op, ol, oh, lo, hi', lf, hf⟩ = (mc : Int) := by rw [← hmc]; rfl
                  rw [e2] at e1
                  omega
                have HB1 := Lib.hid (show ((base + mc : Nat) : Int) = baseF codeLen 4 l (j + 1) by
                  rw [HBS.out, ← HBA.out]
                  have e2 : codeLen ⟨⟨xn, xv, xp⟩, xi, xc, xr, op, ol, oh, lo, hi', lf, hf⟩ = (mc : Int) := by rw [← hmc]; rfl
                  rw [e2]; omega)
                clear hmc HMO
                go_wp2_with fail
                clear h0 h1 h2 h3 h4 h5 h6 h7 h8 h9 h10 h11 h12
                go_loopw [117] (fun i wr => ∃ (q : Nat), q ≤ mc ∧ i = .int .i64 q ∧ Ext wo wr ∧ Hid ((ordF1 is j base q (mc - q)).or (ordF is (j + 1) (base + mc) (l.drop (j + 1))) = E)) (fun i _ => mc - (intOf i).toNat)
                case atStart => exact ⟨0, Nat.zero_le _, rfl, hE1.alloc _, by rw [Nat.sub_zero]; exact HR1⟩
                case round =>
                  obtain ⟨q, hq, rfl, hE7, hr⟩ := hrel
                  by_cases hlt2 : q < mc
                  · have HS4 := Lib.hid (ord1_step hlt2 hr.out)
                    have hMr := HMk.out.ext hE7
                    have hSb := hMr.sb
                    rw [HNI.out] at hSb
                    have HSB := Lib.hid hSb
                    have hgl := hMr.base.2
                    have hSl := hSb.lt
                    obtain ⟨J, hJ⟩ : ∃ J, base + q = J := ⟨_, rfl⟩
                    have hJn : J < NI := by omega
                    rw [hJ] at HS4
                    have HWJ := Lib.hid (show IntKind.i64.wrap ((base : Int) + (q : Int)) = (J : Int) by rw [← hJ]; exact IntWalk.i64_in _ (by omega))
                    have HIN := Lib.hid (InsRow.cells hMr.ins rfl (j := J) (by rw [HNI.out]; exact hJn))
                    obtain ⟨zb, zo, zx, ez, -, hzc, hzx, hz1, hz2⟩ := base_at HCOK.out (IntRow.all hMr.rows.c) hlt
                    obtain ⟨rfl, rfl⟩ : q1 = zb ∧ 0 = zo := by simpa using ez
                    rw [Nat.zero_add] at hzc
                    obtain rfl : zx = (base : Int) := by rw [← hzx, HCS.out, basesF_at codeLen 4 l hlt, HBA.out]; rfl
                    have HZC := Lib.hid hzc
                    have hq1l := (World.ownsRow.lt hMr.rows.c q1 rfl).2
                    have HE7 := Lib.hid hE7
                    rw [HNI.out] at HS4
                    clear hr hMr hSb hJ hzx ez hzc hE7 hz1 hz2
                    generalize (is[J]?).getD default = I0 at *
                    obtain ⟨i0, i1, i2, i3, i4⟩ := I0
                    obtain ⟨M, hM⟩ : ∃ M, orderB ⟨i0, i1, i2, i3, i4⟩ (NI : Nat) = M := ⟨_, rfl⟩
                    rw [hM] at HS4
                    have HMD := Lib.hid hM
                    clear hM
                    go_wp2_with fail
                    refine wp_region_chain [22, 25] [.pointer (some ⟨S, 0, none⟩), .pointer (some ⟨S, 0, none⟩), .pointer (some ⟨S, 0, none⟩), .pointer (some ⟨S, 0, none⟩), .slice (some ⟨g, 0, none⟩) NI ci, .pointer (some ⟨S, 0, none⟩), .pointer (some ⟨S, 0, none⟩), .pointer (some ⟨S, 5, none⟩), .slice (some ⟨q1, 0, none⟩) k c1, .int .i64 (j : Nat), .pointer (some ⟨q1, j, none⟩), .int .i64 (base : Nat), .int .i64 (q : Nat), .int .i64 (J : Nat), .pointer (some ⟨g, J * 5, none⟩), .agg #[.int .i64 i0, .int .i64 i1, .int .i64 i2, .int .i64 i3, .int .i64 i4], .pointer (some ⟨S, 0, none⟩), .pointer (some ⟨S, 0, none⟩), .pointer (some ⟨S, 0, none⟩), .pointer (some ⟨S, 0, none⟩), .slice (some ⟨g, 0, none⟩) NI ci, .int .i64 (NI : Nat), undef, .int .i64 (j : Nat), .int .i64 (q : Nat), undef] (fun vs u => Ext wr u ∧ (match vs with | [] => True | [v0] => v0 = .bool M | [v0, _] => v0 = .bool M ∧ M = true | _ => False)) (frame := ?frab) (fun x => ?hfab) mixed (by kernel_rfl) ?h0b ?stb ?finb
                    case hfab =>
                      simp only [chain.frameOf, chain.fill, chain.setOpt, chain.dstOf, List.size_toArray, List.length_cons, List.length_nil, List.getElem?_toArray, List.getElem?_cons_succ, List.getElem?_cons_zero, List.setIfInBounds_toArray, List.set_cons_succ, List.set_cons_zero]
                      exact rfl
                    case h0b => exact ⟨(Chg.refl _ _).drew, trivial⟩
                    case stb =>
                      refine AllFrom.cons (fun x vs u hF hm hd K' hK' => ?sb0) (AllFrom.cons (fun x vs u hF hm hd K' hK' => ?sb1) (AllFrom.cons (fun x vs u hF hm hd K' hK' => ?sb2) (AllFrom.cons (fun x vs u hF hm hd K' hK' => ?sb3) (AllFrom.cons (fun x vs u hF hm hd K' hK' => ?sb4) (AllFrom.cons (fun x vs u hF hm hd K' hK' => ?sb5) (AllFrom.cons (fun x vs u hF hm hd K' hK' => ?sb6) (AllFrom.cons (fun x vs u hF hm hd K' hK' => ?sb7) (AllFrom.cons (fun x vs u hF hm hd K' hK' => ?sb8) (AllFrom.cons (fun x vs u hF hm hd K' hK' => ?sb9) (AllFrom.cons (fun x vs u hF hm hd K' hK' => ?sb10) (AllFrom.cons (fun x vs u hF hm hd K' hK' => ?sb11) (AllFrom.cons (fun x vs u hF hm hd K' hK' => ?sb12) (AllFrom.cons (fun x vs u hF hm hd K' hK' => ?sb13) (AllFrom.cons (fun x vs u hF hm hd K' hK' => ?sb14) (AllFrom.cons (fun x vs u hF hm hd K' hK' => ?sb15) (AllFrom.cons (fun x vs u hF hm hd K' hK' => ?sb16) (AllFrom.cons (fun x vs u hF hm hd K' hK' => ?sb17) (AllFrom.cons (fun x vs u hF hm hd K' hK' => ?sb18) (AllFrom.cons (fun x vs u hF hm hd K' hK' => ?sb19) (AllFrom.cons (fun x vs u hF hm hd K' hK' => ?sb20) (AllFrom.cons (fun x vs u hF hm hd K' hK' => ?sb21) (AllFrom.cons (fun x vs u hF hm hd K' hK' => ?sb22) (AllFrom.cons (fun x vs u hF hm hd K' hK' => ?sb23) (AllFrom.cons (fun x vs u hF hm hd K' hK' => ?sb24) (AllFrom.cons (fun x vs u hF hm hd K' hK' => ?sb25) (AllFrom.nil))))))))))))))))))))))))))
                      case sb0 =>
                        clear hd hm hF
                        go_simp
                        exact hK'.out _ _ _ rfl ⟨rfl, rfl⟩
                      case sb1 =>
                        have y0 := hd 0 120 (by decide) (by kernel_rfl) (by kernel_rfl)
                        replace y0 : x 120 = .pointer (some ⟨S, 0, none⟩) := y0
                        clear hd hm hF
                        go_simp
                        exact hK'.out _ _ _ (by simp only [y0]; rfl) ⟨rfl, rfl⟩
                      case sb2 =>
                        have y0 := hd 1 121 (by decide) (by kernel_rfl) (by kernel_rfl)
                        replace y0 : x 121 = .pointer (some ⟨S, 0, none⟩) := y0
                        clear hd hm hF
                        go_simp
                        exact hK'.out _ _ _ (by simp only [y0]; rfl) ⟨rfl, rfl⟩
                      case sb3 =>
                        have y0 := hd 2 122 (by decide) (by kernel_rfl) (by kernel_rfl)
                        replace y0 : x 122 = .pointer (some ⟨S, 0, none⟩) := y0
                        clear hd hm hF
                        go_simp
                        exact hK'.out _ _ _ (by simp only [y0]; rfl) ⟨rfl, rfl⟩
                      case sb4 =>
                        have y0 := hd 3 123 (by decide) (by kernel_rfl) (by kernel_rfl)
                        replace y0 : x 123 = .pointer (some ⟨S, 0, none⟩) := y0
                        have hSc := (HSB.out.ext hF.1).cell
                        clear hd hm hF
                        go_simp
                        exact hK'.out _ _ _ (by simp only [y0]; rfl) ⟨rfl, rfl⟩
                      case sb5 =>
                        clear hd hm hF
                        go_simp
                        exact hK'.out _ _ _ rfl ⟨rfl, rfl⟩
                      case sb6 =>
                        have y0 := hd 5 125 (by decide) (by kernel_rfl) (by kernel_rfl)
                        replace y0 : x 125 = .pointer (some ⟨S, 0, none⟩) := y0
                        clear hd hm hF
                        go_simp
                        exact hK'.out _ _ _ (by simp only [y0]; rfl) ⟨rfl, rfl⟩
                      case sb7 =>
                        have y0 := hd 6 126 (by decide) (by kernel_rfl) (by kernel_rfl)
                        replace y0 : x 126 = .pointer (some ⟨S, 0, none⟩) := y0
                        clear hd hm hF
                        go_simp
                        exact hK'.out _ _ _ (by simp only [y0]; rfl) ⟨rfl, rfl⟩
                      case sb8 =>
                        have y0 := hd 7 127 (by decide) (by kernel_rfl) (by kernel_rfl)
                        replace y0 : x 127 = .pointer (some ⟨S, 5, none⟩) := y0
                        have hSc := (HSB.out.ext hF.1).cell
                        clear hd hm hF
                        go_simp
                        exact hK'.out _ _ _ (by simp only [y0]; rfl) ⟨rfl, rfl⟩
                      case sb9 =>
                        clear hd hm hF
                        go_simp
                        exact hK'.out _ _ _ rfl ⟨rfl, rfl⟩
                      case sb10 =>
                        have y0 := hd 8 128 (by decide) (by kernel_rfl) (by kernel_rfl)
                        replace y0 : x 128 = .slice (some ⟨q1, 0, none⟩) k c1 := y0
                        have y1 := hd 9 129 (by decide) (by kernel_rfl) (by kernel_rfl)
                        replace y1 : x 129 = .int .i64 (j : Nat) := y1
                        clear hd hm hF
                        go_simp
                        exact hK'.out _ _ _ (by simp only [y0, y1]; rfl) ⟨rfl, rfl⟩
                      case sb11 =>
                        have y0 := hd 10 130 (by decide) (by kernel_rfl) (by kernel_rfl)
                        replace y0 : x 130 = .pointer (some ⟨q1, j, none⟩) := y0
                        have hqc := (hF.1.cell (p := ⟨q1, j, none⟩) hq1l id).trans HZC.out
                        clear hd hm hF
                        go_simp
                        exact hK'.out _ _ _ (by simp only [y0]; rfl) ⟨rfl, rfl⟩
                      case sb12 =>
                        clear hd hm hF
                        go_simp
                        exact hK'.out _ _ _ rfl ⟨rfl, rfl⟩
                      case sb13 =>
                        have y0 := hd 11 131 (by decide) (by kernel_rfl) (by kernel_rfl)
                        replace y0 : x 131 = .int .i64 (base : Nat) := y0
                        have y1 := hd 12 132 (by decide) (by kernel_rfl) (by kernel_rfl)
                        replace y1 : x 132 = .int .i64 (q : Nat) := y1
                        have hwJ := HWJ.out
                        clear hd hm hF
                        go_simp
                        exact hK'.out _ _ _ (by simp only [y0, y1]; rfl) ⟨rfl, rfl⟩
                      case sb14 =>
                        have y0 := hd 4 124 (by decide) (by kernel_rfl) (by kernel_rfl)
                        replace y0 : x 124 = .slice (some ⟨g, 0, none⟩) NI ci := y0
                        have y1 := hd 13 133 (by decide) (by kernel_rfl) (by kernel_rfl)
                        replace y1 : x 133 = .int .i64 (J : Nat) := y1
                        clear hd hm hF
                        go_simp
                        exact hK'.out _ _ _ (by simp only [y0, y1]; rfl) ⟨rfl, rfl⟩
                      case sb15 =>
                        have y0 := hd 14 134 (by decide) (by kernel_rfl) (by kernel_rfl)
                        replace y0 : x 134 = .pointer (some ⟨g, J * 5, none⟩) := y0
                        obtain ⟨p0, p1, p2, p3, p4⟩ := InsIn5.ext hF.1 hgl HIN.out
                        simp only at p0 p1 p2 p3 p4
                        clear hd hm hF
                        go_simp
                        exact hK'.out _ _ _ (by simp only [y0]; rfl) ⟨rfl, rfl⟩
                      case sb16 =>
                        clear hd hm hF
                        go_simp
                        exact hK'.out _ _ _ rfl ⟨rfl, rfl⟩
                      case sb17 =>
                        have y0 := hd 16 136 (by decide) (by kernel_rfl) (by kernel_rfl)
                        replace y0 : x 136 = .pointer (some ⟨S, 0, none⟩) := y0
                        clear hd hm hF
                        go_simp
                        exact hK'.out _ _ _ (by simp only [y0]; rfl) ⟨rfl, rfl⟩
                      case sb18 =>
                        have y0 := hd 17 137 (by decide) (by kernel_rfl) (by kernel_rfl)
                        replace y0 : x 137 = .pointer (some ⟨S, 0, none⟩) := y0
                        clear hd hm hF
                        go_simp
                        exact hK'.out _ _ _ (by simp only [y0]; rfl) ⟨rfl, rfl⟩
                      case sb19 =>
                        have y0 := hd 18 138 (by decide) (by kernel_rfl) (by kernel_rfl)
                        replace y0 : x 138 = .pointer (some ⟨S, 0, none⟩) := y0
                        clear hd hm hF
                        go_simp
                        exact hK'.out _ _ _ (by simp only [y0]; rfl) ⟨rfl, rfl⟩
                      case sb20 =>
                        have y0 := hd 19 139 (by decide) (by kernel_rfl) (by kernel_rfl)
                        replace y0 : x 139 = .pointer (some ⟨S, 0, none⟩) := y0
                        have hSc := (HSB.out.ext hF.1).cell
                        clear hd hm hF
                        go_simp
                        exact hK'.out _ _ _ (by simp only [y0]; rfl) ⟨rfl, rfl⟩
                      case sb21 =>
                        have y0 := hd 20 140 (by decide) (by kernel_rfl) (by kernel_rfl)
                        replace y0 : x 140 = .slice (some ⟨g, 0, none⟩) NI ci := y0
                        clear hd hm hF
                        go_simp
                        exact hK'.out _ _ _ (by simp only [y0]; rfl) ⟨rfl, rfl⟩
                      case sb22 =>
                        have y0 := hd 15 135 (by decide) (by kernel_rfl) (by kernel_rfl)
                        replace y0 : x 135 = .agg #[.int .i64 i0, .int .i64 i1, .int .i64 i2, .int .i64 i3, .int .i64 i4] := y0
                        have y1 := hd 21 141 (by decide) (by kernel_rfl) (by kernel_rfl)
                        replace y1 : x 141 = .int .i64 (NI : Nat) := y1
                        obtain rfl := List.eq_nil_of_length_eq_zero (hm 0 (by kernel_rfl))
                        obtain ⟨hE, -⟩ := hF
                        clear hd hm
                        go_simp
                        try simp only [y0, y1]
                        refine (mof.order_any ⟨i0, i1, i2, i3, i4⟩ (NI : Nat) _).mono ?_
                        rintro e u2 ⟨rfl, hB2⟩
                        have hE2 := Below.toExt hB2
                        rw [HMD.out]
                        exact hK'.out _ _ _ (by first | rfl | (simp only [y0, y1]; rfl)) ⟨hE.ext hE2, rfl⟩
                      case sb23 =>
                        clear hd hm hF
                        go_simp
                        exact hK'.out _ _ _ rfl ⟨rfl, rfl⟩
                      case sb24 =>
                        clear hd hm hF
                        go_simp
                        exact hK'.out _ _ _ rfl ⟨rfl, rfl⟩
                      case sb25 =>
                        obtain ⟨v0, rfl⟩ : ∃ v0, vs = [v0] := by match vs, hm 1 (by kernel_rfl) with | [v0], _ => exact ⟨_, rfl⟩
                        obtain ⟨hE, rfl⟩ := hF
                        have y0 := hd 22 142 (by decide) (by kernel_rfl) (by kernel_rfl)
                        replace y0 : x 142 = .bool M := y0
                        have y1 := hd 23 143 (by decide) (by kernel_rfl) (by kernel_rfl)
                        replace y1 : x 143 = .int .i64 (j : Nat) := y1
                        have y2 := hd 24 144 (by decide) (by kernel_rfl) (by kernel_rfl)
                        replace y2 : x 144 = .int .i64 (q : Nat) := y2
                        clear hd hm
                        cases M
                        · have HT := Lib.hid (HS4.out.1 rfl)
                          go_simp
                          refine (must_false _ _ _ _).mono ?_
                          rintro e u2 ⟨rfl, rfl⟩
                          go_wp2_with fail
                          exact ⟨rfl, movp_no (HC.out.ext (HE7.out.ext hE)) (by rw [HEE.out]; exact HT.out)⟩
                        · go_simp
                          refine (must_true _ _ _ _).mono ?_
                          rintro e u2 ⟨rfl, rfl⟩
                          exact hK'.out _ _ _ (by simp only [y0, y1, y2]; rfl) ⟨hE, rfl, rfl⟩
                    case finb =>
                      intro x vs u hl hF hs
                      obtain ⟨v0, v1, rfl⟩ : ∃ v0 v1, vs = [v0, v1] := by match vs, hl with | [v0, v1], _ => exact ⟨_, _, rfl⟩
                      obtain ⟨hE, rfl, rfl⟩ := hF
                      clear hs
                      have HT := Lib.hid (HS4.out.2 rfl)
                      have hE9 := HE7.out.ext hE
                      clear hE
                      go_wp2_with fail
                      go_roundw
                      case rel => exact ⟨q + 1, by omega, by go_num, hE9, HT.out⟩
                      case measure => simp [intOf]; omega
                  · obtain rfl : q = mc := by omega
                    have HT := Lib.hid (show ordF is (j + 1) (base + q) (l.drop (j + 1)) = E by have := hr.out; rwa [Nat.sub_self, ordF1, Option.none_or] at this)
                    clear hr
                    go_wp2_with fail
                    go_roundw
                    case rel => exact ⟨j + 1, base + q, by omega, by go_num, hE7, HB1, HT⟩
                    case measure => simp [intOf]; omega
              · obtain rfl : j = k := by omega
                obtain rfl : E = none := by have := hr.out; rw [List.drop_of_length_le (by rw [HN.out]; exact Nat.le_refl _)] at this; exact this.symm
                have hMr := HMk.out.ext hE1
                clear hr
                go_wp2_with fail
                go_end0
                exact movp_ok (HC.out.ext hE1) HEE.out hMr.sb hMr.ins
          · have HE := Lib.hid (HMN.out (by omega))
            clear HMN HMY
            go_wp2_with fail
            refine (must_false _ _ _ _).mono ?_
            rintro e w3 ⟨rfl, rfl⟩
            go_wp2_with fail
            exact ⟨rfl, movp_no HC.out HE.out⟩
        · have HE := Lib.hid (HMN.out (by omega))
          clear HMN HMY
          go_wp2_with fail
          refine (must_false _ _ _ _).mono ?_
          rintro e w3 ⟨rfl, rfl⟩
          go_wp2_with fail
          exact ⟨rfl, movp_no HC.out HE.out⟩
      · have HE := Lib.hid (HMN.out (by omega))
        clear HMN HMY
        go_wp2_with fail
        refine (must_false _ _ _ _).mono ?_
        rintro e w3 ⟨rfl, rfl⟩
        go_wp2_with fail
        exact ⟨rfl, movp_no HC.out HE.out⟩
end linkw
end Go.Proofs.YtpcihajmcejliabDoor
