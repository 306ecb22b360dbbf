/- The walk of the program's Link. -/
import Derived.Test.YtpcihajmcejliabDoorLinkDef
namespace Go.Proofs.YtpcihajmcejliabDoor
open Go.RowKit Go.WideMaps Go.Maps
namespace linkw
open face
set_option maxRecDepth 100000 in
set_option maxHeartbeats 16000000 in
theorem link_any (a : Option Addr) (l : List FObj) (n cap : Nat) (w : World) (hn : l.length = n) (hl : AllIn 13 ObjIn w a l) (hsm : ∀ x ∈ l, ObjSmall x) (hev : ErrVar w) (hmv : MaxVar w) :
    Calls Tryd.prog 4 #[.slice a n cap] w (LinkPost w (linkF l)) := by
  obtain ⟨T, hT⟩ : ∃ T, linkF l = T := ⟨_, rfl⟩
  rw [hT]
  obtain ⟨R, hRe⟩ : ∃ R, w.heap.size = R := ⟨_, rfl⟩
  obtain ⟨E, hEe⟩ : ∃ E, R + 1 = E := ⟨_, rfl⟩
  obtain ⟨b, hbe⟩ : ∃ b, E + 1 = b := ⟨_, rfl⟩
  obtain ⟨S, hSe⟩ : ∃ S, b + 1 = S := ⟨_, rfl⟩
  have hR0 : Blk ((w.alloc (.cells zeroImg 25)).alloc (.cells #[.int .i64 0, .int .i64 0, .int .i64 0] 28)) R zeroImg 25 := by
    rw [← hRe]; exact (Blk.made w _ _).alloc _
  have hE0 : Blk ((w.alloc (.cells zeroImg 25)).alloc (.cells #[.int .i64 0, .int .i64 0, .int .i64 0] 28)) E #[.int .i64 0, .int .i64 0, .int .i64 0] 28 := by
    rw [← hEe, ← hRe]; exact Blk.made2 w _ _ _
  have hX0 : Ext w ((w.alloc (.cells zeroImg 25)).alloc (.cells #[.int .i64 0, .int .i64 0, .int .i64 0] 28)) := ((Chg.refl _ _).alloc _).alloc _
  have hz0 : ((w.alloc (.cells zeroImg 25)).alloc (.cells #[.int .i64 0, .int .i64 0, .int .i64 0] 28)).heap.size = b := by simp; omega
  have HT := Lib.hid hT
  have HN := Lib.hid hn
  have HL := Lib.hid hl
  have HSM := Lib.hid hsm
  have HEV := Lib.hid hev
  have HMV := Lib.hid hmv
  have HSZ := Lib.hid hz0
  clear hT hn hl hsm hev hmv hz0
  have hmf : ∀ (fn : Fn) (first cap : Array Value) (w : World), (Instr.makeFunc fn first cap).run Tryd.prog w = .ok (.func fn first cap) w := fun _ _ _ _ => rfl
  go_enter_defers Tryd.func4, Tryd.ntmps4
  by_cases h1 : 1 ≤ (n : Int)
  · by_cases h6 : (n : Int) ≤ 6
    · have HOK := Lib.hid (show 1 ≤ l.length ∧ l.length ≤ 6 by rw [HN.out]; omega)
      go_wp2_with fail
      refine (must_true _ _ _ _).mono ?_
      rintro e w3 ⟨rfl, rfl⟩
      have hmm := @run_makeMap Tryd.prog
      have hX := hX0
      have hR := hR0
      have hE := hE0
      have hz := HSZ.out
      unfold zeroImg at hX hR hE hz
      have HZ := Lib.hid hz
      clear hX0 hR0 hE0 HSZ hz
      generalize (w.alloc (.cells #[.slice none 0 0, .int .i64 0, .int .i64 0] 25)).alloc (.cells #[.int .i64 0, .int .i64 0, .int .i64 0] 28) = w0 at *
      go_wp2_with fail
      have hM1 := (NumMap.made w0).kept ((Chg.refl _ _).alloc (.cells #[.slice none 0 0, .int .i64 0, .int .i64 0, .slice a n cap, .map (some w0.heap.size), .slice none 0 0, .slice none 0 0, .slice none 0 0] 51))
      have hB1 := Blk.made (w0.alloc (.map #[] 0)) #[.slice none 0 0, .int .i64 0, .int .i64 0, .slice a n cap, .map (some w0.heap.size), .slice none 0 0, .slice none 0 0, .slice none 0 0] 51
      have hX1 := (hX.alloc (.map #[] 0)).alloc (.cells #[.slice none 0 0, .int .i64 0, .int .i64 0, .slice a n cap, .map (some w0.heap.size), .slice none 0 0, .slice none 0 0, .slice none 0 0] 51)
      have hR1 := (hR.alloc (.map #[] 0)).alloc (.cells #[.slice none 0 0, .int .i64 0, .int .i64 0, .slice a n cap, .map (some w0.heap.size), .slice none 0 0, .slice none 0 0, .slice none 0 0] 51)
      have hE1 := (hE.alloc (.map #[] 0)).alloc (.cells #[.slice none 0 0, .int .i64 0, .int .i64 0, .slice a n cap, .map (some w0.heap.size), .slice none 0 0, .slice none 0 0, .slice none 0 0] 51)
      clear hX hR hE
      have hs1 : (w0.alloc (.map #[] 0)).heap.size = S := by simp; have := HZ.out; omega
      rw [hs1] at hB1
      have hs2 : w0.heap.size + 1 = S := by have := HZ.out; omega
      rw [hs2]
      rw [HZ.out] at *
      generalize (w0.alloc (.map #[] 0)).alloc (.cells #[.slice none 0 0, .int .i64 0, .int .i64 0, .slice a n cap, .map (some b), .slice none 0 0, .slice none 0 0, .slice none 0 0] 51) = w1 at *
      clear hs1 hs2 hmm hmf HZ
      refine (forms_any w (.slice none 0 0) (.int .i64 0) (.int .i64 0) (.slice none 0 0) (.slice none 0 0) (.slice none 0 0) a l n cap S b w1 HN.out HL.out hX1 hB1 hM1 (by omega) (by omega) HSM.out HEV.out HMV.out (by omega)).mono ?_
      rintro e w2 ⟨hC2, h2⟩
      have hX2 : Ext w w2 := hX1.trans hC2 (fun i hi e => by omega)
      have hR2 := hR1.chg hC2 (by omega)
      have hE2 := hE1.chg hC2 (by omega)
      have hB2 := hB1.chg hC2 (by omega)
      clear hX1 hR1 hE1 hB1 hM1 hC2
      obtain ⟨F1, hF1⟩ : ∃ F, formsF [] l = F := ⟨_, rfl⟩
      rw [hF1] at h2
      have HF1 := Lib.hid hF1
      clear hF1
      cases F1 with
      | some t =>
        obtain ⟨m, c, k⟩ := t
        obtain rfl : e = _ := h2
        have HB := Lib.hid (show T = .bad m c k by rw [← HT.out]; exact linkF_forms HOK.out HF1.out)
        go_wp2_with fail
        refine leaves_cons (f := 5) (args := #[.pointer (some ⟨R, 0, none⟩), .pointer (some ⟨E, 0, none⟩)]) (by simp) (by simp [go_sem]) ?_
        refine (catch_link R E m c k _ _ _ _ _ _ _ hR2 hE2 (by omega)).mono ?_
        rintro e u' w'' ⟨rfl, rfl, hRz, hEz, hCz⟩
        refine ⟨_, results_aa (p := 2) (q := 3) rfl _ _ rfl hRz Tryd.underlying25 rfl (by kernel_rfl) rfl hEz Tryd.underlying28 rfl (by kernel_rfl), ?_⟩
        have hXX := hX2.trans hCz fun i hi e => by omega
        exact linkp_bad hXX (HB.out)
      | none =>
        obtain ⟨rfl, hM2⟩ := h2
        have HMAY := Lib.hid (fun (x : FObj) (hx : x ∈ l) => may_facts (forms_none HF1.out x hx) (HSM.out x hx))
        go_wp2_with fail
        refine (imports_any w (.slice none 0 0) (.int .i64 0) (.int .i64 0) (.slice none 0 0) (.slice none 0 0) (.slice none 0 0) a l n cap S b w2 HN.out HL.out hX2 hB2 hM2 HSM.out (by omega)).mono ?_
        rintro e w3 ⟨hC3, h3⟩
        have hX3 := hX2.ext hC3
        have hR3 := hR2.ext hC3
        have hE3 := hE2.ext hC3
        have hB3 := hB2.ext hC3
        have hM3 := hM2.kept hC3
        clear hX2 hR2 hE2 hB2 hM2 hC3
        obtain ⟨F2, hF2⟩ : ∃ F, impF l 0 l = F := ⟨_, rfl⟩
        rw [hF2] at h3
        have HF2 := Lib.hid hF2
        clear hF2
        cases F2 with
        | some t =>
          obtain ⟨m, c, k⟩ := t
          obtain rfl : e = _ := h3
          have HB := Lib.hid (show T = .bad m c k by rw [← HT.out]; exact linkF_imp HOK.out HF1.out HF2.out)
          go_wp2_with fail
          refine leaves_cons (f := 5) (args := #[.pointer (some ⟨R, 0, none⟩), .pointer (some ⟨E, 0, none⟩)]) (by simp) (by simp [go_sem]) ?_
          refine (catch_link R E m c k _ _ _ _ _ _ _ hR3 hE3 (by omega)).mono ?_
          rintro e u' w'' ⟨rfl, rfl, hRz, hEz, hCz⟩
          refine ⟨_, results_aa (p := 2) (q := 3) rfl _ _ rfl hRz Tryd.underlying25 rfl (by kernel_rfl) rfl hEz Tryd.underlying28 rfl (by kernel_rfl), ?_⟩
          have hXX := hX3.trans hCz fun i hi e => by omega
          exact linkp_bad hXX (HB.out)
        | none =>
          obtain ⟨rfl, -⟩ := h3
          go_wp2_with fail
          have HMK := Lib.hid (fun (u : World) => run_make_row' (P := Tryd.prog) 49 3 (.int .i64 0) 8 Tryd.underlying49 getw.info_int rfl .i64 .i64 n (by omega) (by omega) u)
          have hSN := hB3.lt
          refine wp_region_weave [14, 17, 20] (fun i => (([.val (.pointer (some ⟨S, 0, none⟩)), .val (.pointer (some ⟨S, 0, none⟩)), .val (.pointer (some ⟨S, 0, none⟩)), .val (.slice a n cap), .val (.int .i64 (n : Nat)), zc n, .val (.slice a n cap), .val (.int .i64 (n : Nat)), zc n, .val (.slice a n cap), .val (.int .i64 (n : Nat)), zc n, .val (.pointer (some ⟨S, 0, none⟩)), .val (.pointer (some ⟨S, 5, none⟩)), .any, .val (.pointer (some ⟨S, 0, none⟩)), .val (.pointer (some ⟨S, 6, none⟩)), .any, .val (.pointer (some ⟨S, 0, none⟩)), .val (.pointer (some ⟨S, 7, none⟩)), .any] : List Cm).getD i .any).holds w3.heap.size) (fun vs u => Z3 w3 S w3.heap.size n (.slice none 0 0) (.int .i64 0) (.int .i64 0) (.slice a n cap) (.map (some b)) vs.length u) (Chg (fun i => i < w3.heap.size)) (frame := ?fraa) (fun x => ?hfaa) mixed (by kernel_rfl) (by kernel_rfl) (fun i v u u' h hG => Cm.stab _ _ _ _ _ h hG) ?h0a ?sta ?fina
          case hfaa =>
            simp only [chain.frameOf, chain.fill, chain.setOpt, chain.dstOf, List.size_toArray, List.length_cons, List.length_nil, List.getElem?_toArray, List.getElem?_cons_succ, List.getElem?_cons_zero, List.setIfInBounds_toArray, List.set_cons_succ, List.set_cons_zero]
            exact rfl
          case h0a => exact ⟨(Chg.refl _ _).drew, _, _, _, hB3.drew, fun h => by simp at h, fun h => by simp at h, fun h => by simp at h⟩
          case sta =>
            refine AllFrom.cons (fun x vs u hF hm hb hd K' hK' => ?sa0) (AllFrom.cons (fun x vs u hF hm hb hd K' hK' => ?sa1) (AllFrom.cons (fun x vs u hF hm hb hd K' hK' => ?sa2) (AllFrom.cons (fun x vs u hF hm hb hd K' hK' => ?sa3) (AllFrom.cons (fun x vs u hF hm hb hd K' hK' => ?sa4) (AllFrom.cons (fun x vs u hF hm hb hd K' hK' => ?sa5) (AllFrom.cons (fun x vs u hF hm hb hd K' hK' => ?sa6) (AllFrom.cons (fun x vs u hF hm hb hd K' hK' => ?sa7) (AllFrom.cons (fun x vs u hF hm hb hd K' hK' => ?sa8) (AllFrom.cons (fun x vs u hF hm hb hd K' hK' => ?sa9) (AllFrom.cons (fun x vs u hF hm hb hd K' hK' => ?sa10) (AllFrom.cons (fun x vs u hF hm hb hd K' hK' => ?sa11) (AllFrom.cons (fun x vs u hF hm hb hd K' hK' => ?sa12) (AllFrom.cons (fun x vs u hF hm hb hd K' hK' => ?sa13) (AllFrom.cons (fun x vs u hF hm hb hd K' hK' => ?sa14) (AllFrom.cons (fun x vs u hF hm hb hd K' hK' => ?sa15) (AllFrom.cons (fun x vs u hF hm hb hd K' hK' => ?sa16) (AllFrom.cons (fun x vs u hF hm hb hd K' hK' => ?sa17) (AllFrom.cons (fun x vs u hF hm hb hd K' hK' => ?sa18) (AllFrom.cons (fun x vs u hF hm hb hd K' hK' => ?sa19) (AllFrom.cons (fun x vs u hF hm hb hd K' hK' => ?sa20) (AllFrom.nil)))))))))))))))))))))
            case sa0 =>
              have HF := Lib.hid hF
              clear hd hm hb hF
              go_simp
              exact hK'.out _ _ _ rfl (Chg.refl _ _) ⟨rfl, HF.out⟩
            case sa1 =>
              have HF := Lib.hid hF
              clear hd hm hb hF
              go_simp
              exact hK'.out _ _ _ rfl (Chg.refl _ _) ⟨rfl, HF.out⟩
            case sa2 =>
              have HF := Lib.hid hF
              clear hd hm hb hF
              go_simp
              exact hK'.out _ _ _ rfl (Chg.refl _ _) ⟨rfl, HF.out⟩
            case sa3 =>
              have HF := Lib.hid hF
              clear hd hm hb hF
              go_simp
              exact hK'.out _ _ _ rfl (Chg.refl _ _) ⟨rfl, HF.out⟩
            case sa4 =>
              have y0 := hd 3 (by decide) (by kernel_rfl)
              replace y0 : x 26 = .slice a n cap := y0
              have HF := Lib.hid hF
              clear hd hm hb hF
              go_simp
              exact hK'.out _ _ _ (by simp only [y0]; rfl) (Chg.refl _ _) ⟨rfl, HF.out⟩
            case sa5 =>
              have y0 := hd 4 (by decide) (by kernel_rfl)
              replace y0 : x 27 = .int .i64 (n : Nat) := y0
              have hmk := HMK.out u
              have HF := Lib.hid hF
              have hNu := hF.1.size
              clear hd hm hb hF
              go_simp
              exact hK'.out _ _ _ (by simp only [y0]; rfl) ((Chg.refl _ _).alloc _) ⟨⟨_, rfl, hNu, by rw [← madeCells_one]; exact Blk.made _ _ _⟩, Z3.chg HF.out ((Chg.refl _ _).alloc _)⟩
            case sa6 =>
              have HF := Lib.hid hF
              clear hd hm hb hF
              go_simp
              exact hK'.out _ _ _ rfl (Chg.refl _ _) ⟨rfl, HF.out⟩
            case sa7 =>
              have y0 := hd 6 (by decide) (by kernel_rfl)
              replace y0 : x 29 = .slice a n cap := y0
              have HF := Lib.hid hF
              clear hd hm hb hF
              go_simp
              exact hK'.out _ _ _ (by simp only [y0]; rfl) (Chg.refl _ _) ⟨rfl, HF.out⟩
            case sa8 =>
              have y0 := hd 7 (by decide) (by kernel_rfl)
              replace y0 : x 30 = .int .i64 (n : Nat) := y0
              have hmk := HMK.out u
              have HF := Lib.hid hF
              have hNu := hF.1.size
              clear hd hm hb hF
              go_simp
              exact hK'.out _ _ _ (by simp only [y0]; rfl) ((Chg.refl _ _).alloc _) ⟨⟨_, rfl, hNu, by rw [← madeCells_one]; exact Blk.made _ _ _⟩, Z3.chg HF.out ((Chg.refl _ _).alloc _)⟩
            case sa9 =>
              have HF := Lib.hid hF
              clear hd hm hb hF
              go_simp
              exact hK'.out _ _ _ rfl (Chg.refl _ _) ⟨rfl, HF.out⟩
            case sa10 =>
              have y0 := hd 9 (by decide) (by kernel_rfl)
              replace y0 : x 32 = .slice a n cap := y0
              have HF := Lib.hid hF
              clear hd hm hb hF
              go_simp
              exact hK'.out _ _ _ (by simp only [y0]; rfl) (Chg.refl _ _) ⟨rfl, HF.out⟩
            case sa11 =>
              have y0 := hd 10 (by decide) (by kernel_rfl)
              replace y0 : x 33 = .int .i64 (n : Nat) := y0
              have hmk := HMK.out u
              have HF := Lib.hid hF
              have hNu := hF.1.size
              clear hd hm hb hF
              go_simp
              exact hK'.out _ _ _ (by simp only [y0]; rfl) ((Chg.refl _ _).alloc _) ⟨⟨_, rfl, hNu, by rw [← madeCells_one]; exact Blk.made _ _ _⟩, Z3.chg HF.out ((Chg.refl _ _).alloc _)⟩
            case sa12 =>
              have y0 := hd 0 (by decide) (by kernel_rfl)
              replace y0 : x 23 = .pointer (some ⟨S, 0, none⟩) := y0
              have HF := Lib.hid hF
              clear hd hm hb hF
              go_simp
              exact hK'.out _ _ _ (by simp only [y0]; rfl) (Chg.refl _ _) ⟨rfl, HF.out⟩
            case sa13 =>
              have y0 := hd 12 (by decide) (by kernel_rfl)
              replace y0 : x 35 = .pointer (some ⟨S, 0, none⟩) := y0
              have HF := Lib.hid hF
              clear hd hm hb hF
              go_simp
              exact hK'.out _ _ _ (by simp only [y0]; rfl) (Chg.refl _ _) ⟨rfl, HF.out⟩
            case sa14 =>
              obtain rfl := List.eq_nil_of_length_eq_zero (hm 0 (by kernel_rfl))
              have y0 := hd 13 (by decide) (by kernel_rfl)
              replace y0 : x 36 = .pointer (some ⟨S, 5, none⟩) := y0
              have y1 := hd 5 (by decide) (by kernel_rfl)
              replace y1 : ∃ g, x 28 = .slice (some ⟨g, 0, none⟩) n n ∧ w3.heap.size ≤ g ∧ Blk u g (List.replicate n (Value.int .i64 0)).toArray 3 := y1
              obtain ⟨gg, yg, hgN, hgb⟩ := y1
              obtain ⟨-, a5, a6, a7, hSb, -⟩ := id hF
              have hSc := hSb.cell
              have hSf := hSb.frozen
              have hSl := hSb.lt
              have hF2 := Z3.store1 (v := .slice (some ⟨gg, 0, none⟩) n n) hF hSN ⟨gg, rfl, hgN, hgb⟩
              clear hd hm hb hSb
              go_simp
              exact hK'.out _ _ undef (by simp only [y0, yg]; rfl) ((Chg.refl _ _).setCell (fun _ => hSN) _) hF2
            case sa15 =>
              have y0 := hd 1 (by decide) (by kernel_rfl)
              replace y0 : x 24 = .pointer (some ⟨S, 0, none⟩) := y0
              have HF := Lib.hid hF
              clear hd hm hb hF
              go_simp
              exact hK'.out _ _ _ (by simp only [y0]; rfl) (Chg.refl _ _) ⟨rfl, HF.out⟩
            case sa16 =>
              have y0 := hd 15 (by decide) (by kernel_rfl)
              replace y0 : x 37 = .pointer (some ⟨S, 0, none⟩) := y0
              have HF := Lib.hid hF
              clear hd hm hb hF
              go_simp
              exact hK'.out _ _ _ (by simp only [y0]; rfl) (Chg.refl _ _) ⟨rfl, HF.out⟩
            case sa17 =>
              obtain ⟨x1, rfl⟩ : ∃ x1, vs = [x1] := by match vs, hm 1 (by kernel_rfl) with | [x1], _ => exact ⟨_, rfl⟩
              have y0 := hd 16 (by decide) (by kernel_rfl)
              replace y0 : x 38 = .pointer (some ⟨S, 6, none⟩) := y0
              have y1 := hd 8 (by decide) (by kernel_rfl)
              replace y1 : ∃ g, x 31 = .slice (some ⟨g, 0, none⟩) n n ∧ w3.heap.size ≤ g ∧ Blk u g (List.replicate n (Value.int .i64 0)).toArray 3 := y1
              obtain ⟨gg, yg, hgN, hgb⟩ := y1
              obtain ⟨-, a5, a6, a7, hSb, -⟩ := id hF
              have hSc := hSb.cell
              have hSf := hSb.frozen
              have hSl := hSb.lt
              have hF2 := Z3.store2 (v := .slice (some ⟨gg, 0, none⟩) n n) hF hSN ⟨gg, rfl, hgN, hgb⟩
              clear hd hm hb hSb
              go_simp
              exact hK'.out _ _ undef (by simp only [y0, yg]; rfl) ((Chg.refl _ _).setCell (fun _ => hSN) _) hF2
            case sa18 =>
              have y0 := hd 2 (by decide) (by kernel_rfl)
              replace y0 : x 25 = .pointer (some ⟨S, 0, none⟩) := y0
              have HF := Lib.hid hF
              clear hd hm hb hF
              go_simp
              exact hK'.out _ _ _ (by simp only [y0]; rfl) (Chg.refl _ _) ⟨rfl, HF.out⟩
            case sa19 =>
              have y0 := hd 18 (by decide) (by kernel_rfl)
              replace y0 : x 39 = .pointer (some ⟨S, 0, none⟩) := y0
              have HF := Lib.hid hF
              clear hd hm hb hF
              go_simp
              exact hK'.out _ _ _ (by simp only [y0]; rfl) (Chg.refl _ _) ⟨rfl, HF.out⟩
            case sa20 =>
              obtain ⟨x1, x2, rfl⟩ : ∃ x1 x2, vs = [x1, x2] := by match vs, hm 2 (by kernel_rfl) with | [x1, x2], _ => exact ⟨_, _, rfl⟩
              have y0 := hd 19 (by decide) (by kernel_rfl)
              replace y0 : x 40 = .pointer (some ⟨S, 7, none⟩) := y0
              have y1 := hd 11 (by decide) (by kernel_rfl)
              replace y1 : ∃ g, x 34 = .slice (some ⟨g, 0, none⟩) n n ∧ w3.heap.size ≤ g ∧ Blk u g (List.replicate n (Value.int .i64 0)).toArray 3 := y1
              obtain ⟨gg, yg, hgN, hgb⟩ := y1
              obtain ⟨-, a5, a6, a7, hSb, -⟩ := id hF
              have hSc := hSb.cell
              have hSf := hSb.frozen
              have hSl := hSb.lt
              have hF2 := Z3.store3 (v := .slice (some ⟨gg, 0, none⟩) n n) hF hSN ⟨gg, rfl, hgN, hgb⟩
              clear hd hm hb hSb
              go_simp
              exact hK'.out _ _ undef (by simp only [y0, yg]; rfl) ((Chg.refl _ _).setCell (fun _ => hSN) _) hF2
          case fina =>
            intro x vs u hl hF hq
            clear hq
            have hl3 : vs.length = 3 := hl
            rw [hl3] at hF
            obtain ⟨hC4, a5, a6, a7, hB4, h5, h6_, h7⟩ := hF
            obtain ⟨g5, rfl, hg5, hb5⟩ := h5 (by decide)
            obtain ⟨g6, rfl, hg6, hb6⟩ := h6_ (by decide)
            obtain ⟨g7, rfl, hg7, hb7⟩ := h7 (by decide)
            have hX4 : Ext w u := hX3.trans hC4 (fun i hi e => by omega)
            have hR4 := hR3.chg hC4 (by omega)
            have hE4 := hE3.chg hC4 (by omega)
            have hM4 := NumMap.chg hM3 hC4 (by omega)
            clear hX3 hR3 hE3 hB3 hM3 hC4 HMK hl hl3
            go_wp2_with fail
            refine (relocs_any w (.slice none 0 0) (.int .i64 0) (.int .i64 0) a (some ⟨g5, 0, none⟩) (some ⟨g6, 0, none⟩) (some ⟨g7, 0, none⟩) l (List.replicate n 0) (List.replicate n 0) (List.replicate n 0) n cap n n n S b u HN.out HL.out hX4 hB4 hM4 HSM.out (by omega) (zc_all hb5) (zc_all hb6) (zc_all hb7) (zc_ok n) (zc_ok n) (zc_ok n) (fun x hx => (HMAY.out x hx).2.1)).mono ?_
            rintro e w5 ⟨hC5, h5⟩
            have hX5 := hX4.ext hC5
            have hR5 := hR4.ext hC5
            have hE5 := hE4.ext hC5
            have hB5 := hB4.ext hC5
            have hM5 := hM4.kept hC5
            clear hX4 hR4 hE4 hB4 hM4 hC5 hb5 hb6 hb7 hg5 hg6 hg7
            obtain ⟨F3, hF3⟩ : ∃ F, relF l 0 l = F := ⟨_, rfl⟩
            rw [hF3] at h5
            have HF3 := Lib.hid hF3
            clear hF3
            cases F3 with
            | some t =>
              obtain ⟨m, c, k⟩ := t
              obtain rfl : e = _ := h5
              have HB := Lib.hid (show T = .bad m c k by rw [← HT.out]; exact linkF_rel HOK.out HF1.out HF2.out HF3.out)
              go_wp2_with fail
              refine leaves_cons (f := 5) (args := #[.pointer (some ⟨R, 0, none⟩), .pointer (some ⟨E, 0, none⟩)]) (by simp) (by simp [go_sem]) ?_
              refine (catch_link R E m c k _ _ _ _ _ _ _ hR5 hE5 (by omega)).mono ?_
              rintro e u' w'' ⟨rfl, rfl, hRz, hEz, hCz⟩
              refine ⟨_, results_aa (p := 2) (q := 3) rfl _ _ rfl hRz Tryd.underlying25 rfl (by kernel_rfl) rfl hEz Tryd.underlying28 rfl (by kernel_rfl), ?_⟩
              have hXX := hX5.trans hCz fun i hi e => by omega
              exact linkp_bad hXX (HB.out)
            | none =>
              obtain ⟨rfl, -⟩ := h5
              have hSc := hB5.cell
              have hSf := hB5.frozen
              have hSl := hB5.lt
              go_wp2_with fail
              clear hSc hSf
              have hC6 := (((Chg.refl (fun i => i = S) w5).setCell (p := ⟨S, 5, none⟩) (fun _ => rfl) (.slice none 0 0)).setCell (p := ⟨S, 6, none⟩) (fun _ => rfl) (.slice none 0 0)).setCell (p := ⟨S, 7, none⟩) (fun _ => rfl) (.slice none 0 0)
              have hB6 : Blk (((w5.setCell ⟨S, 5, none⟩ (.slice none 0 0)).setCell ⟨S, 6, none⟩ (.slice none 0 0)).setCell ⟨S, 7, none⟩ (.slice none 0 0)) S #[.slice none 0 0, .int .i64 0, .int .i64 0, .slice a n cap, .map (some b), .slice none 0 0, .slice none 0 0, .slice none 0 0] 51 := ((hB5.set 5 _).set 6 _).set 7 _
              generalize ((w5.setCell ⟨S, 5, none⟩ (.slice none 0 0)).setCell ⟨S, 6, none⟩ (.slice none 0 0)).setCell ⟨S, 7, none⟩ (.slice none 0 0) = w6 at *
              have hX6 : Ext w w6 := hX5.trans hC6 (fun i hi e => by omega)
              have hR6 := hR5.chg hC6 (by omega)
              have hE6 := hE5.chg hC6 (by omega)
              have hM6 := NumMap.chg hM5 hC6 (by omega)
              clear hX5 hR5 hE5 hB5 hM5 hC6
              have hS6 := hB6.lt
              refine (lays_any w a l n cap S b (.slice none 0 0) w6 HN.out HL.out hX6 hB6 (by omega) hM6 (by omega) (by omega) (fun x hx => (HMAY.out x hx).1) HSM.out (fun x hx => (HMAY.out x hx).2.1)).mono ?_
              rintro e w7 h7
              obtain ⟨hC7, h7⟩ := lays_cases h7
              have hX7 : Ext w w7 := hX6.trans hC7 (fun i hi e => by omega)
              have hR7 := hR6.chg hC7 (by omega)
              have hE7 := hE6.chg hC7 (by omega)
              have hM7 := NumMap.chg hM6 hC7 (by omega)
              clear hX6 hR6 hE6 hB6 hM6 hC7
              rcases h7 with ⟨h4, rfl⟩ | ⟨m, h4, rfl, hL7⟩
              · have HB := Lib.hid (show T = .bad 0 4 0 by rw [← HT.out]; exact linkF_main HOK.out HF1.out HF2.out HF3.out h4)
                clear h4
                go_wp2_with fail
                refine leaves_cons (f := 5) (args := #[.pointer (some ⟨R, 0, none⟩), .pointer (some ⟨E, 0, none⟩)]) (by simp) (by simp [go_sem]) ?_
                refine (catch_link R E 0 4 0 _ _ _ _ _ _ _ hR7 hE7 (by omega)).mono ?_
                rintro e u' w'' ⟨rfl, rfl, hRz, hEz, hCz⟩
                refine ⟨_, results_aa (p := 2) (q := 3) rfl _ _ rfl hRz Tryd.underlying25 rfl (by kernel_rfl) rfl hEz Tryd.underlying28 rfl (by kernel_rfl), ?_⟩
                have hXX := hX7.trans hCz fun i hi e => by omega
                exact linkp_bad hXX (HB.out)
              · have HF4 := Lib.hid h4
                clear h4
                obtain ⟨g, ci, q1, c1, q2, c2, q3, c3, hMB⟩ := LaidAt.mov hL7 (by show 0 < 4; decide) (by omega) (by simp [basesF]) (by simp [basesF]) (by simp [basesF]) hM7
                have hgb := hMB.base
                obtain ⟨B, hBB⟩ : ∃ q, w6.heap.size + 1 = q := ⟨_, rfl⟩
                rw [hBB] at hMB hgb
                have hbc := basesF_ok codeLen 4 1048576 (by decide) (by decide) (by decide) (fun x hx => ⟨by unfold codeLen; omega, by unfold codeLen; have := (HMAY.out x hx).1.1; omega⟩) (k := n) (by rw [HN.out]; exact Nat.le_refl _) (by omega)
                have hbl := basesF_ok FObj.low 0 1000000 (by decide) (by decide) (by decide) (fun x hx => ⟨(HMAY.out x hx).1.2.1, (HMAY.out x hx).1.2.2.1⟩) (k := n) (by rw [HN.out]; exact Nat.le_refl _) (by omega)
                have hbh := basesF_ok FObj.high 0 1000000 (by decide) (by decide) (by decide) (fun x hx => ⟨(HMAY.out x hx).1.2.2.2.1, (HMAY.out x hx).1.2.2.2.2.1⟩) (k := n) (by rw [HN.out]; exact Nat.le_refl _) (by omega)
                have HBS := Lib.hid (And.intro hbc (And.intro hbl hbh))
                have HMB := Lib.hid hMB
                clear hbc hbl hbh hL7 hM7 hMB
                go_wp2_with fail
                refine (moves_any w a l n cap S B b g ci q1 c1 q2 c2 q3 c3 _ _ _ _ _ _ w7 HN.out HL.out hX7 HMB.out rfl (by omega) (by omega) (by omega) (by omega) (by omega) (by omega) (by omega) rfl HBS.out.1 HBS.out.2.1 HBS.out.2.2 (fun x hx => (HMAY.out x hx).1) HSM.out (fun x hx => (HMAY.out x hx).2.1) (fun x hx => (HMAY.out x hx).2.2)).mono ?_
                rintro e w8 h8
                obtain ⟨hC8, h8⟩ := moves_cases h8
                have hX8 : Ext w w8 := hX7.trans hC8 (fun i hi e => by omega)
                have hR8 := hR7.chg hC8 (by omega)
                have hE8 := hE7.chg hC8 (by omega)
                clear hX7 hR7 hE7 HMB hC8 HBS
                rcases h8 with ⟨mm, c, k, h9, rfl⟩ | ⟨h9, rfl, g', ci', r3, r4, r5, r6, r7, hB8, hI8⟩
                · have HB := Lib.hid (show T = .bad mm c k by rw [← HT.out]; exact linkF_err HOK.out HF1.out HF2.out HF3.out HF4.out (by unfold linkLo linkHi linkIs; rw [HN.out]; exact h9))
                  clear h9
                  go_wp2_with fail
                  refine leaves_cons (f := 5) (args := #[.pointer (some ⟨R, 0, none⟩), .pointer (some ⟨E, 0, none⟩)]) (by simp) (by simp [go_sem]) ?_
                  refine (catch_link R E mm c k _ _ _ _ _ _ _ hR8 hE8 (by omega)).mono ?_
                  rintro e u' w'' ⟨rfl, rfl, hRz, hEz, hCz⟩
                  refine ⟨_, results_aa (p := 2) (q := 3) rfl _ _ rfl hRz Tryd.underlying25 rfl (by kernel_rfl) rfl hEz Tryd.underlying28 rfl (by kernel_rfl), ?_⟩
                  have hXX := hX8.trans hCz fun i hi e => by omega
                  exact linkp_bad hXX (HB.out)
                · have HB := Lib.hid (show T = .good (linkIs l m) (linkLo l) (linkHi l) by rw [← HT.out]; exact linkF_good HOK.out HF1.out HF2.out HF3.out HF4.out (by unfold linkLo linkHi linkIs; rw [HN.out]; exact h9))
                  have e1 : linkIs l m = movesF l (basesF codeLen 4 l n) (basesF FObj.low 0 l n) (basesF FObj.high 0 l n) 0 (headF l n m) l := by unfold linkIs; rw [HN.out]
                  have e2 : linkLo l = baseF FObj.low 0 l n + 31 * mostF FObj.lowF l n := by unfold linkLo; rw [HN.out]
                  have e3 : linkHi l = baseF FObj.high 0 l n + 31 * mostF FObj.highF l n := by unfold linkHi; rw [HN.out]
                  rw [← e1, ← e2, ← e3] at hB8
                  rw [← e1] at hI8
                  clear h9 e1 e2 e3
                  generalize linkIs l m = IS at *
                  generalize linkLo l = LO at *
                  generalize linkHi l = HI at *
                  obtain ⟨NI, hNI⟩ : ∃ q, IS.length = q := ⟨_, rfl⟩
                  rw [hNI] at hB8
                  have HNI := Lib.hid hNI
                  clear hNI
                  have hSl8 := hB8.lt
                  go_wp2_with fail
                  refine wp_region_chain [5, 6] [.pointer (some ⟨S, 0, none⟩), .pointer (some ⟨S, 0, none⟩), .pointer (some ⟨S, 0, none⟩), .agg #[.slice (some ⟨g', 0, none⟩) NI ci', .int .i64 LO, .int .i64 HI], .agg #[.int .i64 0, .int .i64 0, .int .i64 0], undef, undef] (fun vs u => Blk u S #[.slice (some ⟨g', 0, none⟩) NI ci', .int .i64 LO, .int .i64 HI, r3, r4, r5, r6, r7] 51 ∧ Blk u E #[.int .i64 0, .int .i64 0, .int .i64 0] 28 ∧ Chg (fun i => i = R ∨ i = E) w8 u ∧ (match vs with | [] => Blk u R #[.slice none 0 0, .int .i64 0, .int .i64 0] 25 | _ => Blk u R #[.slice (some ⟨g', 0, none⟩) NI ci', .int .i64 LO, .int .i64 HI] 25)) (frame := ?frab) (fun x => ?hfab) mixed (by kernel_rfl) ?h0b ?stb ?finb
                  case hfab =>
                    simp only [chain.frameOf, chain.fill, chain.setOpt, chain.dstOf, List.size_toArray, List.length_cons, List.length_nil, List.getElem?_toArray, List.getElem?_cons_succ, List.getElem?_cons_zero, List.setIfInBounds_toArray, List.set_cons_succ, List.set_cons_zero]
                    exact rfl
                  case h0b => exact ⟨hB8.drew, hE8.drew, (Chg.refl _ _).drew, hR8.drew⟩
                  case stb =>
                    refine AllFrom.cons (fun x vs u hF hm hd K' hK' => ?sb0) (AllFrom.cons (fun x vs u hF hm hd K' hK' => ?sb1) (AllFrom.cons (fun x vs u hF hm hd K' hK' => ?sb2) (AllFrom.cons (fun x vs u hF hm hd K' hK' => ?sb3) (AllFrom.cons (fun x vs u hF hm hd K' hK' => ?sb4) (AllFrom.cons (fun x vs u hF hm hd K' hK' => ?sb5) (AllFrom.cons (fun x vs u hF hm hd K' hK' => ?sb6) (AllFrom.nil)))))))
                    case sb0 =>
                      clear hd hm hF
                      go_simp
                      exact hK'.out _ _ _ rfl ⟨rfl, rfl⟩
                    case sb1 =>
                      have y0 := hd 0 56 (by decide) (by kernel_rfl) (by kernel_rfl)
                      replace y0 : x 56 = .pointer (some ⟨S, 0, none⟩) := y0
                      clear hd hm hF
                      go_simp
                      exact hK'.out _ _ _ (by simp only [y0]; rfl) ⟨rfl, rfl⟩
                    case sb2 =>
                      have y0 := hd 1 57 (by decide) (by kernel_rfl) (by kernel_rfl)
                      replace y0 : x 57 = .pointer (some ⟨S, 0, none⟩) := y0
                      clear hd hm hF
                      go_simp
                      exact hK'.out _ _ _ (by simp only [y0]; rfl) ⟨rfl, rfl⟩
                    case sb3 =>
                      have y0 := hd 2 58 (by decide) (by kernel_rfl) (by kernel_rfl)
                      replace y0 : x 58 = .pointer (some ⟨S, 0, none⟩) := y0
                      have hSc := hF.1.cell
                      clear hd hm hF
                      go_simp
                      exact hK'.out _ _ _ (by simp only [y0]; rfl) ⟨rfl, rfl⟩
                    case sb4 =>
                      have hEc := hF.2.1.cell
                      clear hd hm hF
                      go_simp
                      exact hK'.out _ _ _ rfl ⟨rfl, rfl⟩
                    case sb5 =>
                      obtain rfl := List.eq_nil_of_length_eq_zero (hm 0 (by kernel_rfl))
                      obtain ⟨hS, hE, hC, hR⟩ := hF
                      have y0 := hd 3 59 (by decide) (by kernel_rfl) (by kernel_rfl)
                      replace y0 : x 59 = .agg #[.slice (some ⟨g', 0, none⟩) NI ci', .int .i64 LO, .int .i64 HI] := y0
                      have hRc := hR.cell
                      have hRf := hR.frozen
                      have hRl := hR.lt
                      have hC2 := three_chg u R (.slice (some ⟨g', 0, none⟩) NI ci') (.int .i64 LO) (.int .i64 HI)
                      clear hd hm
                      go_simp
                      exact hK'.out _ _ undef (by simp only [y0]; rfl) ⟨hS.chg hC2 (by omega), hE.chg hC2 (by omega), hC.then (hC2.weak fun i _ e => Or.inl e), Blk.three hR _ _ _⟩
                    case sb6 =>
                      obtain ⟨x1, rfl⟩ : ∃ x1, vs = [x1] := by match vs, hm 1 (by kernel_rfl) with | [x1], _ => exact ⟨_, rfl⟩
                      obtain ⟨hS, hE, hC, hR⟩ := hF
                      have y0 := hd 4 60 (by decide) (by kernel_rfl) (by kernel_rfl)
                      replace y0 : x 60 = .agg #[.int .i64 0, .int .i64 0, .int .i64 0] := y0
                      have hEc := hE.cell
                      have hEf := hE.frozen
                      have hEl := hE.lt
                      have hC2 := three_chg u E (.int .i64 0) (.int .i64 0) (.int .i64 0)
                      clear hd hm
                      go_simp
                      exact hK'.out _ _ undef (by simp only [y0]; rfl) ⟨hS.chg hC2 (by omega), Blk.three hE _ _ _, hC.then (hC2.weak fun i _ e => Or.inr e), hR.chg hC2 (by omega)⟩
                  case finb =>
                    intro x vs u hl hF hq
                    clear hq
                    obtain ⟨x1, x2, rfl⟩ : ∃ x1 x2, vs = [x1, x2] := by match vs, hl with | [_, _], _ => exact ⟨_, _, rfl⟩
                    obtain ⟨-, hE9, hC9, hR9⟩ := hF
                    have hX9 : Ext w u := hX8.trans hC9 (fun i hi e => by omega)
                    have hI9 : InsRow u B _ IS := ownsRow_chg hI8 hC9 (fun i hi e => by omega)
                    have hall := insRow_all hI9
                    rw [HNI.out] at hI9
                    clear hl hX8 hE8 hR8 hB8 hI8 hC9
                    go_wp2_with fail
                    refine leaves_cons (f := 5) (args := #[.pointer (some ⟨R, 0, none⟩), .pointer (some ⟨E, 0, none⟩)]) (by simp) (by simp [go_sem]) ?_
                    refine (idle_link R E _).mono ?_
                    rintro e u' w'' ⟨rfl, rfl, rfl⟩
                    refine ⟨_, results_aa (p := 2) (q := 3) rfl _ _ rfl hR9 Tryd.underlying25 rfl (by kernel_rfl) rfl hE9 Tryd.underlying28 rfl (by kernel_rfl), ?_⟩
                    have hpost := linkp_good (ci := ci') hX9 HB.out hall
                    rw [HNI.out] at hpost
                    exact hpost
    · have HB := Lib.hid (show T = .bad 0 1 0 by rw [← HT.out]; exact linkF_size (by rw [HN.out]; omega))
      go_wp2_with fail
      refine (must_false _ _ _ _).mono ?_
      rintro e w3 ⟨rfl, rfl⟩
      have hX := hX0
      have hR := hR0
      have hE := hE0
      unfold zeroImg at hX hR hE
      go_wp2_with fail
      refine leaves_cons (f := 5) (args := #[.pointer (some ⟨R, 0, none⟩), .pointer (some ⟨E, 0, none⟩)]) (by simp) (by simp [go_sem]) ?_
      refine (catch_link R E 0 1 0 _ _ _ _ _ _ _ hR hE (by omega)).mono ?_
      rintro e u' w'' ⟨rfl, rfl, hRz, hEz, hCz⟩
      refine ⟨_, results_aa (p := 2) (q := 3) rfl _ _ rfl hRz Tryd.underlying25 rfl (by kernel_rfl) rfl hEz Tryd.underlying28 rfl (by kernel_rfl), ?_⟩
      have hXX := hX.trans hCz fun i hi e => by omega
      exact linkp_bad hXX (HB.out)
  · obtain rfl : n = 0 := by omega
    have HB := Lib.hid (show T = .bad 0 1 0 by rw [← HT.out]; exact linkF_size (by rw [HN.out]; omega))
    go_wp2_with fail
    refine (must_false _ _ _ _).mono ?_
    rintro e w3 ⟨rfl, rfl⟩
    have hX := hX0
    have hR := hR0
    have hE := hE0
    unfold zeroImg at hX hR hE
    go_wp2_with fail
    refine leaves_cons (f := 5) (args := #[.pointer (some ⟨R, 0, none⟩), .pointer (some ⟨E, 0, none⟩)]) (by simp) (by simp [go_sem]) ?_
    refine (catch_link R E 0 1 0 _ _ _ _ _ _ _ hR hE (by omega)).mono ?_
    rintro e u' w'' ⟨rfl, rfl, hRz, hEz, hCz⟩
    refine ⟨_, results_aa (p := 2) (q := 3) rfl _ _ rfl hRz Tryd.underlying25 rfl (by kernel_rfl) rfl hEz Tryd.underlying28 rfl (by kernel_rfl), ?_⟩
    have hXX := hX.trans hCz fun i hi e => by omega
    exact linkp_bad hXX (HB.out)
end linkw
end Go.Proofs.YtpcihajmcejliabDoor
