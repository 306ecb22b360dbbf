/- The walk of the program's May: an object's faces. -/
import Derived.Test.YtpcihajmcejliabDoorObjMayP
import Derived.Test.YtpcihajmcejliabDoorObjDefs
namespace Go.Proofs.YtpcihajmcejliabDoor
open Go.RowKit Go.WideMaps Go.Maps
namespace mayo
open face
theorem wpList_insert_own {H : Type} {P : Program} (w : World) {ops : Array Oper} {rest : List Oper} {o : Oper} {a : Act} {Q : Exit → Act → World → Prop}
    (hg : o.guard = none) (m x v : Operand) (t : TypeId) (hop : o.op = Op.insert t m x v)
    (k e : TypeId) (K : Keyed P k) (ht : P.underlying t = some (.map k e)) (R : Value → Option (DataW H × List MemPlace)) (b n : Nat) (D : DataW H)
    (hm : a.eval m = .map (some b)) (hown : w.ownsMap P k R b n D) (hn : n < maxLen) (key val : Value) (kl : Lit) (hx : a.eval x = key) (hv : a.eval v = val) (hkey : keyOf P k key = some kl)
    (d : DataW H) (ps : List MemPlace) (hval : R val = some (d, ps))
    (hK : ∀ w', w'.ownsMap P k R b (n + 1) (D.put kl d) → w.grownBy w' (some b) → wpList P ops Q rest (a.put o.dst undef) w') :
    wpList P ops Q (o :: rest) a w := by
  refine wpList_plain hg fun K' hK' => ?_
  obtain ⟨w', hrun, r1, r2⟩ := hown.update K ht hn hkey hval
  unfold Oper.wp
  simp [execOp, hop, hm, hx, hv, hrun, Result.andThen]
  exact hK' _ _ (hK w' r1 r2)
set_option maxRecDepth 100000 in
set_option maxHeartbeats 16000000 in
theorem faces_any (x : FObj) (v : Value) (w : World) (hx : ObjAt w x v) (hmax : x.imports.length < 9223372036854775806) (hsum : ∀ f ∈ x.face :: x.imports, f.vars.length + f.procs.length < maxLen) (hev : ErrVar w) (hmv : MaxVar w) :
    Calls Tryd.prog 18 #[v] w fun e w' => e = .returned (.bool (facesB x)) ∧ Ext w w' := by
  have hmm := @run_makeMap Tryd.prog
  obtain ⟨fa, am, fc, cm, ia, ic, ca, cc, ra, rc, pa, pc, la, lc, ha, hc, rfl, hF0, h1, -⟩ := hx.ex
  clear hx
  have HFA := Lib.hid (fun (u : World) (hE : Ext w u) (h1 : ErrVar u) (h2 : MaxVar u) => face.may_any x.face _ u (FaceAt.ext hE hF0) (hsum _ (List.mem_cons_self ..)) h1 h2)
  have hmod : x.face.modn.size ≤ maxLen := by obtain ⟨_, _, _, _, _, -, -, h, -⟩ := hF0; exact h
  have HSUM := Lib.hid (fun f (hf : f ∈ x.imports) => hsum f (List.mem_cons_of_mem _ hf))
  have hLK : (x.face.key :: x.imports.map FFace.key).length = x.imports.length + 1 := by simp
  have hKV : ∀ (k : Nat) (h : k < x.imports.length), (x.face.key :: x.imports.map FFace.key).take (k + 1 + 1) = (x.face.key :: x.imports.map FFace.key).take (k + 1) ++ [x.imports[k].key] := fun k h => by
    rw [List.take_succ_cons, keys_take FFace.key x.imports k h, List.take_succ_cons, List.cons_append]
  have hK1 : (x.face.key :: x.imports.map FFace.key).take 1 = [] ++ [x.face.modn.data.toList] := rfl
  unfold facesB
  generalize x.face.key :: x.imports.map FFace.key = K at *
  obtain ⟨xf, xi, xc, xr, op, ol, oh, lo, hi, lf, hf⟩ := x
  simp only at *
  obtain ⟨n1, hn1⟩ : ∃ n, xf.vars.length = n := ⟨_, rfl⟩
  obtain ⟨n2, hn2⟩ : ∃ n, xf.procs.length = n := ⟨_, rfl⟩
  obtain ⟨xn, hxn⟩ : ∃ n, xf.modn = n := ⟨_, rfl⟩
  obtain ⟨ni, hni⟩ : ∃ n, xi.length = n := ⟨_, rfl⟩
  obtain ⟨nc, hnc⟩ : ∃ n, xc.length = n := ⟨_, rfl⟩
  obtain ⟨nr, hnr⟩ : ∃ n, xr.length = n := ⟨_, rfl⟩
  obtain ⟨np, hnp⟩ : ∃ n, op.length = n := ⟨_, rfl⟩
  obtain ⟨nl, hnl⟩ : ∃ n, ol.length = n := ⟨_, rfl⟩
  obtain ⟨nh, hnh⟩ : ∃ n, oh.length = n := ⟨_, rfl⟩
  rw [hn1, hn2, hxn] at HFA
  rw [hxn] at hmod hK1
  rw [hni] at hmax hLK
  rw [hn1, hn2, hxn, hni, hnc, hnr, hnp, hnl, hnh]
  have HNI := Lib.hid hni
  have HKV := Lib.hid hKV
  have HLK := Lib.hid hLK
  have HK1 := Lib.hid hK1
  have HIM := Lib.hid h1
  clear hn1 hn2 hxn hnc hnr hnp hnl hnh h1 hF0 hsum hni hKV hLK hK1
  obtain ⟨MF, hMF⟩ : ∃ b, mayFaceB xf = b := ⟨_, rfl⟩
  rw [hMF] at HFA ⊢
  clear hMF
  generalize hB : (xi.all mayFaceB && (MF && decide (ni < 6) && distinctB K)) = B
  have HF := Lib.hid (fun h : xi.all mayFaceB = false => show B = false by rw [← hB, h]; rfl)
  have HT := Lib.hid (fun (h : xi.all mayFaceB = true) => show B = (MF && decide (ni < 6) && distinctB K) by rw [← hB, h]; rfl)
  clear hB
  have hB1 : Blk (w.alloc (.cells #[.string xn, .slice fa n1 am, .slice fc n2 cm, .slice ia ni ic, .slice ca nc cc, .slice ra nr rc, .slice pa np pc, .slice la nl lc, .slice ha nh hc, .int .i64 lo, .int .i64 hi, .int .i64 lf, .int .i64 hf] 39)) w.heap.size #[.string xn, .slice fa n1 am, .slice fc n2 cm, .slice ia ni ic, .slice ca nc cc, .slice ra nr rc, .slice pa np pc, .slice la nl lc, .slice ha nh hc, .int .i64 lo, .int .i64 hi, .int .i64 lf, .int .i64 hf] 39 := Blk.made _ _ _
  have hE0 : Ext w (w.alloc (.cells #[.string xn, .slice fa n1 am, .slice fc n2 cm, .slice ia ni ic, .slice ca nc cc, .slice ra nr rc, .slice pa np pc, .slice la nl lc, .slice ha nh hc, .int .i64 lo, .int .i64 hi, .int .i64 lf, .int .i64 hf] 39)) := (Chg.refl _ _).alloc _
  have hz : (w.alloc (.cells #[.string xn, .slice fa n1 am, .slice fc n2 cm, .slice ia ni ic, .slice ca nc cc, .slice ra nr rc, .slice pa np pc, .slice la nl lc, .slice ha nh hc, .int .i64 lo, .int .i64 hi, .int .i64 lf, .int .i64 hf] 39)).heap.size = w.heap.size + 1 := by simp
  have hMap := World.ownsMap_made (w.alloc (.cells #[.string xn, .slice fa n1 am, .slice fc n2 cm, .slice ia ni ic, .slice ca nc cc, .slice ra nr rc, .slice pa np pc, .slice la nl lc, .slice ha nh hc, .int .i64 lo, .int .i64 hi, .int .i64 lf, .int .i64 hf] 39)) Tryd.prog 9 (plainElem (H := Unit) Tryd.prog 3)
  rw [hz] at hMap
  have hkey0 := keyOf_string_mk (P := Tryd.prog) (k := 9) Tryd.underlying9 hmod
  obtain ⟨w0, hrun, hM, hg0⟩ := hMap.update (t := 48) keyLaw Tryd.underlying48 (by decide) hkey0 (plainElem_int (P := Tryd.prog) (q := .i64) Tryd.underlying3 (a := 0) (by decide))
  have hmo := mapOf_put (mapOf_nil (H := Unit)) (hMap.tidy keyLaw) xn.data.toList (.lit (.int .i64 0))
  rw [← HK1.out] at hmo
  have hX0 := (hB1.alloc (.map #[] 0)).chg (grown_chg hg0) (by omega)
  have hE1 : Ext w w0 := (hE0.alloc (.map #[] 0)).trans (grown_chg hg0) (fun i hi e => by omega)
  have hz0 : w.heap.size + 2 ≤ w0.heap.size := by have := (grown_chg hg0).size; simp at this; omega
  clear hMap hg0 hE0 hB1
  have hxc := hX0.cell
  have hxf := hX0.frozen
  have hxl := hX0.lt
  have HX0 := Lib.hid hX0
  have HE1 := Lib.hid hE1
  have HEV := Lib.hid (fun (w' : World) (h : Ext w w') => hev.ext h)
  have HMV := Lib.hid (fun (w' : World) (h : Ext w w') => hmv.ext h)
  clear hX0 hE1 hev hmv
  go_enter Tryd.func18, Tryd.ntmps18
  go_wp2_with fail
  clear hrun hkey0 hxc hxf hxl hz
  go_loopw [14] (fun i wr => ∃ (k : Nat) (D : DataW Unit), k ≤ ni ∧ i = .int .i64 k ∧ wr.ownsMap Tryd.prog 9 (plainElem Tryd.prog 3) (w.heap.size + 1) (k + 1) D ∧ MapOf D (K.take (k + 1)) ∧ Hid ((xi.take k).all mayFaceB = true) ∧ Chg (fun b => b = w.heap.size + 1) w0 wr) (fun i _ => ni - (intOf i).toNat)
  case atStart => exact ⟨0, _, Nat.zero_le _, rfl, hM, hmo, by simp [Hid], Chg.refl _ _⟩
  case round =>
    clear hM hmo
    obtain ⟨k, D, hk, rfl, hown, hmo, hrel, hC⟩ := hrel
    have HMO := Lib.hid hmo
    clear hmo
    have hEr : Ext w wr := HE1.out.trans hC (fun i hi e => by omega)
    have hzr := hC.size
    have hX := HX0.out.chg hC (by omega)
    by_cases hlt : k < ni
    · have hki : (k : Int) < (ni : Int) := by omega
      have hlk : k < xi.length := by rw [HNI.out]; exact hlt
      obtain ⟨bl, ol, rfl, hbl, cl⟩ := HIM.out k hlk
      have hbl' := Nat.lt_of_lt_of_le hbl hEr.size
      obtain ⟨ya, ym, yc, yd, l0, l1, l2, hFY⟩ := FaceIn.ext hEr hbl cl
      have hs := all_snoc mayFaceB xi k hlk
      rw [hrel.out, Bool.true_and] at hs
      have HBAD := Lib.hid (fun h => HF.out (all_bad hlk h))
      have HW := Lib.hid (HKV.out k hlk)
      have hsm := HSUM.out _ (List.getElem_mem hlk)
      clear cl
      generalize xi[k] = y at *
      have hym : y.modn.size ≤ maxLen := by obtain ⟨_, _, _, _, _, -, -, h, -⟩ := hFY; exact h
      have HVN := Lib.hid (fun (u : World) (hE : Ext wr u) (h1 : ErrVar u) (h2 : MaxVar u) => face.may_any y _ u (FaceAt.ext hE hFY) hsm h1 h2)
      obtain ⟨m1, hm1⟩ : ∃ n, y.vars.length = n := ⟨_, rfl⟩
      obtain ⟨m2, hm2⟩ : ∃ n, y.procs.length = n := ⟨_, rfl⟩
      have hkY : y.key = y.modn.data.toList := rfl
      rw [hkY] at HW
      obtain ⟨yn, hyn⟩ : ∃ n, y.modn = n := ⟨_, rfl⟩
      obtain ⟨MY, hMY⟩ : ∃ b, mayFaceB y = b := ⟨_, rfl⟩
      rw [hm1, hm2, hyn, hMY] at HVN
      rw [hm1] at l1
      rw [hm2] at l2
      rw [hyn] at l0 HW hym
      rw [hMY] at hs HBAD
      have HS := Lib.hid hs
      clear hs hm1 hm2 hyn hMY hsm hFY hkY hrel
      go_wp2_with fail
      refine (HVN.out _ ((Chg.refl _ _).alloc _) (HEV.out _ (hEr.alloc _)) (HMV.out _ (hEr.alloc _))).mono ?_
      rintro e w2 ⟨rfl, hE2⟩
      have hK := (Blk.made _ _ _).ext hE2
      have hKc := hK.cell
      have hKl := hK.lt
      have hEr2 := (hEr.alloc _).ext hE2
      have hC2 := (hC.alloc _).ext hE2
      have hown2 := (hown.alloc _).kept (ext_grown hE2) (by simp)
      clear hown hC hE2 hEr hK HVN hX
      cases MY
      · have HT2 := Lib.hid (HBAD.out rfl)
        go_wp2_with fail
        go_ret
        exact ⟨ret_bool HT2.out.symm, hEr2⟩
      · have hkey := keyOf_string_mk (P := Tryd.prog) (k := 9) Tryd.underlying9 hym
        have hkm : k + 1 < maxLen := by unfold maxLen; omega
        have hwf : (Lit.int .i64 ((k : Int) + 1)).wf = true := by
          have h := wrap64_wf ((k : Int) + 1)
          rwa [show wrap64 ((k : Int) + 1) = (k : Int) + 1 by unfold wrap64; omega] at h
        go_wp2_with (at_mapUpdate; refine wpList_mapUpdate_own _ rfl _ _ _ 48 rfl 9 3 keyLaw Tryd.underlying48 _ (w.heap.size + 1) (k + 1) D rfl hown2 (by omega) _ _ _ rfl rfl hkey _ [] (plainElem_int Tryd.underlying3 (by first | exact hwf | exact wrap64_wf _)) ?_; intro w3 hown3 hgrow3)
        have hC3 := hC2.then (grown_chg hgrow3)
        have hmo3 := mapOf_put HMO.out (hown2.tidy keyLaw) yn.data.toList (.lit (.int .i64 ((k : Int) + 1)))
        rw [← HW.out] at hmo3
        clear hgrow3 hown2
        go_wp2_with fail
        go_roundw
        case rel => exact ⟨k + 1, _, by omega, by go_num, hown3, hmo3, HS.out, hC3⟩
        case measure => simp [intOf]; omega
    · obtain rfl : k = ni := by omega
      have HFIN := Lib.hid (HT.out (all_whole HNI.out hrel.out))
      obtain ⟨_, _, hdis⟩ := HMO.out
      have hKt : K.take (k + 1) = K := List.take_of_length_le (by rw [HLK.out]; exact Nat.le_refl _)
      rw [hKt, HLK.out] at hdis
      have HD := Lib.hid hdis
      clear hdis hKt
      have hxc := hX.cell
      have hxf := hX.frozen
      have hxl := hX.lt
      go_wp2_with fail
      refine (HFA.out _ hEr (HEV.out _ hEr) (HMV.out _ hEr)).mono ?_
      rintro e w2 ⟨rfl, hE2⟩
      clear hxc hxf hxl
      have hX2 := hX.ext hE2
      have hxc := hX2.cell
      have hxf := hX2.frozen
      have hxl := hX2.lt
      have hown2 := hown.kept (ext_grown hE2) (by simp)
      have hlen := fun ty => hown2.len (P := Tryd.prog) Tryd.underlying48 ty
      have HEE := Lib.hid (hEr.ext hE2)
      clear hown hown2 hC hEr hE2 hX hX2
      obtain ⟨sz, hsz⟩ : ∃ n, Maps.size D = n := ⟨_, rfl⟩
      rw [hsz] at HD hlen
      cases MF
      · have HT2 := Lib.hid (show B = false by rw [HFIN.out]; rfl)
        go_wp2_with fail
        go_ret
        exact ⟨ret_bool HT2.out.symm, HEE.out⟩
      · by_cases h6 : k < 6
        · have h6i : (k : Int) < 6 := by omega
          by_cases hs : sz = k + 1
          · have HT2 := Lib.hid (show B = true by rw [HFIN.out, HD.out, decide_eq_true hs, decide_eq_true h6]; rfl)
            subst hs
            go_wp2_with fail
            go_ret
            exact ⟨ret_bool HT2.out.symm, HEE.out⟩
          · have HT2 := Lib.hid (show B = false by rw [HFIN.out, HD.out, decide_eq_false hs, Bool.and_false])
            have hs1 : ¬ (sz : Int) = (k : Int) + 1 := by omega
            have hs2 : ((sz : Int) == (k : Int) + 1) = false := by rw [beq_eq_false_iff_ne]; exact hs1
            go_wp2_with fail
            go_ret
            exact ⟨ret_bool HT2.out.symm, HEE.out⟩
        · have h6i : ¬ (k : Int) < 6 := by omega
          have HT2 := Lib.hid (show B = false by rw [HFIN.out, decide_eq_false h6, Bool.and_false]; rfl)
          go_wp2_with fail
          go_ret
          exact ⟨ret_bool HT2.out.symm, HEE.out⟩
end mayo
end Go.Proofs.YtpcihajmcejliabDoor
