/- The walk of the program's May: an object's places. -/
import Derived.Test.YtpcihajmcejliabDoorFaceMay
import Derived.Test.YtpcihajmcejliabDoorObjMayM
import Derived.Test.YtpcihajmcejliabDoorObjDefs
namespace Go.Proofs.YtpcihajmcejliabDoor
open Go.RowKit Go.WideMaps Go.Maps
namespace mayo
open face
set_option maxRecDepth 100000 in
set_option maxHeartbeats 8000000 in
theorem places_any (a : Option Addr) (l : List FPlc) (n cap : Nat) (below : Int) (w : World) (hn : l.length = n) (hmax : n ≤ maxLen) (hl : AllIn 2 PlcIn w a l) (hev : ErrVar w) (hmv : MaxVar w) :
    Calls Tryd.prog 20 #[.slice a n cap, .int .i64 below] w fun e w' => e = .returned (.bool (placesB l below)) ∧ Ext w w' := by
  have hmm := @run_makeMap Tryd.prog
  unfold maxLen at hmax
  unfold placesB
  have HKV := Lib.hid (keys_take FPlc.key l)
  have HLK := Lib.hid (show (l.map FPlc.key).length = n by rw [List.length_map, hn])
  generalize l.map FPlc.key = K at *
  have HN := Lib.hid hn
  have HL := Lib.hid hl
  have hE : Ext w (w.alloc (.map #[] 0)) := (Chg.refl _ _).alloc _
  have hMap := World.ownsMap_made w Tryd.prog 9 (plainElem (H := Unit) Tryd.prog 3)
  have hz0 : (w.alloc (.map #[] 0)).heap.size = w.heap.size + 1 := by simp
  have HE := Lib.hid hE
  have HM := Lib.hid hMap
  have HZ := Lib.hid hz0
  generalize hB : (l.all (plcB below) && distinctB K) = B
  have HF := Lib.hid (fun h : l.all (plcB below) = false => show B = false by rw [← hB, h]; rfl)
  have HT := Lib.hid (fun (h : l.all (plcB below) = true) => show B = distinctB K by rw [← hB, h]; rfl)
  clear hn hl hE hMap hz0 hB
  go_enter Tryd.func20, Tryd.ntmps20
  go_wp2_with fail
  generalize w.alloc (.map #[] 0) = w0 at *
  have hEw := HE.out
  have hz0 := HZ.out
  have HEV := Lib.hid (fun (w' : World) (h : Ext w w') => hev.ext h)
  have HMV := Lib.hid (fun (w' : World) (h : Ext w w') => hmv.ext h)
  have hM := HM.out
  clear hev hmv HM HZ HE
  go_loopw [11] (fun i wr => ∃ (k : Nat) (D : DataW Unit), k ≤ n ∧ i = .int .i64 k ∧ wr.ownsMap Tryd.prog 9 (plainElem Tryd.prog 3) w.heap.size k D ∧ MapOf D (K.take k) ∧ Hid ((l.take k).all (plcB below) = true) ∧ Chg (fun b => b = w.heap.size) w0 wr) (fun i _ => n - (intOf i).toNat)
  case atStart => exact ⟨0, _, Nat.zero_le _, rfl, hM, mapOf_nil, by simp [Hid], Chg.refl _ _⟩
  case round =>
    obtain ⟨k, D, hk, rfl, hown, hmo, hrel, hC⟩ := hrel
    have HMO := Lib.hid hmo
    clear hM hmo
    have hEr : Ext w wr := hEw.trans hC (fun i hi e => by omega)
    have hzr := hC.size
    by_cases hlt : k < n
    · have hki : (k : Int) < (n : Int) := by omega
      have hlk : k < l.length := by rw [HN.out]; exact hlt
      obtain ⟨bl, ol, rfl, hbl, cl⟩ := HL.out k hlk
      have hbl' := Nat.lt_of_lt_of_le hbl hEr.size
      obtain ⟨l0, l1, lz, -⟩ := PlcIn.ext hEr hbl cl
      have hs := all_snoc (plcB below) l k hlk
      rw [hrel.out, Bool.true_and] at hs
      have HBAD := Lib.hid (fun h => HF.out (all_bad hlk h))
      have HW := Lib.hid (HKV.out k hlk)
      clear cl
      generalize l[k] = x at *
      obtain ⟨pn, pa⟩ := x
      simp only at l0 l1 lz HW
      have HS := Lib.hid hs
      have hvt : plcB below ⟨pn, pa⟩ = (nameB pn.data.toList && decide (0 ≤ pa) && decide (pa < below)) := rfl
      have HVN := Lib.hid (fun w hev hmv => name.isname_any pn w (by unfold maxLen at lz; exact lz) hev hmv)
      obtain ⟨nb, hnb⟩ : ∃ b, nameB pn.data.toList = b := ⟨_, rfl⟩
      rw [hnb] at hvt HVN
      have HVT := Lib.hid hvt
      clear hs hvt hnb hrel
      go_wp2_with fail
      refine (HVN.out _ (HEV.out _ (hEr.alloc _)) (HMV.out _ (hEr.alloc _))).mono ?_
      rintro e w2 ⟨rfl, hE2⟩
      have hK := (Blk.made _ _ _).ext hE2
      have hKc := hK.cell
      have hKl := hK.lt
      have hEr2 := (hEr.alloc _).ext hE2
      have hC2 := (hC.alloc _).ext hE2
      have hown2 := (hown.alloc _).kept (ext_grown hE2) (by simp)
      clear hown hC hE2 hEr hK HVN
      cases nb
      · have HT2 := Lib.hid (HBAD.out (by rw [HVT.out]; rfl))
        go_wp2_with fail
        go_ret
        exact ⟨ret_bool HT2.out.symm, hEr2⟩
      · by_cases h0 : pa < 0
        · have HT2 := Lib.hid (HBAD.out (by rw [HVT.out, decide_eq_false (show ¬ 0 ≤ pa by omega)]; rfl))
          go_wp2_with fail
          go_ret
          exact ⟨ret_bool HT2.out.symm, hEr2⟩
        · by_cases h1 : below ≤ pa
          · have HT2 := Lib.hid (HBAD.out (by rw [HVT.out, decide_eq_false (show ¬ pa < below by omega), Bool.and_false]))
            go_wp2_with fail
            go_ret
            exact ⟨ret_bool HT2.out.symm, hEr2⟩
          · have HT2 := Lib.hid (HS.out.trans (by rw [HVT.out, decide_eq_true (show 0 ≤ pa by omega), decide_eq_true (show pa < below by omega)]))
            have hkey := keyOf_string_mk (P := Tryd.prog) (k := 9) Tryd.underlying9 lz
            clear HS HBAD HVT
            have hkm : k < maxLen := by unfold maxLen; omega
            go_wp2_with (first
                | (at_lookup; refine wpList_lookup_own_int _ rfl _ _ 48 rfl 9 3 .i64 keyLaw Tryd.underlying48 Tryd.underlying3 (zeroInt _) w.heap.size (k) D rfl hown2 _ _ rfl hkey ?_; intro cc hat hwc)
                | (at_mapUpdate; refine wpList_mapUpdate_own _ rfl _ _ _ 48 rfl 9 3 keyLaw Tryd.underlying48 _ w.heap.size (k) D rfl hown2 (by omega) _ _ _ rfl rfl hkey _ [] (plainElem_int Tryd.underlying3 (wrap64_wf _)) ?_; intro w3 hown3 hgrow3))
            have hC3 := hC2.then (grown_chg hgrow3)
            have hmo3 := mapOf_put HMO.out (hown2.tidy keyLaw) pn.data.toList (.lit (.int .i64 (wrap64 (cc + 1))))
            rw [← show K.take (k + 1) = K.take k ++ [pn.data.toList] from HW.out] at hmo3
            clear hgrow3 hown2
            go_wp2_with fail
            go_roundw
            case rel => exact ⟨k + 1, _, by omega, by go_num, hown3, hmo3, HT2.out, hC3⟩
            case measure => simp [intOf]; omega
    · obtain rfl : k = n := by omega
      have HFIN := Lib.hid (HT.out (all_whole HN.out hrel.out))
      obtain ⟨_, _, hdis⟩ := HMO.out
      have hKt : K.take k = K := List.take_of_length_le (by rw [HLK.out]; exact Nat.le_refl _)
      rw [hKt, HLK.out] at hdis
      have HD := Lib.hid hdis
      clear hdis hKt
      have hlen := fun ty => hown.len (P := Tryd.prog) Tryd.underlying48 ty
      have HEE := Lib.hid hEr
      clear hown hC hEr
      obtain ⟨sz, hsz⟩ : ∃ n, Maps.size D = n := ⟨_, rfl⟩
      rw [hsz] at HD hlen
      by_cases hs : sz = k
      · have HT2 := Lib.hid (show B = true by rw [HFIN.out, HD.out, decide_eq_true hs])
        subst hs
        go_wp2_with fail
        go_ret
        exact ⟨ret_bool HT2.out.symm, HEE.out⟩
      · have HT2 := Lib.hid (show B = false by rw [HFIN.out, HD.out, decide_eq_false hs])
        have hs1 : ¬ (sz : Int) = (k : Int) := by omega
        have hs2 : ((sz : Int) == (k : Int)) = false := by rw [beq_eq_false_iff_ne]; exact hs1
        go_wp2_with fail
        go_ret
        exact ⟨ret_bool HT2.out.symm, HEE.out⟩
end mayo
end Go.Proofs.YtpcihajmcejliabDoor
