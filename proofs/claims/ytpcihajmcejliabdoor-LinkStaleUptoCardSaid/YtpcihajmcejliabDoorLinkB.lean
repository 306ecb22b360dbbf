/- The walk of the linker's forms. The walk of the linker's imports. -/
import Derived.Test.YtpcihajmcejliabDoorLinkA
import Derived.Test.YtpcihajmcejliabDoorObjMayA
import Derived.StillTactics
import Derived.StillTailTactics
import Derived.Test.YtpcihajmcejliabDoorChainA
namespace Go.Proofs.YtpcihajmcejliabDoor
open Go.RowKit Go.WideMaps Go.Maps
def modsF (l : List FObj) : List ByteArray := l.map fun x => x.face.modn
/-- K1: what is wrong with the objects, each alone -/
def formsF : List ByteArray → List FObj → Option (Nat × Int × Int)
  | _, [] => none
  | L, x :: r => if mayObjB x = false then some (L.length, 2, 0) else if (modF L x.face.modn).isSome then some (L.length, 5, 0) else formsF (L ++ [x.face.modn]) r
/-- the end of a pass that throws -/
def ThrewOr (t : Option (Nat × Int × Int)) (G : World → Prop) (e : Ending) (w' : World) : Prop :=
  match t with
  | none => e = .returned (.tuple #[]) ∧ G w'
  | some (m, c, k) => e = .panicked (linkw.troubleV m c k)
namespace linkw
open face
theorem take_mods {l : List FObj} {k : Nat} (h : k < l.length) : (modsF l).take (k + 1) = (modsF l).take k ++ [l[k].face.modn] := by
  rw [List.take_succ_eq_append_getElem (by simpa [modsF] using h)]; simp [modsF]
theorem forms_step {l : List FObj} {k : Nat} (h : k < l.length) (R : Option (Nat × Int × Int)) (hr : formsF ((modsF l).take k) (l.drop k) = R) :
    (mayObjB l[k] = false → R = some (k, 2, 0)) ∧ (mayObjB l[k] = true → (modF ((modsF l).take k) l[k].face.modn).isSome = true → R = some (k, 5, 0)) ∧
    (mayObjB l[k] = true → modF ((modsF l).take k) l[k].face.modn = none → formsF ((modsF l).take (k + 1)) (l.drop (k + 1)) = R) := by
  have hl : ((modsF l).take k).length = k := by simp [modsF]; omega
  have ht : (modsF l).take (k + 1) = (modsF l).take k ++ [l[k].face.modn] := by
    rw [List.take_succ_eq_append_getElem (by simpa [modsF] using h)]; simp [modsF]
  rw [List.drop_eq_getElem_cons h, formsF, hl] at hr
  rw [ht]
  refine ⟨fun e => ?_, fun e e2 => ?_, fun e e2 => ?_⟩
  · rw [e] at hr; simpa using hr.symm
  · rw [e, e2] at hr; simpa using hr.symm
  · rw [e, e2] at hr; simpa using hr
set_option maxRecDepth 100000 in
set_option maxHeartbeats 16000000 in
theorem forms_any (W : World) (v0 v1 v2 v5 v6 v7 : Value) (a : Option Addr) (l : List FObj) (n cap S b : Nat) (w : World) (hn : l.length = n) (hl : AllIn 13 ObjIn W a l) (hE0 : Ext W w)
    (hB : Blk w S #[v0, v1, v2, .slice a n cap, .map (some b), v5, v6, v7] 51) (hM : NumMap w b []) (hbW : W.heap.size ≤ b) (hne : S ≠ b) (hsm : ∀ x ∈ l, ObjSmall x) (hev : ErrVar W) (hmv : MaxVar W) (hm : n < 1000000) :
    Calls Tryd.prog 7 #[.pointer (some ⟨S, 0, none⟩)] w fun e w' => Chg (fun i => i = b) w w' ∧ ThrewOr (formsF [] l) (fun w' => NumMap w' b (modsF l)) e w' := by
  obtain ⟨R, hR⟩ : ∃ R, formsF [] l = R := ⟨_, rfl⟩
  rw [hR]
  have hxc := hB.cell
  have hxf := hB.frozen
  have hxl := hB.lt
  have HR := Lib.hid hR
  have HN := Lib.hid hn
  have HL := Lib.hid hl
  have HE0 := Lib.hid hE0
  have HB := Lib.hid hB
  have HM := Lib.hid hM
  have HSM := Lib.hid hsm
  have HEV := Lib.hid (fun (w' : World) (h : Ext W w') => hev.ext h)
  have HMV := Lib.hid (fun (w' : World) (h : Ext W w') => hmv.ext h)
  clear hR hn hl hE0 hB hM hsm hev hmv
  go_enter Tryd.func7, Tryd.ntmps7
  go_wp2_with fail
  clear hxc hxf
  go_loopw [11] (fun i wr => ∃ k : Nat, k ≤ n ∧ i = .int .i64 k ∧ Chg (fun i => i = b) w wr ∧ Hid (NumMap wr b ((modsF l).take k)) ∧ Hid (formsF ((modsF l).take k) (l.drop k) = R)) (fun i _ => n - (intOf i).toNat)
  case atStart => exact ⟨0, Nat.zero_le _, rfl, Chg.refl _ _, by have := HM.out; simpa [Hid] using this, by have := HR.out; simpa [Hid] using this⟩
  case round =>
    obtain ⟨k, hk, rfl, hC, HMk, hr⟩ := hrel
    have hEW : Ext W wr := HE0.out.trans hC (fun i hi e => by omega)
    by_cases hlt : k < n
    · have hkl : k < l.length := by rw [HN.out]; exact hlt
      obtain ⟨bo, o, rfl, hbo, hc⟩ := HL.out k hkl
      have hbo2 := Nat.lt_of_lt_of_le hbo hEW.size
      obtain ⟨fa, am, fc, cm, ia, ic, ca, cc, ra, rc, pa, pc, la, lc, ha, hcp, h0, h1, h2, h3, h4, h5, h6, h7, h8, h9, h10, h11, h12, HO⟩ := ObjIn.ext hEW hbo hc
      obtain ⟨s1, s2, s3⟩ := forms_step hkl R hr.out
      have HS1 := Lib.hid s1
      have HS2 := Lib.hid s2
      have HS3 := Lib.hid s3
      have HO2 := Lib.hid HO
      have HSMx := Lib.hid (HSM.out _ (List.getElem_mem hkl))
      have hxm : l[k].face.modn.size ≤ maxLen := by obtain ⟨_, _, _, _, _, _, _, _, _, _, _, _, _, _, _, _, -, ⟨_, _, _, _, -, -, -, h, -⟩, -⟩ := HO.ex; exact h
      have HTk := Lib.hid (take_mods hkl)
      clear s1 s2 s3 HO hc hr
      have hB2 := HB.out.chg hC hne
      have hxc := hB2.cell
      have hxf := hB2.frozen
      have HB2 := Lib.hid hB2
      clear hB2
      generalize l[k] = x at *
      obtain ⟨xf, xi, xc, xr, op, ol, oh, lo, hi, lf, hf⟩ := x
      obtain ⟨xn, xv, xp⟩ := xf
      simp only at hxm h0 h1 h2 h3 h4 h5 h6 h7 h8 h9 h10 h11 h12
      go_wp2_with fail
      refine (mayo.may_any _ _ _ (ObjAt.ext ((Chg.refl _ _).alloc _) HO2.out) HSMx.out (HEV.out _ (hEW.alloc _)) (HMV.out _ (hEW.alloc _))).mono ?_
      rintro e w2 ⟨rfl, hE2⟩
      have hK := (Blk.made _ _ _).ext hE2
      have hKc := hK.cell
      have hKf := hK.frozen
      have hBx := (HB2.out.alloc _).ext hE2
      have hxc := hBx.cell
      have hxf := hBx.frozen
      have HC2 := Lib.hid ((hC.alloc _).ext hE2)
      have HM2 := Lib.hid (HMk.out.kept (((Chg.refl _ _).alloc _).ext hE2))
      have HBx := Lib.hid hBx
      clear hE2 hBx HO2 HSMx h0 h1 h2 h3 h4 h5 h6 h7 h8 h9 h10 h11 h12
      generalize mayObjB ⟨⟨xn, xv, xp⟩, xi, xc, xr, op, ol, oh, lo, hi, lf, hf⟩ = M at *
      cases M
      · have HT := Lib.hid (HS1.out rfl)
        go_wp2_with fail
        refine (must_false _ _ _ _).mono ?_
        rintro e w3 ⟨rfl, rfl⟩
        go_wp2_with fail
        rw [HT.out]
        exact ⟨rfl, HC2.out, rfl⟩
      · go_wp2_with fail
        refine (must_true _ _ _ _).mono ?_
        rintro e w3 ⟨rfl, rfl⟩
        go_wp2_with fail
        obtain ⟨hlk, -⟩ := HM2.out.drew.look (face.zeroInt w2.drew) hxm
        have hLk : ((modsF l).take k).length = k := by simp only [List.length_take, modsF, List.length_map]; omega
        obtain ⟨F, hF⟩ : ∃ F, modF ((modsF l).take k) xn = F := ⟨_, rfl⟩
        rw [hF] at hlk
        have HF := Lib.hid hF
        have HLk := Lib.hid hLk
        clear hF hLk
        go_still (by kernel_rfl)
        clear hlk
        have HC3 := Lib.hid HC2.out.drew
        have HM3 := Lib.hid HM2.out.drew
        have HB3 := Lib.hid HBx.out.drew
        have hKc := hKc
        have hK3 := hK.drew
        change Exit.then _ _ _ _ w2.drew
        clear hKc hKf hxc hxf HBx HC2 HM2
        generalize w2.drew = w3 at *
        have hKc := hK3.cell
        have hKf := hK3.frozen
        have hxc := HB3.out.cell
        have hxf := HB3.out.frozen
        cases F with
        | some i =>
          have HT := Lib.hid (HS2.out trivial (show (modF ((modsF l).take k) xn).isSome = true by rw [HF.out]; rfl))
          go_wp2_with fail
          refine (must_false _ _ _ _).mono ?_
          rintro e w4 ⟨rfl, rfl⟩
          go_wp2_with fail
          rw [HT.out]
          exact ⟨rfl, HC3.out, rfl⟩
        | none =>
          have HT := Lib.hid (HS3.out trivial HF.out)
          go_wp2_with fail
          refine (must_true _ _ _ _).mono ?_
          rintro e w4 ⟨rfl, rfl⟩
          go_wp2_with fail
          go_still_tail 8, (by kernel_rfl)
          have HC4 := Lib.hid HC3.out.drew
          have HM4 := Lib.hid HM3.out.drew
          change wpList _ _ _ _ _ w3.drew
          clear hKc hKf hxc hxf HB3 HC3 HM3 hK3
          generalize w3.drew = w5 at *
          obtain ⟨w6, hrun, hM6, hg6⟩ := HM4.out.put HF.out hxm (by rw [HLk.out]; unfold maxLen; omega)
          rw [HLk.out] at hrun
          have HM6 := Lib.hid (show NumMap w6 b ((modsF l).take (k + 1)) by rw [HTk.out]; exact hM6)
          have HC6 := Lib.hid (HC4.out.then (grown_chg hg6))
          clear hM6 hg6
          go_wp2_with fail
          go_roundw
          case rel => exact ⟨k + 1, by omega, by go_num, HC6.out, HM6, HT⟩
          case measure => simp [intOf]; omega
    · obtain rfl : k = n := by omega
      have hd : formsF ((modsF l).take k) (l.drop k) = none := by rw [List.drop_of_length_le (by rw [HN.out]; exact Nat.le_refl _)]; rfl
      obtain rfl : R = none := hr.out.symm.trans hd
      have HM2 := Lib.hid (show NumMap wr b (modsF l) by have := HMk.out; rwa [List.take_of_length_le (by simp [modsF, HN.out])] at this)
      clear hd hr HMk
      go_wp2_with fail
      go_end0
      exact ⟨hC, rfl, HM2.out⟩
end linkw
end Go.Proofs.YtpcihajmcejliabDoor
namespace Go.Proofs.YtpcihajmcejliabDoor
open Go.RowKit Go.WideMaps Go.Maps
/-- the face of an object of a row -/
def faceAtF (l : List FObj) (n : Nat) : FFace := (l[n]?.map FObj.face).getD default
/-- K1: what is wrong with the faces that an object knows -/
def impF1 (l : List FObj) (i : Nat) : Nat → List FFace → Option (Nat × Int × Int)
  | _, [] => none
  | k, f :: r => match modF (modsF l) f.modn with
    | none => some (i, 4, (k : Int))
    | some n => if decide (f = faceAtF l n) = false then some (i, 3, (k : Int)) else impF1 l i (k + 1) r
def impF (l : List FObj) : Nat → List FObj → Option (Nat × Int × Int)
  | _, [] => none
  | i, x :: r => (impF1 l i 0 x.imports).or (impF l (i + 1) r)
namespace linkw
open face
theorem imp1_step {l : List FObj} {i k : Nat} {m : List FFace} (h : k < m.length) {R T : Option (Nat × Int × Int)} (hr : (impF1 l i k (m.drop k)).or T = R) :
    (modF (modsF l) m[k].modn = none → R = some (i, 4, (k : Int))) ∧ ∀ g, modF (modsF l) m[k].modn = some g → (decide (m[k] = faceAtF l g) = false → R = some (i, 3, (k : Int))) ∧ (decide (m[k] = faceAtF l g) = true → (impF1 l i (k + 1) (m.drop (k + 1))).or T = R) := by
  rw [List.drop_eq_getElem_cons h, impF1] at hr
  refine ⟨fun e => ?_, fun g e => ⟨fun e2 => ?_, fun e2 => ?_⟩⟩
  · rw [e] at hr; simpa using hr.symm
  · rw [e] at hr; simp only [e2, if_true] at hr; simpa using hr.symm
  · rw [e] at hr; simp only [e2] at hr; simpa using hr
theorem imp_step {l : List FObj} {k : Nat} (h : k < l.length) {R : Option (Nat × Int × Int)} (hr : impF l k (l.drop k) = R) : (impF1 l k 0 (l[k].imports.drop 0)).or (impF l (k + 1) (l.drop (k + 1))) = R := by
  rw [List.drop_eq_getElem_cons h, impF] at hr
  simpa using hr
set_option maxRecDepth 100000 in
set_option maxHeartbeats 16000000 in
theorem imports_any (W : World) (v0 v1 v2 v5 v6 v7 : Value) (a : Option Addr) (l : List FObj) (n cap S b : Nat) (w : World) (hn : l.length = n) (hl : AllIn 13 ObjIn W a l) (hE0 : Ext W w)
    (hB : Blk w S #[v0, v1, v2, .slice a n cap, .map (some b), v5, v6, v7] 51) (hM : NumMap w b (modsF l)) (hsm : ∀ x ∈ l, ObjSmall x) (hm : n < 1000000) :
    Calls Tryd.prog 8 #[.pointer (some ⟨S, 0, none⟩)] w fun e w' => Ext w w' ∧ ThrewOr (impF l 0 l) (fun _ => True) e w' := by
  obtain ⟨R, hR⟩ : ∃ R, impF l 0 l = R := ⟨_, rfl⟩
  rw [hR]
  have hxc := hB.cell
  have hxf := hB.frozen
  have hxl := hB.lt
  have HR := Lib.hid hR
  have HN := Lib.hid hn
  have HL := Lib.hid hl
  have HE0 := Lib.hid hE0
  have HB := Lib.hid hB
  have HM := Lib.hid hM
  have HSM := Lib.hid hsm
  clear hR hn hl hE0 hB hM hsm
  go_enter Tryd.func8, Tryd.ntmps8
  go_wp2_with fail
  clear hxc hxf
  go_loopw [13] (fun i wr => ∃ k : Nat, k ≤ n ∧ i = .int .i64 k ∧ Ext w wr ∧ Hid (impF l k (l.drop k) = R)) (fun i _ => n - (intOf i).toNat)
  case atStart => exact ⟨0, Nat.zero_le _, rfl, Chg.refl _ _, by have := HR.out; simpa [Hid] using this⟩
  case round =>
    obtain ⟨i, hi, rfl, hE, hr⟩ := hrel
    obtain ⟨wo, rfl⟩ : ∃ wo, wo = wr := ⟨_, rfl⟩
    by_cases hlt : i < n
    · have hil : i < l.length := by rw [HN.out]; exact hlt
      have hEW := HE0.out.ext hE
      obtain ⟨bo, o, rfl, hbo, hc⟩ := HL.out i hil
      have hbo2 := Nat.lt_of_lt_of_le hbo hEW.size
      obtain ⟨fa, am, fc, cm, ia, ic, ca, cc, ra, rc, pa, pc, la, lc, ha, hcp, h0, h1, h2, h3, h4, h5, h6, h7, h8, h9, h10, h11, h12, HO⟩ := ObjIn.ext hEW hbo hc
      have hIM := HO.rows.2.1
      have HIM := Lib.hid hIM
      have hni := (HSM.out _ (List.getElem_mem hil)).imports
      have HR1 := Lib.hid (imp_step hil hr.out)
      have HE := Lib.hid hE
      clear hIM HO hc hr hE
      have hB2 := HB.out.ext HE.out
      have hxc := hB2.cell
      have hxf := hB2.frozen
      clear hB2
      generalize l[i] = x at *
      obtain ⟨xf, xi, xc, xr, op, ol, oh, lo, hi', lf, hf⟩ := x
      simp only at hni HR1 HIM h0 h1 h2 h3 h4 h5 h6 h7 h8 h9 h10 h11 h12
      obtain ⟨m, hm'⟩ : ∃ m, xi.length = m := ⟨_, rfl⟩
      rw [hm'] at hni h3
      have HMM := Lib.hid hm'
      clear hm'
      go_wp2_with fail
      clear h0 h1 h2 h3 h4 h5 h6 h7 h8 h9 h10 h11 h12 hxc hxf
      go_loopw [21] (fun j wr => ∃ k : Nat, k ≤ m ∧ j = .int .i64 k ∧ Ext wo wr ∧ Hid ((impF1 l i k (xi.drop k)).or (impF l (i + 1) (l.drop (i + 1))) = R)) (fun j _ => m - (intOf j).toNat)
      case atStart => exact ⟨0, Nat.zero_le _, rfl, (Chg.refl _ _).alloc _, HR1.out⟩
      case round =>
        obtain ⟨k, hk, rfl, hE2, hr⟩ := hrel
        by_cases hlt2 : k < m
        · have hkm : k < xi.length := by rw [HMM.out]; exact hlt2
          obtain ⟨bi, oi, rfl, hbi, hc⟩ := HIM.out k hkm
          obtain ⟨ja, jm, jc, jd, l0, l1, l2, HF0⟩ := FaceIn.ext hE2 hbi hc
          have hbi2 := Nat.lt_of_lt_of_le hbi hE2.size
          obtain ⟨s1, s2⟩ := imp1_step hkm hr.out
          have HS1 := Lib.hid s1
          have HS2 := Lib.hid s2
          have HF0 := Lib.hid HF0
          have HE20 := Lib.hid hE2
          have hE3 := HE.out.ext hE2
          have HE3 := Lib.hid hE3
          have hfm : xi[k].modn.size ≤ maxLen := by obtain ⟨_, _, _, _, -, -, -, h, -⟩ := HF0.out; exact h
          clear s1 s2 hc hr hE2 hE3
          generalize xi[k] = y at *
          obtain ⟨fn, fv, fp⟩ := y
          simp only at hfm l0 l1 l2 HS1 HS2 HF0
          go_wp2_with fail
          have hE20 := HE20.out.alloc (.cells #[.string fn, .slice ja fv.length jm, .slice jc fp.length jd] 34)
          have hES := Lib.hid ((Chg.refl (fun _ => False) wr).alloc (.cells #[.string fn, .slice ja fv.length jm, .slice jc fp.length jd] 34))
          have hK := Blk.made wr #[.string fn, .slice ja fv.length jm, .slice jc fp.length jd] 34
          have hS1 := HB.out.ext (HE3.out.ext hES.out)
          have hM1 := HM.out.kept (HE3.out.ext hES.out)
          have HE4 := Lib.hid (HE3.out.ext hES.out)
          have HFX := Lib.hid (FaceAt.ext hES.out HF0.out)
          clear HF0 l0 l1 l2 HE3 hES
          generalize wr.alloc (.cells #[.string fn, .slice ja fv.length jm, .slice jc fp.length jd] 34) = w1 at *
          have hKc := hK.cell
          have hSc := hS1.cell
          have hlk := (hM1.drew.look (face.zeroInt w1.drew) hfm).1
          obtain ⟨G, hG⟩ : ∃ G, modF (modsF l) fn = G := ⟨_, rfl⟩
          rw [hG] at hlk
          have HG := Lib.hid hG
          clear hG
          go_still (by kernel_rfl)
          clear hlk hKc hSc
          have HE5 := Lib.hid HE4.out.drew
          have hEr := Lib.hid hE20.drew
          have HK := Lib.hid hK.drew
          have HS3 := Lib.hid hS1.drew
          have HM3 := Lib.hid hM1.drew
          have HFX := Lib.hid (FaceAt.ext (Chg.refl _ _).drew HFX.out)
          change Exit.then _ _ _ _ w1.drew
          clear HE4 hK hS1 hM1 hE20 HE20
          generalize w1.drew = w2 at *
          cases G with
          | none =>
            have HT := Lib.hid (HS1.out HG.out)
            go_wp2_with fail
            refine (must_false _ _ _ _).mono ?_
            rintro e w4 ⟨rfl, rfl⟩
            go_wp2_with fail
            rw [HT.out]
            exact ⟨rfl, HE5.out, rfl⟩
          | some g =>
            obtain ⟨hg, hgn⟩ := modF_some HG.out
            have hgl : g < l.length := by simpa [modsF] using hg
            have hgn2 : g < n := by rw [← HN.out]; exact hgl
            have HS4 := Lib.hid (HS2.out g HG.out)
            obtain ⟨bz, oz, ez, hbz, hcz⟩ := HL.out g hgl
            obtain ⟨rfl, rfl⟩ : bo = bz ∧ o = oz := by simpa using ez
            have hEz := HE0.out.ext HE5.out
            obtain ⟨ga, gm, gc, gd, _, _, _, _, _, _, _, _, _, _, _, _, z0, z1, z2, -, -, -, -, -, -, -, -, -, -, HO⟩ := ObjIn.ext hEz hbz hcz
            have HFY := Lib.hid HO.rows.1
            have hfa : faceAtF l g = l[g].face := by simp [faceAtF, hgl]
            rw [hfa] at HS4
            have hbz2 := Nat.lt_of_lt_of_le hbz hEz.size
            have HZ0 := Lib.hid (fun (u : World) (hu : Ext w2 u) => (hu.cell (p := ⟨bo, o + g * 13, none⟩) hbz2 id).trans z0)
            have HZ1 := Lib.hid (fun (u : World) (hu : Ext w2 u) => (hu.cell (p := ⟨bo, o + g * 13 + 1, none⟩) hbz2 id).trans z1)
            have HZ2 := Lib.hid (fun (u : World) (hu : Ext w2 u) => (hu.cell (p := ⟨bo, o + g * 13 + 2, none⟩) hbz2 id).trans z2)
            clear z0 z1 z2 HO hcz ez hEz hfa
            generalize l[g] = z at *
            obtain ⟨M, hM⟩ : ∃ M, decide (FFace.mk fn fv fp = z.face) = M := ⟨_, rfl⟩
            rw [hM] at HS4
            have HMD := Lib.hid hM
            clear hM
            go_wp2_with fail
            refine (must_true _ _ _ _).mono ?_
            rintro e w4 ⟨rfl, rfl⟩
            go_wp2_with fail
            refine wp_region_chain [9, 12] [.agg #[.string fn, .slice ja fv.length jm, .slice jc fp.length jd], .pointer (some ⟨S, 0, none⟩), .pointer (some ⟨S, 0, none⟩), .pointer (some ⟨S, 3, none⟩), .slice (some ⟨bo, o, none⟩) n cap, .int .i64 (g : Nat), .pointer (some ⟨bo, o + g * 13, none⟩), .pointer (some ⟨bo, o + g * 13, none⟩), .agg #[.string z.face.modn, .slice ga z.face.vars.length gm, .slice gc z.face.procs.length gd], undef, .int .i64 i, .int .i64 k, undef] (fun vs u => Ext w2 u ∧ (match vs with | [] => True | [v0] => v0 = .bool M | [v0, _] => v0 = .bool M ∧ M = true | _ => False)) (frame := ?fraa) (fun x => ?hfaa) mixed (by kernel_rfl) ?h0a ?sta ?fina
            case hfaa =>
              simp only [chain.frameOf, chain.fill, chain.setOpt, chain.dstOf, List.size_toArray, List.length_cons, List.length_nil, List.getElem?_toArray, List.getElem?_cons_succ, List.getElem?_cons_zero, List.setIfInBounds_toArray, List.set_cons_succ, List.set_cons_zero]
              exact rfl
            case h0a => exact ⟨(Chg.refl _ _).drew, trivial⟩
            case sta =>
              refine AllFrom.cons (fun x vs u hF hm hd K' hK' => ?sa0) (AllFrom.cons (fun x vs u hF hm hd K' hK' => ?sa1) (AllFrom.cons (fun x vs u hF hm hd K' hK' => ?sa2) (AllFrom.cons (fun x vs u hF hm hd K' hK' => ?sa3) (AllFrom.cons (fun x vs u hF hm hd K' hK' => ?sa4) (AllFrom.cons (fun x vs u hF hm hd K' hK' => ?sa5) (AllFrom.cons (fun x vs u hF hm hd K' hK' => ?sa6) (AllFrom.cons (fun x vs u hF hm hd K' hK' => ?sa7) (AllFrom.cons (fun x vs u hF hm hd K' hK' => ?sa8) (AllFrom.cons (fun x vs u hF hm hd K' hK' => ?sa9) (AllFrom.cons (fun x vs u hF hm hd K' hK' => ?sa10) (AllFrom.cons (fun x vs u hF hm hd K' hK' => ?sa11) (AllFrom.cons (fun x vs u hF hm hd K' hK' => ?sa12) (AllFrom.nil)))))))))))))
              case sa0 =>
                have hKc := (HK.out.ext hF.1).cell
                clear hd hm hF
                go_simp
                exact hK'.out _ _ _ rfl ⟨rfl, rfl⟩
              case sa1 =>
                clear hd hm hF
                go_simp
                exact hK'.out _ _ _ rfl ⟨rfl, rfl⟩
              case sa2 =>
                have y0 := hd 1 41 (by decide) (by kernel_rfl) (by kernel_rfl)
                replace y0 : x 41 = .pointer (some ⟨S, 0, none⟩) := y0
                clear hd hm hF
                go_simp
                exact hK'.out _ _ _ (by simp only [y0]; rfl) ⟨rfl, rfl⟩
              case sa3 =>
                have y0 := hd 2 42 (by decide) (by kernel_rfl) (by kernel_rfl)
                replace y0 : x 42 = .pointer (some ⟨S, 0, none⟩) := y0
                clear hd hm hF
                go_simp
                exact hK'.out _ _ _ (by simp only [y0]; rfl) ⟨rfl, rfl⟩
              case sa4 =>
                have y0 := hd 3 43 (by decide) (by kernel_rfl) (by kernel_rfl)
                replace y0 : x 43 = .pointer (some ⟨S, 3, none⟩) := y0
                have hSc := (HS3.out.ext hF.1).cell
                clear hd hm hF
                go_simp
                exact hK'.out _ _ _ (by simp only [y0]; rfl) ⟨rfl, rfl⟩
              case sa5 =>
                clear hd hm hF
                go_simp
                exact hK'.out _ _ _ rfl ⟨rfl, rfl⟩
              case sa6 =>
                have y0 := hd 4 44 (by decide) (by kernel_rfl) (by kernel_rfl)
                replace y0 : x 44 = .slice (some ⟨bo, o, none⟩) n cap := y0
                have y1 := hd 5 45 (by decide) (by kernel_rfl) (by kernel_rfl)
                replace y1 : x 45 = .int .i64 (g : Nat) := y1
                clear hd hm hF
                go_simp
                exact hK'.out _ _ _ (by simp only [y0, y1]; rfl) ⟨rfl, rfl⟩
              case sa7 =>
                have y0 := hd 6 46 (by decide) (by kernel_rfl) (by kernel_rfl)
                replace y0 : x 46 = .pointer (some ⟨bo, o + g * 13, none⟩) := y0
                clear hd hm hF
                go_simp
                exact hK'.out _ _ _ (by simp only [y0]; rfl) ⟨rfl, rfl⟩
              case sa8 =>
                have y0 := hd 7 47 (by decide) (by kernel_rfl) (by kernel_rfl)
                replace y0 : x 47 = .pointer (some ⟨bo, o + g * 13, none⟩) := y0
                have q0 := HZ0.out u hF.1
                have q1 := HZ1.out u hF.1
                have q2 := HZ2.out u hF.1
                clear hd hm hF
                go_simp
                exact hK'.out _ _ _ (by simp only [y0]; rfl) ⟨rfl, rfl⟩
              case sa9 =>
                have y0 := hd 0 40 (by decide) (by kernel_rfl) (by kernel_rfl)
                replace y0 : x 40 = .agg #[.string fn, .slice ja fv.length jm, .slice jc fp.length jd] := y0
                have y1 := hd 8 48 (by decide) (by kernel_rfl) (by kernel_rfl)
                replace y1 : x 48 = .agg #[.string z.face.modn, .slice ga z.face.vars.length gm, .slice gc z.face.procs.length gd] := y1
                obtain rfl := List.eq_nil_of_length_eq_zero (hm 0 (by kernel_rfl))
                obtain ⟨hE, -⟩ := hF
                clear hd hm
                go_simp
                refine (same_any _ _ _ _ _ (FaceAt.ext hE HFX.out) (FaceAt.ext hE HFY.out)).mono ?_
                rintro e u2 ⟨rfl, hE2⟩
                rw [HMD.out]
                exact hK'.out _ _ _ (by simp only [y0, y1]; rfl) ⟨hE.ext hE2, rfl⟩
              case sa10 =>
                clear hd hm hF
                go_simp
                exact hK'.out _ _ _ rfl ⟨rfl, rfl⟩
              case sa11 =>
                clear hd hm hF
                go_simp
                exact hK'.out _ _ _ rfl ⟨rfl, rfl⟩
              case sa12 =>
                obtain ⟨v0, rfl⟩ : ∃ v0, vs = [v0] := by match vs, hm 1 (by kernel_rfl) with | [v0], _ => exact ⟨_, rfl⟩
                obtain ⟨hE, rfl⟩ := hF
                have y0 := hd 9 49 (by decide) (by kernel_rfl) (by kernel_rfl)
                replace y0 : x 49 = .bool M := y0
                have y1 := hd 10 50 (by decide) (by kernel_rfl) (by kernel_rfl)
                replace y1 : x 50 = .int .i64 i := y1
                have y2 := hd 11 51 (by decide) (by kernel_rfl) (by kernel_rfl)
                replace y2 : x 51 = .int .i64 k := y2
                clear hd hm
                cases M
                · have HT := Lib.hid (HS4.out.1 rfl)
                  go_simp
                  refine (must_false _ _ _ _).mono ?_
                  rintro e u2 ⟨rfl, rfl⟩
                  go_wp2_with fail
                  rw [HT.out]
                  exact ⟨rfl, HE5.out.ext hE, rfl⟩
                · go_simp
                  refine (must_true _ _ _ _).mono ?_
                  rintro e u2 ⟨rfl, rfl⟩
                  exact hK'.out _ _ _ (by simp only [y0, y1, y2]; rfl) ⟨hE, rfl, rfl⟩
            case fina =>
              intro x vs u hl hF hs
              obtain ⟨v0, v1, rfl⟩ : ∃ v0 v1, vs = [v0, v1] := by match vs, hl with | [v0, v1], _ => exact ⟨_, _, rfl⟩
              obtain ⟨hE, rfl, rfl⟩ := hF
              clear hs
              have HT := Lib.hid (HS4.out.2 rfl)
              have HE6 := Lib.hid (HE5.out.ext hE)
              have hE7 := hEr.out.ext hE
              clear hE
              go_wp2_with fail
              go_roundw
              case rel => exact ⟨k + 1, by omega, by go_num, hE7, HT⟩
              case measure => simp [intOf]; omega
        · obtain rfl : k = m := by omega
          have HT := Lib.hid (show impF l (i + 1) (l.drop (i + 1)) = R by have := hr.out; rwa [List.drop_of_length_le (by rw [HMM.out]; exact Nat.le_refl _), impF1, Option.none_or] at this)
          have HE6 := Lib.hid (HE.out.ext hE2)
          clear hr hE2
          go_wp2_with fail
          go_roundw
          case rel => exact ⟨i + 1, by omega, by go_num, HE6.out, HT⟩
          case measure => simp [intOf]; omega
    · obtain rfl : i = n := by omega
      obtain rfl : R = none := by have := hr.out; rw [List.drop_of_length_le (by rw [HN.out]; exact Nat.le_refl _)] at this; exact this.symm
      clear hr
      go_wp2_with fail
      go_end0
      exact ⟨hE, rfl, trivial⟩
end linkw
end Go.Proofs.YtpcihajmcejliabDoor
