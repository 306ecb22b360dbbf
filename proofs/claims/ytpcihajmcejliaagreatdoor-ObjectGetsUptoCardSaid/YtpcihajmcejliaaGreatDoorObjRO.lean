/- The walk of the reference's bytes of an object. -/
import Derived.Test.YtpcihajmcejliaaGreatDoorObjRF
namespace Go.Proofs.YtpcihajmcejliaaGreatDoor
open Go.RowKit
def FaceIn (w : World) (b o : Nat) (x : FFace) : Prop :=
  ∃ a m c d, w.cell? ⟨b, o, none⟩ = some (.string x.modn) ∧ w.cell? ⟨b, o + 1, none⟩ = some (.slice a x.vars.length m) ∧ w.cell? ⟨b, o + 2, none⟩ = some (.slice c x.procs.length d) ∧ FaceAt w x (.agg #[.string x.modn, .slice a x.vars.length m, .slice c x.procs.length d])
theorem FaceIn.ext {w w' : World} (hE : Ext w w') {b o : Nat} {x : FFace} (hb : b < w.heap.size) (h : FaceIn w b o x) : FaceIn w' b o x := by
  obtain ⟨a, m, c, d, h0, h1, h2, h3⟩ := h
  refine ⟨a, m, c, d, ?_, ?_, ?_, FaceAt.ext hE h3⟩
  · rw [hE.cell (by exact hb) id]; exact h0
  · rw [hE.cell (by exact hb) id]; exact h1
  · rw [hE.cell (by exact hb) id]; exact h2
def InsIn5 (w : World) (b o : Nat) (i : Ins) : Prop :=
  w.cell? ⟨b, o, none⟩ = some (.int .i64 i.op) ∧ w.cell? ⟨b, o + 1, none⟩ = some (.int .i64 i.a) ∧ w.cell? ⟨b, o + 2, none⟩ = some (.int .i64 i.b) ∧ w.cell? ⟨b, o + 3, none⟩ = some (.int .i64 i.c) ∧ w.cell? ⟨b, o + 4, none⟩ = some (.int .i64 i.n)
theorem InsIn5.ext {w w' : World} (hE : Ext w w') {b o : Nat} {x : Ins} (hb : b < w.heap.size) (h : InsIn5 w b o x) : InsIn5 w' b o x := by
  unfold InsIn5 at *
  rw [hE.cell (by exact hb) id, hE.cell (by exact hb) id, hE.cell (by exact hb) id, hE.cell (by exact hb) id, hE.cell (by exact hb) id]; exact h
def RelIn (w : World) (b o : Nat) (r : FRel) : Prop :=
  w.cell? ⟨b, o, none⟩ = some (.int .i64 r.at_) ∧ w.cell? ⟨b, o + 1, none⟩ = some (.int .i64 r.kind) ∧ w.cell? ⟨b, o + 2, none⟩ = some (.string r.modn) ∧ w.cell? ⟨b, o + 3, none⟩ = some (.string r.name)
theorem RelIn.ext {w w' : World} (hE : Ext w w') {b o : Nat} {x : FRel} (hb : b < w.heap.size) (h : RelIn w b o x) : RelIn w' b o x := by
  unfold RelIn at *
  rw [hE.cell (by exact hb) id, hE.cell (by exact hb) id, hE.cell (by exact hb) id, hE.cell (by exact hb) id]; exact h
/-- all of an object's numbers are numbers of 64 bits -/
structure ObjNums (x : FObj) : Prop where
  face : FaceNums x.face
  imports : ∀ f ∈ x.imports, FaceNums f
  code : ∀ i ∈ x.code, (∀ y ∈ [i.op, i.a, i.b, i.c], -9223372036854775808 ≤ y ∧ y ≤ 9223372036854775807) ∧ (-9223372036854775808 ≤ i.n ∧ i.n ≤ 9223372036854775807)
  relocs : ∀ r ∈ x.relocs, ∀ y ∈ [r.at_, r.kind], -9223372036854775808 ≤ y ∧ y ≤ 9223372036854775807
  words : ∀ y ∈ [x.low, x.high, x.lowF, x.highF], -9223372036854775808 ≤ y ∧ y ≤ 9223372036854775807
/-- An object as a value. -/
structure ObjAt (w : World) (x : FObj) (v : Value) : Prop where
  ex : ∃ fa am fc cm ia ic ca cc ra rc pa pc la lc ha hc, v = .agg #[.string x.face.modn, .slice fa x.face.vars.length am, .slice fc x.face.procs.length cm, .slice ia x.imports.length ic, .slice ca x.code.length cc, .slice ra x.relocs.length rc, .slice pa x.procs.length pc, .slice la x.lows.length lc, .slice ha x.highs.length hc, .int .i64 x.low, .int .i64 x.high, .int .i64 x.lowF, .int .i64 x.highF] ∧
    FaceAt w x.face (.agg #[.string x.face.modn, .slice fa x.face.vars.length am, .slice fc x.face.procs.length cm]) ∧
    AllIn 3 FaceIn w ia x.imports ∧ AllIn 5 InsIn5 w ca x.code ∧ AllIn 4 RelIn w ra x.relocs ∧ AllIn 2 PlcIn w pa x.procs ∧ AllIn 2 PlcIn w la x.lows ∧ AllIn 2 PlcIn w ha x.highs
theorem ObjAt.ext {w w' : World} (hE : Ext w w') {x : FObj} {v : Value} (h : ObjAt w x v) : ObjAt w' x v := by
  obtain ⟨fa, am, fc, cm, ia, ic, ca, cc, ra, rc, pa, pc, la, lc, ha, hc, rfl, h0, h1, h2, h3, h4, h5, h6⟩ := h.ex
  exact ⟨fa, am, fc, cm, ia, ic, ca, cc, ra, rc, pa, pc, la, lc, ha, hc, rfl, FaceAt.ext hE h0, h1.mono hE.size fun _ _ _ hb h => FaceIn.ext hE hb h, h2.mono hE.size fun _ _ _ hb h => InsIn5.ext hE hb h, h3.mono hE.size fun _ _ _ hb h => RelIn.ext hE hb h, h4.mono hE.size fun _ _ _ hb h => PlcIn.ext hE hb h, h5.mono hE.size fun _ _ _ hb h => PlcIn.ext hE hb h, h6.mono hE.size fun _ _ _ hb h => PlcIn.ext hE hb h⟩
namespace obj
theorem flat_take {α : Type} (f : α → List UInt8) (l : List α) (k : Nat) (h : k < l.length) : (l.take (k + 1)).flatMap f = (l.take k).flatMap f ++ f l[k] := by
  rw [List.take_succ_eq_append_getElem h, List.flatMap_append, List.flatMap_cons, List.flatMap_nil, List.append_nil]
theorem plc_all {a : Option Addr} {l : List FPlc} {w w' : World} (h : AllIn 2 PlcIn w a l) (hE : Ext w w') : AllIn 2 PlcIn w' a l := h.mono hE.size fun _ _ _ hb h => PlcIn.ext hE hb h
set_option maxRecDepth 100000 in
set_option maxHeartbeats 32000000 in
theorem bytes_any (x : FObj) (v : Value) (w : World) (hx : ObjAt w x v) (hnum : ObjNums x) (hs : (objL x).length ≤ 1000000000000000) :
    Calls Tryz.prog 10 #[v] w fun e w' => e = .returned (.string ⟨(objL x).toArray⟩) ∧ Ext w w' := by
  obtain ⟨fa, am, fc, cm, ia, ic, ca, cc, ra, rc, pa, pc, la, lc, ha, hc, rfl, hF0, h1, h2, h3, h4, h5, h6⟩ := hx.ex
  obtain ⟨xf, xi, xc, xr, op, ol, oh, lo, hi, lf, hf⟩ := x
  simp only at *
  have HNUM := Lib.hid hnum
  have HL := Lib.hid (And.intro h1 (And.intro h2 (And.intro h3 True.intro)))
  obtain ⟨n1, hn1⟩ : ∃ n, xf.vars.length = n := ⟨_, rfl⟩
  obtain ⟨n2, hn2⟩ : ∃ n, xf.procs.length = n := ⟨_, rfl⟩
  obtain ⟨xn, hxn⟩ : ∃ n, xf.modn = n := ⟨_, rfl⟩
  obtain ⟨ni, hni⟩ : ∃ n, xi.length = n := ⟨_, rfl⟩
  obtain ⟨nc, hnc⟩ : ∃ n, xc.length = n := ⟨_, rfl⟩
  obtain ⟨nr, hnr⟩ : ∃ n, xr.length = n := ⟨_, rfl⟩
  obtain ⟨np, hnp⟩ : ∃ n, op.length = n := ⟨_, rfl⟩
  obtain ⟨nl, hnl⟩ : ∃ n, ol.length = n := ⟨_, rfl⟩
  obtain ⟨nh, hnh⟩ : ∃ n, oh.length = n := ⟨_, rfl⟩
  obtain ⟨F, hFF⟩ : ∃ y, objL ⟨xf, xi, xc, xr, op, ol, oh, lo, hi, lf, hf⟩ = y := ⟨_, rfl⟩
  have hF : F = faceL xf ++ (numsL [(ni : Int)] ++ (xi.flatMap faceL ++ (numsL [(nc : Int)] ++ (xc.flatMap insL ++ (numsL [(nr : Int)] ++ (xr.flatMap relL ++ (placesL op ++ (placesL ol ++ (placesL oh ++ numsL [lo, hi, lf, hf]))))))))) := by
    rw [← hFF]
    unfold objL
    simp [numsL, List.append_assoc, hni, hnc, hnr]
  rw [hFF] at hs ⊢
  rw [hn1, hn2, hxn, hni, hnc, hnr, hnp, hnl, hnh]
  rw [hn1, hn2, hxn] at hF0
  have HS := Lib.hid hs
  have hlF := congrArg List.length hF
  simp only [List.length_append] at hlF
  have hm1 := flat_many faceL (fun x => by unfold faceL; simp only [List.length_append, text_len, num8_len]; omega) xi
  have hm2 := flat_many insL (fun x => by unfold insL; simp only [List.length_append, numsL_len, num8_len]; omega) xc
  have hm3 := flat_many relL (fun x => by unfold relL; simp only [List.length_append, numsL_len, text_len]; simp only [List.length_cons]; omega) xr
  have hbi : ni ≤ 1000000000000000 := by omega
  have hbc : nc ≤ 1000000000000000 := by omega
  have hbr : nr ≤ 1000000000000000 := by omega
  have HFB := Lib.hid (fun (u : World) (hE : Ext w u) => faceBytes_any xf _ u (FaceAt.ext hE hF0) hnum.face (by omega))
  have HP1 := Lib.hid (fun (u : World) (hE : Ext w u) => placesBytes_any pa op pc np u hnp (plc_all h4 hE) (by omega))
  have HP2 := Lib.hid (fun (u : World) (hE : Ext w u) => placesBytes_any la ol lc nl u hnl (plc_all h5 hE) (by omega))
  have HP3 := Lib.hid (fun (u : World) (hE : Ext w u) => placesBytes_any ha oh hc nh u hnh (plc_all h6 hE) (by omega))
  have hin4 := hnum.words
  simp only at hin4
  have HNI := Lib.hid hni
  have HNC := Lib.hid hnc
  have HNR := Lib.hid hnr
  have hlt1 : (faceL xf).length + (numsL [(ni : Int)]).length ≤ 2000000000000000 := by omega
  obtain ⟨M0, hM0⟩ : ∃ y, faceL xf ++ numsL [(ni : Int)] = y := ⟨_, rfl⟩
  have HF : Hid (F = M0 ++ (xi.flatMap faceL ++ (numsL [(nc : Int)] ++ (xc.flatMap insL ++ (numsL [(nr : Int)] ++ (xr.flatMap relL ++ (placesL op ++ (placesL ol ++ (placesL oh ++ numsL [lo, hi, lf, hf]))))))))) := by
    unfold Hid
    rw [hF, ← hM0]
    simp only [List.append_assoc]
  have HM0 := Lib.hid hM0
  clear hx h1 h2 h3 h4 h5 h6 hnum hn1 hn2 hxn hni hnc hnr hnp hnl hnh hFF hF hF0 hlF hm1 hm2 hm3 hs hM0
  have happ := ByteArray.mk_append_mk
  have hKb : Blk (w.alloc (.cells #[.string xn, .slice fa n1 am, .slice fc n2 cm, .slice ia ni ic, .slice ca nc cc, .slice ra nr rc, .slice pa np pc, .slice la nl lc, .slice ha nh hc, .int .i64 lo, .int .i64 hi, .int .i64 lf, .int .i64 hf] 31)) w.heap.size #[.string xn, .slice fa n1 am, .slice fc n2 cm, .slice ia ni ic, .slice ca nc cc, .slice ra nr rc, .slice pa np pc, .slice la nl lc, .slice ha nh hc, .int .i64 lo, .int .i64 hi, .int .i64 lf, .int .i64 hf] 31 := Blk.made _ _ _
  have hE0 : Ext w (w.alloc (.cells #[.string xn, .slice fa n1 am, .slice fc n2 cm, .slice ia ni ic, .slice ca nc cc, .slice ra nr rc, .slice pa np pc, .slice la nl lc, .slice ha nh hc, .int .i64 lo, .int .i64 hi, .int .i64 lf, .int .i64 hf] 31)) := (Chg.refl _ _).alloc _
  go_enter Tryz.func10, Tryz.ntmps10
  go_upto_region 1 with (fail)
  generalize w.alloc (.cells #[.string xn, .slice fa n1 am, .slice fc n2 cm, .slice ia ni ic, .slice ca nc cc, .slice ra nr rc, .slice pa np pc, .slice la nl lc, .slice ha nh hc, .int .i64 lo, .int .i64 hi, .int .i64 lf, .int .i64 hf] 31) = w0 at *
  refine wp_region_specs (fun i => ([.val (.pointer (some ⟨w.heap.size, 0, none⟩)), .val (.agg #[.string xn, .slice fa n1 am, .slice fc n2 cm]), .val (.string ⟨(faceL xf).toArray⟩), .val (.pointer (some ⟨w.heap.size, 3, none⟩)), .val (.slice ia ni ic), .val (.int .i64 ni), .row [.int .i64 ni] 1 3, .val (.string ⟨(numsL [(ni : Int)]).toArray⟩), .val (.string ⟨(faceL xf ++ numsL [(ni : Int)]).toArray⟩), .val (.string ⟨(faceL xf ++ numsL [(ni : Int)]).toArray⟩)] : List Comes).getD i (.val undef)) (frame := ?fra) (fun x => ?hfa) (by kernel_rfl) (by kernel_rfl) ?sta ?fina
  case hfa =>
    simp only [specs.frameOf, specs.fill, specs.dstAt, List.size_toArray, List.length_cons, List.length_nil, List.getElem?_toArray, List.getElem?_cons_succ, List.getElem?_cons_zero, Option.getD_some, List.setIfInBounds_toArray, List.set_cons_succ, List.set_cons_zero]
    exact rfl
  case sta =>
    refine AllFrom.cons (fun x u hE hd hr K hK => ?sa0) (AllFrom.cons (fun x u hE hd hr K hK => ?sa1) (AllFrom.cons (fun x u hE hd hr K hK => ?sa2) (AllFrom.cons (fun x u hE hd hr K hK => ?sa3) (AllFrom.cons (fun x u hE hd hr K hK => ?sa4) (AllFrom.cons (fun x u hE hd hr K hK => ?sa5) (AllFrom.cons (fun x u hE hd hr K hK => ?sa6) (AllFrom.cons (fun x u hE hd hr K hK => ?sa7) (AllFrom.cons (fun x u hE hd hr K hK => ?sa8) (AllFrom.cons (fun x u hE hd hr K hK => ?sa9) AllFrom.nil)))))))))
    case sa0 =>
      clear hd hr
      go_simp
      exact hK.out _ _ _ rfl rfl (Chg.refl _ _)
    case sa1 =>
      have y10 : x 10 = .pointer (some ⟨w.heap.size, 0, none⟩) := hd 0 (by decide) (by kernel_rfl)
      have hK2 := (Blk.drew hKb).ext hE
      have hKc := hK2.cell
      clear hd hr
      go_simp
      exact hK.out _ _ _ (by simp only [y10]; rfl) rfl (Chg.refl _ _)
    case sa2 =>
      have y11 : x 11 = .agg #[.string xn, .slice fa n1 am, .slice fc n2 cm] := hd 1 (by decide) (by kernel_rfl)
      clear hd hr
      go_simp
      refine (HFB.out u (hE0.drew.then hE)).mono ?_
      rintro e w2 ⟨rfl, hE2⟩
      exact hK.out _ _ _ (by simp only [y11]; rfl) rfl hE2
    case sa3 =>
      clear hd hr
      go_simp
      exact hK.out _ _ _ rfl rfl (Chg.refl _ _)
    case sa4 =>
      have y13 : x 13 = .pointer (some ⟨w.heap.size, 3, none⟩) := hd 3 (by decide) (by kernel_rfl)
      have hK2 := (Blk.drew hKb).ext hE
      have hKc := hK2.cell
      clear hd hr
      go_simp
      exact hK.out _ _ _ (by simp only [y13]; rfl) rfl (Chg.refl _ _)
    case sa5 =>
      have y14 : x 14 = .slice ia ni ic := hd 4 (by decide) (by kernel_rfl)
      clear hd hr
      go_simp
      exact hK.out _ _ _ (by simp only [y14]; rfl) rfl (Chg.refl _ _)
    case sa6 =>
      have y15 : x 15 = .int .i64 ni := hd 5 (by decide) (by kernel_rfl)
      clear hd hr
      go_simp
      exact hK.out _ _ _ (by simp only [y15]; rfl) ⟨_, rfl, Blk.made _ _ _⟩ ((Chg.refl _ _).alloc _)
    case sa7 =>
      obtain ⟨g16, y16, b16⟩ : ∃ g, x 16 = .slice (some ⟨g, 0, none⟩) 1 1 ∧ Blk u g #[.int .i64 ni] 3 := hd 6 (by decide) (by kernel_rfl)
      have hN : NumsAt u (some ⟨g16, 0, none⟩) [(ni : Int)] := NumsAt.ofBlk b16 (fun z hz => by simp at hz; subst hz; omega)
      have hC := Lib.hid (numbers_any (some ⟨g16, 0, none⟩) [(ni : Int)] 1 1 u rfl hN (by decide))
      clear hN
      clear hd hr
      go_simp
      refine hC.out.mono ?_
      rintro e w2 ⟨rfl, hE2⟩
      exact hK.out _ _ _ (by simp only [y16]; rfl) rfl hE2
    case sa8 =>
      have y12 : x 12 = .string ⟨(faceL xf).toArray⟩ := hd 2 (by decide) (by kernel_rfl)
      have y17 : x 17 = .string ⟨(numsL [(ni : Int)]).toArray⟩ := hd 7 (by decide) (by kernel_rfl)
      clear hd hr
      go_simp
      try (rw [if_neg (by omega)])
      try go_simp
      exact hK.out _ _ _ (by simp only [y12, y17]; rfl) rfl (Chg.refl _ _)
    case sa9 =>
      have y18 : x 18 = .string ⟨(faceL xf ++ numsL [(ni : Int)]).toArray⟩ := hd 8 (by decide) (by kernel_rfl)
      clear hd hr
      go_simp
      exact hK.out _ _ _ (by simp only [y18]; rfl) rfl (Chg.refl _ _)
  case fina =>
    intro x u hE hs
    have y3 : x 3 = .string ⟨(faceL xf ++ numsL [(ni : Int)]).toArray⟩ := hs 9 (by decide)
    have hEw : Ext w u := (hE0.then (Chg.refl _ _).drew).then hE
    have hKw := (Blk.drew hKb).ext hE
    rw [HM0.out] at y3
    clear hs hKb hE hE0 hlt1
    go_wp2_with fail
    go_loopw [3, 4] (fun s3 s4 wr => ∃ j : Nat, j ≤ ni ∧ s4 = .int .i64 j ∧ s3 = .string ⟨(M0 ++ (xi.take j).flatMap faceL).toArray⟩ ∧ Ext w wr ∧ Blk wr w.heap.size #[.string xn, .slice fa n1 am, .slice fc n2 cm, .slice ia ni ic, .slice ca nc cc, .slice ra nr rc, .slice pa np pc, .slice la nl lc, .slice ha nh hc, .int .i64 lo, .int .i64 hi, .int .i64 lf, .int .i64 hf] 31) (fun _ s4 _ => ni - (intOf s4).toNat)
    case atStart => exact ⟨0, Nat.zero_le _, rfl, by first | (rw [y3]; simp; done) | simp, hEw, hKw⟩
    case round =>
      obtain ⟨k, hk, rfl, rfl, hEr, hKr⟩ := hrel
      have hKc0 := hKr.cell
      by_cases hlt : k < ni
      · have hkl : k < xi.length := by rw [HNI.out]; exact hlt
        have hki : (k : Int) < (ni : Int) := by omega
        have hfl := flat_len faceL xi (k + 1)
        have hft := HS.out
        rw [HF.out] at hft
        simp only [List.length_append] at hft
        obtain ⟨b, o, rfl, hb, hcv⟩ := HL.out.1 k hkl
        obtain ⟨a1, m1, a2, m2, c0, c1, c2, hfa⟩ := FaceIn.ext hEr hb hcv
        have hnm := HNUM.out.imports _ (List.getElem_mem hkl)
        have HT := Lib.hid (flat_take faceL xi k hkl)
        clear hcv
        generalize xi[k] = ff at *
        rw [HT.out] at hfl
        simp only [List.length_append] at hfl
        obtain ⟨L, hL⟩ : ∃ y, M0 ++ (xi.take k).flatMap faceL = y := ⟨_, rfl⟩
        have hLL : L.length = M0.length + ((xi.take k).flatMap faceL).length := by rw [← hL, List.length_append]
        have HT2 : Hid (M0 ++ (xi.take (k + 1)).flatMap faceL = L ++ (faceL ff)) := by
          unfold Hid
          rw [HT.out, ← hL]
          simp only [List.append_assoc]
        rw [hL]
        have HFB2 := Lib.hid (fun (u : World) (hE : Ext wr u) => faceBytes_any ff _ u (FaceAt.ext hE hfa) hnm (by omega))
        have hq : ¬ 9223372036854775807 < L.length + (faceL ff).length := by omega
        clear HT hL hLL hfl hft hnm
        obtain ⟨k1, hk1⟩ : ∃ y, ff.vars.length = y := ⟨_, rfl⟩
        obtain ⟨k2, hk2⟩ : ∃ y, ff.procs.length = y := ⟨_, rfl⟩
        obtain ⟨kn, hkn⟩ : ∃ y, ff.modn = y := ⟨_, rfl⟩
        rw [hkn] at c0 HFB2
        rw [hk1] at c1 HFB2
        rw [hk2] at c2 HFB2
        clear hk1 hk2 hkn hfa
        go_wp2_with (go_at_call 39; refine (HFB2.out _ (Chg.refl _ _)).mono ?_; rintro e w2 ⟨rfl, hE2⟩)
        go_roundw
        case rel => exact ⟨k + 1, by omega, by go_num, by rw [HT2.out], hEr.then hE2, hKr.ext hE2⟩
        case measure => simp [intOf]; omega
      · obtain rfl : ni = k := by omega
        have e : xi.take ni = xi := List.take_of_length_le (by rw [HNI.out]; exact Nat.le_refl _)
        rw [e]
        clear e
        have HE1 := Lib.hid (show NumsAt (wr.alloc (.cells #[.int .i64 nc] 3)) (some ⟨wr.heap.size, 0, none⟩) [(nc : Int)] from NumsAt.ofBlk (Blk.made wr #[.int .i64 nc] 3) (fun z hz => by simp at hz; subst hz; omega))
        have HC1 := Lib.hid (numbers_any (some ⟨wr.heap.size, 0, none⟩) [(nc : Int)] 1 1 _ rfl HE1.out (by decide))
        obtain ⟨M, hM⟩ : ∃ y, M0 ++ xi.flatMap faceL = y := ⟨_, rfl⟩
        have hn8b : (numsL [(nc : Int)]).length = 8 := by rw [numsL_len]; rfl
        have HF2 : Hid (F = M ++ (numsL [(nc : Int)] ++ xc.flatMap insL ++ (numsL [(nr : Int)] ++ (xr.flatMap relL ++ (placesL op ++ (placesL ol ++ (placesL oh ++ numsL [lo, hi, lf, hf]))))))) := by
          unfold Hid
          rw [HF.out, ← hM]
          simp only [List.append_assoc]
        have hq : ¬ 9223372036854775807 < M.length + 8 := by
          have h1 := HS.out
          rw [HF2.out, List.length_append] at h1
          omega
        rw [hM]
        clear hM HF
        go_wp2_with (go_at_call 40; refine HC1.out.mono ?_; rintro e w6 ⟨rfl, hE6⟩; have hEw := (hEr.alloc (.cells #[.int .i64 nc] 3)).then hE6; have hKw := (hKr.alloc (.cells #[.int .i64 nc] 3)).ext hE6; have hKcw := hKw.cell; clear hE6 HC1 HE1)
        obtain ⟨M1, hM2⟩ : ∃ y, M ++ numsL [(nc : Int)] = y := ⟨_, rfl⟩
        have HF : Hid (F = M1 ++ (xc.flatMap insL ++ (numsL [(nr : Int)] ++ (xr.flatMap relL ++ (placesL op ++ (placesL ol ++ (placesL oh ++ numsL [lo, hi, lf, hf]))))))) := by
          unfold Hid
          rw [HF2.out, ← hM2]
          simp only [List.append_assoc]
        rw [hM2]
        clear hM2 HF2 hKc0 hn8b hq hEr hKr
        go_loopw [3, 6] (fun s3 s4 wr => ∃ j : Nat, j ≤ nc ∧ s4 = .int .i64 j ∧ s3 = .string ⟨(M1 ++ (xc.take j).flatMap insL).toArray⟩ ∧ Ext w wr ∧ Blk wr w.heap.size #[.string xn, .slice fa n1 am, .slice fc n2 cm, .slice ia ni ic, .slice ca nc cc, .slice ra nr rc, .slice pa np pc, .slice la nl lc, .slice ha nh hc, .int .i64 lo, .int .i64 hi, .int .i64 lf, .int .i64 hf] 31) (fun _ s4 _ => nc - (intOf s4).toNat)
        case atStart => exact ⟨0, Nat.zero_le _, rfl, by first | (rw [y3]; simp; done) | simp, hEw, hKw⟩
        case round =>
          obtain ⟨k, hk, rfl, rfl, hEr, hKr⟩ := hrel
          have hKc0 := hKr.cell
          by_cases hlt : k < nc
          · have hkl : k < xc.length := by rw [HNC.out]; exact hlt
            have hki : (k : Int) < (nc : Int) := by omega
            have hfl := flat_len insL xc (k + 1)
            have hft := HS.out
            rw [HF.out] at hft
            simp only [List.length_append] at hft
            obtain ⟨b, o, rfl, hb, hcv⟩ := HL.out.2.1 k hkl
            obtain ⟨c0, c1, c2, c3, c4⟩ := InsIn5.ext hEr hb hcv
            have hin := HNUM.out.code _ (List.getElem_mem hkl)
            have HT := Lib.hid (flat_take insL xc k hkl)
            clear hcv
            generalize xc[k] = ii at *
            obtain ⟨zo, za, zb, zc, zn⟩ := ii
            simp only [insL] at c0 c1 c2 c3 c4 hin HT
            rw [HT.out] at hfl
            simp only [List.length_append] at hfl
            obtain ⟨L, hL⟩ : ∃ y, M1 ++ (xc.take k).flatMap insL = y := ⟨_, rfl⟩
            have hLL : L.length = M1.length + ((xc.take k).flatMap insL).length := by rw [← hL, List.length_append]
            have HT2 : Hid (M1 ++ (xc.take (k + 1)).flatMap insL = L ++ (numsL [zo, za, zb, zc] ++ num8 zn)) := by
              unfold Hid
              rw [HT.out, ← hL]
              simp only [List.append_assoc]
            rw [hL]
            have hn32 : (numsL [zo, za, zb, zc]).length = 32 := by rw [numsL_len]; rfl
            have hn8 := num8_len zn
            have hbd : L.length + 40 ≤ 4000000000000000 := by omega
            clear HT hL hLL hfl hft
            have hK5 : Blk (wr.alloc (.cells #[.int .i64 zo, .int .i64 za, .int .i64 zb, .int .i64 zc, .int .i64 zn] 73)) wr.heap.size #[.int .i64 zo, .int .i64 za, .int .i64 zb, .int .i64 zc, .int .i64 zn] 73 := Blk.made _ _ _
            have hE5 : Ext wr (wr.alloc (.cells #[.int .i64 zo, .int .i64 za, .int .i64 zb, .int .i64 zc, .int .i64 zn] 73)) := (Chg.refl _ _).alloc _
            go_upto_region 12 with (fail)
            generalize wr.alloc (.cells #[.int .i64 zo, .int .i64 za, .int .i64 zb, .int .i64 zc, .int .i64 zn] 73) = w5 at *
            refine wp_region_specs (fun i => ([.val (.string ⟨(L).toArray⟩), .val (.pointer (some ⟨wr.heap.size, 0, none⟩)), .val (.int .i64 zo), .val (.pointer (some ⟨wr.heap.size, 1, none⟩)), .val (.int .i64 za), .val (.pointer (some ⟨wr.heap.size, 2, none⟩)), .val (.int .i64 zb), .val (.pointer (some ⟨wr.heap.size, 3, none⟩)), .val (.int .i64 zc), .row [.int .i64 zo, .int .i64 za, .int .i64 zb, .int .i64 zc] 4 3, .val (.string ⟨(numsL [zo, za, zb, zc]).toArray⟩), .val (.string ⟨(L ++ (numsL [zo, za, zb, zc])).toArray⟩), .val (.pointer (some ⟨wr.heap.size, 4, none⟩)), .val (.int .i64 zn), .val (.string ⟨(num8 zn).toArray⟩), .val (.string ⟨(L ++ (numsL [zo, za, zb, zc] ++ (num8 zn))).toArray⟩), .val (.string ⟨(L ++ (numsL [zo, za, zb, zc] ++ (num8 zn))).toArray⟩)] : List Comes).getD i (.val undef)) (frame := ?frb) (fun x => ?hfb) (by kernel_rfl) (by kernel_rfl) ?stb ?finb
            case hfb =>
              simp only [specs.frameOf, specs.fill, specs.dstAt, List.size_toArray, List.length_cons, List.length_nil, List.getElem?_toArray, List.getElem?_cons_succ, List.getElem?_cons_zero, Option.getD_some, List.setIfInBounds_toArray, List.set_cons_succ, List.set_cons_zero]
              exact rfl
            case stb =>
              refine AllFrom.cons (fun x u hE hd hr K hK => ?sb0) (AllFrom.cons (fun x u hE hd hr K hK => ?sb1) (AllFrom.cons (fun x u hE hd hr K hK => ?sb2) (AllFrom.cons (fun x u hE hd hr K hK => ?sb3) (AllFrom.cons (fun x u hE hd hr K hK => ?sb4) (AllFrom.cons (fun x u hE hd hr K hK => ?sb5) (AllFrom.cons (fun x u hE hd hr K hK => ?sb6) (AllFrom.cons (fun x u hE hd hr K hK => ?sb7) (AllFrom.cons (fun x u hE hd hr K hK => ?sb8) (AllFrom.cons (fun x u hE hd hr K hK => ?sb9) (AllFrom.cons (fun x u hE hd hr K hK => ?sb10) (AllFrom.cons (fun x u hE hd hr K hK => ?sb11) (AllFrom.cons (fun x u hE hd hr K hK => ?sb12) (AllFrom.cons (fun x u hE hd hr K hK => ?sb13) (AllFrom.cons (fun x u hE hd hr K hK => ?sb14) (AllFrom.cons (fun x u hE hd hr K hK => ?sb15) (AllFrom.cons (fun x u hE hd hr K hK => ?sb16) AllFrom.nil))))))))))))))))
              case sb0 =>
                have z3 : x 3 = .string ⟨L.toArray⟩ := hr 16 _ rfl (by kernel_rfl)
                clear hd hr
                go_simp
                exact hK.out _ _ _ (by simp only [z3]; rfl) rfl (Chg.refl _ _)
              case sb1 =>
                clear hd hr
                go_simp
                exact hK.out _ _ _ rfl rfl (Chg.refl _ _)
              case sb2 =>
                have y55 : x 55 = .pointer (some ⟨wr.heap.size, 0, none⟩) := hd 1 (by decide) (by kernel_rfl)
                have hK2 := (Blk.drew hK5).ext hE
                have hKc := hK2.cell
                clear hd hr
                go_simp
                exact hK.out _ _ _ (by simp only [y55]; rfl) rfl (Chg.refl _ _)
              case sb3 =>
                clear hd hr
                go_simp
                exact hK.out _ _ _ rfl rfl (Chg.refl _ _)
              case sb4 =>
                have y57 : x 57 = .pointer (some ⟨wr.heap.size, 1, none⟩) := hd 3 (by decide) (by kernel_rfl)
                have hK2 := (Blk.drew hK5).ext hE
                have hKc := hK2.cell
                clear hd hr
                go_simp
                exact hK.out _ _ _ (by simp only [y57]; rfl) rfl (Chg.refl _ _)
              case sb5 =>
                clear hd hr
                go_simp
                exact hK.out _ _ _ rfl rfl (Chg.refl _ _)
              case sb6 =>
                have y59 : x 59 = .pointer (some ⟨wr.heap.size, 2, none⟩) := hd 5 (by decide) (by kernel_rfl)
                have hK2 := (Blk.drew hK5).ext hE
                have hKc := hK2.cell
                clear hd hr
                go_simp
                exact hK.out _ _ _ (by simp only [y59]; rfl) rfl (Chg.refl _ _)
              case sb7 =>
                clear hd hr
                go_simp
                exact hK.out _ _ _ rfl rfl (Chg.refl _ _)
              case sb8 =>
                have y61 : x 61 = .pointer (some ⟨wr.heap.size, 3, none⟩) := hd 7 (by decide) (by kernel_rfl)
                have hK2 := (Blk.drew hK5).ext hE
                have hKc := hK2.cell
                clear hd hr
                go_simp
                exact hK.out _ _ _ (by simp only [y61]; rfl) rfl (Chg.refl _ _)
              case sb9 =>
                have y56 : x 56 = .int .i64 zo := hd 2 (by decide) (by kernel_rfl)
                have y58 : x 58 = .int .i64 za := hd 4 (by decide) (by kernel_rfl)
                have y60 : x 60 = .int .i64 zb := hd 6 (by decide) (by kernel_rfl)
                have y62 : x 62 = .int .i64 zc := hd 8 (by decide) (by kernel_rfl)
                clear hd hr
                go_simp
                exact hK.out _ _ _ (by simp only [y56, y58, y60, y62]; rfl) ⟨_, rfl, Blk.made _ _ _⟩ ((Chg.refl _ _).alloc _)
              case sb10 =>
                obtain ⟨g63, y63, b63⟩ : ∃ g, x 63 = .slice (some ⟨g, 0, none⟩) 4 4 ∧ Blk u g #[.int .i64 zo, .int .i64 za, .int .i64 zb, .int .i64 zc] 3 := hd 9 (by decide) (by kernel_rfl)
                have hN : NumsAt u (some ⟨g63, 0, none⟩) [zo, za, zb, zc] := NumsAt.ofBlk b63 hin.1
                have hC := Lib.hid (numbers_any (some ⟨g63, 0, none⟩) [zo, za, zb, zc] 4 4 u rfl hN (by decide))
                clear hN
                clear hd hr
                go_simp
                refine hC.out.mono ?_
                rintro e w2 ⟨rfl, hE2⟩
                exact hK.out _ _ _ (by simp only [y63]; rfl) rfl hE2
              case sb11 =>
                have y54 : x 54 = .string ⟨(L).toArray⟩ := hd 0 (by decide) (by kernel_rfl)
                have y64 : x 64 = .string ⟨(numsL [zo, za, zb, zc]).toArray⟩ := hd 10 (by decide) (by kernel_rfl)
                clear hd hr
                go_simp
                try (rw [if_neg (by omega)])
                try go_simp
                exact hK.out _ _ _ (by simp only [y54, y64]; rfl) rfl (Chg.refl _ _)
              case sb12 =>
                clear hd hr
                go_simp
                exact hK.out _ _ _ rfl rfl (Chg.refl _ _)
              case sb13 =>
                have y66 : x 66 = .pointer (some ⟨wr.heap.size, 4, none⟩) := hd 12 (by decide) (by kernel_rfl)
                have hK2 := (Blk.drew hK5).ext hE
                have hKc := hK2.cell
                clear hd hr
                go_simp
                exact hK.out _ _ _ (by simp only [y66]; rfl) rfl (Chg.refl _ _)
              case sb14 =>
                have y67 : x 67 = .int .i64 zn := hd 13 (by decide) (by kernel_rfl)
                clear hd hr
                go_simp
                refine (number_any zn hin.2 _).mono ?_
                rintro e w2 ⟨rfl, hE2⟩
                exact hK.out _ _ _ (by simp only [y67]; rfl) rfl hE2
              case sb15 =>
                have y65 : x 65 = .string ⟨(L ++ (numsL [zo, za, zb, zc])).toArray⟩ := hd 11 (by decide) (by kernel_rfl)
                have y68 : x 68 = .string ⟨(num8 zn).toArray⟩ := hd 14 (by decide) (by kernel_rfl)
                clear hd hr
                go_simp
                try (rw [if_neg (by omega)])
                try go_simp
                exact hK.out _ _ _ (by simp only [y65, y68]; rfl) rfl (Chg.refl _ _)
              case sb16 =>
                have y69 : x 69 = .string ⟨(L ++ (numsL [zo, za, zb, zc] ++ (num8 zn))).toArray⟩ := hd 15 (by decide) (by kernel_rfl)
                clear hd hr
                go_simp
                exact hK.out _ _ _ (by simp only [y69]; rfl) rfl (Chg.refl _ _)
            case finb =>
              intro x u hE hs
              have y3 : x 3 = .string ⟨(L ++ (numsL [zo, za, zb, zc] ++ (num8 zn))).toArray⟩ := hs 16 (by decide)
              go_wp2_with fail
              go_roundw
              case rel => exact ⟨k + 1, by omega, by go_num, by first | (rw [HT2.out]; done) | (rw [y3, HT2.out]), ((hEr.then hE5).then (Chg.refl _ _).drew).then hE, (Blk.drew (hKr.ext hE5)).ext hE⟩
              case measure => simp [intOf]; omega
          · obtain rfl : nc = k := by omega
            have e : xc.take nc = xc := List.take_of_length_le (by rw [HNC.out]; exact Nat.le_refl _)
            rw [e]
            clear e
            have HE1 := Lib.hid (show NumsAt (wr.alloc (.cells #[.int .i64 nr] 3)) (some ⟨wr.heap.size, 0, none⟩) [(nr : Int)] from NumsAt.ofBlk (Blk.made wr #[.int .i64 nr] 3) (fun z hz => by simp at hz; subst hz; omega))
            have HC1 := Lib.hid (numbers_any (some ⟨wr.heap.size, 0, none⟩) [(nr : Int)] 1 1 _ rfl HE1.out (by decide))
            obtain ⟨M, hM⟩ : ∃ y, M1 ++ xc.flatMap insL = y := ⟨_, rfl⟩
            have hn8b : (numsL [(nr : Int)]).length = 8 := by rw [numsL_len]; rfl
            have HF2 : Hid (F = M ++ (numsL [(nr : Int)] ++ xr.flatMap relL ++ (placesL op ++ (placesL ol ++ (placesL oh ++ numsL [lo, hi, lf, hf]))))) := by
              unfold Hid
              rw [HF.out, ← hM]
              simp only [List.append_assoc]
            have hq : ¬ 9223372036854775807 < M.length + 8 := by
              have h1 := HS.out
              rw [HF2.out, List.length_append] at h1
              omega
            rw [hM]
            clear hM HF
            go_wp2_with (go_at_call 40; refine HC1.out.mono ?_; rintro e w6 ⟨rfl, hE6⟩; have hEw := (hEr.alloc (.cells #[.int .i64 nr] 3)).then hE6; have hKw := (hKr.alloc (.cells #[.int .i64 nr] 3)).ext hE6; have hKcw := hKw.cell; clear hE6 HC1 HE1)
            obtain ⟨M2, hM2⟩ : ∃ y, M ++ numsL [(nr : Int)] = y := ⟨_, rfl⟩
            have HF : Hid (F = M2 ++ (xr.flatMap relL ++ (placesL op ++ (placesL ol ++ (placesL oh ++ numsL [lo, hi, lf, hf]))))) := by
              unfold Hid
              rw [HF2.out, ← hM2]
              simp only [List.append_assoc]
            rw [hM2]
            clear hM2 HF2 hKc0 hn8b hq hEr hKr
            go_loopw [3, 8] (fun s3 s4 wr => ∃ j : Nat, j ≤ nr ∧ s4 = .int .i64 j ∧ s3 = .string ⟨(M2 ++ (xr.take j).flatMap relL).toArray⟩ ∧ Ext w wr ∧ Blk wr w.heap.size #[.string xn, .slice fa n1 am, .slice fc n2 cm, .slice ia ni ic, .slice ca nc cc, .slice ra nr rc, .slice pa np pc, .slice la nl lc, .slice ha nh hc, .int .i64 lo, .int .i64 hi, .int .i64 lf, .int .i64 hf] 31) (fun _ s4 _ => nr - (intOf s4).toNat)
            case atStart => exact ⟨0, Nat.zero_le _, rfl, by first | (rw [y3]; simp; done) | simp, hEw, hKw⟩
            case round =>
              obtain ⟨k, hk, rfl, rfl, hEr, hKr⟩ := hrel
              have hKc0 := hKr.cell
              by_cases hlt : k < nr
              · have hkl : k < xr.length := by rw [HNR.out]; exact hlt
                have hki : (k : Int) < (nr : Int) := by omega
                have hfl := flat_len relL xr (k + 1)
                have hft := HS.out
                rw [HF.out] at hft
                simp only [List.length_append] at hft
                obtain ⟨b, o, rfl, hb, hcv⟩ := HL.out.2.2.1 k hkl
                obtain ⟨c0, c1, c2, c3⟩ := RelIn.ext hEr hb hcv
                have hin := HNUM.out.relocs _ (List.getElem_mem hkl)
                have HT := Lib.hid (flat_take relL xr k hkl)
                clear hcv
                generalize xr[k] = ii at *
                obtain ⟨ya, yk, ym, yn⟩ := ii
                simp only [relL] at c0 c1 c2 c3 hin HT
                rw [HT.out] at hfl
                simp only [List.length_append] at hfl
                obtain ⟨L, hL⟩ : ∃ y, M2 ++ (xr.take k).flatMap relL = y := ⟨_, rfl⟩
                have hLL : L.length = M2.length + ((xr.take k).flatMap relL).length := by rw [← hL, List.length_append]
                have HT2 : Hid (M2 ++ (xr.take (k + 1)).flatMap relL = L ++ (numsL [ya, yk] ++ (textL ym ++ textL yn))) := by
                  unfold Hid
                  rw [HT.out, ← hL]
                  simp only [List.append_assoc]
                rw [hL]
                have hn16 : (numsL [ya, yk]).length = 16 := by rw [numsL_len]; rfl
                have hym : ym.size ≤ 2000000000000000 := by have := text_len ym; omega
                have hyn : yn.size ≤ 2000000000000000 := by have := text_len yn; omega
                have hbd : L.length + 16 + (textL ym).length + (textL yn).length ≤ 4000000000000000 := by omega
                clear HT hL hLL hfl hft
                have hK5 : Blk (wr.alloc (.cells #[.int .i64 ya, .int .i64 yk, .string ym, .string yn] 79)) wr.heap.size #[.int .i64 ya, .int .i64 yk, .string ym, .string yn] 79 := Blk.made _ _ _
                have hE5 : Ext wr (wr.alloc (.cells #[.int .i64 ya, .int .i64 yk, .string ym, .string yn] 79)) := (Chg.refl _ _).alloc _
                go_upto_region 18 with (fail)
                generalize wr.alloc (.cells #[.int .i64 ya, .int .i64 yk, .string ym, .string yn] 79) = w5 at *
                refine wp_region_specs (fun i => ([.val (.string ⟨(L).toArray⟩), .val (.pointer (some ⟨wr.heap.size, 0, none⟩)), .val (.int .i64 ya), .val (.pointer (some ⟨wr.heap.size, 1, none⟩)), .val (.int .i64 yk), .row [.int .i64 ya, .int .i64 yk] 2 3, .val (.string ⟨(numsL [ya, yk]).toArray⟩), .val (.string ⟨(L ++ (numsL [ya, yk])).toArray⟩), .val (.pointer (some ⟨wr.heap.size, 2, none⟩)), .val (.string ym), .val (.string ⟨(textL ym).toArray⟩), .val (.string ⟨(L ++ (numsL [ya, yk] ++ (textL ym))).toArray⟩), .val (.pointer (some ⟨wr.heap.size, 3, none⟩)), .val (.string yn), .val (.string ⟨(textL yn).toArray⟩), .val (.string ⟨(L ++ (numsL [ya, yk] ++ (textL ym ++ (textL yn)))).toArray⟩), .val (.string ⟨(L ++ (numsL [ya, yk] ++ (textL ym ++ (textL yn)))).toArray⟩)] : List Comes).getD i (.val undef)) (frame := ?frc) (fun x => ?hfc) (by kernel_rfl) (by kernel_rfl) ?stc ?finc
                case hfc =>
                  simp only [specs.frameOf, specs.fill, specs.dstAt, List.size_toArray, List.length_cons, List.length_nil, List.getElem?_toArray, List.getElem?_cons_succ, List.getElem?_cons_zero, Option.getD_some, List.setIfInBounds_toArray, List.set_cons_succ, List.set_cons_zero]
                  exact rfl
                case stc =>
                  refine AllFrom.cons (fun x u hE hd hr K hK => ?sc0) (AllFrom.cons (fun x u hE hd hr K hK => ?sc1) (AllFrom.cons (fun x u hE hd hr K hK => ?sc2) (AllFrom.cons (fun x u hE hd hr K hK => ?sc3) (AllFrom.cons (fun x u hE hd hr K hK => ?sc4) (AllFrom.cons (fun x u hE hd hr K hK => ?sc5) (AllFrom.cons (fun x u hE hd hr K hK => ?sc6) (AllFrom.cons (fun x u hE hd hr K hK => ?sc7) (AllFrom.cons (fun x u hE hd hr K hK => ?sc8) (AllFrom.cons (fun x u hE hd hr K hK => ?sc9) (AllFrom.cons (fun x u hE hd hr K hK => ?sc10) (AllFrom.cons (fun x u hE hd hr K hK => ?sc11) (AllFrom.cons (fun x u hE hd hr K hK => ?sc12) (AllFrom.cons (fun x u hE hd hr K hK => ?sc13) (AllFrom.cons (fun x u hE hd hr K hK => ?sc14) (AllFrom.cons (fun x u hE hd hr K hK => ?sc15) (AllFrom.cons (fun x u hE hd hr K hK => ?sc16) AllFrom.nil))))))))))))))))
                  case sc0 =>
                    have z3 : x 3 = .string ⟨L.toArray⟩ := hr 16 _ rfl (by kernel_rfl)
                    clear hd hr
                    go_simp
                    exact hK.out _ _ _ (by simp only [z3]; rfl) rfl (Chg.refl _ _)
                  case sc1 =>
                    clear hd hr
                    go_simp
                    exact hK.out _ _ _ rfl rfl (Chg.refl _ _)
                  case sc2 =>
                    have y90 : x 90 = .pointer (some ⟨wr.heap.size, 0, none⟩) := hd 1 (by decide) (by kernel_rfl)
                    have hK2 := (Blk.drew hK5).ext hE
                    have hKc := hK2.cell
                    clear hd hr
                    go_simp
                    exact hK.out _ _ _ (by simp only [y90]; rfl) rfl (Chg.refl _ _)
                  case sc3 =>
                    clear hd hr
                    go_simp
                    exact hK.out _ _ _ rfl rfl (Chg.refl _ _)
                  case sc4 =>
                    have y92 : x 92 = .pointer (some ⟨wr.heap.size, 1, none⟩) := hd 3 (by decide) (by kernel_rfl)
                    have hK2 := (Blk.drew hK5).ext hE
                    have hKc := hK2.cell
                    clear hd hr
                    go_simp
                    exact hK.out _ _ _ (by simp only [y92]; rfl) rfl (Chg.refl _ _)
                  case sc5 =>
                    have y91 : x 91 = .int .i64 ya := hd 2 (by decide) (by kernel_rfl)
                    have y93 : x 93 = .int .i64 yk := hd 4 (by decide) (by kernel_rfl)
                    clear hd hr
                    go_simp
                    exact hK.out _ _ _ (by simp only [y91, y93]; rfl) ⟨_, rfl, Blk.made _ _ _⟩ ((Chg.refl _ _).alloc _)
                  case sc6 =>
                    obtain ⟨g94, y94, b94⟩ : ∃ g, x 94 = .slice (some ⟨g, 0, none⟩) 2 2 ∧ Blk u g #[.int .i64 ya, .int .i64 yk] 3 := hd 5 (by decide) (by kernel_rfl)
                    have hN : NumsAt u (some ⟨g94, 0, none⟩) [ya, yk] := NumsAt.ofBlk b94 hin
                    have hC := Lib.hid (numbers_any (some ⟨g94, 0, none⟩) [ya, yk] 2 2 u rfl hN (by decide))
                    clear hN
                    clear hd hr
                    go_simp
                    refine hC.out.mono ?_
                    rintro e w2 ⟨rfl, hE2⟩
                    exact hK.out _ _ _ (by simp only [y94]; rfl) rfl hE2
                  case sc7 =>
                    have y89 : x 89 = .string ⟨(L).toArray⟩ := hd 0 (by decide) (by kernel_rfl)
                    have y95 : x 95 = .string ⟨(numsL [ya, yk]).toArray⟩ := hd 6 (by decide) (by kernel_rfl)
                    clear hd hr
                    go_simp
                    try (rw [if_neg (by omega)])
                    try go_simp
                    exact hK.out _ _ _ (by simp only [y89, y95]; rfl) rfl (Chg.refl _ _)
                  case sc8 =>
                    clear hd hr
                    go_simp
                    exact hK.out _ _ _ rfl rfl (Chg.refl _ _)
                  case sc9 =>
                    have y97 : x 97 = .pointer (some ⟨wr.heap.size, 2, none⟩) := hd 8 (by decide) (by kernel_rfl)
                    have hK2 := (Blk.drew hK5).ext hE
                    have hKc := hK2.cell
                    clear hd hr
                    go_simp
                    exact hK.out _ _ _ (by simp only [y97]; rfl) rfl (Chg.refl _ _)
                  case sc10 =>
                    have y98 : x 98 = .string ym := hd 9 (by decide) (by kernel_rfl)
                    clear hd hr
                    go_simp
                    refine (text_any ym _ hym).mono ?_
                    rintro e w2 ⟨rfl, hE2⟩
                    exact hK.out _ _ _ (by simp only [y98]; rfl) rfl hE2
                  case sc11 =>
                    have y96 : x 96 = .string ⟨(L ++ (numsL [ya, yk])).toArray⟩ := hd 7 (by decide) (by kernel_rfl)
                    have y99 : x 99 = .string ⟨(textL ym).toArray⟩ := hd 10 (by decide) (by kernel_rfl)
                    clear hd hr
                    go_simp
                    try (rw [if_neg (by omega)])
                    try go_simp
                    exact hK.out _ _ _ (by simp only [y96, y99]; rfl) rfl (Chg.refl _ _)
                  case sc12 =>
                    clear hd hr
                    go_simp
                    exact hK.out _ _ _ rfl rfl (Chg.refl _ _)
                  case sc13 =>
                    have y101 : x 101 = .pointer (some ⟨wr.heap.size, 3, none⟩) := hd 12 (by decide) (by kernel_rfl)
                    have hK2 := (Blk.drew hK5).ext hE
                    have hKc := hK2.cell
                    clear hd hr
                    go_simp
                    exact hK.out _ _ _ (by simp only [y101]; rfl) rfl (Chg.refl _ _)
                  case sc14 =>
                    have y102 : x 102 = .string yn := hd 13 (by decide) (by kernel_rfl)
                    clear hd hr
                    go_simp
                    refine (text_any yn _ hyn).mono ?_
                    rintro e w2 ⟨rfl, hE2⟩
                    exact hK.out _ _ _ (by simp only [y102]; rfl) rfl hE2
                  case sc15 =>
                    have y100 : x 100 = .string ⟨(L ++ (numsL [ya, yk] ++ (textL ym))).toArray⟩ := hd 11 (by decide) (by kernel_rfl)
                    have y103 : x 103 = .string ⟨(textL yn).toArray⟩ := hd 14 (by decide) (by kernel_rfl)
                    clear hd hr
                    go_simp
                    try (rw [if_neg (by omega)])
                    try go_simp
                    exact hK.out _ _ _ (by simp only [y100, y103]; rfl) rfl (Chg.refl _ _)
                  case sc16 =>
                    have y104 : x 104 = .string ⟨(L ++ (numsL [ya, yk] ++ (textL ym ++ (textL yn)))).toArray⟩ := hd 15 (by decide) (by kernel_rfl)
                    clear hd hr
                    go_simp
                    exact hK.out _ _ _ (by simp only [y104]; rfl) rfl (Chg.refl _ _)
                case finc =>
                  intro x u hE hs
                  have y3 : x 3 = .string ⟨(L ++ (numsL [ya, yk] ++ (textL ym ++ (textL yn)))).toArray⟩ := hs 16 (by decide)
                  go_wp2_with fail
                  go_roundw
                  case rel => exact ⟨k + 1, by omega, by go_num, by first | (rw [HT2.out]; done) | (rw [y3, HT2.out]), ((hEr.then hE5).then (Chg.refl _ _).drew).then hE, (Blk.drew (hKr.ext hE5)).ext hE⟩
                  case measure => simp [intOf]; omega
              · obtain rfl : nr = k := by omega
                have e : xr.take nr = xr := List.take_of_length_le (by rw [HNR.out]; exact Nat.le_refl _)
                rw [e]
                clear e
                obtain ⟨L, hL⟩ : ∃ y, M2 ++ xr.flatMap relL = y := ⟨_, rfl⟩
                have HF2 : Hid (F = L ++ (placesL op ++ (placesL ol ++ (placesL oh ++ numsL [lo, hi, lf, hf])))) := by
                  unfold Hid
                  rw [HF.out, ← hL]
                  simp only [List.append_assoc]
                have hft := HS.out
                rw [HF2.out] at hft
                simp only [List.length_append] at hft
                rw [hL]
                clear hL HF
                go_upto_region 19 with (fail)
                refine wp_region_specs (fun i => ([.val (.string ⟨(L).toArray⟩), .val (.pointer (some ⟨w.heap.size, 6, none⟩)), .val (.slice pa np pc), .val (.string ⟨(placesL op).toArray⟩), .val (.string ⟨(L ++ (placesL op)).toArray⟩), .val (.pointer (some ⟨w.heap.size, 7, none⟩)), .val (.slice la nl lc), .val (.string ⟨(placesL ol).toArray⟩), .val (.string ⟨(L ++ (placesL op ++ (placesL ol))).toArray⟩), .val (.pointer (some ⟨w.heap.size, 8, none⟩)), .val (.slice ha nh hc), .val (.string ⟨(placesL oh).toArray⟩), .val (.string ⟨(L ++ (placesL op ++ (placesL ol ++ (placesL oh)))).toArray⟩), .val (.pointer (some ⟨w.heap.size, 9, none⟩)), .val (.int .i64 lo), .val (.pointer (some ⟨w.heap.size, 10, none⟩)), .val (.int .i64 hi), .val (.pointer (some ⟨w.heap.size, 11, none⟩)), .val (.int .i64 lf), .val (.pointer (some ⟨w.heap.size, 12, none⟩)), .val (.int .i64 hf), .row [.int .i64 lo, .int .i64 hi, .int .i64 lf, .int .i64 hf] 4 3, .val (.string ⟨(numsL [lo, hi, lf, hf]).toArray⟩), .val (.string ⟨(L ++ (placesL op ++ (placesL ol ++ (placesL oh ++ (numsL [lo, hi, lf, hf]))))).toArray⟩), .val (.string ⟨(L ++ (placesL op ++ (placesL ol ++ (placesL oh ++ (numsL [lo, hi, lf, hf]))))).toArray⟩)] : List Comes).getD i (.val undef)) (frame := ?frd) (fun x => ?hfd) (by kernel_rfl) (by kernel_rfl) ?std ?find
                case hfd =>
                  simp only [specs.frameOf, specs.fill, specs.dstAt, List.size_toArray, List.length_cons, List.length_nil, List.getElem?_toArray, List.getElem?_cons_succ, List.getElem?_cons_zero, Option.getD_some, List.setIfInBounds_toArray, List.set_cons_succ, List.set_cons_zero]
                  exact rfl
                case std =>
                  refine AllFrom.cons (fun x u hE hd hr K hK => ?sd0) (AllFrom.cons (fun x u hE hd hr K hK => ?sd1) (AllFrom.cons (fun x u hE hd hr K hK => ?sd2) (AllFrom.cons (fun x u hE hd hr K hK => ?sd3) (AllFrom.cons (fun x u hE hd hr K hK => ?sd4) (AllFrom.cons (fun x u hE hd hr K hK => ?sd5) (AllFrom.cons (fun x u hE hd hr K hK => ?sd6) (AllFrom.cons (fun x u hE hd hr K hK => ?sd7) (AllFrom.cons (fun x u hE hd hr K hK => ?sd8) (AllFrom.cons (fun x u hE hd hr K hK => ?sd9) (AllFrom.cons (fun x u hE hd hr K hK => ?sd10) (AllFrom.cons (fun x u hE hd hr K hK => ?sd11) (AllFrom.cons (fun x u hE hd hr K hK => ?sd12) (AllFrom.cons (fun x u hE hd hr K hK => ?sd13) (AllFrom.cons (fun x u hE hd hr K hK => ?sd14) (AllFrom.cons (fun x u hE hd hr K hK => ?sd15) (AllFrom.cons (fun x u hE hd hr K hK => ?sd16) (AllFrom.cons (fun x u hE hd hr K hK => ?sd17) (AllFrom.cons (fun x u hE hd hr K hK => ?sd18) (AllFrom.cons (fun x u hE hd hr K hK => ?sd19) (AllFrom.cons (fun x u hE hd hr K hK => ?sd20) (AllFrom.cons (fun x u hE hd hr K hK => ?sd21) (AllFrom.cons (fun x u hE hd hr K hK => ?sd22) (AllFrom.cons (fun x u hE hd hr K hK => ?sd23) (AllFrom.cons (fun x u hE hd hr K hK => ?sd24) AllFrom.nil))))))))))))))))))))))))
                  case sd0 =>
                    clear hd hr
                    go_simp
                    exact hK.out _ _ _ rfl rfl (Chg.refl _ _)
                  case sd1 =>
                    clear hd hr
                    go_simp
                    exact hK.out _ _ _ rfl rfl (Chg.refl _ _)
                  case sd2 =>
                    have y106 : x 106 = .pointer (some ⟨w.heap.size, 6, none⟩) := hd 1 (by decide) (by kernel_rfl)
                    have hK2 := (Blk.drew hKr).ext hE
                    have hKc := hK2.cell
                    clear hd hr
                    go_simp
                    exact hK.out _ _ _ (by simp only [y106]; rfl) rfl (Chg.refl _ _)
                  case sd3 =>
                    have y107 : x 107 = .slice pa np pc := hd 2 (by decide) (by kernel_rfl)
                    clear hd hr
                    go_simp
                    refine (HP1.out u (hEr.drew.then hE)).mono ?_
                    rintro e w2 ⟨rfl, hE2⟩
                    exact hK.out _ _ _ (by simp only [y107]; rfl) rfl hE2
                  case sd4 =>
                    have y105 : x 105 = .string ⟨(L).toArray⟩ := hd 0 (by decide) (by kernel_rfl)
                    have y108 : x 108 = .string ⟨(placesL op).toArray⟩ := hd 3 (by decide) (by kernel_rfl)
                    clear hd hr
                    go_simp
                    try (rw [if_neg (by omega)])
                    try go_simp
                    exact hK.out _ _ _ (by simp only [y105, y108]; rfl) rfl (Chg.refl _ _)
                  case sd5 =>
                    clear hd hr
                    go_simp
                    exact hK.out _ _ _ rfl rfl (Chg.refl _ _)
                  case sd6 =>
                    have y110 : x 110 = .pointer (some ⟨w.heap.size, 7, none⟩) := hd 5 (by decide) (by kernel_rfl)
                    have hK2 := (Blk.drew hKr).ext hE
                    have hKc := hK2.cell
                    clear hd hr
                    go_simp
                    exact hK.out _ _ _ (by simp only [y110]; rfl) rfl (Chg.refl _ _)
                  case sd7 =>
                    have y111 : x 111 = .slice la nl lc := hd 6 (by decide) (by kernel_rfl)
                    clear hd hr
                    go_simp
                    refine (HP2.out u (hEr.drew.then hE)).mono ?_
                    rintro e w2 ⟨rfl, hE2⟩
                    exact hK.out _ _ _ (by simp only [y111]; rfl) rfl hE2
                  case sd8 =>
                    have y109 : x 109 = .string ⟨(L ++ (placesL op)).toArray⟩ := hd 4 (by decide) (by kernel_rfl)
                    have y112 : x 112 = .string ⟨(placesL ol).toArray⟩ := hd 7 (by decide) (by kernel_rfl)
                    clear hd hr
                    go_simp
                    try (rw [if_neg (by omega)])
                    try go_simp
                    exact hK.out _ _ _ (by simp only [y109, y112]; rfl) rfl (Chg.refl _ _)
                  case sd9 =>
                    clear hd hr
                    go_simp
                    exact hK.out _ _ _ rfl rfl (Chg.refl _ _)
                  case sd10 =>
                    have y114 : x 114 = .pointer (some ⟨w.heap.size, 8, none⟩) := hd 9 (by decide) (by kernel_rfl)
                    have hK2 := (Blk.drew hKr).ext hE
                    have hKc := hK2.cell
                    clear hd hr
                    go_simp
                    exact hK.out _ _ _ (by simp only [y114]; rfl) rfl (Chg.refl _ _)
                  case sd11 =>
                    have y115 : x 115 = .slice ha nh hc := hd 10 (by decide) (by kernel_rfl)
                    clear hd hr
                    go_simp
                    refine (HP3.out u (hEr.drew.then hE)).mono ?_
                    rintro e w2 ⟨rfl, hE2⟩
                    exact hK.out _ _ _ (by simp only [y115]; rfl) rfl hE2
                  case sd12 =>
                    have y113 : x 113 = .string ⟨(L ++ (placesL op ++ (placesL ol))).toArray⟩ := hd 8 (by decide) (by kernel_rfl)
                    have y116 : x 116 = .string ⟨(placesL oh).toArray⟩ := hd 11 (by decide) (by kernel_rfl)
                    clear hd hr
                    go_simp
                    try (rw [if_neg (by omega)])
                    try go_simp
                    exact hK.out _ _ _ (by simp only [y113, y116]; rfl) rfl (Chg.refl _ _)
                  case sd13 =>
                    clear hd hr
                    go_simp
                    exact hK.out _ _ _ rfl rfl (Chg.refl _ _)
                  case sd14 =>
                    have y118 : x 118 = .pointer (some ⟨w.heap.size, 9, none⟩) := hd 13 (by decide) (by kernel_rfl)
                    have hK2 := (Blk.drew hKr).ext hE
                    have hKc := hK2.cell
                    clear hd hr
                    go_simp
                    exact hK.out _ _ _ (by simp only [y118]; rfl) rfl (Chg.refl _ _)
                  case sd15 =>
                    clear hd hr
                    go_simp
                    exact hK.out _ _ _ rfl rfl (Chg.refl _ _)
                  case sd16 =>
                    have y120 : x 120 = .pointer (some ⟨w.heap.size, 10, none⟩) := hd 15 (by decide) (by kernel_rfl)
                    have hK2 := (Blk.drew hKr).ext hE
                    have hKc := hK2.cell
                    clear hd hr
                    go_simp
                    exact hK.out _ _ _ (by simp only [y120]; rfl) rfl (Chg.refl _ _)
                  case sd17 =>
                    clear hd hr
                    go_simp
                    exact hK.out _ _ _ rfl rfl (Chg.refl _ _)
                  case sd18 =>
                    have y122 : x 122 = .pointer (some ⟨w.heap.size, 11, none⟩) := hd 17 (by decide) (by kernel_rfl)
                    have hK2 := (Blk.drew hKr).ext hE
                    have hKc := hK2.cell
                    clear hd hr
                    go_simp
                    exact hK.out _ _ _ (by simp only [y122]; rfl) rfl (Chg.refl _ _)
                  case sd19 =>
                    clear hd hr
                    go_simp
                    exact hK.out _ _ _ rfl rfl (Chg.refl _ _)
                  case sd20 =>
                    have y124 : x 124 = .pointer (some ⟨w.heap.size, 12, none⟩) := hd 19 (by decide) (by kernel_rfl)
                    have hK2 := (Blk.drew hKr).ext hE
                    have hKc := hK2.cell
                    clear hd hr
                    go_simp
                    exact hK.out _ _ _ (by simp only [y124]; rfl) rfl (Chg.refl _ _)
                  case sd21 =>
                    have y119 : x 119 = .int .i64 lo := hd 14 (by decide) (by kernel_rfl)
                    have y121 : x 121 = .int .i64 hi := hd 16 (by decide) (by kernel_rfl)
                    have y123 : x 123 = .int .i64 lf := hd 18 (by decide) (by kernel_rfl)
                    have y125 : x 125 = .int .i64 hf := hd 20 (by decide) (by kernel_rfl)
                    clear hd hr
                    go_simp
                    exact hK.out _ _ _ (by simp only [y119, y121, y123, y125]; rfl) ⟨_, rfl, Blk.made _ _ _⟩ ((Chg.refl _ _).alloc _)
                  case sd22 =>
                    obtain ⟨g126, y126, b126⟩ : ∃ g, x 126 = .slice (some ⟨g, 0, none⟩) 4 4 ∧ Blk u g #[.int .i64 lo, .int .i64 hi, .int .i64 lf, .int .i64 hf] 3 := hd 21 (by decide) (by kernel_rfl)
                    have hN : NumsAt u (some ⟨g126, 0, none⟩) [lo, hi, lf, hf] := NumsAt.ofBlk b126 hin4
                    have hC := Lib.hid (numbers_any (some ⟨g126, 0, none⟩) [lo, hi, lf, hf] 4 4 u rfl hN (by decide))
                    clear hN
                    clear hd hr
                    go_simp
                    refine hC.out.mono ?_
                    rintro e w2 ⟨rfl, hE2⟩
                    exact hK.out _ _ _ (by simp only [y126]; rfl) rfl hE2
                  case sd23 =>
                    have y117 : x 117 = .string ⟨(L ++ (placesL op ++ (placesL ol ++ (placesL oh)))).toArray⟩ := hd 12 (by decide) (by kernel_rfl)
                    have y127 : x 127 = .string ⟨(numsL [lo, hi, lf, hf]).toArray⟩ := hd 22 (by decide) (by kernel_rfl)
                    clear hd hr
                    go_simp
                    try (rw [if_neg (by omega)])
                    try go_simp
                    exact hK.out _ _ _ (by simp only [y117, y127]; rfl) rfl (Chg.refl _ _)
                  case sd24 =>
                    have y128 : x 128 = .string ⟨(L ++ (placesL op ++ (placesL ol ++ (placesL oh ++ (numsL [lo, hi, lf, hf]))))).toArray⟩ := hd 23 (by decide) (by kernel_rfl)
                    clear hd hr
                    go_simp
                    exact hK.out _ _ _ (by simp only [y128]; rfl) rfl (Chg.refl _ _)
                case find =>
                  intro x u hE hs
                  have y2 : x 2 = .string ⟨(L ++ (placesL op ++ (placesL ol ++ (placesL oh ++ (numsL [lo, hi, lf, hf]))))).toArray⟩ := hs 24 (by decide)
                  go_wp2_with fail
                  go_ret
                  exact ⟨by rw [HF2.out]; first | rfl | (rw [← y2]; rfl), (hEr.then (Chg.refl _ _).drew).then hE⟩
end obj
end Go.Proofs.YtpcihajmcejliaaGreatDoor
