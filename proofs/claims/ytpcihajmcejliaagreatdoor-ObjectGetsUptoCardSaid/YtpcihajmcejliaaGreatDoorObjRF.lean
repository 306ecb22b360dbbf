/- The walk of the reference's bytes of a face. -/
import Derived.Test.YtpcihajmcejliaaGreatDoorObjRP
namespace Go.Proofs.YtpcihajmcejliaaGreatDoor
open Go.RowKit
/-- all of a face's numbers are numbers of 64 bits -/
structure FaceNums (x : FFace) : Prop where
  vars : ∀ v ∈ x.vars, inI v.label ∧ inI v.size
  procs : ∀ p ∈ x.procs, (∀ q ∈ p.params, inI q) ∧ inI p.writes ∧ inI p.given
namespace obj
theorem vars_take (l : List FVar) (k : Nat) (h : k < l.length) : (l.take (k + 1)).flatMap varL = (l.take k).flatMap varL ++ (textL l[k].name ++ (truthL l[k].pub ++ numsL [l[k].label, l[k].size])) := by
  rw [List.take_succ_eq_append_getElem h, List.flatMap_append, List.flatMap_cons, List.flatMap_nil, List.append_nil, varL]
  simp only [List.append_assoc]
theorem procs_take (l : List FProc) (k : Nat) (h : k < l.length) : (l.take (k + 1)).flatMap procL = (l.take k).flatMap procL ++ (textL l[k].name ++ (truthL l[k].pub ++ (numsL [(l[k].params.length : Int)] ++ (numsL l[k].params ++ (numsL [l[k].writes] ++ (truthL l[k].gives ++ numsL [l[k].given])))))) := by
  rw [List.take_succ_eq_append_getElem h, List.flatMap_append, List.flatMap_cons, List.flatMap_nil, List.append_nil, procL]
  simp [numsL, List.append_assoc]
theorem text_len (s : ByteArray) : (textL s).length = 8 + s.size := by unfold textL; rw [List.length_append, num8_len, Array.length_toList]; rfl
theorem truth_len (b : Bool) : (truthL b).length = 8 := rfl
theorem flat_many {α : Type} (f : α → List UInt8) (hf : ∀ x, 1 ≤ (f x).length) (m : List α) : m.length ≤ (m.flatMap f).length := by
  induction m with
  | nil => exact Nat.le_refl _
  | cons x r ih => rw [List.flatMap_cons, List.length_append, List.length_cons]; have := hf x; omega
set_option maxRecDepth 100000 in
set_option maxHeartbeats 16000000 in
theorem faceBytes_any (x : FFace) (v : Value) (w : World) (hx : FaceAt w x v) (hnum : FaceNums x) (hs : (faceL x).length ≤ 1000000000000000) :
    Calls Tryz.prog 39 #[v] w fun e w' => e = .returned (.string ⟨(faceL x).toArray⟩) ∧ Ext w w' := by
  obtain ⟨a, am, c, cm, rfl, ha, hc, -, -, -, -, -⟩ := hx
  obtain ⟨xn, xv, xp⟩ := x
  simp only at *
  have hfl : (faceL ⟨xn, xv, xp⟩).length = (textL xn).length + 8 + (xv.flatMap varL).length + 8 + (xp.flatMap procL).length := by
    unfold faceL
    simp only [List.length_append, num8_len]
  have hm1 := flat_many varL (fun x => by unfold varL; simp only [List.length_append, text_len, truth_len, numsL_len]; omega) xv
  have hm2 := flat_many procL (fun x => by unfold procL; simp only [List.length_append, text_len, truth_len, num8_len]; omega) xp
  have htx := text_len xn
  have HA := Lib.hid (And.intro ha hc)
  have HNV := Lib.hid hnum
  have HSV := Lib.hid (show (xv.flatMap varL).length ≤ 1000000000000000 by omega)
  have HSP := Lib.hid (show (textL xn).length + (xv.flatMap varL).length + (xp.flatMap procL).length ≤ 1000000000000000 by omega)
  have hxn : xn.size ≤ 2000000000000000 := by omega
  obtain ⟨n1, hn1⟩ : ∃ n, xv.length = n := ⟨_, rfl⟩
  obtain ⟨n2, hn2⟩ : ∃ n, xp.length = n := ⟨_, rfl⟩
  have hb1 : n1 ≤ 1000000000000000 := by omega
  have hb2 : n2 ≤ 1000000000000000 := by omega
  have HF : Hid (faceL ⟨xn, xv, xp⟩ = textL xn ++ (numsL [(n1 : Int)] ++ (xv.flatMap varL ++ (numsL [(n2 : Int)] ++ xp.flatMap procL)))) := by
    unfold Hid faceL
    simp [numsL, List.append_assoc, hn1, hn2]
  generalize faceL ⟨xn, xv, xp⟩ = F at *
  rw [hn1, hn2]
  have H1 := Lib.hid hn1
  have H2 := Lib.hid hn2
  have hlt1 : (textL xn).length + (numsL [(n1 : Int)]).length ≤ 2000000000000000 := by rw [numsL_len]; simp; omega
  clear ha hc hnum hs hfl hm1 hm2 hn1 hn2 htx
  have happ := ByteArray.mk_append_mk
  have hKb : Blk (w.alloc (.cells #[.string xn, .slice a n1 am, .slice c n2 cm] 25)) w.heap.size #[.string xn, .slice a n1 am, .slice c n2 cm] 25 := Blk.made _ _ _
  have hE0 : Ext w (w.alloc (.cells #[.string xn, .slice a n1 am, .slice c n2 cm] 25)) := (Chg.refl _ _).alloc _
  go_enter Tryz.func39, Tryz.ntmps39
  go_upto_region 1 with (fail)
  generalize w.alloc (.cells #[.string xn, .slice a n1 am, .slice c n2 cm] 25) = w0 at *
  refine wp_region_specs (fun i => ([.val (.pointer (some ⟨w.heap.size, 0, none⟩)), .val (.string xn), .val (.string ⟨(textL xn).toArray⟩), .val (.pointer (some ⟨w.heap.size, 1, none⟩)), .val (.slice a n1 am), .val (.int .i64 n1), .row [.int .i64 n1] 1 3, .val (.string ⟨(numsL [(n1 : Int)]).toArray⟩), .val (.string ⟨(textL xn ++ numsL [(n1 : Int)]).toArray⟩), .val (.string ⟨(textL xn ++ numsL [(n1 : Int)]).toArray⟩)] : List Comes).getD i (.val undef)) (frame := ?fra) (fun x => ?hfa) (by kernel_rfl) (by kernel_rfl) ?sta ?fina
  case hfa =>
    simp only [specs.frameOf, specs.fill, specs.dstAt, List.size_toArray, List.length_cons, List.length_nil, List.getElem?_toArray, List.getElem?_cons_succ, List.getElem?_cons_zero, Option.getD_some, List.setIfInBounds_toArray, List.set_cons_succ, List.set_cons_zero]
    exact rfl
  case sta =>
    refine AllFrom.cons (fun x u hE hd hr K hK => ?sa0) (AllFrom.cons (fun x u hE hd hr K hK => ?sa1) (AllFrom.cons (fun x u hE hd hr K hK => ?sa2) (AllFrom.cons (fun x u hE hd hr K hK => ?sa3) (AllFrom.cons (fun x u hE hd hr K hK => ?sa4) (AllFrom.cons (fun x u hE hd hr K hK => ?sa5) (AllFrom.cons (fun x u hE hd hr K hK => ?sa6) (AllFrom.cons (fun x u hE hd hr K hK => ?sa7) (AllFrom.cons (fun x u hE hd hr K hK => ?sa8) (AllFrom.cons (fun x u hE hd hr K hK => ?sa9) AllFrom.nil)))))))))
    case sa0 =>
      clear hd hr
      go_simp
      exact hK.out _ _ _ rfl rfl (Chg.refl _ _)
    case sa1 =>
      have y8 : x 8 = .pointer (some ⟨w.heap.size, 0, none⟩) := hd 0 (by decide) (by kernel_rfl)
      have hK2 := (Blk.drew hKb).ext hE
      have hKc := hK2.cell
      clear hd hr
      go_simp
      exact hK.out _ _ _ (by simp only [y8]; rfl) rfl (Chg.refl _ _)
    case sa2 =>
      have y9 : x 9 = .string xn := hd 1 (by decide) (by kernel_rfl)
      clear hd hr
      go_simp
      refine (text_any xn _ hxn).mono ?_
      rintro e w2 ⟨rfl, hE2⟩
      exact hK.out _ _ _ (by simp only [y9]; rfl) rfl hE2
    case sa3 =>
      clear hd hr
      go_simp
      exact hK.out _ _ _ rfl rfl (Chg.refl _ _)
    case sa4 =>
      have y11 : x 11 = .pointer (some ⟨w.heap.size, 1, none⟩) := hd 3 (by decide) (by kernel_rfl)
      have hK2 := (Blk.drew hKb).ext hE
      have hKc := hK2.cell
      clear hd hr
      go_simp
      exact hK.out _ _ _ (by simp only [y11]; rfl) rfl (Chg.refl _ _)
    case sa5 =>
      have y12 : x 12 = .slice a n1 am := hd 4 (by decide) (by kernel_rfl)
      clear hd hr
      go_simp
      exact hK.out _ _ _ (by simp only [y12]; rfl) rfl (Chg.refl _ _)
    case sa6 =>
      have y13 : x 13 = .int .i64 n1 := hd 5 (by decide) (by kernel_rfl)
      clear hd hr
      go_simp
      exact hK.out _ _ _ (by simp only [y13]; rfl) ⟨_, rfl, Blk.made _ _ _⟩ ((Chg.refl _ _).alloc _)
    case sa7 =>
      obtain ⟨g14, y14, b14⟩ : ∃ g, x 14 = .slice (some ⟨g, 0, none⟩) 1 1 ∧ Blk u g #[.int .i64 n1] 3 := hd 6 (by decide) (by kernel_rfl)
      have hN : NumsAt u (some ⟨g14, 0, none⟩) [(n1 : Int)] := NumsAt.ofBlk b14 (fun z hz => by simp at hz; subst hz; omega)
      have hC := Lib.hid (numbers_any (some ⟨g14, 0, none⟩) [(n1 : Int)] 1 1 u rfl hN (by decide))
      clear hN
      clear hd hr
      go_simp
      refine hC.out.mono ?_
      rintro e w2 ⟨rfl, hE2⟩
      exact hK.out _ _ _ (by simp only [y14]; rfl) rfl hE2
    case sa8 =>
      have y10 : x 10 = .string ⟨(textL xn).toArray⟩ := hd 2 (by decide) (by kernel_rfl)
      have y15 : x 15 = .string ⟨(numsL [(n1 : Int)]).toArray⟩ := hd 7 (by decide) (by kernel_rfl)
      clear hd hr
      go_simp
      try (rw [if_neg (by omega)])
      try go_simp
      exact hK.out _ _ _ (by simp only [y10, y15]; rfl) rfl (Chg.refl _ _)
    case sa9 =>
      have y16 : x 16 = .string ⟨(textL xn ++ numsL [(n1 : Int)]).toArray⟩ := hd 8 (by decide) (by kernel_rfl)
      clear hd hr
      go_simp
      exact hK.out _ _ _ (by simp only [y16]; rfl) rfl (Chg.refl _ _)
  case fina =>
    intro x u hE hs
    have y3 : x 3 = .string ⟨(textL xn ++ numsL [(n1 : Int)]).toArray⟩ := hs 9 (by decide)
    have hE1 : Ext w u := (hE0.then (Chg.refl _ _).drew).then hE
    have hKu := (Blk.drew hKb).ext hE
    clear hs hKb hE hE0
    go_wp2_with fail
    go_loopw [3, 4] (fun s3 s4 wr => ∃ k : Nat, k ≤ n1 ∧ s4 = .int .i64 k ∧ s3 = .string ⟨(textL xn ++ (numsL [(n1 : Int)] ++ (xv.take k).flatMap varL)).toArray⟩ ∧ Ext w wr ∧ Blk wr w.heap.size #[.string xn, .slice a n1 am, .slice c n2 cm] 25) (fun _ s4 _ => n1 - (intOf s4).toNat)
    case atStart => exact ⟨0, Nat.zero_le _, rfl, by first | (rw [y3]; simp; done) | simp, hE1, hKu⟩
    case round =>
      obtain ⟨k, hk, rfl, rfl, hEr, hKr⟩ := hrel
      have hKc0 := hKr.cell
      by_cases hlt : k < n1
      · have hkl : k < xv.length := by rw [H1.out]; exact hlt
        obtain ⟨b, o, rfl, hb, hcv⟩ := HA.out.1 k hkl
        have hki : (k : Int) < (n1 : Int) := by omega
        obtain ⟨c0, c1, c2, c3, -⟩ := VarIn.ext hEr hb hcv
        have HT := Lib.hid (vars_take xv k hkl)
        have hfl := flat_len varL xv (k + 1)
        obtain ⟨hil, his⟩ := HNV.out.vars _ (List.getElem_mem hkl)
        rw [HT.out] at hfl
        simp only [List.length_append] at hfl
        have hflo := Nat.le_trans hfl HSV.out
        clear hcv hfl
        generalize xv[k] = vv at *
        obtain ⟨nm, vp, vl, vs⟩ := vv
        simp only at c0 c1 c2 c3 HT hflo hil his
        obtain ⟨L, hL⟩ : ∃ y, textL xn ++ (numsL [(n1 : Int)] ++ (xv.take k).flatMap varL) = y := ⟨_, rfl⟩
        have hLL : L.length = (textL xn).length + ((numsL [(n1 : Int)]).length + ((xv.take k).flatMap varL).length) := by rw [← hL, List.length_append, List.length_append]
        have HT2 : Hid (textL xn ++ (numsL [(n1 : Int)] ++ (xv.take (k + 1)).flatMap varL) = L ++ (textL nm ++ (truthL vp ++ numsL [vl, vs]))) := by
          unfold Hid
          rw [HT.out, ← hL]
          simp only [List.append_assoc]
        rw [hL]
        have hns : nm.size ≤ 2000000000000000 := by have := text_len nm; omega
        have hbd : L.length + (textL nm).length + (truthL vp).length + (numsL [vl, vs]).length ≤ 4000000000000000 := by omega
        have ht8 := truth_len vp
        have hn16 : (numsL [vl, vs]).length = 16 := by rw [numsL_len]; rfl
        clear HT hL hLL HF
        have hK5 : Blk (wr.alloc (.cells #[.string nm, .bool vp, .int .i64 vl, .int .i64 vs] 149)) wr.heap.size #[.string nm, .bool vp, .int .i64 vl, .int .i64 vs] 149 := Blk.made _ _ _
        have hE5 : Ext wr (wr.alloc (.cells #[.string nm, .bool vp, .int .i64 vl, .int .i64 vs] 149)) := (Chg.refl _ _).alloc _
        go_upto_region 6 with (fail)
        generalize wr.alloc (.cells #[.string nm, .bool vp, .int .i64 vl, .int .i64 vs] 149) = w5 at *
        refine wp_region_specs (fun i => ([.val (.string ⟨(L).toArray⟩), .val (.pointer (some ⟨wr.heap.size, 0, none⟩)), .val (.string nm), .val (.string ⟨(textL nm).toArray⟩), .val (.string ⟨(L ++ (textL nm)).toArray⟩), .val (.pointer (some ⟨wr.heap.size, 1, none⟩)), .val (.bool vp), .val (.string ⟨(truthL vp).toArray⟩), .val (.string ⟨(L ++ (textL nm ++ (truthL vp))).toArray⟩), .val (.pointer (some ⟨wr.heap.size, 2, none⟩)), .val (.int .i64 vl), .val (.pointer (some ⟨wr.heap.size, 3, none⟩)), .val (.int .i64 vs), .row [.int .i64 vl, .int .i64 vs] 2 3, .val (.string ⟨(numsL [vl, vs]).toArray⟩), .val (.string ⟨(L ++ (textL nm ++ (truthL vp ++ (numsL [vl, vs])))).toArray⟩), .val (.string ⟨(L ++ (textL nm ++ (truthL vp ++ (numsL [vl, vs])))).toArray⟩)] : List Comes).getD i (.val undef)) (frame := ?frb) (fun x => ?hfb) (by kernel_rfl) (by kernel_rfl) ?stb ?finb
        case hfb =>
          simp only [specs.frameOf, specs.fill, specs.dstAt, List.size_toArray, List.length_cons, List.length_nil, List.getElem?_toArray, List.getElem?_cons_succ, List.getElem?_cons_zero, Option.getD_some, List.setIfInBounds_toArray, List.set_cons_succ, List.set_cons_zero]
          exact rfl
        case stb =>
          refine AllFrom.cons (fun x u hE hd hr K hK => ?sb0) (AllFrom.cons (fun x u hE hd hr K hK => ?sb1) (AllFrom.cons (fun x u hE hd hr K hK => ?sb2) (AllFrom.cons (fun x u hE hd hr K hK => ?sb3) (AllFrom.cons (fun x u hE hd hr K hK => ?sb4) (AllFrom.cons (fun x u hE hd hr K hK => ?sb5) (AllFrom.cons (fun x u hE hd hr K hK => ?sb6) (AllFrom.cons (fun x u hE hd hr K hK => ?sb7) (AllFrom.cons (fun x u hE hd hr K hK => ?sb8) (AllFrom.cons (fun x u hE hd hr K hK => ?sb9) (AllFrom.cons (fun x u hE hd hr K hK => ?sb10) (AllFrom.cons (fun x u hE hd hr K hK => ?sb11) (AllFrom.cons (fun x u hE hd hr K hK => ?sb12) (AllFrom.cons (fun x u hE hd hr K hK => ?sb13) (AllFrom.cons (fun x u hE hd hr K hK => ?sb14) (AllFrom.cons (fun x u hE hd hr K hK => ?sb15) (AllFrom.cons (fun x u hE hd hr K hK => ?sb16) AllFrom.nil))))))))))))))))
          case sb0 =>
            have z3 : x 3 = .string ⟨L.toArray⟩ := hr 16 _ rfl (by kernel_rfl)
            clear hd hr
            go_simp
            exact hK.out _ _ _ (by simp only [z3]; rfl) rfl (Chg.refl _ _)
          case sb1 =>
            clear hd hr
            go_simp
            exact hK.out _ _ _ rfl rfl (Chg.refl _ _)
          case sb2 =>
            have y30 : x 30 = .pointer (some ⟨wr.heap.size, 0, none⟩) := hd 1 (by decide) (by kernel_rfl)
            have hK2 := (Blk.drew hK5).ext hE
            have hKc := hK2.cell
            clear hd hr
            go_simp
            exact hK.out _ _ _ (by simp only [y30]; rfl) rfl (Chg.refl _ _)
          case sb3 =>
            have y31 : x 31 = .string nm := hd 2 (by decide) (by kernel_rfl)
            clear hd hr
            go_simp
            refine (text_any nm _ hns).mono ?_
            rintro e w2 ⟨rfl, hE2⟩
            exact hK.out _ _ _ (by simp only [y31]; rfl) rfl hE2
          case sb4 =>
            have y29 : x 29 = .string ⟨(L).toArray⟩ := hd 0 (by decide) (by kernel_rfl)
            have y32 : x 32 = .string ⟨(textL nm).toArray⟩ := hd 3 (by decide) (by kernel_rfl)
            clear hd hr
            go_simp
            try (rw [if_neg (by omega)])
            try go_simp
            exact hK.out _ _ _ (by simp only [y29, y32]; rfl) rfl (Chg.refl _ _)
          case sb5 =>
            clear hd hr
            go_simp
            exact hK.out _ _ _ rfl rfl (Chg.refl _ _)
          case sb6 =>
            have y34 : x 34 = .pointer (some ⟨wr.heap.size, 1, none⟩) := hd 5 (by decide) (by kernel_rfl)
            have hK2 := (Blk.drew hK5).ext hE
            have hKc := hK2.cell
            clear hd hr
            go_simp
            exact hK.out _ _ _ (by simp only [y34]; rfl) rfl (Chg.refl _ _)
          case sb7 =>
            have y35 : x 35 = .bool vp := hd 6 (by decide) (by kernel_rfl)
            clear hd hr
            go_simp
            refine (truth_any vp _).mono ?_
            rintro e w2 ⟨rfl, hE2⟩
            exact hK.out _ _ _ (by simp only [y35]; rfl) rfl hE2
          case sb8 =>
            have y33 : x 33 = .string ⟨(L ++ (textL nm)).toArray⟩ := hd 4 (by decide) (by kernel_rfl)
            have y36 : x 36 = .string ⟨(truthL vp).toArray⟩ := hd 7 (by decide) (by kernel_rfl)
            clear hd hr
            go_simp
            try (rw [if_neg (by omega)])
            try go_simp
            exact hK.out _ _ _ (by simp only [y33, y36]; rfl) rfl (Chg.refl _ _)
          case sb9 =>
            clear hd hr
            go_simp
            exact hK.out _ _ _ rfl rfl (Chg.refl _ _)
          case sb10 =>
            have y38 : x 38 = .pointer (some ⟨wr.heap.size, 2, none⟩) := hd 9 (by decide) (by kernel_rfl)
            have hK2 := (Blk.drew hK5).ext hE
            have hKc := hK2.cell
            clear hd hr
            go_simp
            exact hK.out _ _ _ (by simp only [y38]; rfl) rfl (Chg.refl _ _)
          case sb11 =>
            clear hd hr
            go_simp
            exact hK.out _ _ _ rfl rfl (Chg.refl _ _)
          case sb12 =>
            have y40 : x 40 = .pointer (some ⟨wr.heap.size, 3, none⟩) := hd 11 (by decide) (by kernel_rfl)
            have hK2 := (Blk.drew hK5).ext hE
            have hKc := hK2.cell
            clear hd hr
            go_simp
            exact hK.out _ _ _ (by simp only [y40]; rfl) rfl (Chg.refl _ _)
          case sb13 =>
            have y39 : x 39 = .int .i64 vl := hd 10 (by decide) (by kernel_rfl)
            have y41 : x 41 = .int .i64 vs := hd 12 (by decide) (by kernel_rfl)
            clear hd hr
            go_simp
            exact hK.out _ _ _ (by simp only [y39, y41]; rfl) ⟨_, rfl, Blk.made _ _ _⟩ ((Chg.refl _ _).alloc _)
          case sb14 =>
            obtain ⟨g42, y42, b42⟩ : ∃ g, x 42 = .slice (some ⟨g, 0, none⟩) 2 2 ∧ Blk u g #[.int .i64 vl, .int .i64 vs] 3 := hd 13 (by decide) (by kernel_rfl)
            have hN : NumsAt u (some ⟨g42, 0, none⟩) [vl, vs] := NumsAt.ofBlk b42 (fun z hz => by simp at hz; rcases hz with rfl | rfl; exact hil; exact his)
            have hC := Lib.hid (numbers_any (some ⟨g42, 0, none⟩) [vl, vs] 2 2 u rfl hN (by decide))
            clear hN
            clear hd hr
            go_simp
            refine hC.out.mono ?_
            rintro e w2 ⟨rfl, hE2⟩
            exact hK.out _ _ _ (by simp only [y42]; rfl) rfl hE2
          case sb15 =>
            have y37 : x 37 = .string ⟨(L ++ (textL nm ++ (truthL vp))).toArray⟩ := hd 8 (by decide) (by kernel_rfl)
            have y43 : x 43 = .string ⟨(numsL [vl, vs]).toArray⟩ := hd 14 (by decide) (by kernel_rfl)
            clear hd hr
            go_simp
            try (rw [if_neg (by omega)])
            try go_simp
            exact hK.out _ _ _ (by simp only [y37, y43]; rfl) rfl (Chg.refl _ _)
          case sb16 =>
            have y44 : x 44 = .string ⟨(L ++ (textL nm ++ (truthL vp ++ (numsL [vl, vs])))).toArray⟩ := hd 15 (by decide) (by kernel_rfl)
            clear hd hr
            go_simp
            exact hK.out _ _ _ (by simp only [y44]; rfl) rfl (Chg.refl _ _)
        case finb =>
          intro x u hE hs
          have y3 : x 3 = .string ⟨(L ++ (textL nm ++ (truthL vp ++ (numsL [vl, vs])))).toArray⟩ := hs 16 (by decide)
          go_wp2_with fail
          go_roundw
          case rel => exact ⟨k + 1, by omega, by go_num, by first | (rw [HT2.out]; done) | (rw [y3, HT2.out]), ((hEr.then hE5).then (Chg.refl _ _).drew).then hE, (Blk.drew (hKr.ext hE5)).ext hE⟩
          case measure => simp [intOf]; omega
      · obtain rfl : k = n1 := by omega
        have e : xv.take k = xv := List.take_of_length_le (by rw [H1.out]; exact Nat.le_refl _)
        rw [e]
        have HE1 := Lib.hid (show NumsAt (wr.alloc (.cells #[.int .i64 n2] 3)) (some ⟨wr.heap.size, 0, none⟩) [(n2 : Int)] from NumsAt.ofBlk (Blk.made wr #[.int .i64 n2] 3) (fun z hz => by simp at hz; subst hz; omega))
        have HC1 := Lib.hid (numbers_any (some ⟨wr.heap.size, 0, none⟩) [(n2 : Int)] 1 1 _ rfl HE1.out (by decide))
        obtain ⟨M, hM⟩ : ∃ y, textL xn ++ (numsL [(k : Int)] ++ xv.flatMap varL) = y := ⟨_, rfl⟩
        have hMM : M.length = (textL xn).length + ((numsL [(k : Int)]).length + (xv.flatMap varL).length) := by rw [← hM, List.length_append, List.length_append]
        have hn8 : (numsL [(k : Int)]).length = 8 := by rw [numsL_len]; rfl
        have hn8b : (numsL [(n2 : Int)]).length = 8 := by rw [numsL_len]; rfl
        have hM1 : M.length ≤ 1000000000000100 := by have := HSP.out; omega
        have hMP := Lib.hid (show M.length + 8 + (xp.flatMap procL).length ≤ 1000000000000200 by have := HSP.out; omega)
        have hq : ¬ 9223372036854775807 < M.length + 8 := by omega
        have HF2 : Hid (F = M ++ (numsL [(n2 : Int)] ++ xp.flatMap procL)) := by
          unfold Hid
          rw [HF.out, ← hM]
          simp only [List.append_assoc]
        rw [hM]
        clear hM hMM e HF hn8 y3 hlt1
        go_wp2_with (go_at_call 40; refine HC1.out.mono ?_; rintro e w6 ⟨rfl, hE6⟩; have hEw := (hEr.alloc (.cells #[.int .i64 n2] 3)).then hE6; have hKw := (hKr.alloc (.cells #[.int .i64 n2] 3)).ext hE6; have hKcw := hKw.cell; clear hE6 HC1 HE1)
        obtain ⟨M2, hM2⟩ : ∃ y, M ++ numsL [(n2 : Int)] = y := ⟨_, rfl⟩
        have hM2l : M2.length = M.length + 8 := by rw [← hM2, List.length_append, hn8b]
        have HF3 : Hid (F = M2 ++ xp.flatMap procL) := by
          unfold Hid
          rw [HF2.out, ← hM2, List.append_assoc]
        rw [hM2]
        clear hM2 HF2 hKc0 hn8b hq
        go_loopw [3, 6] (fun s3 s6 wr => ∃ j : Nat, j ≤ n2 ∧ s6 = .int .i64 j ∧ s3 = .string ⟨(M2 ++ (xp.take j).flatMap procL).toArray⟩ ∧ Ext w wr ∧ Blk wr w.heap.size #[.string xn, .slice a k am, .slice c n2 cm] 25) (fun _ s6 _ => n2 - (intOf s6).toNat)
        case atStart => exact ⟨0, Nat.zero_le _, rfl, by simp, hEw, hKw⟩
        case round =>
          obtain ⟨k, hk, rfl, rfl, hEr, hKr⟩ := hrel
          have hKc0 := hKr.cell
          by_cases hlt : k < n2
          · have hkl : k < xp.length := by rw [H2.out]; exact hlt
            obtain ⟨b, o, rfl, hb, hcv⟩ := HA.out.2 k hkl
            have hki : (k : Int) < (n2 : Int) := by omega
            obtain ⟨c0, c1, ⟨pa, pc, c2, hpa, -⟩, c3, c4, c5, -⟩ := ProcIn.ext hEr hb hcv
            have HT := Lib.hid (procs_take xp k hkl)
            have hfl := flat_len procL xp (k + 1)
            obtain ⟨hiq, hiw, hiv⟩ := HNV.out.procs _ (List.getElem_mem hkl)
            rw [HT.out] at hfl
            simp only [List.length_append] at hfl
            have hflo := Nat.le_trans (Nat.add_le_add_left hfl (M.length + 8)) hMP.out
            clear hcv hfl
            generalize xp[k] = vv at *
            obtain ⟨nm, pp, pl, pw, pg, pv⟩ := vv
            simp only at c0 c1 c2 c3 c4 c5 hpa HT hflo hiq hiw hiv
            obtain ⟨np, hnp⟩ : ∃ y, pl.length = y := ⟨_, rfl⟩
            rw [hnp] at c2 HT hflo
            have hpl : NumsAt wr pa pl := ⟨hpa, hiq⟩
            obtain ⟨L, hL⟩ : ∃ y, M2 ++ (xp.take k).flatMap procL = y := ⟨_, rfl⟩
            have hLL : L.length = M2.length + ((xp.take k).flatMap procL).length := by rw [← hL, List.length_append]
            have HT2 : Hid (M2 ++ (xp.take (k + 1)).flatMap procL = L ++ (textL nm ++ (truthL pp ++ (numsL [(np : Int)] ++ (numsL pl ++ (numsL [pw] ++ (truthL pg ++ numsL [pv]))))))) := by
              unfold Hid
              rw [HT.out, ← hL]
              simp only [List.append_assoc]
            rw [hL]
            have hns : nm.size ≤ 2000000000000000 := by have := text_len nm; omega
            have hnpb : np ≤ 2000000000000000 := by have := numsL_len pl; omega
            have hbd : L.length + (textL nm).length + (truthL pp).length + (numsL [(np : Int)]).length + (numsL pl).length + (numsL [pw]).length + (truthL pg).length + (numsL [pv]).length ≤ 4000000000000000 := by omega
            have ht8 := truth_len pp
            have ht8b := truth_len pg
            have hn1 : (numsL [(np : Int)]).length = 8 := by rw [numsL_len]; rfl
            have hn2 : (numsL [pw]).length = 8 := by rw [numsL_len]; rfl
            have hn3 : (numsL [pv]).length = 8 := by rw [numsL_len]; rfl
            clear HT hL hLL HF3 hpa hiq
            have hK5 : Blk (wr.alloc (.cells #[.string nm, .bool pp, .slice pa np pc, .int .i64 pw, .bool pg, .int .i64 pv] 154)) wr.heap.size #[.string nm, .bool pp, .slice pa np pc, .int .i64 pw, .bool pg, .int .i64 pv] 154 := Blk.made _ _ _
            have hE5 : Ext wr (wr.alloc (.cells #[.string nm, .bool pp, .slice pa np pc, .int .i64 pw, .bool pg, .int .i64 pv] 154)) := (Chg.refl _ _).alloc _
            go_upto_region 12 with (fail)
            generalize wr.alloc (.cells #[.string nm, .bool pp, .slice pa np pc, .int .i64 pw, .bool pg, .int .i64 pv] 154) = w5 at *
            refine wp_region_specs (fun i => ([.val (.string ⟨(L).toArray⟩), .val (.pointer (some ⟨wr.heap.size, 0, none⟩)), .val (.string nm), .val (.string ⟨(textL nm).toArray⟩), .val (.string ⟨(L ++ (textL nm)).toArray⟩), .val (.pointer (some ⟨wr.heap.size, 1, none⟩)), .val (.bool pp), .val (.string ⟨(truthL pp).toArray⟩), .val (.string ⟨(L ++ (textL nm ++ (truthL pp))).toArray⟩), .val (.pointer (some ⟨wr.heap.size, 2, none⟩)), .val (.slice pa np pc), .val (.int .i64 np), .row [.int .i64 np] 1 3, .val (.string ⟨(numsL [(np : Int)]).toArray⟩), .val (.string ⟨(L ++ (textL nm ++ (truthL pp ++ (numsL [(np : Int)])))).toArray⟩), .val (.pointer (some ⟨wr.heap.size, 2, none⟩)), .val (.slice pa np pc), .val (.string ⟨(numsL pl).toArray⟩), .val (.string ⟨(L ++ (textL nm ++ (truthL pp ++ (numsL [(np : Int)] ++ (numsL pl))))).toArray⟩), .val (.pointer (some ⟨wr.heap.size, 3, none⟩)), .val (.int .i64 pw), .row [.int .i64 pw] 1 3, .val (.string ⟨(numsL [pw]).toArray⟩), .val (.string ⟨(L ++ (textL nm ++ (truthL pp ++ (numsL [(np : Int)] ++ (numsL pl ++ (numsL [pw])))))).toArray⟩), .val (.pointer (some ⟨wr.heap.size, 4, none⟩)), .val (.bool pg), .val (.string ⟨(truthL pg).toArray⟩), .val (.string ⟨(L ++ (textL nm ++ (truthL pp ++ (numsL [(np : Int)] ++ (numsL pl ++ (numsL [pw] ++ (truthL pg))))))).toArray⟩), .val (.pointer (some ⟨wr.heap.size, 5, none⟩)), .val (.int .i64 pv), .row [.int .i64 pv] 1 3, .val (.string ⟨(numsL [pv]).toArray⟩), .val (.string ⟨(L ++ (textL nm ++ (truthL pp ++ (numsL [(np : Int)] ++ (numsL pl ++ (numsL [pw] ++ (truthL pg ++ (numsL [pv])))))))).toArray⟩), .val (.string ⟨(L ++ (textL nm ++ (truthL pp ++ (numsL [(np : Int)] ++ (numsL pl ++ (numsL [pw] ++ (truthL pg ++ (numsL [pv])))))))).toArray⟩)] : List Comes).getD i (.val undef)) (frame := ?frc) (fun x => ?hfc) (by kernel_rfl) (by kernel_rfl) ?stc ?finc
            case hfc =>
              simp only [specs.frameOf, specs.fill, specs.dstAt, List.size_toArray, List.length_cons, List.length_nil, List.getElem?_toArray, List.getElem?_cons_succ, List.getElem?_cons_zero, Option.getD_some, List.setIfInBounds_toArray, List.set_cons_succ, List.set_cons_zero]
              exact rfl
            case stc =>
              refine AllFrom.cons (fun x u hE hd hr K hK => ?sc0) (AllFrom.cons (fun x u hE hd hr K hK => ?sc1) (AllFrom.cons (fun x u hE hd hr K hK => ?sc2) (AllFrom.cons (fun x u hE hd hr K hK => ?sc3) (AllFrom.cons (fun x u hE hd hr K hK => ?sc4) (AllFrom.cons (fun x u hE hd hr K hK => ?sc5) (AllFrom.cons (fun x u hE hd hr K hK => ?sc6) (AllFrom.cons (fun x u hE hd hr K hK => ?sc7) (AllFrom.cons (fun x u hE hd hr K hK => ?sc8) (AllFrom.cons (fun x u hE hd hr K hK => ?sc9) (AllFrom.cons (fun x u hE hd hr K hK => ?sc10) (AllFrom.cons (fun x u hE hd hr K hK => ?sc11) (AllFrom.cons (fun x u hE hd hr K hK => ?sc12) (AllFrom.cons (fun x u hE hd hr K hK => ?sc13) (AllFrom.cons (fun x u hE hd hr K hK => ?sc14) (AllFrom.cons (fun x u hE hd hr K hK => ?sc15) (AllFrom.cons (fun x u hE hd hr K hK => ?sc16) (AllFrom.cons (fun x u hE hd hr K hK => ?sc17) (AllFrom.cons (fun x u hE hd hr K hK => ?sc18) (AllFrom.cons (fun x u hE hd hr K hK => ?sc19) (AllFrom.cons (fun x u hE hd hr K hK => ?sc20) (AllFrom.cons (fun x u hE hd hr K hK => ?sc21) (AllFrom.cons (fun x u hE hd hr K hK => ?sc22) (AllFrom.cons (fun x u hE hd hr K hK => ?sc23) (AllFrom.cons (fun x u hE hd hr K hK => ?sc24) (AllFrom.cons (fun x u hE hd hr K hK => ?sc25) (AllFrom.cons (fun x u hE hd hr K hK => ?sc26) (AllFrom.cons (fun x u hE hd hr K hK => ?sc27) (AllFrom.cons (fun x u hE hd hr K hK => ?sc28) (AllFrom.cons (fun x u hE hd hr K hK => ?sc29) (AllFrom.cons (fun x u hE hd hr K hK => ?sc30) (AllFrom.cons (fun x u hE hd hr K hK => ?sc31) (AllFrom.cons (fun x u hE hd hr K hK => ?sc32) (AllFrom.cons (fun x u hE hd hr K hK => ?sc33) AllFrom.nil)))))))))))))))))))))))))))))))))
              case sc0 =>
                have z3 : x 3 = .string ⟨L.toArray⟩ := hr 33 _ rfl (by kernel_rfl)
                clear hd hr
                go_simp
                exact hK.out _ _ _ (by simp only [z3]; rfl) rfl (Chg.refl _ _)
              case sc1 =>
                clear hd hr
                go_simp
                exact hK.out _ _ _ rfl rfl (Chg.refl _ _)
              case sc2 =>
                have y65 : x 65 = .pointer (some ⟨wr.heap.size, 0, none⟩) := hd 1 (by decide) (by kernel_rfl)
                have hK2 := (Blk.drew hK5).ext hE
                have hKc := hK2.cell
                clear hd hr
                go_simp
                exact hK.out _ _ _ (by simp only [y65]; rfl) rfl (Chg.refl _ _)
              case sc3 =>
                have y66 : x 66 = .string nm := hd 2 (by decide) (by kernel_rfl)
                clear hd hr
                go_simp
                refine (text_any nm _ hns).mono ?_
                rintro e w2 ⟨rfl, hE2⟩
                exact hK.out _ _ _ (by simp only [y66]; rfl) rfl hE2
              case sc4 =>
                have y64 : x 64 = .string ⟨(L).toArray⟩ := hd 0 (by decide) (by kernel_rfl)
                have y67 : x 67 = .string ⟨(textL nm).toArray⟩ := hd 3 (by decide) (by kernel_rfl)
                clear hd hr
                go_simp
                try (rw [if_neg (by omega)])
                try go_simp
                exact hK.out _ _ _ (by simp only [y64, y67]; rfl) rfl (Chg.refl _ _)
              case sc5 =>
                clear hd hr
                go_simp
                exact hK.out _ _ _ rfl rfl (Chg.refl _ _)
              case sc6 =>
                have y69 : x 69 = .pointer (some ⟨wr.heap.size, 1, none⟩) := hd 5 (by decide) (by kernel_rfl)
                have hK2 := (Blk.drew hK5).ext hE
                have hKc := hK2.cell
                clear hd hr
                go_simp
                exact hK.out _ _ _ (by simp only [y69]; rfl) rfl (Chg.refl _ _)
              case sc7 =>
                have y70 : x 70 = .bool pp := hd 6 (by decide) (by kernel_rfl)
                clear hd hr
                go_simp
                refine (truth_any pp _).mono ?_
                rintro e w2 ⟨rfl, hE2⟩
                exact hK.out _ _ _ (by simp only [y70]; rfl) rfl hE2
              case sc8 =>
                have y68 : x 68 = .string ⟨(L ++ (textL nm)).toArray⟩ := hd 4 (by decide) (by kernel_rfl)
                have y71 : x 71 = .string ⟨(truthL pp).toArray⟩ := hd 7 (by decide) (by kernel_rfl)
                clear hd hr
                go_simp
                try (rw [if_neg (by omega)])
                try go_simp
                exact hK.out _ _ _ (by simp only [y68, y71]; rfl) rfl (Chg.refl _ _)
              case sc9 =>
                clear hd hr
                go_simp
                exact hK.out _ _ _ rfl rfl (Chg.refl _ _)
              case sc10 =>
                have y73 : x 73 = .pointer (some ⟨wr.heap.size, 2, none⟩) := hd 9 (by decide) (by kernel_rfl)
                have hK2 := (Blk.drew hK5).ext hE
                have hKc := hK2.cell
                clear hd hr
                go_simp
                exact hK.out _ _ _ (by simp only [y73]; rfl) rfl (Chg.refl _ _)
              case sc11 =>
                have y74 : x 74 = .slice pa np pc := hd 10 (by decide) (by kernel_rfl)
                clear hd hr
                go_simp
                exact hK.out _ _ _ (by simp only [y74]; rfl) rfl (Chg.refl _ _)
              case sc12 =>
                have y75 : x 75 = .int .i64 np := hd 11 (by decide) (by kernel_rfl)
                clear hd hr
                go_simp
                exact hK.out _ _ _ (by simp only [y75]; rfl) ⟨_, rfl, Blk.made _ _ _⟩ ((Chg.refl _ _).alloc _)
              case sc13 =>
                obtain ⟨g76, y76, b76⟩ : ∃ g, x 76 = .slice (some ⟨g, 0, none⟩) 1 1 ∧ Blk u g #[.int .i64 np] 3 := hd 12 (by decide) (by kernel_rfl)
                have hN : NumsAt u (some ⟨g76, 0, none⟩) [(np : Int)] := NumsAt.ofBlk b76 (fun z hz => by simp at hz; subst hz; omega)
                have hC := Lib.hid (numbers_any (some ⟨g76, 0, none⟩) [(np : Int)] 1 1 u rfl hN (by decide))
                clear hN
                clear hd hr
                go_simp
                refine hC.out.mono ?_
                rintro e w2 ⟨rfl, hE2⟩
                exact hK.out _ _ _ (by simp only [y76]; rfl) rfl hE2
              case sc14 =>
                have y72 : x 72 = .string ⟨(L ++ (textL nm ++ (truthL pp))).toArray⟩ := hd 8 (by decide) (by kernel_rfl)
                have y77 : x 77 = .string ⟨(numsL [(np : Int)]).toArray⟩ := hd 13 (by decide) (by kernel_rfl)
                clear hd hr
                go_simp
                try (rw [if_neg (by omega)])
                try go_simp
                exact hK.out _ _ _ (by simp only [y72, y77]; rfl) rfl (Chg.refl _ _)
              case sc15 =>
                clear hd hr
                go_simp
                exact hK.out _ _ _ rfl rfl (Chg.refl _ _)
              case sc16 =>
                have y79 : x 79 = .pointer (some ⟨wr.heap.size, 2, none⟩) := hd 15 (by decide) (by kernel_rfl)
                have hK2 := (Blk.drew hK5).ext hE
                have hKc := hK2.cell
                clear hd hr
                go_simp
                exact hK.out _ _ _ (by simp only [y79]; rfl) rfl (Chg.refl _ _)
              case sc17 =>
                have y80 : x 80 = .slice pa np pc := hd 16 (by decide) (by kernel_rfl)
                have hpu : NumsAt u pa pl := ⟨hpl.1.mono (Nat.le_trans hE5.size hE.size) (fun b o z hb h => IntIn.ext (hE5.drew.then hE) hb h), hpl.2⟩
                clear hd hr
                go_simp
                refine (numbers_any pa pl pc np _ hnp hpu (by omega)).mono ?_
                rintro e w2 ⟨rfl, hE2⟩
                exact hK.out _ _ _ (by simp only [y80]; rfl) rfl hE2
              case sc18 =>
                have y78 : x 78 = .string ⟨(L ++ (textL nm ++ (truthL pp ++ (numsL [(np : Int)])))).toArray⟩ := hd 14 (by decide) (by kernel_rfl)
                have y81 : x 81 = .string ⟨(numsL pl).toArray⟩ := hd 17 (by decide) (by kernel_rfl)
                clear hd hr
                go_simp
                try (rw [if_neg (by omega)])
                try go_simp
                exact hK.out _ _ _ (by simp only [y78, y81]; rfl) rfl (Chg.refl _ _)
              case sc19 =>
                clear hd hr
                go_simp
                exact hK.out _ _ _ rfl rfl (Chg.refl _ _)
              case sc20 =>
                have y83 : x 83 = .pointer (some ⟨wr.heap.size, 3, none⟩) := hd 19 (by decide) (by kernel_rfl)
                have hK2 := (Blk.drew hK5).ext hE
                have hKc := hK2.cell
                clear hd hr
                go_simp
                exact hK.out _ _ _ (by simp only [y83]; rfl) rfl (Chg.refl _ _)
              case sc21 =>
                have y84 : x 84 = .int .i64 pw := hd 20 (by decide) (by kernel_rfl)
                clear hd hr
                go_simp
                exact hK.out _ _ _ (by simp only [y84]; rfl) ⟨_, rfl, Blk.made _ _ _⟩ ((Chg.refl _ _).alloc _)
              case sc22 =>
                obtain ⟨g85, y85, b85⟩ : ∃ g, x 85 = .slice (some ⟨g, 0, none⟩) 1 1 ∧ Blk u g #[.int .i64 pw] 3 := hd 21 (by decide) (by kernel_rfl)
                have hN : NumsAt u (some ⟨g85, 0, none⟩) [pw] := NumsAt.ofBlk b85 (fun z hz => by simp at hz; subst hz; exact hiw)
                have hC := Lib.hid (numbers_any (some ⟨g85, 0, none⟩) [pw] 1 1 u rfl hN (by decide))
                clear hN
                clear hd hr
                go_simp
                refine hC.out.mono ?_
                rintro e w2 ⟨rfl, hE2⟩
                exact hK.out _ _ _ (by simp only [y85]; rfl) rfl hE2
              case sc23 =>
                have y82 : x 82 = .string ⟨(L ++ (textL nm ++ (truthL pp ++ (numsL [(np : Int)] ++ (numsL pl))))).toArray⟩ := hd 18 (by decide) (by kernel_rfl)
                have y86 : x 86 = .string ⟨(numsL [pw]).toArray⟩ := hd 22 (by decide) (by kernel_rfl)
                clear hd hr
                go_simp
                try (rw [if_neg (by omega)])
                try go_simp
                exact hK.out _ _ _ (by simp only [y82, y86]; rfl) rfl (Chg.refl _ _)
              case sc24 =>
                clear hd hr
                go_simp
                exact hK.out _ _ _ rfl rfl (Chg.refl _ _)
              case sc25 =>
                have y88 : x 88 = .pointer (some ⟨wr.heap.size, 4, none⟩) := hd 24 (by decide) (by kernel_rfl)
                have hK2 := (Blk.drew hK5).ext hE
                have hKc := hK2.cell
                clear hd hr
                go_simp
                exact hK.out _ _ _ (by simp only [y88]; rfl) rfl (Chg.refl _ _)
              case sc26 =>
                have y89 : x 89 = .bool pg := hd 25 (by decide) (by kernel_rfl)
                clear hd hr
                go_simp
                refine (truth_any pg _).mono ?_
                rintro e w2 ⟨rfl, hE2⟩
                exact hK.out _ _ _ (by simp only [y89]; rfl) rfl hE2
              case sc27 =>
                have y87 : x 87 = .string ⟨(L ++ (textL nm ++ (truthL pp ++ (numsL [(np : Int)] ++ (numsL pl ++ (numsL [pw])))))).toArray⟩ := hd 23 (by decide) (by kernel_rfl)
                have y90 : x 90 = .string ⟨(truthL pg).toArray⟩ := hd 26 (by decide) (by kernel_rfl)
                clear hd hr
                go_simp
                try (rw [if_neg (by omega)])
                try go_simp
                exact hK.out _ _ _ (by simp only [y87, y90]; rfl) rfl (Chg.refl _ _)
              case sc28 =>
                clear hd hr
                go_simp
                exact hK.out _ _ _ rfl rfl (Chg.refl _ _)
              case sc29 =>
                have y92 : x 92 = .pointer (some ⟨wr.heap.size, 5, none⟩) := hd 28 (by decide) (by kernel_rfl)
                have hK2 := (Blk.drew hK5).ext hE
                have hKc := hK2.cell
                clear hd hr
                go_simp
                exact hK.out _ _ _ (by simp only [y92]; rfl) rfl (Chg.refl _ _)
              case sc30 =>
                have y93 : x 93 = .int .i64 pv := hd 29 (by decide) (by kernel_rfl)
                clear hd hr
                go_simp
                exact hK.out _ _ _ (by simp only [y93]; rfl) ⟨_, rfl, Blk.made _ _ _⟩ ((Chg.refl _ _).alloc _)
              case sc31 =>
                obtain ⟨g94, y94, b94⟩ : ∃ g, x 94 = .slice (some ⟨g, 0, none⟩) 1 1 ∧ Blk u g #[.int .i64 pv] 3 := hd 30 (by decide) (by kernel_rfl)
                have hN : NumsAt u (some ⟨g94, 0, none⟩) [pv] := NumsAt.ofBlk b94 (fun z hz => by simp at hz; subst hz; exact hiv)
                have hC := Lib.hid (numbers_any (some ⟨g94, 0, none⟩) [pv] 1 1 u rfl hN (by decide))
                clear hN
                clear hd hr
                go_simp
                refine hC.out.mono ?_
                rintro e w2 ⟨rfl, hE2⟩
                exact hK.out _ _ _ (by simp only [y94]; rfl) rfl hE2
              case sc32 =>
                have y91 : x 91 = .string ⟨(L ++ (textL nm ++ (truthL pp ++ (numsL [(np : Int)] ++ (numsL pl ++ (numsL [pw] ++ (truthL pg))))))).toArray⟩ := hd 27 (by decide) (by kernel_rfl)
                have y95 : x 95 = .string ⟨(numsL [pv]).toArray⟩ := hd 31 (by decide) (by kernel_rfl)
                clear hd hr
                go_simp
                try (rw [if_neg (by omega)])
                try go_simp
                exact hK.out _ _ _ (by simp only [y91, y95]; rfl) rfl (Chg.refl _ _)
              case sc33 =>
                have y96 : x 96 = .string ⟨(L ++ (textL nm ++ (truthL pp ++ (numsL [(np : Int)] ++ (numsL pl ++ (numsL [pw] ++ (truthL pg ++ (numsL [pv])))))))).toArray⟩ := hd 32 (by decide) (by kernel_rfl)
                clear hd hr
                go_simp
                exact hK.out _ _ _ (by simp only [y96]; rfl) rfl (Chg.refl _ _)
            case finc =>
              intro x u hE hs
              have y3 : x 3 = .string ⟨(L ++ (textL nm ++ (truthL pp ++ (numsL [(np : Int)] ++ (numsL pl ++ (numsL [pw] ++ (truthL pg ++ (numsL [pv])))))))).toArray⟩ := hs 33 (by decide)
              go_wp2_with fail
              go_roundw
              case rel => exact ⟨k + 1, by omega, by go_num, by first | (rw [HT2.out]; done) | (rw [y3, HT2.out]), ((hEr.then hE5).then (Chg.refl _ _).drew).then hE, (Blk.drew (hKr.ext hE5)).ext hE⟩
              case measure => simp [intOf]; omega
          · obtain rfl : k = n2 := by omega
            have e : xp.take k = xp := List.take_of_length_le (by rw [H2.out]; exact Nat.le_refl _)
            rw [e]
            go_wp2_with fail
            go_ret
            exact ⟨by rw [HF3.out]; rfl, hEr⟩
end obj
end Go.Proofs.YtpcihajmcejliaaGreatDoor
