/- The walk of syntax.Parse. -/
import Derived.Test.YtpcihajmcejliabGreatDoorSyn10
import Derived.Test.YtpcihajmcejliabGreatDoorSynTK
namespace Go.Proofs.YtpcihajmcejliabGreatDoor
open Go.RowKit
def zeroN : Nd := .mk 0 noText 0 []
/-- what a text is: a node, a fault -/
def parseR (s : ByteArray) : Nd × Int × Int :=
  if (scanF s.data.toList).2.1 = 0 then
    match prs (20 * (scanF s.data.toList).1.length + 5) .module (tksOf s (scanF s.data.toList).1) with
    | .got x _ => if (weighF 16 x 0).1 = true then (x, 0, (scanF s.data.toList).2.2) else (zeroN, 1, 0)
    | .bad l => (zeroN, 2, posOf s.size l)
    | .out => (zeroN, 0, 0)
  else (zeroN, (scanF s.data.toList).2.1, (scanF s.data.toList).2.2)
namespace synw
def ParsePost (w : World) (R : Nd × Int × Int) (e : Ending) (w' : World) : Prop := Ext w w' ∧ ∃ v, e = .returned (.tuple #[v, .agg #[.int .i64 R.2.1, .int .i64 R.2.2]]) ∧ NdAt w' R.1 v
structure PI (w u : World) (R F : Nat) (a b c d f0 f1 : Value) (x : Nd) : Prop where
  r : Blk u R #[a, b, c, d] 66
  f : Blk u F #[f0, f1] 68
  ext : Ext w u
  nd : NdAt (hide (below (F + 1)) u) x (.agg #[a, b, c, d])
  hR : w.heap.size ≤ R
  hRF : R < F
theorem PI.drew {w u : World} {R F : Nat} {a b c d f0 f1 : Value} {x : Nd} (h : PI w u R F a b c d f0 f1 x) : PI w u.drew R F a b c d f0 f1 x := ⟨h.r.drew, h.f.drew, h.ext.drew, ndAt_chg h.nd (Chg.refl (fun _ => False) u).drew (fun _ h => h.elim), h.hR, h.hRF⟩
theorem PI.setR {w u : World} {R F : Nat} {a b c d f0 f1 : Value} {x : Nd} (h : PI w u R F a b c d f0 f1 x) : PI w ((((u.setCell ⟨R, 0, none⟩ a).setCell ⟨R, 1, none⟩ b).setCell ⟨R, 2, none⟩ c).setCell ⟨R, 3, none⟩ d) R F a b c d f0 f1 x := by
  have h1 := h.hR; have h2 := h.hRF
  have hC : Chg (fun i => i = R) u ((((u.setCell ⟨R, 0, none⟩ a).setCell ⟨R, 1, none⟩ b).setCell ⟨R, 2, none⟩ c).setCell ⟨R, 3, none⟩ d) := chg_set (chg_set (chg_set (chg_set (Chg.refl _ _) 0 a) 1 b) 2 c) 3 d
  exact ⟨(((h.r.set 0 a).set 1 b).set 2 c).set 3 d, h.f.chg hC (by omega), h.ext.trans hC (fun i hi e => by omega), ndAt_chg h.nd hC (fun i e => by omega), h1, h2⟩
theorem PI.setF {w u : World} {R F : Nat} {a b c d f0 f1 : Value} {x : Nd} (h : PI w u R F a b c d f0 f1 x) : PI w ((u.setCell ⟨F, 0, none⟩ f0).setCell ⟨F, 1, none⟩ f1) R F a b c d f0 f1 x := by
  have h1 := h.hR; have h2 := h.hRF
  have hC : Chg (fun i => i = F) u ((u.setCell ⟨F, 0, none⟩ f0).setCell ⟨F, 1, none⟩ f1) := chg_set (chg_set (Chg.refl _ _) 0 f0) 1 f1
  exact ⟨h.r.chg hC (by omega), (h.f.set 0 f0).set 1 f1, h.ext.trans hC (fun i hi e => by omega), ndAt_chg h.nd hC (fun i e => by omega), h1, h2⟩
theorem PI.post {w u : World} {R F : Nat} {a b c d : Value} {f0 f1 : Int} {x : Nd} {Q : Nd × Int × Int} (h : PI w u R F a b c d (.int .i64 f0) (.int .i64 f1) x) (hQ : Q = (x, f0, f1)) : ParsePost w Q (.returned (.tuple #[.agg #[a, b, c, d], .agg #[.int .i64 f0, .int .i64 f1]])) u := by
  subst hQ
  exact ⟨h.ext, _, rfl, ndAt_keeps (keeps_bare _ _) _ _ h.nd⟩
set_option maxRecDepth 100000 in
set_option maxHeartbeats 8000000 in
theorem parse_any (s : ByteArray) (w : World) (hs : s.size ≤ 9223372036854775807) (hv : ErrVar w) (hm : MaxVar w) :
    Calls Tryz.prog 24 #[.string s] w (ParsePost w (parseR s)) := by
  obtain ⟨Q, hQ⟩ : ∃ Q, parseR s = Q := ⟨_, rfl⟩
  rw [hQ]
  unfold parseR at hQ
  obtain ⟨T, hT⟩ : ∃ T, scanF s.data.toList = T := ⟨_, rfl⟩
  rw [hT] at hQ
  have HTT := Lib.hid hT
  obtain ⟨ts, c, a⟩ := T
  simp only at hQ
  have HQ := Lib.hid hQ
  obtain ⟨R, hR⟩ : ∃ R, w.heap.size = R := ⟨_, rfl⟩
  obtain ⟨F, hF⟩ : ∃ F, R + 1 = F := ⟨_, rfl⟩
  have hR0 := (Blk.made w #[.int .i64 0, .string ⟨#[]⟩, .int .i64 0, .slice none 0 0] 66).alloc (.cells #[.int .i64 0, .int .i64 0] 68)
  have hF0 := Blk.made2 w (.cells #[.int .i64 0, .string ⟨#[]⟩, .int .i64 0, .slice none 0 0] 66) #[.int .i64 0, .int .i64 0] 68
  rw [hR] at hR0 hF0
  rw [hF] at hF0
  have hX0 := ((Chg.refl (fun _ => False) w).alloc (.cells #[.int .i64 0, .string ⟨#[]⟩, .int .i64 0, .slice none 0 0] 66)).alloc (.cells #[.int .i64 0, .int .i64 0] 68)
  have HC := Lib.hid (lexTells.scan_all s _ hs (hv.ext hX0) (ts, c, a) (Lib.hid hT))
  have HM := Lib.hid (fun (u : World) (hE : Ext w u) => hm.ext hE)
  have hRF : R < F := by omega
  have HR0 := Lib.hid hR0
  have HF0 := Lib.hid hF0
  have HX0 := Lib.hid hX0
  have hmf : ∀ (fn : Fn) (first cap : Array Value) (w : World), (Instr.makeFunc fn first cap).run Tryz.prog w = .ok (.func fn first cap) w := fun _ _ _ _ => rfl
  clear hv hm hT hQ hR0 hF0 hX0
  go_enter_defers Tryz.func24, Tryz.ntmps24
  go_upto_region 1 with (fail)
  try rw [hF]
  generalize (w.alloc (.cells #[.int .i64 0, .string ⟨#[]⟩, .int .i64 0, .slice none 0 0] 66)).alloc (.cells #[.int .i64 0, .int .i64 0] 68) = u0 at *
  go_wp2_with fail
  refine HC.out.mono ?_
  rintro e w1 ⟨v, rfl, ho, hE1⟩
  have HO := Lib.hid ho
  have hR1 := HR0.out.ext hE1
  have hF1 := HF0.out.ext hE1
  have hX1 := HX0.out.ext hE1
  have hsz1 : F + 1 ≤ w1.heap.size := by have := HF0.out.lt; have := hE1.size; omega
  have hc := hF1.cell
  have hf := hF1.frozen
  have hl := hF1.lt
  have hPI1 : PI w ((w1.setCell ⟨F, 0, none⟩ (.int .i64 c)).setCell ⟨F, 1, none⟩ (.int .i64 a)) R F (.int .i64 0) (.string ⟨#[]⟩) (.int .i64 0) (.slice none 0 0) (.int .i64 c) (.int .i64 a) zeroN :=
    ⟨(hR1.setOther (p := ⟨F, 0, none⟩) (by show R ≠ F; omega) _).setOther (p := ⟨F, 1, none⟩) (by show R ≠ F; omega) _, (hF1.set 0 _).set 1 _, (hX1.setNew (p := ⟨F, 0, none⟩) (by show w.heap.size ≤ F; omega) _).setNew (p := ⟨F, 1, none⟩) (by show w.heap.size ≤ F; omega) _, ndAt_leaf _ _ _ _ (by decide), by omega, hRF⟩
  have hO2 := ownsRow_set (ownsRow_set ho (p := ⟨F, 0, none⟩) (by intro k hk; have := (World.ownsRow.lt ho k hk).1; have := HF0.out.lt; show k ≠ F; omega) (.int .i64 c)) (p := ⟨F, 1, none⟩) (by intro k hk; have := (World.ownsRow.lt ho k hk).1; have := HF0.out.lt; show k ≠ F; omega) (.int .i64 a)
  have HO2 := Lib.hid hO2
  have HPI := Lib.hid hPI1
  clear ho hR1 hF1 hX1 hPI1 hO2 hE1 HC HO HR0 HF0 HX0
  go_upto_region 2 with (fail)
  clear hc hf hl
  have hszw : F + 1 ≤ ((w1.setCell ⟨F, 0, none⟩ (.int .i64 c)).setCell ⟨F, 1, none⟩ (.int .i64 a)).heap.size := by simpa using hsz1
  generalize (w1.setCell ⟨F, 0, none⟩ (.int .i64 c)).setCell ⟨F, 1, none⟩ (.int .i64 a) = u1 at *
  clear hsz1
  have hc := HPI.out.f.cell
  by_cases hc0 : c = 0
  · subst hc0
    have hQ2 := HQ.out
    rw [if_pos rfl] at hQ2
    have HQ2 := Lib.hid hQ2
    obtain ⟨hs3, hok, htl⟩ := synk.scan_tks s ts a HTT.out
    obtain ⟨ta, tc, rfl, htk⟩ := synk.tks_in HO2.out hok
    obtain ⟨NT', hNT⟩ : ∃ q, ts.length = q := ⟨_, rfl⟩
    rw [hNT] at htl HO2
    have HLT := Lib.hid hNT
    clear hQ2 HQ hok
    rw [hNT]
    obtain ⟨S, hS⟩ : ∃ S, u1.heap.size = S := ⟨_, rfl⟩
    have hPR : PrAt u1 (u1.alloc (.cells #[.slice ta NT' tc, .int .i64 0, .int .i64 (s.size : Nat)] 154)) S s.size (tksOf s ts) := by
      refine ⟨⟨ta, NT', tc, 0, ?_, by simp [tksOf, hNT], by omega, htk⟩, (Chg.refl _ _).alloc _, by omega⟩
      rw [← hS]; exact Blk.made u1 _ _
    have HN := Lib.hid (good_all (20 * ts.length + 5) .module _ _ hPR (HM.out u1 HPI.out.ext) rfl trivial (synm.prs_in _ _ _ (by simp [tksOf, NT.rank])))
    have hne := synm.prs_in (20 * ts.length + 5) .module (tksOf s ts) (by simp [tksOf, NT.rank])
    have HNE := Lib.hid hne
    have hE2 := (Chg.refl (fun _ => False) u1).alloc (.cells #[.slice ta NT' tc, .int .i64 0, .int .i64 (s.size : Nat)] 154)
    have HR2 := Lib.hid (HPI.out.r.ext hE2)
    have HF2 := Lib.hid (HPI.out.f.ext hE2)
    have HX2 := Lib.hid (HPI.out.ext.ext hE2)
    have hSF : F < S := by omega
    clear hPR hne hE2 htk
    rw [hNT] at HN HNE HQ2
    go_upto_region 6 with (fail)
    try rw [hS]
    clear hc
    generalize u1.alloc (.cells #[.slice ta NT' tc, .int .i64 0, .int .i64 (s.size : Nat)] 154) = u2 at *
    go_wp2_with fail
    refine HN.out.mono ?_
    rintro e w3 hr
    obtain ⟨hC, ⟨lb, hp, rfl⟩ | ⟨x, lx, v, hp, rfl, hvx, hP⟩⟩ := hr.cases HNE.out
    · have HQ3 := Lib.hid (show Q = (zeroN, 2, posOf s.size lb) by have := HQ2.out; rw [hp] at this; exact this.symm)
      have hR3 := HR2.out.chg hC (by omega)
      have hF3 := HF2.out.chg hC (by omega)
      have hX3 := HX2.out.trans hC (fun i hi e => by have := HPI.out.ext.size; omega)
      clear hr hp hC HN
      go_wp2_with fail
      refine leaves_cons (f := 84) (args := #[.pointer (some ⟨R, 0, none⟩), .pointer (some ⟨F, 0, none⟩)]) (by simp) (by simp [go_sem]) ?_
      refine (catch_parse R F _ _ _ _ hR3 rfl hF3 rfl (by omega)).mono ?_
      rintro e u' w'' ⟨rfl, rfl, hRz, hFz, hCz⟩
      exact ⟨_, results_cc2 rfl _ _ rfl hRz Tryz.underlying66 rfl (by kernel_rfl) rfl hFz Tryz.underlying68 rfl (by kernel_rfl), (⟨hRz, hFz, hX3.trans hCz fun i hi e => by omega, ndAt_leaf _ _ _ _ (by decide), by omega, hRF⟩ : PI w w'' R F _ _ _ _ _ _ zeroN).post HQ3.out⟩
    · have HQ3 := Lib.hid (show (if (weighF 16 x 0).1 = true then (x, (0 : Int), (a : Int)) else (zeroN, 1, 0)) = Q by have := HQ2.out; rw [hp] at this; exact this)
      have hR3 := HR2.out.chg hC (by omega)
      have hF3 := HF2.out.chg hC (by omega)
      have hX3 := HX2.out.trans hC (fun i hi e => by have := HPI.out.ext.size; omega)
      have hsz3 := hC.size
      have hu2 := hr.1.size
      obtain ⟨kx, tx, mx, ax, nx, cx, rfl⟩ := nd_form hvx
      have hSu := HPI.out.ext.size
      have hFu2 : F + 1 ≤ u2.heap.size := by have := HF2.out.lt; omega
      have hnd3 : NdAt (hide (below (F + 1)) w3) x (.agg #[.int .i64 kx, .string tx, .int .i64 mx, .slice ax nx cx]) := ndAt_low hvx (by omega)
      have hPI3 : PI w ((((w3.setCell ⟨R, 0, none⟩ (.int .i64 kx)).setCell ⟨R, 1, none⟩ (.string tx)).setCell ⟨R, 2, none⟩ (.int .i64 mx)).setCell ⟨R, 3, none⟩ (.slice ax nx cx)) R F (.int .i64 kx) (.string tx) (.int .i64 mx) (.slice ax nx cx) (.int .i64 0) (.int .i64 a) x := by
        have hCC : Chg (fun i => i = R) w3 ((((w3.setCell ⟨R, 0, none⟩ (.int .i64 kx)).setCell ⟨R, 1, none⟩ (.string tx)).setCell ⟨R, 2, none⟩ (.int .i64 mx)).setCell ⟨R, 3, none⟩ (.slice ax nx cx)) := chg_set (chg_set (chg_set (chg_set (Chg.refl _ _) 0 _) 1 _) 2 _) 3 _
        exact ⟨(((hR3.set 0 _).set 1 _).set 2 _).set 3 _, hF3.chg hCC (by omega), hX3.trans hCC (fun i hi e => by omega), ndAt_chg hnd3 hCC (fun i e => by omega), by omega, hRF⟩
      have hc := hR3.cell
      have hf := hR3.frozen
      have hl := hR3.lt
      clear hr hp hC HN hvx hnd3 hR3 hF3 hX3 HPI HR2 HF2 HX2
      have HPI := Lib.hid hPI3
      clear hPI3
      go_upto_region 7 with (fail)
      clear hc hf hl
      generalize (((w3.setCell ⟨R, 0, none⟩ (.int .i64 kx)).setCell ⟨R, 1, none⟩ (.string tx)).setCell ⟨R, 2, none⟩ (.int .i64 mx)).setCell ⟨R, 3, none⟩ (.slice ax nx cx) = u4 at *
      obtain ⟨M, hM⟩ : ∃ M, u4.heap.size = M := ⟨_, rfl⟩
      have hE4 := (Chg.refl (fun _ => False) u4).alloc (.cells #[.int .i64 0] 3)
      have hFu4 := HPI.out.f.lt
      have hPI4 : PI w (u4.alloc (.cells #[.int .i64 0] 3)) R F (.int .i64 kx) (.string tx) (.int .i64 mx) (.slice ax nx cx) (.int .i64 0) (.int .i64 a) x :=
        ⟨HPI.out.r.ext hE4, HPI.out.f.ext hE4, HPI.out.ext.ext hE4, ndAt_keeps (keeps_chg hE4 fun _ _ h => h.elim) _ _ HPI.out.nd, by omega, hRF⟩
      have hM4 : Blk (u4.alloc (.cells #[.int .i64 0] 3)) M #[.int .i64 (0 : Nat)] 3 := by rw [← hM]; exact Blk.made u4 _ _
      have hnd4 : NdAt (hide (fun i => below (F + 1) i || decide (i = M)) (u4.alloc (.cells #[.int .i64 0] 3))) x (.agg #[.int .i64 kx, .string tx, .int .i64 mx, .slice ax nx cx]) := by
        refine ndAt_keeps (keeps_hide (by simp) fun i hi hm => ?_) _ _ HPI.out.nd
        refine ⟨?_, Below.heap_alloc _ _ _ hi⟩
        rw [hm, Bool.false_or, decide_eq_false_iff_not]; omega
      have HW := Lib.hid (weigh_any 16 x _ _ M 0 1 _ hnd4 (by simp) hM4 (by decide) (by decide) (by decide))
      have hrc := hPI4.r.cell
      generalize weighF 16 x 0 = WF at *
      clear HPI
      have HPI := Lib.hid hPI4
      have hMF : F < M := by omega
      have HND := Lib.hid hnd4
      clear hPI4 hM4 hnd4 hE4
      go_upto_region 8 with (fail)
      try rw [hM]
      generalize u4.alloc (.cells #[.int .i64 0] 3) = u5 at *
      go_wp2_with fail
      refine HW.out.mono ?_
      rintro e w6 ⟨rfl, hC6, hB6⟩
      have hu5 := HPI.out.ext.size
      have hPI6 : PI w w6 R F (.int .i64 kx) (.string tx) (.int .i64 mx) (.slice ax nx cx) (.int .i64 0) (.int .i64 a) x :=
        ⟨HPI.out.r.chg hC6 (by omega), HPI.out.f.chg hC6 (by omega), HPI.out.ext.trans hC6 (fun i hi e => by have := HPI.out.hR; omega), (ndAt_keeps (keeps_hide (Nat.le_refl _) fun i hi hm => ⟨by simp only [Bool.or_eq_false_iff] at hm; exact hm.1, rfl⟩) _ _ (ndAt_keeps (keeps_chg hC6 fun i _ e => by rw [e]; simp) _ _ HND.out)), by omega, hRF⟩
      clear HPI
      have HPI := Lib.hid hPI6
      clear hPI6 hC6 hB6 HW hrc
      obtain ⟨wb, wm⟩ := WF
      cases wb with
      | true =>
        have HQ4 := Lib.hid (show Q = (x, (0 : Int), (a : Int)) by have := HQ3.out; rw [if_pos rfl] at this; exact this.symm)
        have hdrop := HND
        clear hdrop HND
        go_upto_region 10 with (fail)
        refine wp_region_weave [2, 3] (fun i v _ => v = ([.agg #[.int .i64 kx, .string tx, .int .i64 mx, .slice ax nx cx], .agg #[.int .i64 0, .int .i64 a], undef, undef] : List Value).getD i undef) (fun _ u => PI w u R F (.int .i64 kx) (.string tx) (.int .i64 mx) (.slice ax nx cx) (.int .i64 0) (.int .i64 a) x) (fun _ _ => True) (frame := ?frab) (fun x => ?hfab) mixed (by kernel_rfl) (by kernel_rfl) (fun _ _ _ _ h _ => h) ?h0b ?stb ?finb
        case hfab =>
          simp only [chain.frameOf, chain.fill, chain.setOpt, chain.dstOf, List.size_toArray, List.length_cons, List.length_nil, List.getElem?_toArray, List.getElem?_cons_succ, List.getElem?_cons_zero, List.setIfInBounds_toArray, List.set_cons_succ, List.set_cons_zero]
          exact rfl
        case h0b => exact HPI.out.drew
        case stb =>
          refine AllFrom.cons (fun x vs u hF hm hb hd K' hK' => ?sb0) (AllFrom.cons (fun x vs u hF hm hb hd K' hK' => ?sb1) (AllFrom.cons (fun x vs u hF hm hb hd K' hK' => ?sb2) (AllFrom.cons (fun x vs u hF hm hb hd K' hK' => ?sb3) (AllFrom.nil))))
          case sb0 =>
            have hc := hF.r.cell
            have HF := Lib.hid hF
            clear hd hm hb hF
            go_simp
            exact hK'.out _ _ _ rfl trivial ⟨rfl, HF.out⟩
          case sb1 =>
            have hc := hF.f.cell
            have HF := Lib.hid hF
            clear hd hm hb hF
            go_simp
            exact hK'.out _ _ _ rfl trivial ⟨rfl, HF.out⟩
          case sb2 =>
            have y0 := hd 0 (by decide) (by kernel_rfl)
            replace y0 : x 30 = .agg #[.int .i64 kx, .string tx, .int .i64 mx, .slice ax nx cx] := y0
            have hc := hF.r.cell
            have hf := hF.r.frozen
            have hl := hF.r.lt
            have HF := Lib.hid hF
            clear hd hm hb hF
            go_simp
            exact hK'.out _ _ undef (by simp only [y0]; rfl) trivial HF.out.setR
          case sb3 =>
            have y0 := hd 1 (by decide) (by kernel_rfl)
            replace y0 : x 31 = .agg #[.int .i64 0, .int .i64 a] := y0
            have hc := hF.f.cell
            have hf := hF.f.frozen
            have hl := hF.f.lt
            have HF := Lib.hid hF
            clear hd hm hb hF
            go_simp
            exact hK'.out _ _ undef (by simp only [y0]; rfl) trivial HF.out.setF
        case finb =>
          intro x vs w9 hl hF hk
          have HP9 := Lib.hid hF
          clear hk hl hF
          go_wp2_with fail
          refine leaves_cons (f := 84) (args := #[.pointer (some ⟨R, 0, none⟩), .pointer (some ⟨F, 0, none⟩)]) (by simp) (by simp [go_sem]) ?_
          refine (idle_parse R F _).mono ?_
          rintro e u' w'' ⟨rfl, rfl, rfl⟩
          exact ⟨_, results_cc2 rfl _ _ rfl HP9.out.r Tryz.underlying66 rfl (by kernel_rfl) rfl HP9.out.f Tryz.underlying68 rfl (by kernel_rfl), HP9.out.post HQ4.out⟩
      | false =>
        have HQ4 := Lib.hid (show Q = (zeroN, 1, 0) by have := HQ3.out; simp only [Bool.false_eq_true, ↓reduceIte] at this; exact this.symm)
        have hrc := HPI.out.r.cell
        have hrf := HPI.out.r.frozen
        have hrl := HPI.out.r.lt
        have hfc := HPI.out.f.cell
        have hff := HPI.out.f.frozen
        have hfl := HPI.out.f.lt
        have hCR : Chg (fun i => i = R) w6 ((((w6.setCell ⟨R, 0, none⟩ (.int .i64 0)).setCell ⟨R, 1, none⟩ (.string ⟨#[]⟩)).setCell ⟨R, 2, none⟩ (.int .i64 0)).setCell ⟨R, 3, none⟩ (.slice none 0 0)) := chg_set (chg_set (chg_set (chg_set (Chg.refl _ _) 0 _) 1 _) 2 _) 3 _
        have hPZ : PI w ((((w6.setCell ⟨R, 0, none⟩ (.int .i64 0)).setCell ⟨R, 1, none⟩ (.string ⟨#[]⟩)).setCell ⟨R, 2, none⟩ (.int .i64 0)).setCell ⟨R, 3, none⟩ (.slice none 0 0)) R F (.int .i64 0) (.string ⟨#[]⟩) (.int .i64 0) (.slice none 0 0) (.int .i64 0) (.int .i64 a) zeroN :=
          ⟨(((HPI.out.r.set 0 _).set 1 _).set 2 _).set 3 _, HPI.out.f.chg hCR (by omega), HPI.out.ext.trans hCR (fun i hi e => by have := HPI.out.hR; omega), ndAt_leaf _ _ _ _ (by decide), HPI.out.hR, hRF⟩
        have hPZ2 : PI w ((((((w6.setCell ⟨R, 0, none⟩ (.int .i64 0)).setCell ⟨R, 1, none⟩ (.string ⟨#[]⟩)).setCell ⟨R, 2, none⟩ (.int .i64 0)).setCell ⟨R, 3, none⟩ (.slice none 0 0)).setCell ⟨F, 0, none⟩ (.int .i64 1)).setCell ⟨F, 1, none⟩ (.int .i64 0)) R F (.int .i64 0) (.string ⟨#[]⟩) (.int .i64 0) (.slice none 0 0) (.int .i64 1) (.int .i64 0) zeroN :=
          ⟨(hPZ.r.setOther (p := ⟨F, 0, none⟩) (by show R ≠ F; omega) _).setOther (p := ⟨F, 1, none⟩) (by show R ≠ F; omega) _, (hPZ.f.set 0 _).set 1 _, (hPZ.ext.setNew (p := ⟨F, 0, none⟩) (by show w.heap.size ≤ F; have := hPZ.hR; omega) _).setNew (p := ⟨F, 1, none⟩) (by show w.heap.size ≤ F; have := hPZ.hR; omega) _, ndAt_leaf _ _ _ _ (by decide), hPZ.hR, hRF⟩
        have HPZ := Lib.hid hPZ2
        clear hPZ hPZ2 hCR
        go_wp2_with fail
        refine leaves_cons (f := 84) (args := #[.pointer (some ⟨R, 0, none⟩), .pointer (some ⟨F, 0, none⟩)]) (by simp) (by simp [go_sem]) ?_
        refine (idle_parse R F _).mono ?_
        rintro e u' w'' ⟨rfl, rfl, rfl⟩
        exact ⟨_, results_cc2 rfl _ _ rfl HPZ.out.r Tryz.underlying66 rfl (by kernel_rfl) rfl HPZ.out.f Tryz.underlying68 rfl (by kernel_rfl), HPZ.out.post HQ4.out⟩
  · have HQ2 := Lib.hid (show Q = (zeroN, c, (a : Int)) by have := HQ.out; rw [if_neg hc0] at this; exact this.symm)
    have hcn : (c != 0) = true := by simpa using hc0
    clear HQ
    go_upto_region 3 with (fail)
    refine wp_region_weave [2, 3] (fun i v _ => v = ([.agg #[.int .i64 0, .string ⟨#[]⟩, .int .i64 0, .slice none 0 0], .agg #[.int .i64 c, .int .i64 a], undef, undef] : List Value).getD i undef) (fun _ u => PI w u R F (.int .i64 0) (.string ⟨#[]⟩) (.int .i64 0) (.slice none 0 0) (.int .i64 c) (.int .i64 a) zeroN) (fun _ _ => True) (frame := ?fraa) (fun x => ?hfaa) mixed (by kernel_rfl) (by kernel_rfl) (fun _ _ _ _ h _ => h) ?h0a ?sta ?fina
    case hfaa =>
      simp only [chain.frameOf, chain.fill, chain.setOpt, chain.dstOf, List.size_toArray, List.length_cons, List.length_nil, List.getElem?_toArray, List.getElem?_cons_succ, List.getElem?_cons_zero, List.setIfInBounds_toArray, List.set_cons_succ, List.set_cons_zero]
      exact rfl
    case h0a => exact HPI.out.drew
    case sta =>
      refine AllFrom.cons (fun x vs u hF hm hb hd K' hK' => ?sa0) (AllFrom.cons (fun x vs u hF hm hb hd K' hK' => ?sa1) (AllFrom.cons (fun x vs u hF hm hb hd K' hK' => ?sa2) (AllFrom.cons (fun x vs u hF hm hb hd K' hK' => ?sa3) (AllFrom.nil))))
      case sa0 =>
        have hc := hF.r.cell
        have HF := Lib.hid hF
        clear hd hm hb hF
        go_simp
        exact hK'.out _ _ _ rfl trivial ⟨rfl, HF.out⟩
      case sa1 =>
        have hc := hF.f.cell
        have HF := Lib.hid hF
        clear hd hm hb hF
        go_simp
        exact hK'.out _ _ _ rfl trivial ⟨rfl, HF.out⟩
      case sa2 =>
        have y0 := hd 0 (by decide) (by kernel_rfl)
        replace y0 : x 15 = .agg #[.int .i64 0, .string ⟨#[]⟩, .int .i64 0, .slice none 0 0] := y0
        have hc := hF.r.cell
        have hf := hF.r.frozen
        have hl := hF.r.lt
        have HF := Lib.hid hF
        clear hd hm hb hF
        go_simp
        exact hK'.out _ _ undef (by simp only [y0]; rfl) trivial HF.out.setR
      case sa3 =>
        have y0 := hd 1 (by decide) (by kernel_rfl)
        replace y0 : x 16 = .agg #[.int .i64 c, .int .i64 a] := y0
        have hc := hF.f.cell
        have hf := hF.f.frozen
        have hl := hF.f.lt
        have HF := Lib.hid hF
        clear hd hm hb hF
        go_simp
        exact hK'.out _ _ undef (by simp only [y0]; rfl) trivial HF.out.setF
    case fina =>
      intro x vs w9 hl hF hk
      have HP9 := Lib.hid hF
      clear hk hl hF
      go_wp2_with fail
      exact ⟨_, results_cc2 rfl _ _ rfl HP9.out.r Tryz.underlying66 rfl (by kernel_rfl) rfl HP9.out.f Tryz.underlying68 rfl (by kernel_rfl), HP9.out.post HQ2.out⟩
end synw
end Go.Proofs.YtpcihajmcejliabGreatDoor
