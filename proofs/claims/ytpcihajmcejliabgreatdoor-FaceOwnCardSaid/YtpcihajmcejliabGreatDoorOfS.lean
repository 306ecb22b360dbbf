/- The walk of syntax.Parse. What the face of a text is, in plain Lean; what a call that tells it comes to. All declarations of a module, as they are taken in: three rows that grow side by side, two maps. -/
import Derived.Test.YtpcihajmcejliabGreatDoorSynK
import Derived.Test.YtpcihajmcejliabGreatDoorSyn3
namespace Go.Proofs.YtpcihajmcejliabGreatDoor
open Go.RowKit
def zeroN : Nd := .mk 0 noText 0 []
def parseR (s : ByteArray) : Nd × Int × Int :=
 if (scanF s.data.toList).2.1 = 0 then
  match prs (20 * (scanF s.data.toList).1.length + 5) .module (tksOf s (scanF s.data.toList).1) with
  | .got x _ => if (weighF 16 x 0).1 = true then (x, 0, (scanF s.data.toList).2.2) else (zeroN, 1, 0)
  | .bad l => (zeroN, 2, posOf s.size l)
  | .out => (zeroN, 0, 0)
 else (zeroN, (scanF s.data.toList).2.1, (scanF s.data.toList).2.2)
namespace synw
def ParsePost (w : World) (R : Nd × Int × Int) (e : Ending) (w' : World) : Prop := Ext w w' ∧ ∃ v, e = .returned (.tuple #[v, .agg #[.int .i64 R.2.1, .int .i64 R.2.2]]) ∧ NdAt w' R.1 v
structure PI (w u : World) (R F : Nat) (a b c d f0 f1 : Value) (x : Nd) : Prop where
 r : Blk u R #[a, b, c, d] 66
 f : Blk u F #[f0, f1] 68
 ext : Ext w u
 nd : NdAt (hide (below (F + 1)) u) x (.agg #[a, b, c, d])
 hR : w.heap.size ≤ R
 hRF : R < F
theorem PI.drew {w u : World} {R F : Nat} {a b c d f0 f1 : Value} {x : Nd} (h : PI w u R F a b c d f0 f1 x) : PI w u.drew R F a b c d f0 f1 x := ⟨h.r.drew, h.f.drew, h.ext.drew, ndAt_chg h.nd (Chg.refl (fun _ => False) u).drew (fun _ h => h.elim), h.hR, h.hRF⟩
theorem PI.setR {w u : World} {R F : Nat} {a b c d f0 f1 : Value} {x : Nd} (h : PI w u R F a b c d f0 f1 x) : PI w ((((u.setCell ⟨R, 0, none⟩ a).setCell ⟨R, 1, none⟩ b).setCell ⟨R, 2, none⟩ c).setCell ⟨R, 3, none⟩ d) R F a b c d f0 f1 x := by
 have h1 := h.hR; have h2 := h.hRF
 have hC : Chg (fun i => i = R) u ((((u.setCell ⟨R, 0, none⟩ a).setCell ⟨R, 1, none⟩ b).setCell ⟨R, 2, none⟩ c).setCell ⟨R, 3, none⟩ d) := chg_set (chg_set (chg_set (chg_set (Chg.refl _ _) 0 a) 1 b) 2 c) 3 d; exact ⟨(((h.r.set 0 a).set 1 b).set 2 c).set 3 d, h.f.chg hC (by omega), h.ext.trans hC (fun i hi e => by omega), ndAt_chg h.nd hC (fun i e => by omega), h1, h2⟩
theorem PI.setF {w u : World} {R F : Nat} {a b c d f0 f1 : Value} {x : Nd} (h : PI w u R F a b c d f0 f1 x) : PI w ((u.setCell ⟨F, 0, none⟩ f0).setCell ⟨F, 1, none⟩ f1) R F a b c d f0 f1 x := by
 have h1 := h.hR; have h2 := h.hRF
 have hC : Chg (fun i => i = F) u ((u.setCell ⟨F, 0, none⟩ f0).setCell ⟨F, 1, none⟩ f1) := chg_set (chg_set (Chg.refl _ _) 0 f0) 1 f1; exact ⟨h.r.chg hC (by omega), (h.f.set 0 f0).set 1 f1, h.ext.trans hC (fun i hi e => by omega), ndAt_chg h.nd hC (fun i e => by omega), h1, h2⟩
theorem PI.post {w u : World} {R F : Nat} {a b c d : Value} {f0 f1 : Int} {x : Nd} {Q : Nd × Int × Int} (h : PI w u R F a b c d (.int .i64 f0) (.int .i64 f1) x) (hQ : Q = (x, f0, f1)) : ParsePost w Q (.returned (.tuple #[.agg #[a, b, c, d], .agg #[.int .i64 f0, .int .i64 f1]])) u := by
 subst hQ; exact ⟨h.ext, _, rfl, ndAt_keeps (keeps_bare _ _) _ _ h.nd⟩
set_option maxRecDepth 100000 in
set_option maxHeartbeats 8000000 in
theorem parse_any (s : ByteArray) (w : World) (hs : s.size ≤ 9223372036854775807) (hv : ErrVar w) (hm : MaxVar w) :
  Calls Tryz.prog 24 #[.string s] w (ParsePost w (parseR s)) := by
 obtain ⟨Q, hQ⟩ : ∃ Q, parseR s = Q := ⟨_, rfl⟩; rw [hQ]; unfold parseR at hQ; obtain ⟨T, hT⟩ : ∃ T, scanF s.data.toList = T := ⟨_, rfl⟩; rw [hT] at hQ; have HTT := Z_ hT; obtain ⟨ts, c, a⟩ := T; simp only at hQ; have HQ := Z_ hQ; obtain ⟨R, hR⟩ : ∃ R, w.heap.size = R := ⟨_, rfl⟩; obtain ⟨F, hF⟩ : ∃ F, R + 1 = F := ⟨_, rfl⟩; have hR0 := (Blk.made w #[.int .i64 0, .string ⟨#[]⟩, .int .i64 0, .slice none 0 0] 66).alloc (.cells #[.int .i64 0, .int .i64 0] 68); have hF0 := Blk.made2 w (.cells #[.int .i64 0, .string ⟨#[]⟩, .int .i64 0, .slice none 0 0] 66) #[.int .i64 0, .int .i64 0] 68; rw [hR] at hR0 hF0; rw [hF] at hF0; have hX0 := ((Chg.refl (fun _ => False) w).alloc (.cells #[.int .i64 0, .string ⟨#[]⟩, .int .i64 0, .slice none 0 0] 66)).alloc (.cells #[.int .i64 0, .int .i64 0] 68); have HC := Z_ (lexTells.scan_all s _ hs (hv.ext hX0) (ts, c, a) (Z_ hT))
 have HM := Z_ (fun (u : World) (hE : Ext w u) => hm.ext hE); have hRF : R < F := by omega
 have HR0 := Z_ hR0; have HF0 := Z_ hF0; have HX0 := Z_ hX0; have hmf : ∀ (fn : Fn) (first cap : Array Value) (w : World), (Instr.makeFunc fn first cap).run Tryz.prog w = .ok (.func fn first cap) w := fun _ _ _ _ => rfl
 clear hv hm hT hQ hR0 hF0 hX0; go_enter_defers Tryz.func24, Tryz.ntmps24
 go_upto_region 1 with (fail)
 try rw [hF]
 generalize (w.alloc (.cells #[.int .i64 0, .string ⟨#[]⟩, .int .i64 0, .slice none 0 0] 66)).alloc (.cells #[.int .i64 0, .int .i64 0] 68) = u0 at *; go_wp2_with fail
 refine HC.out.mono ?_
 rintro e w1 ⟨v, rfl, ho, hE1⟩; have HO := Z_ ho; have hR1 := HR0.out.ext hE1; have hF1 := HF0.out.ext hE1; have hX1 := HX0.out.ext hE1; have hsz1 : F + 1 ≤ w1.heap.size := by have := HF0.out.lt; have := hE1.size; omega
 have hc := hF1.cell; have hf := hF1.frozen; have hl := hF1.lt
 have hPI1 : PI w ((w1.setCell ⟨F, 0, none⟩ (.int .i64 c)).setCell ⟨F, 1, none⟩ (.int .i64 a)) R F (.int .i64 0) (.string ⟨#[]⟩) (.int .i64 0) (.slice none 0 0) (.int .i64 c) (.int .i64 a) zeroN :=
  ⟨(hR1.setOther (p := ⟨F, 0, none⟩) (by show R ≠ F; omega) _).setOther (p := ⟨F, 1, none⟩) (by show R ≠ F; omega) _, (hF1.set 0 _).set 1 _, (hX1.setNew (p := ⟨F, 0, none⟩) (by show w.heap.size ≤ F; omega) _).setNew (p := ⟨F, 1, none⟩) (by show w.heap.size ≤ F; omega) _, ndAt_leaf _ _ _ _ (by decide), by omega, hRF⟩
 have hO2 := ownsRow_set (ownsRow_set ho (p := ⟨F, 0, none⟩) (by intro k hk; have := (World.ownsRow.lt ho k hk).1; have := HF0.out.lt; show k ≠ F; omega) (.int .i64 c)) (p := ⟨F, 1, none⟩) (by intro k hk; have := (World.ownsRow.lt ho k hk).1; have := HF0.out.lt; show k ≠ F; omega) (.int .i64 a); have HO2 := Z_ hO2; have HPI := Z_ hPI1; clear ho hR1 hF1 hX1 hPI1 hO2 hE1 HC HO HR0 HF0 HX0; go_upto_region 2 with (fail)
 clear hc hf hl; have hszw : F + 1 ≤ ((w1.setCell ⟨F, 0, none⟩ (.int .i64 c)).setCell ⟨F, 1, none⟩ (.int .i64 a)).heap.size := by simpa using hsz1
 generalize (w1.setCell ⟨F, 0, none⟩ (.int .i64 c)).setCell ⟨F, 1, none⟩ (.int .i64 a) = u1 at *; clear hsz1; have hc := HPI.out.f.cell; by_cases hc0 : c = 0
 ·subst hc0
  have hQ2 := HQ.out; rw [if_pos rfl] at hQ2; have HQ2 := Z_ hQ2; obtain ⟨hs3, hok, htl⟩ := synk.scan_tks s ts a HTT.out; obtain ⟨ta, tc, rfl, htk⟩ := synk.tks_in HO2.out hok; obtain ⟨NT', hNT⟩ : ∃ q, ts.length = q := ⟨_, rfl⟩; rw [hNT] at htl HO2; have HLT := Z_ hNT; clear hQ2 HQ hok; rw [hNT]; obtain ⟨S, hS⟩ : ∃ S, u1.heap.size = S := ⟨_, rfl⟩
  have hPR : PrAt u1 (u1.alloc (.cells #[.slice ta NT' tc, .int .i64 0, .int .i64 (s.size : Nat)] 154)) S s.size (tksOf s ts) := by
   refine ⟨⟨ta, NT', tc, 0, ?_, by simp [tksOf, hNT], by omega, htk⟩, (Chg.refl _ _).alloc _, by omega⟩
   rw [← hS]; exact Blk.made u1 _ _
  have HN := Z_ (good_all (20 * ts.length + 5) .module _ _ hPR (HM.out u1 HPI.out.ext) rfl trivial (synm.prs_in _ _ _ (by simp [tksOf, NT.rank]))); have hne := synm.prs_in (20 * ts.length + 5) .module (tksOf s ts) (by simp [tksOf, NT.rank]); have HNE := Z_ hne; have hE2 := (Chg.refl (fun _ => False) u1).alloc (.cells #[.slice ta NT' tc, .int .i64 0, .int .i64 (s.size : Nat)] 154); have HR2 := Z_ (HPI.out.r.ext hE2); have HF2 := Z_ (HPI.out.f.ext hE2); have HX2 := Z_ (HPI.out.ext.ext hE2); have hSF : F < S := by omega
  clear hPR hne hE2 htk; rw [hNT] at HN HNE HQ2; go_upto_region 6 with (fail)
  try rw [hS]
  clear hc; generalize u1.alloc (.cells #[.slice ta NT' tc, .int .i64 0, .int .i64 (s.size : Nat)] 154) = u2 at *; go_wp2_with fail
  refine HN.out.mono ?_
  rintro e w3 hr; obtain ⟨hC, ⟨lb, hp, rfl⟩ | ⟨x, lx, v, hp, rfl, hvx, hP⟩⟩ := hr.cases HNE.out
  ·have HQ3 := Z_ (show Q = (zeroN, 2, posOf s.size lb) by have := HQ2.out; rw [hp] at this; exact this.symm)
   have hR3 := HR2.out.chg hC (by omega); have hF3 := HF2.out.chg hC (by omega); have hX3 := HX2.out.trans hC (fun i hi e => by have := HPI.out.ext.size; omega); clear hr hp hC HN; go_wp2_with fail
   refine leaves_cons (f := 84) (args := #[.pointer (some ⟨R, 0, none⟩), .pointer (some ⟨F, 0, none⟩)]) (by simp) (by simp [go_sem]) ?_
   refine (catch_parse R F _ _ _ _ hR3 rfl hF3 rfl (by omega)).mono ?_
   rintro e u' w'' ⟨rfl, rfl, hRz, hFz, hCz⟩; exact ⟨_, results_cc2 rfl _ _ rfl hRz Tryz.underlying66 rfl (by kernel_rfl) rfl hFz Tryz.underlying68 rfl (by kernel_rfl), (⟨hRz, hFz, hX3.trans hCz fun i hi e => by omega, ndAt_leaf _ _ _ _ (by decide), by omega, hRF⟩ : PI w w'' R F _ _ _ _ _ _ zeroN).post HQ3.out⟩
  ·have HQ3 := Z_ (show (if (weighF 16 x 0).1 = true then (x, (0 : Int), (a : Int)) else (zeroN, 1, 0)) = Q by have := HQ2.out; rw [hp] at this; exact this)
   have hR3 := HR2.out.chg hC (by omega); have hF3 := HF2.out.chg hC (by omega); have hX3 := HX2.out.trans hC (fun i hi e => by have := HPI.out.ext.size; omega); have hsz3 := hC.size; have hu2 := hr.1.size; obtain ⟨kx, tx, mx, ax, nx, cx, rfl⟩ := nd_form hvx; have hSu := HPI.out.ext.size; have hFu2 : F + 1 ≤ u2.heap.size := by have := HF2.out.lt; omega
   have hnd3 : NdAt (hide (below (F + 1)) w3) x (.agg #[.int .i64 kx, .string tx, .int .i64 mx, .slice ax nx cx]) := ndAt_low hvx (by omega)
   have hPI3 : PI w ((((w3.setCell ⟨R, 0, none⟩ (.int .i64 kx)).setCell ⟨R, 1, none⟩ (.string tx)).setCell ⟨R, 2, none⟩ (.int .i64 mx)).setCell ⟨R, 3, none⟩ (.slice ax nx cx)) R F (.int .i64 kx) (.string tx) (.int .i64 mx) (.slice ax nx cx) (.int .i64 0) (.int .i64 a) x := by
    have hCC : Chg (fun i => i = R) w3 ((((w3.setCell ⟨R, 0, none⟩ (.int .i64 kx)).setCell ⟨R, 1, none⟩ (.string tx)).setCell ⟨R, 2, none⟩ (.int .i64 mx)).setCell ⟨R, 3, none⟩ (.slice ax nx cx)) := chg_set (chg_set (chg_set (chg_set (Chg.refl _ _) 0 _) 1 _) 2 _) 3 _; exact ⟨(((hR3.set 0 _).set 1 _).set 2 _).set 3 _, hF3.chg hCC (by omega), hX3.trans hCC (fun i hi e => by omega), ndAt_chg hnd3 hCC (fun i e => by omega), by omega, hRF⟩
   have hc := hR3.cell; have hf := hR3.frozen; have hl := hR3.lt; clear hr hp hC HN hvx hnd3 hR3 hF3 hX3 HPI HR2 HF2 HX2; have HPI := Z_ hPI3; clear hPI3; go_upto_region 7 with (fail)
   clear hc hf hl; generalize (((w3.setCell ⟨R, 0, none⟩ (.int .i64 kx)).setCell ⟨R, 1, none⟩ (.string tx)).setCell ⟨R, 2, none⟩ (.int .i64 mx)).setCell ⟨R, 3, none⟩ (.slice ax nx cx) = u4 at *; obtain ⟨M, hM⟩ : ∃ M, u4.heap.size = M := ⟨_, rfl⟩; have hE4 := (Chg.refl (fun _ => False) u4).alloc (.cells #[.int .i64 0] 3); have hFu4 := HPI.out.f.lt
   have hPI4 : PI w (u4.alloc (.cells #[.int .i64 0] 3)) R F (.int .i64 kx) (.string tx) (.int .i64 mx) (.slice ax nx cx) (.int .i64 0) (.int .i64 a) x :=
    ⟨HPI.out.r.ext hE4, HPI.out.f.ext hE4, HPI.out.ext.ext hE4, ndAt_keeps (keeps_chg hE4 fun _ _ h => h.elim) _ _ HPI.out.nd, by omega, hRF⟩
   have hM4 : Blk (u4.alloc (.cells #[.int .i64 0] 3)) M #[.int .i64 (0 : Nat)] 3 := by rw [← hM]; exact Blk.made u4 _ _
   have hnd4 : NdAt (hide (fun i => below (F + 1) i || decide (i = M)) (u4.alloc (.cells #[.int .i64 0] 3))) x (.agg #[.int .i64 kx, .string tx, .int .i64 mx, .slice ax nx cx]) := by
    refine ndAt_keeps (keeps_hide (by simp) fun i hi hm => ?_) _ _ HPI.out.nd
    refine ⟨?_, Below.heap_alloc _ _ _ hi⟩
    rw [hm, Bool.false_or, decide_eq_false_iff_not]; omega
   have HW := Z_ (weigh_any 16 x _ _ M 0 1 _ hnd4 (by simp) hM4 (by decide) (by decide) (by decide)); have hrc := hPI4.r.cell; generalize weighF 16 x 0 = WF at *; clear HPI; have HPI := Z_ hPI4; have hMF : F < M := by omega
   have HND := Z_ hnd4; clear hPI4 hM4 hnd4 hE4; go_upto_region 8 with (fail)
   try rw [hM]
   generalize u4.alloc (.cells #[.int .i64 0] 3) = u5 at *; go_wp2_with fail
   refine HW.out.mono ?_
   rintro e w6 ⟨rfl, hC6, hB6⟩; have hu5 := HPI.out.ext.size
   have hPI6 : PI w w6 R F (.int .i64 kx) (.string tx) (.int .i64 mx) (.slice ax nx cx) (.int .i64 0) (.int .i64 a) x :=
    ⟨HPI.out.r.chg hC6 (by omega), HPI.out.f.chg hC6 (by omega), HPI.out.ext.trans hC6 (fun i hi e => by have := HPI.out.hR; omega), (ndAt_keeps (keeps_hide (Nat.le_refl _) fun i hi hm => ⟨by simp only [Bool.or_eq_false_iff] at hm; exact hm.1, rfl⟩) _ _ (ndAt_keeps (keeps_chg hC6 fun i _ e => by rw [e]; simp) _ _ HND.out)), by omega, hRF⟩
   clear HPI; have HPI := Z_ hPI6; clear hPI6 hC6 hB6 HW hrc; obtain ⟨wb, wm⟩ := WF; cases wb with
   | true =>
    have HQ4 := Z_ (show Q = (x, (0 : Int), (a : Int)) by have := HQ3.out; rw [if_pos rfl] at this; exact this.symm); have hdrop := HND; clear hdrop HND; go_upto_region 10 with (fail)
    refine wp_region_weave [2, 3] (fun i v _ => v = ([.agg #[.int .i64 kx, .string tx, .int .i64 mx, .slice ax nx cx], .agg #[.int .i64 0, .int .i64 a], undef, undef] : List Value).getD i undef) (fun _ u => PI w u R F (.int .i64 kx) (.string tx) (.int .i64 mx) (.slice ax nx cx) (.int .i64 0) (.int .i64 a) x) (fun _ _ => True) (frame := ?frab) (fun x => ?hfab) mixed (by kernel_rfl) (by kernel_rfl) (fun _ _ _ _ h _ => h) ?h0b ?stb ?finb
    case hfab =>
     simp only [chain.frameOf, chain.fill, chain.setOpt, chain.dstOf, List.size_toArray, List.length_cons, List.length_nil, List.getElem?_toArray, List.getElem?_cons_succ, List.getElem?_cons_zero, List.setIfInBounds_toArray, List.set_cons_succ, List.set_cons_zero]; exact rfl
    case h0b => exact HPI.out.drew
    case stb =>
     refine AllFrom.cons (fun x vs u hF hm hb hd K' hK' => ?sb0) (AllFrom.cons (fun x vs u hF hm hb hd K' hK' => ?sb1) (AllFrom.cons (fun x vs u hF hm hb hd K' hK' => ?sb2) (AllFrom.cons (fun x vs u hF hm hb hd K' hK' => ?sb3) (AllFrom.nil))))
     case sb0 =>
      have hc := hF.r.cell; have HF := Z_ hF; clear hd hm hb hF; go_simp; exact hK'.out _ _ _ rfl trivial ⟨rfl, HF.out⟩
     case sb1 =>
      have hc := hF.f.cell; have HF := Z_ hF; clear hd hm hb hF; go_simp; exact hK'.out _ _ _ rfl trivial ⟨rfl, HF.out⟩
     case sb2 =>
      have y0 := hd 0 (by decide) (by kernel_rfl); replace y0 : x 30 = .agg #[.int .i64 kx, .string tx, .int .i64 mx, .slice ax nx cx] := y0; have hc := hF.r.cell; have hf := hF.r.frozen; have hl := hF.r.lt; have HF := Z_ hF; clear hd hm hb hF; go_simp; exact hK'.out _ _ undef (by simp only [y0]; rfl) trivial HF.out.setR
     case sb3 =>
      have y0 := hd 1 (by decide) (by kernel_rfl); replace y0 : x 31 = .agg #[.int .i64 0, .int .i64 a] := y0; have hc := hF.f.cell; have hf := hF.f.frozen; have hl := hF.f.lt; have HF := Z_ hF; clear hd hm hb hF; go_simp; exact hK'.out _ _ undef (by simp only [y0]; rfl) trivial HF.out.setF
    case finb =>
     intro x vs w9 hl hF hk; have HP9 := Z_ hF; clear hk hl hF; go_wp2_with fail
     refine leaves_cons (f := 84) (args := #[.pointer (some ⟨R, 0, none⟩), .pointer (some ⟨F, 0, none⟩)]) (by simp) (by simp [go_sem]) ?_
     refine (idle_parse R F _).mono ?_
     rintro e u' w'' ⟨rfl, rfl, rfl⟩; exact ⟨_, results_cc2 rfl _ _ rfl HP9.out.r Tryz.underlying66 rfl (by kernel_rfl) rfl HP9.out.f Tryz.underlying68 rfl (by kernel_rfl), HP9.out.post HQ4.out⟩
   | false =>
    have HQ4 := Z_ (show Q = (zeroN, 1, 0) by have := HQ3.out; simp only [Bool.false_eq_true, ↓reduceIte] at this; exact this.symm); have hrc := HPI.out.r.cell; have hrf := HPI.out.r.frozen; have hrl := HPI.out.r.lt; have hfc := HPI.out.f.cell; have hff := HPI.out.f.frozen; have hfl := HPI.out.f.lt; have hCR : Chg (fun i => i = R) w6 ((((w6.setCell ⟨R, 0, none⟩ (.int .i64 0)).setCell ⟨R, 1, none⟩ (.string ⟨#[]⟩)).setCell ⟨R, 2, none⟩ (.int .i64 0)).setCell ⟨R, 3, none⟩ (.slice none 0 0)) := chg_set (chg_set (chg_set (chg_set (Chg.refl _ _) 0 _) 1 _) 2 _) 3 _
    have hPZ : PI w ((((w6.setCell ⟨R, 0, none⟩ (.int .i64 0)).setCell ⟨R, 1, none⟩ (.string ⟨#[]⟩)).setCell ⟨R, 2, none⟩ (.int .i64 0)).setCell ⟨R, 3, none⟩ (.slice none 0 0)) R F (.int .i64 0) (.string ⟨#[]⟩) (.int .i64 0) (.slice none 0 0) (.int .i64 0) (.int .i64 a) zeroN :=
     ⟨(((HPI.out.r.set 0 _).set 1 _).set 2 _).set 3 _, HPI.out.f.chg hCR (by omega), HPI.out.ext.trans hCR (fun i hi e => by have := HPI.out.hR; omega), ndAt_leaf _ _ _ _ (by decide), HPI.out.hR, hRF⟩
    have hPZ2 : PI w ((((((w6.setCell ⟨R, 0, none⟩ (.int .i64 0)).setCell ⟨R, 1, none⟩ (.string ⟨#[]⟩)).setCell ⟨R, 2, none⟩ (.int .i64 0)).setCell ⟨R, 3, none⟩ (.slice none 0 0)).setCell ⟨F, 0, none⟩ (.int .i64 1)).setCell ⟨F, 1, none⟩ (.int .i64 0)) R F (.int .i64 0) (.string ⟨#[]⟩) (.int .i64 0) (.slice none 0 0) (.int .i64 1) (.int .i64 0) zeroN :=
     ⟨(hPZ.r.setOther (p := ⟨F, 0, none⟩) (by show R ≠ F; omega) _).setOther (p := ⟨F, 1, none⟩) (by show R ≠ F; omega) _, (hPZ.f.set 0 _).set 1 _, (hPZ.ext.setNew (p := ⟨F, 0, none⟩) (by show w.heap.size ≤ F; have := hPZ.hR; omega) _).setNew (p := ⟨F, 1, none⟩) (by show w.heap.size ≤ F; have := hPZ.hR; omega) _, ndAt_leaf _ _ _ _ (by decide), hPZ.hR, hRF⟩
    have HPZ := Z_ hPZ2; clear hPZ hPZ2 hCR; go_wp2_with fail
    refine leaves_cons (f := 84) (args := #[.pointer (some ⟨R, 0, none⟩), .pointer (some ⟨F, 0, none⟩)]) (by simp) (by simp [go_sem]) ?_
    refine (idle_parse R F _).mono ?_
    rintro e u' w'' ⟨rfl, rfl, rfl⟩; exact ⟨_, results_cc2 rfl _ _ rfl HPZ.out.r Tryz.underlying66 rfl (by kernel_rfl) rfl HPZ.out.f Tryz.underlying68 rfl (by kernel_rfl), HPZ.out.post HQ4.out⟩
 ·have HQ2 := Z_ (show Q = (zeroN, c, (a : Int)) by have := HQ.out; rw [if_neg hc0] at this; exact this.symm)
  have hcn : (c != 0) = true := by simpa using hc0
  clear HQ; go_upto_region 3 with (fail)
  refine wp_region_weave [2, 3] (fun i v _ => v = ([.agg #[.int .i64 0, .string ⟨#[]⟩, .int .i64 0, .slice none 0 0], .agg #[.int .i64 c, .int .i64 a], undef, undef] : List Value).getD i undef) (fun _ u => PI w u R F (.int .i64 0) (.string ⟨#[]⟩) (.int .i64 0) (.slice none 0 0) (.int .i64 c) (.int .i64 a) zeroN) (fun _ _ => True) (frame := ?fraa) (fun x => ?hfaa) mixed (by kernel_rfl) (by kernel_rfl) (fun _ _ _ _ h _ => h) ?h0a ?sta ?fina
  case hfaa =>
   simp only [chain.frameOf, chain.fill, chain.setOpt, chain.dstOf, List.size_toArray, List.length_cons, List.length_nil, List.getElem?_toArray, List.getElem?_cons_succ, List.getElem?_cons_zero, List.setIfInBounds_toArray, List.set_cons_succ, List.set_cons_zero]; exact rfl
  case h0a => exact HPI.out.drew
  case sta =>
   refine AllFrom.cons (fun x vs u hF hm hb hd K' hK' => ?sa0) (AllFrom.cons (fun x vs u hF hm hb hd K' hK' => ?sa1) (AllFrom.cons (fun x vs u hF hm hb hd K' hK' => ?sa2) (AllFrom.cons (fun x vs u hF hm hb hd K' hK' => ?sa3) (AllFrom.nil))))
   case sa0 =>
    have hc := hF.r.cell; have HF := Z_ hF; clear hd hm hb hF; go_simp; exact hK'.out _ _ _ rfl trivial ⟨rfl, HF.out⟩
   case sa1 =>
    have hc := hF.f.cell; have HF := Z_ hF; clear hd hm hb hF; go_simp; exact hK'.out _ _ _ rfl trivial ⟨rfl, HF.out⟩
   case sa2 =>
    have y0 := hd 0 (by decide) (by kernel_rfl); replace y0 : x 15 = .agg #[.int .i64 0, .string ⟨#[]⟩, .int .i64 0, .slice none 0 0] := y0; have hc := hF.r.cell; have hf := hF.r.frozen; have hl := hF.r.lt; have HF := Z_ hF; clear hd hm hb hF; go_simp; exact hK'.out _ _ undef (by simp only [y0]; rfl) trivial HF.out.setR
   case sa3 =>
    have y0 := hd 1 (by decide) (by kernel_rfl); replace y0 : x 16 = .agg #[.int .i64 c, .int .i64 a] := y0; have hc := hF.f.cell; have hf := hF.f.frozen; have hl := hF.f.lt; have HF := Z_ hF; clear hd hm hb hF; go_simp; exact hK'.out _ _ undef (by simp only [y0]; rfl) trivial HF.out.setF
  case fina =>
   intro x vs w9 hl hF hk; have HP9 := Z_ hF; clear hk hl hF; go_wp2_with fail
   exact ⟨_, results_cc2 rfl _ _ rfl HP9.out.r Tryz.underlying66 rfl (by kernel_rfl) rfl HP9.out.f Tryz.underlying68 rfl (by kernel_rfl), HP9.out.post HQ2.out⟩
end synw
end Go.Proofs.YtpcihajmcejliabGreatDoor
namespace Go.Proofs.YtpcihajmcejliabGreatDoor
open Go.RowKit
def openV (all : Bool) (l : List Nd) : List FVar := (varsF l).filter fun v => all || v.pub
def openP (all : Bool) (l : List Nd) : List FProc := (procsF l).filter fun p => all || p.pub
def faceF (all : Bool) (x : Nd) : FFace := ⟨x.tx, openV all x.kids, openP all x.kids⟩
def noFace : FFace := ⟨⟨#[]⟩, [], []⟩
def ofR (s : ByteArray) : FFace × List ByteArray × Int × Int :=
 if (parseR s).2.1 = 0 then
  (if (lookF (parseR s).1.tx (parseR s).1.kids [] [] 1).1 = 0 then (faceF false (parseR s).1, impsF (parseR s).1.kids, 0, 0)
  else (noFace, [], (lookF (parseR s).1.tx (parseR s).1.kids [] [] 1).1, ((lookF (parseR s).1.tx (parseR s).1.kids [] [] 1).2 : Nat)))
 else (noFace, [], (parseR s).2.1, (parseR s).2.2)
namespace ofd
open ofp
def OfPost (w : World) (R : FFace × List ByteArray × Int × Int) (e : Ending) (w' : World) : Prop :=
 Ext w w' ∧ ∃ vF vI, e = .returned (.tuple #[vF, vI, .agg #[.int .i64 R.2.2.1, .int .i64 R.2.2.2]]) ∧ FaceAt w' R.1 vF ∧ RowAt 1 StrIn R.2.1 vI w'
theorem look_ok (m : ByteArray) : ∀ (l : List Nd) (I L : List (List UInt8)) (p : Nat), (lookF m l I L p).1 = 0 → (lookF m l I L p).2 = 0 := by
 intro l; induction l with
 | nil => intro I L p _; rfl
 | cons x r ih =>
  intro I L p h; simp only [lookF] at h ⊢; split
  ·rename_i h1
   rw [if_pos h1] at h; split
   ·rename_i h2; rw [if_pos h2] at h; exact absurd (show (5 : Int) = 0 from h) (by decide)
   ·rename_i h2
    rw [if_neg h2] at h; split
    ·rename_i h3; rw [if_pos h3] at h; exact absurd (show (5 : Int) = 0 from h) (by decide)
    ·rename_i h3
     rw [if_neg h3] at h; split
     ·rename_i h4; rw [if_pos h4] at h; exact absurd (show (1 : Int) = 0 from h) (by decide)
     ·rename_i h4; rw [if_neg h4] at h; exact ih _ _ _ h
  ·rename_i h1
   rw [if_neg h1] at h; split
   ·rename_i h2; rw [if_pos h2] at h; exact absurd (show (5 : Int) = 0 from h) (by decide)
   ·rename_i h2
    rw [if_neg h2] at h; split
    ·rename_i h3; rw [if_pos h3] at h; exact absurd (show (1 : Int) = 0 from h) (by decide)
    ·rename_i h3
     rw [if_neg h3] at h; split
     ·rename_i h4; rw [if_pos h4] at h; exact ih _ _ _ h
     ·rename_i h4; rw [if_neg h4] at h; exact absurd h h4
theorem scanTok_zero : ∀ (f : Nat) (l : List UInt8) (p : Nat) (acc : List Tok), (scanTok f l p acc).2.1 = 0 → (scanTok f l p acc).2.2 = 0 := by
 intro f; induction f with
 | zero => intro l p acc _; rfl
 | succ f ih =>
  intro l p acc h; simp only [scanTok] at h ⊢; split
  ·rename_i h1
   rw [if_pos h1] at h; split
   ·rename_i h2
    rw [if_pos h2] at h; exact ih _ _ _ h
   ·rename_i h2
    rw [if_neg h2] at h; exact absurd h h2
  ·rfl
theorem scan_zero {l : List UInt8} (h : (scanF l).2.1 = 0) : (scanF l).2.2 = 0 := by
 unfold scanF at h ⊢; split
 ·rename_i h1
  rw [if_pos h1] at h
 ·rename_i h1
  rw [if_neg h1] at h; exact scanTok_zero _ _ _ _ h
theorem parse_wf (s : ByteArray) (h : (parseR s).2.1 = 0) : (∀ y ∈ (parseR s).1.kids, DeclOk y) ∧ szF (parseR s).1 ≤ 500 ∧ (parseR s).2.2 = 0 := by
 unfold parseR at h ⊢; obtain ⟨T, hT⟩ : ∃ T, scanF s.data.toList = T := ⟨_, rfl⟩; have hz := scan_zero (l := s.data.toList); rw [hT] at h hz ⊢; obtain ⟨ts, c, a⟩ := T; simp only at h ⊢; by_cases hc : c = 0
 ·subst hc
  obtain ⟨-, hok, -⟩ := synk.scan_tks s ts a hT; rw [if_pos rfl] at h ⊢; cases hp : prs (20 * ts.length + 5) .module (tksOf s ts) with
  | out => rw [hp] at h; exact ⟨fun y hy => (by cases hy), (by decide : szF zeroN ≤ 500), rfl⟩
  | bad l => rw [hp] at h; exact absurd (show (2 : Int) = 0 from h) (by decide)
  | got x r =>
   rw [hp] at h; simp only at h ⊢; by_cases hw : (weighF 16 x 0).1 = true
   ·rw [if_pos hw] at h ⊢
    obtain ⟨m, kids, rfl, hk⟩ := ofm.module_ok _ _ _ _ hok hp; have h2 := ((weigh_law 16 _ 0 (by omega)).1.1 hw).2; exact ⟨hk, by show szF (Nd.mk 1 m 0 kids) ≤ 500; omega, by have : a = 0 := hz rfl; subst this; rfl⟩
   ·rw [if_neg hw] at h
    exact absurd (show (1 : Int) = 0 from h) (by decide)
 ·rw [if_neg hc] at h
  exact absurd h hc
end ofd
end Go.Proofs.YtpcihajmcejliabGreatDoor
namespace Go.Proofs.YtpcihajmcejliabGreatDoor
open Go.RowKit
namespace ofp
theorem grow_away {α : Type} {k : Nat} {E : TypeId} {V : α → Value → World → Prop} {B : Nat} {w w' : World} {row : Value} {acc : List α} (h : Grow k E V B w row acc) (hV : ∀ x u w w', V x u w → V x u w') {S : Nat → Prop} (hC : Chg S w w') (hO : ∀ i, row.ownBlock = some i → ¬ S i) : Grow k E V B w' row acc := by
 obtain ⟨us, h1, ⟨h2, h4⟩, h3⟩ := h.ex; refine ⟨us, h1, ⟨h2, ?_⟩, fun j hj hj' => ⟨hV _ _ _ _ (h3 j hj hj').1, (h3 j hj hj').2⟩⟩
 rcases h4 with h4 | ⟨g, cap, cur, hv, hg, hh, r⟩
 ·exact .inl h4
 ·refine .inr ⟨g, cap, cur, hv, hg, ?_, r⟩
  rw [hC.block g (Array.getElem?_eq_some_iff.1 hh).1 (hO g (by rw [hv]; rfl))]; exact hh
theorem str_any (x : ByteArray) (u : Value) (w w' : World) (h : OStr x u w) : OStr x u w' := h
theorem var_any (x : FVar) (u : Value) (w w' : World) (h : OVar x u w) : OVar x u w' := h
theorem grow_x {α : Type} {k : Nat} {E : TypeId} {V : α → Value → World → Prop} {B : Nat} {w : World} {row : Value} {acc : List α} (h : Grow k E V B w row acc) (hV : ∀ x u w w', V x u w → V x u w') (X : Nat → Bool) : GrowX X k E V B w row acc := by
 obtain ⟨us, h1, h2, h3⟩ := h.ex; exact ⟨us, h1, h2, fun j hj hj' => ⟨hV _ _ _ _ (h3 j hj hj').1, (h3 j hj hj').2⟩⟩
theorem x_grow {α : Type} {X : Nat → Bool} {k : Nat} {E : TypeId} {V : α → Value → World → Prop} {B : Nat} {w : World} {row : Value} {acc : List α} (h : GrowX X k E V B w row acc) (hV : ∀ x u w w', V x u w → V x u w') : Grow k E V B w row acc := by
 obtain ⟨us, h1, h2, h3⟩ := h.ex; exact ⟨us, h1, h2, fun j hj hj' => ⟨hV _ _ _ _ (h3 j hj hj').1, (h3 j hj hj').2⟩⟩
structure Three (B : Nat) (u : World) (rv rp ri : Value) (vs : List FVar) (ps : List FProc) (is : List ByteArray) : Prop where
 gv : Grow 4 82 OVar B u rv vs
 gi : Grow 1 9 OStr B u ri is
 gp : GrowX (fun i => ownB rv i || ownB ri i) 6 179 OProc B u rp ps
 vp : ∀ i, rv.ownBlock = some i → rp.ownBlock ≠ some i
 vi : ∀ i, rv.ownBlock = some i → ri.ownBlock ≠ some i
 pi : ∀ i, rp.ownBlock = some i → ri.ownBlock ≠ some i
theorem Three.nil (B : Nat) (u : World) : Three B u (.slice none 0 0) (.slice none 0 0) (.slice none 0 0) [] [] [] :=
 ⟨Grow.nil _ _ _ _ _, Grow.nil _ _ _ _ _, growx_nil _ _ _ _ _ _, fun i e => (by cases e), fun i e => (by cases e), fun i e => (by cases e)⟩
theorem Three.chg {B : Nat} {u u' : World} {rv rp ri : Value} {vs : List FVar} {ps : List FProc} {is : List ByteArray} (h : Three B u rv rp ri vs ps is) {S : Nat → Prop} (hC : Chg S u u') (hS : ∀ i, S i → i < B) : Three B u' rv rp ri vs ps is :=
 ⟨h.gv.chg var_keeps hC hS, h.gi.chg str_keeps hC hS, growx_chg h.gp proc_keeps hC (fun i hi => .inl (hS i hi)) (fun i e hs => by have := growx_own h.gp i e; have := hS i hs; omega) (fun i e => .inl e), h.vp, h.vi, h.pi⟩
theorem Three.ext {B : Nat} {u u' : World} {rv rp ri : Value} {vs : List FVar} {ps : List FProc} {is : List ByteArray} (h : Three B u rv rp ri vs ps is) (hE : Ext u u') : Three B u' rv rp ri vs ps is := h.chg hE fun _ e => e.elim
theorem Three.pushV {B : Nat} {u u' : World} {rv rp ri r : Value} {vs vs' : List FVar} {ps : List FProc} {is : List ByteArray} (h : Three B u rv rp ri vs ps is) (hG : Grow 4 82 OVar B u' r vs') (hC : Chg (fun i => rv.ownBlock = some i) u u') (ha : ∀ i, r.ownBlock = some i → rv.ownBlock = some i ∨ u.heap.size ≤ i) : Three B u' r rp ri vs' ps is := by
 refine ⟨hG, grow_away h.gi str_any hC (fun i hi hs => h.vi i hs hi), growx_chg h.gp proc_keeps hC (fun i hi => .inr (by simp [ownB, hi])) (fun i e hs => h.vp i hs e) (fun i e => ?_), fun i hi e => ?_, fun i hi e => ?_, h.pi⟩
 ·simp only [Bool.or_eq_true, ownB, decide_eq_true_eq] at e ⊢
  rcases e with e | e
  ·rcases ha i e with e | e
   ·exact .inl (.inl e)
   ·exact .inr e
  ·exact .inl (.inr e)
 ·rcases ha i hi with h1 | h1
  ·exact h.vp i h1 e
  ·have := growx_own h.gp i e; omega
 ·rcases ha i hi with h1 | h1
  ·exact h.vi i h1 e
  ·have := grow_own h.gi i e; omega
theorem Three.pushP {B : Nat} {u u' : World} {rv rp ri r : Value} {vs : List FVar} {ps ps' : List FProc} {is : List ByteArray} (h : Three B u rv rp ri vs ps is) (hG : GrowX (fun i => ownB rv i || ownB ri i) 6 179 OProc B u' r ps') (hC : Chg (fun i => rp.ownBlock = some i) u u') (ha : ∀ i, r.ownBlock = some i → rp.ownBlock = some i ∨ u.heap.size ≤ i) : Three B u' rv r ri vs ps' is := by
 refine ⟨grow_away h.gv var_any hC (fun i hi hs => h.vp i hi hs), grow_away h.gi str_any hC (fun i hi hs => h.pi i hs hi), hG, fun i hi e => ?_, h.vi, fun i hi e => ?_⟩
 ·rcases ha i e with h1 | h1
  ·exact h.vp i hi h1
  ·have := grow_own h.gv i hi; omega
 ·rcases ha i hi with h1 | h1
  ·exact h.pi i h1 e
  ·have := grow_own h.gi i e; omega
theorem Three.pushI {B : Nat} {u u' : World} {rv rp ri r : Value} {vs : List FVar} {ps : List FProc} {is is' : List ByteArray} (h : Three B u rv rp ri vs ps is) (hG : Grow 1 9 OStr B u' r is') (hC : Chg (fun i => ri.ownBlock = some i) u u') (ha : ∀ i, r.ownBlock = some i → ri.ownBlock = some i ∨ u.heap.size ≤ i) : Three B u' rv rp r vs ps is' := by
 refine ⟨grow_away h.gv var_any hC (fun i hi hs => h.vi i hi hs), hG, growx_chg h.gp proc_keeps hC (fun i hi => .inr (by simp [ownB, hi])) (fun i e hs => h.pi i e hs) (fun i e => ?_), h.vp, fun i hi e => ?_, fun i hi e => ?_⟩
 ·simp only [Bool.or_eq_true, ownB, decide_eq_true_eq] at e ⊢
  rcases e with e | e
  ·exact .inl (.inl e)
  ·rcases ha i e with e | e
   ·exact .inl (.inr e)
   ·exact .inr e
 ·rcases ha i e with h1 | h1
  ·exact h.vi i hi h1
  ·have := grow_own h.gv i hi; omega
 ·rcases ha i e with h1 | h1
  ·exact h.pi i hi h1
  ·have := growx_own h.gp i hi; omega
def PushX {α : Type} (B : World → Value → Value → List α → Prop) (X : Nat → Bool) (V : α → Value → World → Prop) (base : Nat) (T : TypeId) (row : Value) (acc : List α) (x : α) (v : Value) : List Value → World → Prop
 | [], u => B u row row acc ∧ V x v (hide (fun i => rowHid base row i || X i) u)
 | [s], u => B u row row acc ∧ V x v (hide (fun i => rowHid base row i || X i) u) ∧ ∃ g, s = .slice (some ⟨g, 0, none⟩) 1 1 ∧ Blk u g v.cells T ∧ row.ownBlock ≠ some g
 | [_, r], u => B u row r (acc ++ [x]) ∧ ∃ g c, r = .slice (some ⟨g, 0, none⟩) (acc.length + 1) c
 | [_, r, _], u => B u r r (acc ++ [x])
 | _, _ => False
theorem PushX.B {α : Type} {B : World → Value → Value → List α → Prop} {X : Nat → Bool} {V : α → Value → World → Prop} {base : Nat} {T : TypeId} {row : Value} {acc : List α} {x : α} {v : Value} {vs : List Value} {u : World} (h : PushX B X V base T row acc x v vs u) (hv : vs.length ≤ 1) : B u row row acc := by
 match vs, hv, h with
 | [], _, h => exact h.1
 | [_], _, h => exact h.1
theorem PushX.any {α : Type} {B : World → Value → Value → List α → Prop} {X : Nat → Bool} {V : α → Value → World → Prop} {base : Nat} {T : TypeId} {row : Value} {acc : List α} {x : α} {v : Value} {vs : List Value} {u : World} (h : PushX B X V base T row acc x v vs u) : ∃ rN r l, B u rN r l := by
 match vs, h with
 | [], h => exact ⟨_, _, _, h.1⟩
 | [_], h => exact ⟨_, _, _, h.1⟩
 | [_, _], h => exact ⟨_, _, _, h.1⟩
 | [_, _, _], h => exact ⟨_, _, _, h⟩
theorem pushx_slice {α : Type} {B : World → Value → Value → List α → Prop} {X : Nat → Bool} {V : α → Value → World → Prop} {base : Nat} {T : TypeId} {row : Value} {acc : List α} {x : α} {v : Value} {u : World} (hV : ∀ x u w w', Keeps w w' → V x u w → V x u w') (hE : ∀ u', Ext u u' → B u' row row acc)
  (hown : ∀ i, row.ownBlock = some i → i < u.heap.size) (h : PushX B X V base T row acc x v [] u) {c : Array Value} (hc : v.cells = c) : PushX B X V base T row acc x v [.slice (some ⟨u.heap.size, 0, none⟩) 1 1] (u.alloc (.cells c T)) := by
 have hX := (Chg.refl (fun _ => False) u).alloc (.cells c T); exact ⟨hE _ hX, hV _ _ _ _ (keeps_chg hX fun _ _ h => h.elim) h.2, _, rfl, by rw [hc]; exact Blk.made _ _ _, fun e => by have := hown _ e; omega⟩
theorem pushx_append {α : Type} {B : World → Value → Value → List α → Prop} {X : Nat → Bool} {V : α → Value → World → Prop} {base k : Nat} {T : TypeId} {row : Value} {acc : List α} {x : α} {v s : Value} {u u' : World} {us : List Value} (hV : ∀ x u w w', Keeps w w' → V x u w → V x u w')
  (h : PushX B X V base T row acc x v [s] u) (hus : us.length = acc.length) (hu3 : ∀ j (h : j < acc.length) (h' : j < us.length), V acc[j] us[j] (hide (fun i => rowHid base row i || X i) u) ∧ us[j].cells.size = k) (hk : v.cells.size = k) {g c : Nat}
  (hM : ∀ r acc1, GrowX X k T V base u' r acc1 → Chg (fun i => row.ownBlock = some i) u u' → (∀ i, r.ownBlock = some i → row.ownBlock = some i ∨ u.heap.size ≤ i) → B u' row r acc1)
  (ho : u'.ownsRow base T k (.slice (some ⟨g, 0, none⟩) (acc.length + 1) c) (acc.length + 1) (us.flatMap (fun u => u.cells.toList) ++ v.cells.toList)) (hg : u.grownBy u' row.ownBlock) (ha : row.ownBlock = some g ∨ g = u.heap.size) :
  PushX B X V base T row acc x v [s, .slice (some ⟨g, 0, none⟩) (acc.length + 1) c] u' := by
 have hC := grown_own hg
 have hgo : ∀ i, (Value.slice (some ⟨g, 0, none⟩) (acc.length + 1) c).ownBlock = some i → row.ownBlock = some i ∨ u.heap.size ≤ i := fun i e => by
  have : g = i := by simpa [Value.ownBlock] using e
  subst this; rcases ha with ha | ha
  ·exact .inl ha
  ·exact .inr (by omega)
 have hK : Keeps (hide (fun i => rowHid base row i || X i) u) (hide (fun i => rowHid base (.slice (some ⟨g, 0, none⟩) (acc.length + 1) c) i || X i) u') := keeps_hide hC.size fun i hi hm => by
  simp only [Bool.or_eq_false_iff, rowHid, decide_eq_false_iff_not] at hm ⊢; refine ⟨⟨⟨hm.1.1, fun e => ?_⟩, hm.2⟩, hC.block i hi hm.1.2⟩
  rcases hgo i e with h | h
  ·exact hm.1.2 h
  ·omega
 refine ⟨hM _ _ ⟨us ++ [v], by simp [hus], by simpa using ho, fun j hj hj' => ?_⟩ hC hgo, g, c, rfl⟩
 by_cases hl : j < acc.length
 ·have hl' : j < us.length := by omega
  rw [List.getElem_append_left hl, List.getElem_append_left hl']; obtain ⟨h4, h5⟩ := hu3 j hl hl'; exact ⟨hV _ _ _ _ hK h4, h5⟩
 ·rw [List.length_append, List.length_singleton] at hj
  obtain rfl : j = acc.length := by omega
  rw [List.getElem_append_right (Nat.le_refl _), List.getElem_append_right (by omega)]; simp only [Nat.sub_self, hus, List.getElem_singleton]; exact ⟨hV _ _ _ _ hK h.2.1, hk⟩
theorem pushx_store {α : Type} {B : World → Value → Value → List α → Prop} {X : Nat → Bool} {V : α → Value → World → Prop} {base : Nat} {T : TypeId} {row : Value} {acc : List α} {x : α} {v s r z : Value} {u u' : World} (h : PushX B X V base T row acc x v [s, r] u) (hS : B u row r (acc ++ [x]) → B u' r r (acc ++ [x])) :
  PushX B X V base T row acc x v [s, r, z] u' := hS h.1
end ofp
structure DS (w u : World) (D Mn Ma B : Nat) (m : ByteArray) (n0 n1 n2 n3 rvN rpN riN rv rp ri : Value) (vs : List FVar) (ps : List FProc) (is : List ByteArray) (L A : List (ByteArray × Int)) : Prop where
 ext : Ext w u
 d : Blk u D #[.string m, rvN, rpN, n0, n1, n2, n3, riN, .map (some Ma)] 175
 nm : ofmap.WMap u Mn L
 am : ofmap.WMap u Ma A
 rows : ofp.Three B u rv rp ri vs ps is
 hD : w.heap.size ≤ D
 hM : w.heap.size ≤ Mn
 hA : w.heap.size ≤ Ma
 dDB : D < B
 mnB : Mn < B
 maB : Ma < B
 dM : D ≠ Mn
 dA : D ≠ Ma
 mA : Mn ≠ Ma
 hu : B ≤ u.heap.size
open ofp synw
theorem DS.extend {w u u' : World} {D Mn Ma B : Nat} {m : ByteArray} {n0 n1 n2 n3 rvN rpN riN rv rp ri : Value} {vs : List FVar} {ps : List FProc} {is : List ByteArray} {L A : List (ByteArray × Int)} (h : DS w u D Mn Ma B m n0 n1 n2 n3 rvN rpN riN rv rp ri vs ps is L A) (hE : Ext u u') : DS w u' D Mn Ma B m n0 n1 n2 n3 rvN rpN riN rv rp ri vs ps is L A :=
 ⟨h.ext.ext hE, h.d.ext hE, h.nm.chg hE id, h.am.chg hE id, h.rows.ext hE, h.hD, h.hM, h.hA, h.dDB, h.mnB, h.maB, h.dM, h.dA, h.mA, Nat.le_trans h.hu hE.size⟩
theorem DS.turn {w u u' : World} {D Mn Ma B : Nat} {m : ByteArray} {n0 n1 n2 n3 rvN rpN riN rv rp ri rv2 rp2 ri2 : Value} {vs vs2 : List FVar} {ps ps2 : List FProc} {is is2 : List ByteArray} {L A : List (ByteArray × Int)} (h : DS w u D Mn Ma B m n0 n1 n2 n3 rvN rpN riN rv rp ri vs ps is L A) {S : Nat → Prop} (hC : Chg S u u') (hS : ∀ i, S i → B ≤ i) (h2 : Three B u' rv2 rp2 ri2 vs2 ps2 is2) : DS w u' D Mn Ma B m n0 n1 n2 n3 rvN rpN riN rv2 rp2 ri2 vs2 ps2 is2 L A := by
 have h3 := h.hD; have h4 := h.hM; have h5 := h.hA; have h6 := h.dDB; have h7 := h.mnB; have h8 := h.maB
 exact ⟨h.ext.trans hC (fun i hi e => by have := hS i e; omega), h.d.chg hC (fun e => by have := hS _ e; omega), h.nm.chg hC (fun e => by have := hS _ e; omega), h.am.chg hC (fun e => by have := hS _ e; omega), h2, h3, h4, h5, h6, h7, h8, h.dM, h.dA, h.mA, Nat.le_trans h.hu hC.size⟩
theorem DS.putV {w u : World} {D Mn Ma B : Nat} {m : ByteArray} {n0 n1 n2 n3 rvN rpN riN rv rp ri : Value} {vs : List FVar} {ps : List FProc} {is : List ByteArray} {L A : List (ByteArray × Int)} (h : DS w u D Mn Ma B m n0 n1 n2 n3 rvN rpN riN rv rp ri vs ps is L A) : DS w (u.setCell ⟨D, 1, none⟩ rv) D Mn Ma B m n0 n1 n2 n3 rv rpN riN rv rp ri vs ps is L A := by
 have h3 := h.hD; have h4 := h.dM; have h5 := h.dA; have h6 := h.dDB
 have hC := chg_set (S := D) (Chg.refl _ u) 1 rv; exact ⟨h.ext.trans hC (fun i hi e => by omega), by have := h.d.set 1 rv; exact this, h.nm.chg hC (fun e => h4 e.symm), h.am.chg hC (fun e => h5 e.symm), h.rows.chg hC (fun i e => by omega), h3, h.hM, h.hA, h6, h.mnB, h.maB, h4, h5, h.mA, Nat.le_trans h.hu hC.size⟩
theorem DS.putP {w u : World} {D Mn Ma B : Nat} {m : ByteArray} {n0 n1 n2 n3 rvN rpN riN rv rp ri : Value} {vs : List FVar} {ps : List FProc} {is : List ByteArray} {L A : List (ByteArray × Int)} (h : DS w u D Mn Ma B m n0 n1 n2 n3 rvN rpN riN rv rp ri vs ps is L A) : DS w (u.setCell ⟨D, 2, none⟩ rp) D Mn Ma B m n0 n1 n2 n3 rvN rp riN rv rp ri vs ps is L A := by
 have h3 := h.hD; have h4 := h.dM; have h5 := h.dA; have h6 := h.dDB
 have hC := chg_set (S := D) (Chg.refl _ u) 2 rp; exact ⟨h.ext.trans hC (fun i hi e => by omega), by have := h.d.set 2 rp; exact this, h.nm.chg hC (fun e => h4 e.symm), h.am.chg hC (fun e => h5 e.symm), h.rows.chg hC (fun i e => by omega), h3, h.hM, h.hA, h6, h.mnB, h.maB, h4, h5, h.mA, Nat.le_trans h.hu hC.size⟩
theorem DS.putI {w u : World} {D Mn Ma B : Nat} {m : ByteArray} {n0 n1 n2 n3 rvN rpN riN rv rp ri : Value} {vs : List FVar} {ps : List FProc} {is : List ByteArray} {L A : List (ByteArray × Int)} (h : DS w u D Mn Ma B m n0 n1 n2 n3 rvN rpN riN rv rp ri vs ps is L A) : DS w (u.setCell ⟨D, 7, none⟩ ri) D Mn Ma B m n0 n1 n2 n3 rvN rpN ri rv rp ri vs ps is L A := by
 have h3 := h.hD; have h4 := h.dM; have h5 := h.dA; have h6 := h.dDB
 have hC := chg_set (S := D) (Chg.refl _ u) 7 ri; exact ⟨h.ext.trans hC (fun i hi e => by omega), by have := h.d.set 7 ri; exact this, h.nm.chg hC (fun e => h4 e.symm), h.am.chg hC (fun e => h5 e.symm), h.rows.chg hC (fun i e => by omega), h3, h.hM, h.hA, h6, h.mnB, h.maB, h4, h5, h.mA, Nat.le_trans h.hu hC.size⟩
theorem grown_at {w w' : World} {b : Nat} (h : w.grownBy w' (some b)) : Chg (fun i => i = b) w w' :=
 ⟨h.os, h.tape, h.output, h.size, fun k hk hn => h.block k hk (fun e => hn (by cases e; rfl))⟩
theorem DS.name {w u u' : World} {D Mn Ma B : Nat} {m : ByteArray} {n0 n1 n2 n3 rvN rpN riN rv rp ri : Value} {vs : List FVar} {ps : List FProc} {is : List ByteArray} {L L2 A : List (ByteArray × Int)} (h : DS w u D Mn Ma B m n0 n1 n2 n3 rvN rpN riN rv rp ri vs ps is L A) (hg : u.grownBy u' (some Mn)) (hm : ofmap.WMap u' Mn L2) : DS w u' D Mn Ma B m n0 n1 n2 n3 rvN rpN riN rv rp ri vs ps is L2 A := by
 have hC := grown_at hg; have h4 := h.hM; have h7 := h.mnB; have h8 := h.mA
 exact ⟨h.ext.trans hC (fun i hi e => by omega), h.d.chg hC h.dM, hm, h.am.chg hC (fun e => h8 e.symm), h.rows.chg hC (fun i e => by omega), h.hD, h4, h.hA, h.dDB, h7, h.maB, h.dM, h.dA, h8, Nat.le_trans h.hu hC.size⟩
theorem DS.imp {w u u' : World} {D Mn Ma B : Nat} {m : ByteArray} {n0 n1 n2 n3 rvN rpN riN rv rp ri : Value} {vs : List FVar} {ps : List FProc} {is : List ByteArray} {L A A2 : List (ByteArray × Int)} (h : DS w u D Mn Ma B m n0 n1 n2 n3 rvN rpN riN rv rp ri vs ps is L A) (hg : u.grownBy u' (some Ma)) (hm : ofmap.WMap u' Ma A2) : DS w u' D Mn Ma B m n0 n1 n2 n3 rvN rpN riN rv rp ri vs ps is L A2 := by
 have hC := grown_at hg; have h4 := h.hA; have h7 := h.maB; have h8 := h.mA
 exact ⟨h.ext.trans hC (fun i hi e => by omega), h.d.chg hC h.dA, h.nm.chg hC h8, hm, h.rows.chg hC (fun i e => by omega), h.hD, h.hM, h4, h.dDB, h.mnB, h7, h.dM, h.dA, h8, Nat.le_trans h.hu hC.size⟩
end Go.Proofs.YtpcihajmcejliabGreatDoor
