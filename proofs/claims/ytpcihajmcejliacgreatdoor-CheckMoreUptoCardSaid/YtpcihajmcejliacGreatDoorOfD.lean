/- The walk of syntax.Parse. What form a node has that a text is read as, in plain Lean. How many nodes one has: the program's weight and the reference's Weight. A row in a cell grows by one, in a region that draws its order: what is known on the way. Two rows that grow side by side: variables, and procedures whose parameters lie in rows of their own. What the face of a text is, in plain Lean; what a call that tells it comes to. -/
import Derived.Deep.CutBlock
import Derived.Deep.DeepCutAuto
import Derived.Deep.LoopGhost
import Derived.Deep.AppendLies
import Derived.Test.YtpcihajmcejliacGreatDoorSynK
import Derived.Test.YtpcihajmcejliacGreatDoorSyn3
import Derived.Test.YtpcihajmcejliacGreatDoorSynC
namespace Go.Proofs.YtpcihajmcejliacGreatDoor
open Go.RowKit
def zeroN : Nd := .mk 0 noText 0 []
def parseR (s : ByteArray) : Nd × Int × Int :=
 if (scanF s.data.toList).2.1 = 0 then
  match prs (20 * (scanF s.data.toList).1.length + 5) .module (tksOf s (scanF s.data.toList).1) with
  | .got x _ => if (weighF 16 x 0).1 = true then (x, 0, (scanF s.data.toList).2.2) else (zeroN, 1, 0)
  | .bad l => (zeroN, 2, posOf s.size l)
  | .out => (zeroN, 0, 0)
 else (zeroN, (scanF s.data.toList).2.1, (scanF s.data.toList).2.2)
namespace synw
def ParsePostX (w : World) (R : Nd × Int × Int) (e : Ending) (w' : World) : Prop := Ext w w' ∧ ∃ v, e = .returned (.tuple #[v, .agg #[.int .i64 R.2.1, .int .i64 R.2.2]]) ∧ NdAt (hide (below w.heap.size) w') R.1 v
structure PI (w u : World) (R F : Nat) (a b c d f0 f1 : Value) (x : Nd) : Prop where
 r : Blk u R #[a, b, c, d] 24
 f : Blk u F #[f0, f1] 27
 ext : Ext w u
 nd : NdAt (hide (below (F + 1)) u) x (.agg #[a, b, c, d])
 hR : w.heap.size ≤ R
 hRF : R < F
theorem PI.drew {w u : World} {R F : Nat} {a b c d f0 f1 : Value} {x : Nd} (h : PI w u R F a b c d f0 f1 x) : PI w u.drew R F a b c d f0 f1 x := ⟨h.r.drew, h.f.drew, h.ext.drew, ndAt_chg h.nd (Chg.refl (fun _ => False) u).drew (fun _ h => h.elim), h.hR, h.hRF⟩
theorem PI.setR {w u : World} {R F : Nat} {a b c d f0 f1 : Value} {x : Nd} (h : PI w u R F a b c d f0 f1 x) : PI w ((((u.setCell ⟨R, 0, none⟩ a).setCell ⟨R, 1, none⟩ b).setCell ⟨R, 2, none⟩ c).setCell ⟨R, 3, none⟩ d) R F a b c d f0 f1 x := by
 have h1 := h.hR; have h2 := h.hRF
 have hC : Chg (fun i => i = R) u ((((u.setCell ⟨R, 0, none⟩ a).setCell ⟨R, 1, none⟩ b).setCell ⟨R, 2, none⟩ c).setCell ⟨R, 3, none⟩ d) := chg_set (chg_set (chg_set (chg_set (Chg.refl _ _) 0 a) 1 b) 2 c) 3 d; exact ⟨(((h.r.set 0 a).set 1 b).set 2 c).set 3 d, h.f.chg hC (by omega), h.ext.trans hC (fun i hi e => by omega), ndAt_chg h.nd hC (fun i e => by omega), h1, h2⟩
theorem PI.setF {w u : World} {R F : Nat} {a b c d f0 f1 : Value} {x : Nd} (h : PI w u R F a b c d f0 f1 x) : PI w ((u.setCell ⟨F, 0, none⟩ f0).setCell ⟨F, 1, none⟩ f1) R F a b c d f0 f1 x := by
 have h1 := h.hR; have h2 := h.hRF
 have hC : Chg (fun i => i = F) u ((u.setCell ⟨F, 0, none⟩ f0).setCell ⟨F, 1, none⟩ f1) := chg_set (chg_set (Chg.refl _ _) 0 f0) 1 f1; exact ⟨h.r.chg hC (by omega), (h.f.set 0 f0).set 1 f1, h.ext.trans hC (fun i hi e => by omega), ndAt_chg h.nd hC (fun i e => by omega), h1, h2⟩
theorem PI.post {w u : World} {R F : Nat} {a b c d : Value} {f0 f1 : Int} {x : Nd} {Q : Nd × Int × Int} (h : PI w u R F a b c d (.int .i64 f0) (.int .i64 f1) x) (hQ : Q = (x, f0, f1)) : ParsePostX w Q (.returned (.tuple #[.agg #[a, b, c, d], .agg #[.int .i64 f0, .int .i64 f1]])) u := by
 subst hQ; have h1 := h.hR; have h2 := h.hRF
 exact ⟨h.ext, _, rfl, ndAt_keeps (keeps_hide (Nat.le_refl _) fun i hi hm => ⟨by simp [below] at hm ⊢; omega, rfl⟩) _ _ h.nd⟩
set_option maxRecDepth 100000 in
set_option maxHeartbeats 8000000 in
theorem parse_anyX (s : ByteArray) (w : World) (hs : s.size ≤ 9223372036854775807) (hv : ErrVar w) (hm : MaxVar w) :
  Calls Tryz.prog 15 #[.string s] w (ParsePostX w (parseR s)) := by
 obtain ⟨Q, hQ⟩ : ∃ Q, parseR s = Q := ⟨_, rfl⟩; rw [hQ]; unfold parseR at hQ; obtain ⟨T, hT⟩ : ∃ T, scanF s.data.toList = T := ⟨_, rfl⟩; rw [hT] at hQ; have HTT := Z_ hT; obtain ⟨ts, c, a⟩ := T; simp only at hQ; have HQ := Z_ hQ; obtain ⟨R, hR⟩ : ∃ R, w.heap.size = R := ⟨_, rfl⟩; obtain ⟨F, hF⟩ : ∃ F, R + 1 = F := ⟨_, rfl⟩; have hR0 := (Blk.made w #[.int .i64 0, .string ⟨#[]⟩, .int .i64 0, .slice none 0 0] 24).alloc (.cells #[.int .i64 0, .int .i64 0] 27); have hF0 := Blk.made2 w (.cells #[.int .i64 0, .string ⟨#[]⟩, .int .i64 0, .slice none 0 0] 24) #[.int .i64 0, .int .i64 0] 27; rw [hR] at hR0 hF0; rw [hF] at hF0; have hX0 := ((Chg.refl (fun _ => False) w).alloc (.cells #[.int .i64 0, .string ⟨#[]⟩, .int .i64 0, .slice none 0 0] 24)).alloc (.cells #[.int .i64 0, .int .i64 0] 27); have HC := Z_ (lexTells.scan_all s _ hs (hv.ext hX0) (ts, c, a) (Z_ hT))
 have HM := Z_ (fun (u : World) (hE : Ext w u) => hm.ext hE); have hRF : R < F := by omega
 have HR0 := Z_ hR0; have HF0 := Z_ hF0; have HX0 := Z_ hX0; have hmf : ∀ (fn : Fn) (first cap : Array Value) (w : World), (Instr.makeFunc fn first cap).run Tryz.prog w = .ok (.func fn first cap) w := fun _ _ _ _ => rfl
 clear hv hm hT hQ hR0 hF0 hX0; go_enter_defers Tryz.func15, Tryz.ntmps15
 go_upto_region 1 with (fail)
 try rw [hF]
 generalize (w.alloc (.cells #[.int .i64 0, .string ⟨#[]⟩, .int .i64 0, .slice none 0 0] 24)).alloc (.cells #[.int .i64 0, .int .i64 0] 27) = u0 at *; go_wp2_with fail
 refine HC.out.mono ?_
 rintro e w1 ⟨v, rfl, ho, hE1⟩; have HO := Z_ ho; have hR1 := HR0.out.ext hE1; have hF1 := HF0.out.ext hE1; have hX1 := HX0.out.ext hE1; have hsz1 : F + 1 ≤ w1.heap.size := by have := HF0.out.lt; have := hE1.size; omega
 have hc := hF1.cell; have hf := hF1.frozen; have hl := hF1.lt
 have hPI1 : PI w ((w1.setCell ⟨F, 0, none⟩ (.int .i64 c)).setCell ⟨F, 1, none⟩ (.int .i64 a)) R F (.int .i64 0) (.string ⟨#[]⟩) (.int .i64 0) (.slice none 0 0) (.int .i64 c) (.int .i64 a) zeroN :=
  ⟨(hR1.setOther (p := ⟨F, 0, none⟩) (by show R ≠ F; omega) _).setOther (p := ⟨F, 1, none⟩) (by show R ≠ F; omega) _, (hF1.set 0 _).set 1 _, (hX1.setNew (p := ⟨F, 0, none⟩) (by show w.heap.size ≤ F; omega) _).setNew (p := ⟨F, 1, none⟩) (by show w.heap.size ≤ F; omega) _, ndAt_leaf _ _ _ _ (by decide), by omega, hRF⟩
 have hO2 := ownsRow_set (ownsRow_set ho (p := ⟨F, 0, none⟩) (by intro k hk; have := (World.ownsRow.lt ho k hk).1; have := HF0.out.lt; show k ≠ F; omega) (.int .i64 c)) (p := ⟨F, 1, none⟩) (by intro k hk; have := (World.ownsRow.lt ho k hk).1; have := HF0.out.lt; show k ≠ F; omega) (.int .i64 a); have HO2 := Z_ hO2; have HPI := Z_ hPI1; clear ho hR1 hF1 hX1 hPI1 hO2 hE1 HC HO HR0 HF0 HX0; go_upto_region 2 with (fail)
 clear hc hf hl; have hszw : F + 1 ≤ ((w1.setCell ⟨F, 0, none⟩ (.int .i64 c)).setCell ⟨F, 1, none⟩ (.int .i64 a)).heap.size := by simpa using hsz1
 generalize (w1.setCell ⟨F, 0, none⟩ (.int .i64 c)).setCell ⟨F, 1, none⟩ (.int .i64 a) = u1 at *; clear hsz1; have hc := HPI.out.f.cell; by_cases hc0 : c = 0
 ·subst hc0
  have hQ2 := HQ.out; rw [if_pos rfl] at hQ2; have HQ2 := Z_ hQ2; obtain ⟨hs3, hok, htl⟩ := synk.scan_tks s ts a HTT.out; obtain ⟨ta, tc, rfl, htk⟩ := synk.tks_in HO2.out hok; obtain ⟨NT', hNT⟩ : ∃ q, ts.length = q := ⟨_, rfl⟩; rw [hNT] at htl HO2; have HLT := Z_ hNT; clear hQ2 HQ hok; rw [hNT]; obtain ⟨S, hS⟩ : ∃ S, u1.heap.size = S := ⟨_, rfl⟩
  have hPR : PrAt u1 (u1.alloc (.cells #[.slice ta NT' tc, .int .i64 0, .int .i64 (s.size : Nat)] 108)) S s.size (tksOf s ts) := by
   refine ⟨⟨ta, NT', tc, 0, ?_, by simp [tksOf, hNT], by omega, htk⟩, (Chg.refl _ _).alloc _, by omega⟩
   rw [← hS]; exact Blk.made u1 _ _
  have HN := Z_ (good_all (20 * ts.length + 5) .module _ _ hPR (HM.out u1 HPI.out.ext) rfl trivial (synm.prs_in _ _ _ (by simp [tksOf, NT.rank]))); have hne := synm.prs_in (20 * ts.length + 5) .module (tksOf s ts) (by simp [tksOf, NT.rank]); have HNE := Z_ hne; have hE2 := (Chg.refl (fun _ => False) u1).alloc (.cells #[.slice ta NT' tc, .int .i64 0, .int .i64 (s.size : Nat)] 108); have HR2 := Z_ (HPI.out.r.ext hE2); have HF2 := Z_ (HPI.out.f.ext hE2); have HX2 := Z_ (HPI.out.ext.ext hE2); have hSF : F < S := by omega
  clear hPR hne hE2 htk; rw [hNT] at HN HNE HQ2; go_upto_region 6 with (fail)
  try rw [hS]
  clear hc; generalize u1.alloc (.cells #[.slice ta NT' tc, .int .i64 0, .int .i64 (s.size : Nat)] 108) = u2 at *; go_wp2_with fail
  refine HN.out.mono ?_
  rintro e w3 hr; obtain ⟨hC, ⟨lb, hp, rfl⟩ | ⟨x, lx, v, hp, rfl, hvx, hP⟩⟩ := hr.cases HNE.out
  ·have HQ3 := Z_ (show Q = (zeroN, 2, posOf s.size lb) by have := HQ2.out; rw [hp] at this; exact this.symm)
   have hR3 := HR2.out.chg hC (by omega); have hF3 := HF2.out.chg hC (by omega); have hX3 := HX2.out.trans hC (fun i hi e => by have := HPI.out.ext.size; omega); clear hr hp hC HN; go_wp2_with fail
   refine leaves_cons (f := 47) (args := #[.pointer (some ⟨R, 0, none⟩), .pointer (some ⟨F, 0, none⟩)]) (by simp) (by simp [go_sem]) ?_
   refine (catch_parse R F _ _ _ _ hR3 rfl hF3 rfl (by omega)).mono ?_
   rintro e u' w'' ⟨rfl, rfl, hRz, hFz, hCz⟩; exact ⟨_, results_cc2 rfl _ _ rfl hRz Tryz.underlying24 rfl (by kernel_rfl) rfl hFz Tryz.underlying27 rfl (by kernel_rfl), (⟨hRz, hFz, hX3.trans hCz fun i hi e => by omega, ndAt_leaf _ _ _ _ (by decide), by omega, hRF⟩ : PI w w'' R F _ _ _ _ _ _ zeroN).post HQ3.out⟩
  ·have HQ3 := Z_ (show (if (weighF 16 x 0).1 = true then (x, (0 : Int), (a : Int)) else (zeroN, 1, 0)) = Q by have := HQ2.out; rw [hp] at this; exact this)
   have hR3 := HR2.out.chg hC (by omega); have hF3 := HF2.out.chg hC (by omega); have hX3 := HX2.out.trans hC (fun i hi e => by have := HPI.out.ext.size; omega); have hsz3 := hC.size; have hu2 := hr.1.size; obtain ⟨kx, tx, mx, ax, nx, cx, rfl⟩ := nd_form hvx; have hSu := HPI.out.ext.size; have hFu2 : F + 1 ≤ u2.heap.size := by have := HF2.out.lt; omega
   have hnd3 : NdAt (hide (below (F + 1)) w3) x (.agg #[.int .i64 kx, .string tx, .int .i64 mx, .slice ax nx cx]) := ndAt_low hvx (by omega)
   have hPI3 : PI w ((((w3.setCell ⟨R, 0, none⟩ (.int .i64 kx)).setCell ⟨R, 1, none⟩ (.string tx)).setCell ⟨R, 2, none⟩ (.int .i64 mx)).setCell ⟨R, 3, none⟩ (.slice ax nx cx)) R F (.int .i64 kx) (.string tx) (.int .i64 mx) (.slice ax nx cx) (.int .i64 0) (.int .i64 a) x := by
    have hCC : Chg (fun i => i = R) w3 ((((w3.setCell ⟨R, 0, none⟩ (.int .i64 kx)).setCell ⟨R, 1, none⟩ (.string tx)).setCell ⟨R, 2, none⟩ (.int .i64 mx)).setCell ⟨R, 3, none⟩ (.slice ax nx cx)) := chg_set (chg_set (chg_set (chg_set (Chg.refl _ _) 0 _) 1 _) 2 _) 3 _; exact ⟨(((hR3.set 0 _).set 1 _).set 2 _).set 3 _, hF3.chg hCC (by omega), hX3.trans hCC (fun i hi e => by omega), ndAt_chg hnd3 hCC (fun i e => by omega), by omega, hRF⟩
   have hc := hR3.cell; have hf := hR3.frozen; have hl := hR3.lt; clear hr hp hC HN hvx hnd3 hR3 hF3 hX3 HPI HR2 HF2 HX2; have HPI := Z_ hPI3; clear hPI3; go_upto_region 7 with (fail)
   clear hc hf hl; generalize (((w3.setCell ⟨R, 0, none⟩ (.int .i64 kx)).setCell ⟨R, 1, none⟩ (.string tx)).setCell ⟨R, 2, none⟩ (.int .i64 mx)).setCell ⟨R, 3, none⟩ (.slice ax nx cx) = u4 at *; obtain ⟨M, hM⟩ : ∃ M, u4.heap.size = M := ⟨_, rfl⟩; have hE4 := (Chg.refl (fun _ => False) u4).alloc (.cells #[.int .i64 0] 3); have hFu4 := HPI.out.f.lt
   have hPI4 : PI w (u4.alloc (.cells #[.int .i64 0] 3)) R F (.int .i64 kx) (.string tx) (.int .i64 mx) (.slice ax nx cx) (.int .i64 0) (.int .i64 a) x :=
    ⟨HPI.out.r.ext hE4, HPI.out.f.ext hE4, HPI.out.ext.ext hE4, ndAt_keeps (keeps_chg hE4 fun _ _ h => h.elim) _ _ HPI.out.nd, by omega, hRF⟩
   have hM4 : Blk (u4.alloc (.cells #[.int .i64 0] 3)) M #[.int .i64 (0 : Nat)] 3 := by rw [← hM]; exact Blk.made u4 _ _
   have hnd4 : NdAt (hide (fun i => below (F + 1) i || decide (i = M)) (u4.alloc (.cells #[.int .i64 0] 3))) x (.agg #[.int .i64 kx, .string tx, .int .i64 mx, .slice ax nx cx]) := by
    refine ndAt_keeps (keeps_hide (by simp) fun i hi hm => ?_) _ _ HPI.out.nd
    refine ⟨?_, Below.heap_alloc _ _ _ hi⟩
    rw [hm, Bool.false_or, decide_eq_false_iff_not]; omega
   have HW := Z_ (weigh_any 16 x _ _ M 0 1 _ hnd4 (by simp) hM4 (by decide) (by decide) (by decide)); have hrc := hPI4.r.cell; generalize weighF 16 x 0 = WF at *; clear HPI; have HPI := Z_ hPI4; have hMF : F < M := by omega
   have HND := Z_ hnd4; clear hPI4 hM4 hnd4 hE4; go_upto_region 8 with (fail)
   try rw [hM]
   generalize u4.alloc (.cells #[.int .i64 0] 3) = u5 at *; go_wp2_with fail
   refine HW.out.mono ?_
   rintro e w6 ⟨rfl, hC6, hB6⟩; have hu5 := HPI.out.ext.size
   have hPI6 : PI w w6 R F (.int .i64 kx) (.string tx) (.int .i64 mx) (.slice ax nx cx) (.int .i64 0) (.int .i64 a) x :=
    ⟨HPI.out.r.chg hC6 (by omega), HPI.out.f.chg hC6 (by omega), HPI.out.ext.trans hC6 (fun i hi e => by have := HPI.out.hR; omega), (ndAt_keeps (keeps_hide (Nat.le_refl _) fun i hi hm => ⟨by simp only [Bool.or_eq_false_iff] at hm; exact hm.1, rfl⟩) _ _ (ndAt_keeps (keeps_chg hC6 fun i _ e => by rw [e]; simp) _ _ HND.out)), by omega, hRF⟩
   clear HPI; have HPI := Z_ hPI6; clear hPI6 hC6 hB6 HW hrc; obtain ⟨wb, wm⟩ := WF; cases wb with
   | true =>
    have HQ4 := Z_ (show Q = (x, (0 : Int), (a : Int)) by have := HQ3.out; rw [if_pos rfl] at this; exact this.symm); have hdrop := HND; clear hdrop HND; go_upto_region 10 with (fail)
    refine wp_region_weave [2, 3] (fun i v _ => v = ([.agg #[.int .i64 kx, .string tx, .int .i64 mx, .slice ax nx cx], .agg #[.int .i64 0, .int .i64 a], undef, undef] : List Value).getD i undef) (fun _ u => PI w u R F (.int .i64 kx) (.string tx) (.int .i64 mx) (.slice ax nx cx) (.int .i64 0) (.int .i64 a) x) (fun _ _ => True) (frame := ?frab) (fun x => ?hfab) mixed (by kernel_rfl) (by kernel_rfl) (fun _ _ _ _ h _ => h) ?h0b ?stb ?finb
    case hfab =>
     simp only [chain.frameOf, chain.fill, chain.setOpt, chain.dstOf, List.size_toArray, List.length_cons, List.length_nil, List.getElem?_toArray, List.getElem?_cons_succ, List.getElem?_cons_zero, List.setIfInBounds_toArray, List.set_cons_succ, List.set_cons_zero]; exact rfl
    case h0b => exact HPI.out.drew
    case stb =>
     refine AllFrom.cons (fun x vs u hF hm hb hd K' hK' => ?sb0) (AllFrom.cons (fun x vs u hF hm hb hd K' hK' => ?sb1) (AllFrom.cons (fun x vs u hF hm hb hd K' hK' => ?sb2) (AllFrom.cons (fun x vs u hF hm hb hd K' hK' => ?sb3) (AllFrom.nil))))
     case sb0 =>
      have hc := hF.r.cell; have HF := Z_ hF; clear hd hm hb hF; go_simp; exact hK'.out _ _ _ rfl trivial ⟨rfl, HF.out⟩
     case sb1 =>
      have hc := hF.f.cell; have HF := Z_ hF; clear hd hm hb hF; go_simp; exact hK'.out _ _ _ rfl trivial ⟨rfl, HF.out⟩
     case sb2 =>
      have y0 := hd 0 (by decide) (by kernel_rfl); replace y0 : x 30 = .agg #[.int .i64 kx, .string tx, .int .i64 mx, .slice ax nx cx] := y0; have hc := hF.r.cell; have hf := hF.r.frozen; have hl := hF.r.lt; have HF := Z_ hF; clear hd hm hb hF; go_simp; exact hK'.out _ _ undef (by simp only [y0]; rfl) trivial HF.out.setR
     case sb3 =>
      have y0 := hd 1 (by decide) (by kernel_rfl); replace y0 : x 31 = .agg #[.int .i64 0, .int .i64 a] := y0; have hc := hF.f.cell; have hf := hF.f.frozen; have hl := hF.f.lt; have HF := Z_ hF; clear hd hm hb hF; go_simp; exact hK'.out _ _ undef (by simp only [y0]; rfl) trivial HF.out.setF
    case finb =>
     intro x vs w9 hl hF hk; have HP9 := Z_ hF; clear hk hl hF; go_wp2_with fail
     refine leaves_cons (f := 47) (args := #[.pointer (some ⟨R, 0, none⟩), .pointer (some ⟨F, 0, none⟩)]) (by simp) (by simp [go_sem]) ?_
     refine (idle_parse R F _).mono ?_
     rintro e u' w'' ⟨rfl, rfl, rfl⟩; exact ⟨_, results_cc2 rfl _ _ rfl HP9.out.r Tryz.underlying24 rfl (by kernel_rfl) rfl HP9.out.f Tryz.underlying27 rfl (by kernel_rfl), HP9.out.post HQ4.out⟩
   | false =>
    have HQ4 := Z_ (show Q = (zeroN, 1, 0) by have := HQ3.out; simp only [Bool.false_eq_true, ↓reduceIte] at this; exact this.symm); have hrc := HPI.out.r.cell; have hrf := HPI.out.r.frozen; have hrl := HPI.out.r.lt; have hfc := HPI.out.f.cell; have hff := HPI.out.f.frozen; have hfl := HPI.out.f.lt; have hCR : Chg (fun i => i = R) w6 ((((w6.setCell ⟨R, 0, none⟩ (.int .i64 0)).setCell ⟨R, 1, none⟩ (.string ⟨#[]⟩)).setCell ⟨R, 2, none⟩ (.int .i64 0)).setCell ⟨R, 3, none⟩ (.slice none 0 0)) := chg_set (chg_set (chg_set (chg_set (Chg.refl _ _) 0 _) 1 _) 2 _) 3 _
    have hPZ : PI w ((((w6.setCell ⟨R, 0, none⟩ (.int .i64 0)).setCell ⟨R, 1, none⟩ (.string ⟨#[]⟩)).setCell ⟨R, 2, none⟩ (.int .i64 0)).setCell ⟨R, 3, none⟩ (.slice none 0 0)) R F (.int .i64 0) (.string ⟨#[]⟩) (.int .i64 0) (.slice none 0 0) (.int .i64 0) (.int .i64 a) zeroN :=
     ⟨(((HPI.out.r.set 0 _).set 1 _).set 2 _).set 3 _, HPI.out.f.chg hCR (by omega), HPI.out.ext.trans hCR (fun i hi e => by have := HPI.out.hR; omega), ndAt_leaf _ _ _ _ (by decide), HPI.out.hR, hRF⟩
    have hPZ2 : PI w ((((((w6.setCell ⟨R, 0, none⟩ (.int .i64 0)).setCell ⟨R, 1, none⟩ (.string ⟨#[]⟩)).setCell ⟨R, 2, none⟩ (.int .i64 0)).setCell ⟨R, 3, none⟩ (.slice none 0 0)).setCell ⟨F, 0, none⟩ (.int .i64 1)).setCell ⟨F, 1, none⟩ (.int .i64 0)) R F (.int .i64 0) (.string ⟨#[]⟩) (.int .i64 0) (.slice none 0 0) (.int .i64 1) (.int .i64 0) zeroN :=
     ⟨(hPZ.r.setOther (p := ⟨F, 0, none⟩) (by show R ≠ F; omega) _).setOther (p := ⟨F, 1, none⟩) (by show R ≠ F; omega) _, (hPZ.f.set 0 _).set 1 _, (hPZ.ext.setNew (p := ⟨F, 0, none⟩) (by show w.heap.size ≤ F; have := hPZ.hR; omega) _).setNew (p := ⟨F, 1, none⟩) (by show w.heap.size ≤ F; have := hPZ.hR; omega) _, ndAt_leaf _ _ _ _ (by decide), hPZ.hR, hRF⟩
    have HPZ := Z_ hPZ2; clear hPZ hPZ2 hCR; go_wp2_with fail
    refine leaves_cons (f := 47) (args := #[.pointer (some ⟨R, 0, none⟩), .pointer (some ⟨F, 0, none⟩)]) (by simp) (by simp [go_sem]) ?_
    refine (idle_parse R F _).mono ?_
    rintro e u' w'' ⟨rfl, rfl, rfl⟩; exact ⟨_, results_cc2 rfl _ _ rfl HPZ.out.r Tryz.underlying24 rfl (by kernel_rfl) rfl HPZ.out.f Tryz.underlying27 rfl (by kernel_rfl), HPZ.out.post HQ4.out⟩
 ·have HQ2 := Z_ (show Q = (zeroN, c, (a : Int)) by have := HQ.out; rw [if_neg hc0] at this; exact this.symm)
  have hcn : (c != 0) = true := by simpa using hc0
  clear HQ; go_upto_region 3 with (fail)
  refine wp_region_weave [2, 3] (fun i v _ => v = ([.agg #[.int .i64 0, .string ⟨#[]⟩, .int .i64 0, .slice none 0 0], .agg #[.int .i64 c, .int .i64 a], undef, undef] : List Value).getD i undef) (fun _ u => PI w u R F (.int .i64 0) (.string ⟨#[]⟩) (.int .i64 0) (.slice none 0 0) (.int .i64 c) (.int .i64 a) zeroN) (fun _ _ => True) (frame := ?fraa) (fun x => ?hfaa) mixed (by kernel_rfl) (by kernel_rfl) (fun _ _ _ _ h _ => h) ?h0a ?sta ?fina
  case hfaa =>
   simp only [chain.frameOf, chain.fill, chain.setOpt, chain.dstOf, List.size_toArray, List.length_cons, List.length_nil, List.getElem?_toArray, List.getElem?_cons_succ, List.getElem?_cons_zero, List.setIfInBounds_toArray, List.set_cons_succ, List.set_cons_zero]; exact rfl
  case h0a => exact HPI.out.drew
  case sta =>
   refine AllFrom.cons (fun x vs u hF hm hb hd K' hK' => ?sa0) (AllFrom.cons (fun x vs u hF hm hb hd K' hK' => ?sa1) (AllFrom.cons (fun x vs u hF hm hb hd K' hK' => ?sa2) (AllFrom.cons (fun x vs u hF hm hb hd K' hK' => ?sa3) (AllFrom.nil))))
   case sa0 =>
    have hc := hF.r.cell; have HF := Z_ hF; clear hd hm hb hF; go_simp; exact hK'.out _ _ _ rfl trivial ⟨rfl, HF.out⟩
   case sa1 =>
    have hc := hF.f.cell; have HF := Z_ hF; clear hd hm hb hF; go_simp; exact hK'.out _ _ _ rfl trivial ⟨rfl, HF.out⟩
   case sa2 =>
    have y0 := hd 0 (by decide) (by kernel_rfl); replace y0 : x 15 = .agg #[.int .i64 0, .string ⟨#[]⟩, .int .i64 0, .slice none 0 0] := y0; have hc := hF.r.cell; have hf := hF.r.frozen; have hl := hF.r.lt; have HF := Z_ hF; clear hd hm hb hF; go_simp; exact hK'.out _ _ undef (by simp only [y0]; rfl) trivial HF.out.setR
   case sa3 =>
    have y0 := hd 1 (by decide) (by kernel_rfl); replace y0 : x 16 = .agg #[.int .i64 c, .int .i64 a] := y0; have hc := hF.f.cell; have hf := hF.f.frozen; have hl := hF.f.lt; have HF := Z_ hF; clear hd hm hb hF; go_simp; exact hK'.out _ _ undef (by simp only [y0]; rfl) trivial HF.out.setF
  case fina =>
   intro x vs w9 hl hF hk; have HP9 := Z_ hF; clear hk hl hF; go_wp2_with fail
   exact ⟨_, results_cc2 rfl _ _ rfl HP9.out.r Tryz.underlying24 rfl (by kernel_rfl) rfl HP9.out.f Tryz.underlying27 rfl (by kernel_rfl), HP9.out.post HQ2.out⟩
end synw
end Go.Proofs.YtpcihajmcejliacGreatDoor
namespace Go.Proofs.YtpcihajmcejliacGreatDoor
open Go.RowKit
def NameT (t : ByteArray) : Prop := nameB t.data.toList = true
def WholeT (t : ByteArray) : Prop := NameT t ∨ ∃ a b, NameT a ∧ NameT b ∧ t = a ++ (sDot ++ b)
def KdE (k : Int) : Prop := 15 ≤ k ∧ k ≤ 21
def KdP (k : Int) : Prop := k = 16 ∨ k = 17
def KdS (k : Int) : Prop := 7 ≤ k ∧ k ≤ 14
inductive Form : Int → ByteArray → Int → List Nd → Prop
 | module {t : ByteArray} {a b : List Nd} (ht : NameT t) (ha : ∀ y ∈ a, y.kd = 2) (hb : ∀ y ∈ b, y.kd = 3 ∨ y.kd = 4) : Form 1 t 0 (a ++ b)
 | imp {t : ByteArray} (ht : NameT t) : Form 2 t 0 []
 | var {t : ByteArray} {m : Int} (ht : NameT t) (h0 : 0 ≤ m) (h1 : m ≤ 3) : Form 3 t m []
 | array {t : ByteArray} {m : Int} {y : Nd} (ht : NameT t) (h0 : 0 ≤ m) (h1 : m ≤ 3) (hy : y.kd = 15) : Form 3 t m [y]
 | proc {t : ByteArray} {m : Int} {ps : List Nd} {b : Nd} (ht : NameT t) (h0 : 0 ≤ m) (h1 : m ≤ 11) (hp : ∀ y ∈ ps, y.kd = 5) (hb : b.kd = 6) : Form 4 t m (ps ++ [b])
 | param {t : ByteArray} {m : Int} (ht : NameT t) (h0 : 0 ≤ m) (h1 : m ≤ 1) : Form 5 t m []
 | block {l : List Nd} (hl : ∀ y ∈ l, KdS y.kd) : Form 6 noText 0 l
 | loc {t : ByteArray} {m : Int} {x : Nd} (ht : NameT t) (h0 : 0 ≤ m) (h1 : m ≤ 1) (hx : KdE x.kd) : Form 7 t m [x]
 | set {p x : Nd} (hp : KdP p.kd) (hx : KdE x.kd) : Form 8 noText 0 [p, x]
 | do_ {c : Nd} (hc : c.kd = 18) : Form 9 noText 0 [c]
 | if2 {x b : Nd} (hx : KdE x.kd) (hb : b.kd = 6) : Form 10 noText 0 [x, b]
 | if3 {x b c : Nd} (hx : KdE x.kd) (hb : b.kd = 6) (hc : c.kd = 6) : Form 10 noText 0 [x, b, c]
 | while_ {x b : Nd} (hx : KdE x.kd) (hb : b.kd = 6) : Form 11 noText 0 [x, b]
 | out {m : Int} {x : Nd} (h0 : 0 ≤ m) (h1 : m ≤ 1) (hx : KdE x.kd) : Form 12 noText m [x]
 | inp {m : Int} {x : Nd} (h0 : 0 ≤ m) (h1 : m ≤ 1) (hx : KdP x.kd) : Form 13 noText m [x]
 | ret {x : Nd} (hx : KdE x.kd) : Form 14 noText 0 [x]
 | num {m : Int} (h0 : 0 ≤ m) (h1 : m < 9223372036854775808) : Form 15 noText m []
 | name {t : ByteArray} (ht : WholeT t) : Form 16 t 0 []
 | item {t : ByteArray} {x : Nd} (ht : WholeT t) (hx : KdE x.kd) : Form 17 t 0 [x]
 | call {t : ByteArray} {l : List Nd} (ht : WholeT t) (hl : ∀ y ∈ l, KdE y.kd) : Form 18 t 0 l
 | op {m : Int} {x y : Nd} (h0 : 1 ≤ m) (h1 : m ≤ 9) (hx : KdE x.kd) (hy : KdE y.kd) : Form 19 noText m [x, y]
 | neg {x : Nd} (hx : KdE x.kd) : Form 20 noText 0 [x]
 | not_ {x : Nd} (hx : KdE x.kd) : Form 21 noText 0 [x]
inductive IsNd : Nd → Prop
 | mk {k : Int} {t : ByteArray} {m : Int} {l : List Nd} (hf : Form k t m l) (hl : ∀ y ∈ l, IsNd y) : IsNd (.mk k t m l)
theorem IsNd.form {k : Int} {t : ByteArray} {m : Int} {l : List Nd} (h : IsNd (.mk k t m l)) : Form k t m l := by cases h; assumption
theorem IsNd.kids {k : Int} {t : ByteArray} {m : Int} {l : List Nd} (h : IsNd (.mk k t m l)) : ∀ y ∈ l, IsNd y := by cases h; assumption
namespace ndis
open ofm synm
theorem none1 {P : Nd → Prop} {x : Nd} (h : P x) : ∀ y ∈ [x], P y := fun y hy => by rw [List.mem_singleton] at hy; subst hy; exact h
theorem none2 {P : Nd → Prop} {x z : Nd} (h : P x) (h2 : P z) : ∀ y ∈ [x, z], P y := fun y hy => by
 simp only [List.mem_cons, List.not_mem_nil, or_false] at hy; rcases hy with rfl | rfl
 ·exact h
 ·exact h2
theorem none3 {P : Nd → Prop} {x z q : Nd} (h : P x) (h2 : P z) (h3 : P q) : ∀ y ∈ [x, z, q], P y := fun y hy => by
 simp only [List.mem_cons, List.not_mem_nil, or_false] at hy; rcases hy with rfl | rfl | rfl
 ·exact h
 ·exact h2
 ·exact h3
theorem snoc {P : Nd → Prop} {l : List Nd} {x : Nd} (h : ∀ y ∈ l, P y) (hx : P x) : ∀ y ∈ l ++ [x], P y := fun y hy => by
 rw [List.mem_append, List.mem_singleton] at hy; rcases hy with hy | rfl
 ·exact h y hy
 ·exact hx
theorem name_is {s : ByteArray} {l r : List Tk} (h : pName l = .got s r) (ho : ∀ t ∈ l, TkOk t) : NameT s := by
 cases l with
 | nil => cases h
 | cons t q =>
  simp only [pName] at h; split at h
  ·rename_i hk
   injection h with h1 _
   subst h1; have hw := (ho t (by simp)).word hk.1; unfold NameT nameB; rw [hw, hk.2]; rfl
  ·cases h
theorem whole_is {s : ByteArray} {l r : List Tk} (h : pWhole l = .got s r) (ho : ∀ t ∈ l, TkOk t) : WholeT s := by
 unfold pWhole at h; obtain ⟨a, l1, h1, h⟩ := got_bind h; have ha := name_is h1 ho; have h1o := name_sub h1 ho; split at h
 ·obtain ⟨b, l2, h2, h⟩ := got_bind h
  have hb := name_is h2 (tks_tail h1o); injection h with h _
  exact .inr ⟨a, b, ha, hb, h.symm⟩
 ·injection h with h _
  subst h; exact .inl ha
theorem num_is {x : Nd} {l r : List Tk} (h : pNumber l = .got x r) (ho : ∀ t ∈ l, TkOk t) : IsNd x ∧ x.kd = 15 := by
 obtain ⟨t, ht, hk, rfl⟩ := num_ok h; have htl : t ∈ l := List.mem_of_mem_head? ht; have := ((ho t htl).num hk).2.2; refine ⟨.mk (.num (by unfold valOf; omega) (by unfold valOf; omega)) (fun y hy => by cases hy), rfl⟩
theorem op_is {s : ByteArray} {k : Nat} (h : (opOf s).2 = k) : 1 ≤ (opOf s).1 ∧ (opOf s).1 ≤ 9 := by
 unfold opOf at h ⊢
 repeat' split
 all_goals first | decide | skip
 simp_all
def PreI : NT → Prop
 | .loop _ x => IsNd x ∧ KdE x.kd
 | .place s => WholeT s
 | .call s => WholeT s
 | .args s acc => WholeT s ∧ ∀ y ∈ acc, IsNd y ∧ KdE y.kd
 | .stats acc => ∀ y ∈ acc, IsNd y ∧ KdS y.kd
 | .proc pub => pub = 0 ∨ pub = 2
 | .params s pub acc => NameT s ∧ (pub = 0 ∨ pub = 2) ∧ ∀ y ∈ acc, IsNd y ∧ y.kd = 5
 | .imports s acc => NameT s ∧ ∀ y ∈ acc, IsNd y ∧ y.kd = 2
 | .decls s acc => NameT s ∧ ∃ a b, acc = a ++ b ∧ (∀ y ∈ a, IsNd y ∧ y.kd = 2) ∧ ∀ y ∈ b, IsNd y ∧ (y.kd = 3 ∨ y.kd = 4)
 | _ => True
def PostI : NT → Int → Prop
 | .expr, k => KdE k
 | .bound _, k => KdE k
 | .loop _ _, k => KdE k
 | .unary, k => KdE k
 | .asked, k => KdE k
 | .place _, k => KdP k
 | .call _, k => k = 18
 | .args _ _, k => k = 18
 | .block, k => k = 6
 | .stats _, k => k = 6
 | .stat, k => KdS k
 | .decl, k => k = 3 ∨ k = 4
 | .proc _, k => k = 4
 | .params _ _ _, k => k = 4
 | .module, k => k = 1
 | .imports _ _, k => k = 1
 | .decls _ _, k => k = 1
theorem kp_ke {k : Int} (h : KdP k) : KdE k := by unfold KdP at h; unfold KdE; omega
theorem fst {P Q : Nd → Prop} {l : List Nd} (h : ∀ y ∈ l, P y ∧ Q y) : ∀ y ∈ l, P y := fun y hy => (h y hy).1
theorem snd {P Q : Nd → Prop} {l : List Nd} (h : ∀ y ∈ l, P y ∧ Q y) : ∀ y ∈ l, Q y := fun y hy => (h y hy).2
theorem semi_is {x y : Nd} {l r : List Tk} (h : semi x l = .got y r) : y = x := by
 unfold semi at h; obtain ⟨_, _, _, h⟩ := got_bind h; injection h with h _
 exact h.symm
theorem prs_is (n : Nat) : ∀ (X : NT) (l : List Tk) (x : Nd) (r : List Tk), (∀ t ∈ l, TkOk t) → PreI X → prs n X l = .got x r → IsNd x ∧ PostI X x.kd := by
 induction n with
 | zero => intro X l x r _ _ h; cases X <;> cases h
 | succ n ih =>
  intro X l x r ho hp h; have sub : ∀ {Y : NT} {l r : List Tk} {y : Nd}, (∀ t ∈ l, TkOk t) → prs n Y l = .got y r → ∀ t ∈ r, TkOk t := fun ho h => prs_sub n _ _ _ _ ho h
  cases X with
  | expr => simp only [prs] at h; exact ih (.bound 0) _ _ _ ho trivial h
  | bound k =>
   simp only [prs] at h; split at h
   ·exact ih .unary _ _ _ ho trivial h
   ·obtain ⟨y, l1, h1, h⟩ := got_bind h
    have hy := ih (.bound (k + 1)) _ _ _ ho trivial h1; exact ih (.loop k y) _ _ _ (sub ho h1) hy h
  | loop k y =>
   simp only [prs] at h; split at h
   ·rename_i hk
    obtain ⟨z, l1, h1, h⟩ := got_bind h; have hz := ih (.bound (k + 1)) _ _ _ (tks_tail ho) trivial h1; have hop := op_is hk.2; have hnew : IsNd (.mk 19 noText (opOf (textOf l)).1 [y, z]) ∧ KdE (Nd.mk 19 noText (opOf (textOf l)).1 [y, z]).kd := ⟨.mk (.op hop.1 hop.2 hp.2 hz.2) (none2 hp.1 hz.1), by show KdE 19; unfold KdE; omega⟩; split at h
    ·injection h with h _
     subst h; exact hnew
    ·exact ih (.loop k (.mk 19 noText (opOf (textOf l)).1 [y, z])) _ _ _ (sub (tks_tail ho) h1) hnew h
   ·injection h with h _
    subst h; exact hp
  | unary =>
   simp only [prs] at h; split at h
   ·obtain ⟨y, l1, h1, h⟩ := got_bind h
    have hy := ih .unary _ _ _ (tks_tail ho) trivial h1; injection h with h _
    subst h; exact ⟨.mk (.neg hy.2) (none1 hy.1), by show KdE 20; unfold KdE; omega⟩
   ·split at h
    ·obtain ⟨y, l1, h1, h⟩ := got_bind h
     have hy := ih .unary _ _ _ (tks_tail ho) trivial h1; injection h with h _
     subst h; exact ⟨.mk (.not_ hy.2) (none1 hy.1), by show KdE 21; unfold KdE; omega⟩
    ·split at h
     ·exact ih .asked _ _ _ ho trivial h
     ·split at h
      ·obtain ⟨h1, h2⟩ := num_is h ho
       exact ⟨h1, by show KdE x.kd; rw [h2]; unfold KdE; omega⟩
      ·obtain ⟨s, l1, h1, h⟩ := got_bind h
       have hs := whole_is h1 ho; have ho1 := sub_suf (whole_suf h1) ho; split at h
       ·obtain ⟨h2, h3⟩ := ih (.call s) _ _ _ ho1 hs h
        exact ⟨h2, by show KdE x.kd; rw [show x.kd = 18 from h3]; unfold KdE; omega⟩
       ·obtain ⟨h2, h3⟩ := ih (.place s) _ _ _ ho1 hs h
        exact ⟨h2, kp_ke h3⟩
  | asked =>
   simp only [prs] at h; obtain ⟨_, l1, h1, h⟩ := got_bind h; obtain ⟨y, l2, h2, h⟩ := got_bind h; obtain ⟨_, l3, h3, h⟩ := got_bind h; injection h with h _
   subst h; exact ih .expr _ _ _ (need_sub h1 ho) trivial h2
  | place s =>
   simp only [prs] at h; split at h
   ·obtain ⟨y, l1, h1, h⟩ := got_bind h
    have hy := ih .expr _ _ _ (tks_tail ho) trivial h1; obtain ⟨_, l2, h2, h⟩ := got_bind h; injection h with h _
    subst h; exact ⟨.mk (.item hp hy.2) (none1 hy.1), .inr rfl⟩
   ·injection h with h _
    subst h; exact ⟨.mk (.name hp) (fun y hy => by cases hy), .inl rfl⟩
  | call s =>
   simp only [prs] at h; obtain ⟨_, l1, h1, h⟩ := got_bind h; exact ih (.args s []) _ _ _ (need_sub h1 ho) ⟨hp, fun y hy => by cases hy⟩ h
  | args s acc =>
   obtain ⟨hs, ha⟩ := hp; simp only [prs] at h; split at h
   ·obtain ⟨_, l1, h1, h⟩ := got_bind h
    injection h with h _
    subst h; exact ⟨.mk (.call hs (snd ha)) (fst ha), rfl⟩
   ·obtain ⟨y, l1, h1, h⟩ := got_bind h
    have hy := ih .expr _ _ _ ho trivial h1; have ho1 := sub ho h1; split at h
    ·exact ih (.args s (acc ++ [y])) _ _ _ (tks_tail ho1) ⟨hs, snoc ha hy⟩ h
    ·obtain ⟨_, l2, h2, h⟩ := got_bind h
     injection h with h _
     subst h; exact ⟨.mk (.call hs (snoc (snd ha) hy.2)) (snoc (fst ha) hy.1), rfl⟩
  | block =>
   simp only [prs] at h; obtain ⟨_, l1, h1, h⟩ := got_bind h; exact ih (.stats []) _ _ _ (need_sub h1 ho) (fun y hy => by cases hy) h
  | stats acc =>
   simp only [prs] at h; split at h
   ·injection h with h _
    subst h; exact ⟨.mk (.block (snd hp)) (fst hp), rfl⟩
   ·obtain ⟨y, l1, h1, h⟩ := got_bind h
    have hy := ih .stat _ _ _ ho trivial h1; exact ih (.stats (acc ++ [y])) _ _ _ (sub ho h1) (snoc hp hy) h
  | stat =>
   simp only [prs] at h; split at h
   ·obtain ⟨b, l1, h1, h⟩ := got_bind h
    obtain ⟨s, l2, h2, h⟩ := got_bind h; obtain ⟨_, l3, h3, h⟩ := got_bind h; obtain ⟨y, l4, h4, h⟩ := got_bind h; have hb := lab_ok h1; have ho1 := lab_sub h1 ho; have ho2 := name_sub h2 ho1; have ho3 := need_sub h3 ho2; have hy := ih .expr _ _ _ ho3 trivial h4; rw [semi_is h]; exact ⟨.mk (.loc (name_is h2 ho1) hb.1 hb.2 hy.2) (none1 hy.1), by show KdS 7; unfold KdS; omega⟩
   ·split at h
    ·obtain ⟨s, l1, h1, h⟩ := got_bind h
     obtain ⟨y, l2, h2, h⟩ := got_bind h; have hy := ih (.call s) _ _ _ (sub_suf (whole_suf h1) (tks_tail ho)) (whole_is h1 (tks_tail ho)) h2; rw [semi_is h]; exact ⟨.mk (.do_ hy.2) (none1 hy.1), by show KdS 9; unfold KdS; omega⟩
    ·split at h
     ·obtain ⟨y, l1, h1, h⟩ := got_bind h
      have hy := ih .asked _ _ _ (tks_tail ho) trivial h1; have ho1 := sub (tks_tail ho) h1; obtain ⟨b, l2, h2, h⟩ := got_bind h; have hb := ih .block _ _ _ ho1 trivial h2; have ho2 := sub ho1 h2; split at h
      ·obtain ⟨c, l3, h3, h⟩ := got_bind h
       have hc := ih .block _ _ _ (tks_tail ho2) trivial h3; injection h with h _
       subst h; exact ⟨.mk (.if3 hy.2 hb.2 hc.2) (none3 hy.1 hb.1 hc.1), by show KdS 10; unfold KdS; omega⟩
      ·injection h with h _
       subst h; exact ⟨.mk (.if2 hy.2 hb.2) (none2 hy.1 hb.1), by show KdS 10; unfold KdS; omega⟩
     ·split at h
      ·obtain ⟨y, l1, h1, h⟩ := got_bind h
       have hy := ih .asked _ _ _ (tks_tail ho) trivial h1; have ho1 := sub (tks_tail ho) h1; obtain ⟨b, l2, h2, h⟩ := got_bind h; have hb := ih .block _ _ _ ho1 trivial h2; injection h with h _
       subst h; exact ⟨.mk (.while_ hy.2 hb.2) (none2 hy.1 hb.1), by show KdS 11; unfold KdS; omega⟩
      ·split at h
       ·obtain ⟨b, l1, h1, h⟩ := got_bind h
        obtain ⟨y, l2, h2, h⟩ := got_bind h; have hb := lab_ok h1; have hy := ih .expr _ _ _ (lab_sub h1 (tks_tail ho)) trivial h2; rw [semi_is h]; exact ⟨.mk (.out hb.1 hb.2 hy.2) (none1 hy.1), by show KdS 12; unfold KdS; omega⟩
       ·split at h
        ·obtain ⟨b, l1, h1, h⟩ := got_bind h
         obtain ⟨s, l2, h2, h⟩ := got_bind h; obtain ⟨y, l3, h3, h⟩ := got_bind h; have hb := lab_ok h1; have ho1 := lab_sub h1 (tks_tail ho); have hy := ih (.place s) _ _ _ (sub_suf (whole_suf h2) ho1) (whole_is h2 ho1) h3; rw [semi_is h]; exact ⟨.mk (.inp hb.1 hb.2 hy.2) (none1 hy.1), by show KdS 13; unfold KdS; omega⟩
        ·split at h
         ·obtain ⟨y, l1, h1, h⟩ := got_bind h
          have hy := ih .expr _ _ _ (tks_tail ho) trivial h1; rw [semi_is h]; exact ⟨.mk (.ret hy.2) (none1 hy.1), by show KdS 14; unfold KdS; omega⟩
         ·obtain ⟨s, l1, h1, h⟩ := got_bind h
          obtain ⟨p, l2, h2, h⟩ := got_bind h; obtain ⟨_, l3, h3, h⟩ := got_bind h; obtain ⟨y, l4, h4, h⟩ := got_bind h; have ho1 := sub_suf (whole_suf h1) ho; have hq := ih (.place s) _ _ _ ho1 (whole_is h1 ho) h2; have hy := ih .expr _ _ _ (need_sub h3 (sub ho1 h2)) trivial h4; rw [semi_is h]; exact ⟨.mk (.set hq.2 hy.2) (none2 hq.1 hy.1), by show KdS 8; unfold KdS; omega⟩
  | decl =>
   simp only [prs] at h; have hpub : ∀ {b : Bool}, (if b = true then (2 : Int) else 0) = 0 ∨ (if b = true then (2 : Int) else 0) = 2 := by intro b; cases b <;> simp
   have ho0 : ∀ t ∈ (if isB l [sPub] = true then l.tail else l), TkOk t := by split; exact tks_tail ho; exact ho
   generalize (if isB l [sPub] = true then l.tail else l) = l0 at h ho0; have hpb := @hpub (isB l [sPub]); generalize (if isB l [sPub] = true then (2 : Int) else 0) = pb at h hpb; split at h
   ·obtain ⟨h1, h2⟩ := ih (.proc pb) _ _ _ (tks_tail ho0) hpb h
    exact ⟨h1, .inr h2⟩
   ·obtain ⟨b, l1, h1, h⟩ := got_bind h
    obtain ⟨s, l2, h2, h⟩ := got_bind h; have hb := lab_ok h1; have ho1 := lab_sub h1 ho0; have hs := name_is h2 ho1; have ho2 := name_sub h2 ho1; split at h
    ·obtain ⟨y, l3, h3, h⟩ := got_bind h
     obtain ⟨_, l4, h4, h⟩ := got_bind h; have hy := num_is h3 (tks_tail ho2); rw [semi_is h]; exact ⟨.mk (.array hs (by omega) (by omega) hy.2) (none1 hy.1), .inl rfl⟩
    ·rw [semi_is h]
     exact ⟨.mk (.var hs (by omega) (by omega)) (fun y hy => by cases hy), .inl rfl⟩
  | proc pub =>
   simp only [prs] at h; obtain ⟨s, l1, h1, h⟩ := got_bind h; obtain ⟨_, l2, h2, h⟩ := got_bind h; exact ih (.params s pub []) _ _ _ (need_sub h2 (name_sub h1 ho)) ⟨name_is h1 ho, hp, fun y hy => by cases hy⟩ h
  | params s pub acc =>
   obtain ⟨hs, hpb, ha⟩ := hp
   have hdone : ∀ (acc : List Nd) (l : List Tk), (∀ y ∈ acc, IsNd y ∧ y.kd = 5) → (∀ t ∈ l, TkOk t) → ((pNeed sClose l).bind fun _ l => (pLabel l).bind fun b l =>
     if isB l [sGives] = true then (pLabel l.tail).bind fun g l => (prs n .block l).bind fun x l => .got (.mk 4 s (pub + b + (4 + 4 * g)) (acc ++ [x])) l
     else (prs n .block l).bind fun x l => .got (.mk 4 s (pub + b) (acc ++ [x])) l) = Out.got x r → IsNd x ∧ x.kd = 4 := by
    intro acc l hacc ho h; obtain ⟨_, l1, h1, h⟩ := got_bind h; have ho1 := need_sub h1 ho; obtain ⟨b, l2, hb, h⟩ := got_bind h; have ho2 := lab_sub hb ho1; have hb := lab_ok hb; split at h
    ·obtain ⟨g, l3, hg, h⟩ := got_bind h
     have ho3 := lab_sub hg (tks_tail ho2); have hg := lab_ok hg; obtain ⟨y, l4, h4, h⟩ := got_bind h; have hy := ih .block _ _ _ ho3 trivial h4; injection h with h1 _
     subst h1; exact ⟨.mk (.proc hs (by omega) (by omega) (snd hacc) hy.2) (snoc (fst hacc) hy.1), rfl⟩
    ·obtain ⟨y, l4, h4, h⟩ := got_bind h
     have hy := ih .block _ _ _ ho2 trivial h4; injection h with h1 _
     subst h1; exact ⟨.mk (.proc hs (by omega) (by omega) (snd hacc) hy.2) (snoc (fst hacc) hy.1), rfl⟩
   simp only [prs] at h; split at h
   ·exact hdone _ _ ha ho h
   ·obtain ⟨b, l1, h1, h⟩ := got_bind h
    obtain ⟨p, l2, h2, h⟩ := got_bind h; have ho1 := lab_sub h1 ho; have hpn := name_is h2 ho1; have ho2 := name_sub h2 ho1; have hb := lab_ok h1; have hacc2 : ∀ q ∈ acc ++ [Nd.mk 5 p b []], IsNd q ∧ q.kd = 5 := snoc ha ⟨.mk (.param hpn hb.1 hb.2) (fun y hy => by cases hy), rfl⟩; split at h
    ·exact ih (.params s pub (acc ++ [.mk 5 p b []])) _ _ _ (tks_tail ho2) ⟨hs, hpb, hacc2⟩ h
    ·exact hdone _ _ hacc2 ho2 h
  | module =>
   simp only [prs] at h; obtain ⟨_, l1, h1, h⟩ := got_bind h; obtain ⟨s, l2, h2, h⟩ := got_bind h; obtain ⟨_, l3, h3, h⟩ := got_bind h; have ho1 := need_sub h1 ho; have ho2 := name_sub h2 ho1; exact ih (.imports s []) _ _ _ (need_sub h3 ho2) ⟨name_is h2 ho1, fun y hy => by cases hy⟩ h
  | imports s acc =>
   obtain ⟨hs, ha⟩ := hp; simp only [prs] at h; split at h
   ·obtain ⟨p, l1, h1, h⟩ := got_bind h
    obtain ⟨_, l2, h2, h⟩ := got_bind h; have ho1 := name_sub h1 (tks_tail ho); exact ih (.imports s (acc ++ [.mk 2 p 0 []])) _ _ _ (need_sub h2 ho1) ⟨hs, snoc ha ⟨.mk (.imp (name_is h1 (tks_tail ho))) (fun y hy => by cases hy), rfl⟩⟩ h
   ·exact ih (.decls s acc) _ _ _ ho ⟨hs, acc, [], by simp, ha, fun y hy => by cases hy⟩ h
  | decls s acc =>
   obtain ⟨hs, a, b, rfl, ha, hb⟩ := hp; simp only [prs] at h; split at h
   ·injection h with h _
    subst h; refine ⟨.mk (.module hs (snd ha) (snd hb)) (fun y hy => ?_), rfl⟩
    rcases List.mem_append.1 hy with hy | hy
    ·exact (ha y hy).1
    ·exact (hb y hy).1
   ·obtain ⟨y, l1, h1, h⟩ := got_bind h
    have hy := ih .decl _ _ _ ho trivial h1; exact ih (.decls s (a ++ b ++ [y])) _ _ _ (sub ho h1) ⟨hs, a, b ++ [y], by rw [List.append_assoc], ha, snoc hb hy⟩ h
end ndis
theorem parse_is (s : ByteArray) (h : (parseR s).2.1 = 0) : IsNd (parseR s).1 ∧ (parseR s).1.kd = 1 ∧ dpF (parseR s).1 ≤ 16 ∧ szF (parseR s).1 ≤ 500 := by
 unfold parseR at h ⊢; obtain ⟨T, hT⟩ : ∃ T, scanF s.data.toList = T := ⟨_, rfl⟩; rw [hT] at h ⊢; obtain ⟨ts, c, a⟩ := T; simp only at h ⊢; by_cases hc : c = 0
 ·subst hc
  obtain ⟨-, hok, -⟩ := synk.scan_tks s ts a hT; rw [if_pos rfl] at h ⊢; cases hp : prs (20 * ts.length + 5) .module (tksOf s ts) with
  | out => exact absurd hp (synm.prs_in _ _ _ (by simp [tksOf, NT.rank]))
  | bad l => rw [hp] at h; exact absurd (show (2 : Int) = 0 from h) (by decide)
  | got x r =>
   rw [hp] at h; simp only at h ⊢; by_cases hw : (weighF 16 x 0).1 = true
   ·rw [if_pos hw] at h ⊢
    have h1 := ndis.prs_is _ .module _ _ _ hok trivial hp; have h2 := (weigh_law 16 x 0 (by omega)).1.1 hw; exact ⟨h1.1, h1.2, h2.1, by show szF x ≤ 500; omega⟩
   ·rw [if_neg hw] at h
    exact absurd (show (1 : Int) = 0 from h) (by decide)
 ·rw [if_neg hc] at h
  exact absurd h hc
end Go.Proofs.YtpcihajmcejliacGreatDoor
namespace Go.Proofs.YtpcihajmcejliacGreatDoor
open Go.RowKit
namespace ofw
open synw
theorem szL_le (l : List Nd) (q : Nat) : szL (l.drop q) ≤ szL l := by
 induction l generalizing q with
 | nil => simp
 | cons x r ih =>
  cases q with
  | zero => simp
  | succ q =>
   have := ih q; simp only [List.drop_succ_cons, szL]; omega
set_option maxRecDepth 100000 in
set_option maxHeartbeats 4000000 in
theorem weight_any : ∀ (x : Nd) (v : Value) (w : World) (H : Nat → Bool), NdAt (hide H w) x v → szF x ≤ 100000 →
  Calls Tryz.prog 114 #[v] w fun e w' => e = .returned (.int .i64 (szF x : Nat)) ∧ Ext w w' := by
 refine nd_ind fun k t n l ih v w H hx hmo => ?_
 rw [ndAt_mk] at hx; obtain ⟨a, cc, rfl, hx1, hx2, hx3, hx4⟩ := hx; obtain ⟨N, hN⟩ : ∃ N, l.length = N := ⟨_, rfl⟩; have hNm : N ≤ 9223372036854775807 := by unfold maxLen at hx2; omega
 have HN := Z_ hN; rw [hN]; have HIH := Z_ ih; have HI := Z_ (fun (u : World) (hE : Ext w u) => hx4.keeps (keeps_chg hE fun i _ e => e.elim) fun b o y => ndIn_keeps (keeps_chg hE fun i _ e => e.elim) b o y); obtain ⟨R, hR⟩ : ∃ R, szF (.mk k t n l) = R := ⟨_, rfl⟩; rw [hR] at hmo ⊢; have HR := Z_ hR; have HLL := Z_ (szL_le l); have hE1 := (Chg.refl (fun _ => False) w).alloc (.cells #[.int .i64 k, .string t, .int .i64 n, .slice a N cc] 24); have HK := Z_ (Blk.made w #[.int .i64 k, .string t, .int .i64 n, .slice a N cc] 24); have HE1 := Z_ hE1; obtain ⟨P, hP⟩ : ∃ P, w.heap.size = P := ⟨_, rfl⟩; rw [hP] at HK; clear hR hx4 hN ih hE1; go_enter Tryz.func114, Tryz.ntmps114
 go_upto_region 1 with (fail)
 generalize w.alloc (.cells #[.int .i64 k, .string t, .int .i64 n, .slice a N cc] 24) = w1 at *; have hc := HK.out.cell; go_wp2_with fail
 clear hc; go_loopw [3, 9] (fun kk i wr => ∃ q m : Nat, q ≤ N ∧ kk = .int .i64 m ∧ i = .int .i64 q ∧ Hid (m + szL (l.drop q) = R) ∧ Hid (Ext w wr) ∧ Hid (Blk wr P #[.int .i64 k, .string t, .int .i64 n, .slice a N cc] 24)) (fun _ i _ => N - (intOf i).toNat)
 case atStart => exact ⟨0, 1, Nat.zero_le _, rfl, rfl, by have := HR.out; simp only [szF] at this; rw [List.drop_zero]; show 1 + szL l = R; omega, HE1, HK⟩
 clear HE1 HK
 case round =>
  obtain ⟨q, m, hq, rfl, rfl, hr, HE, HK⟩ := hrel; by_cases hlt : q < N
  ·have hql : q < l.length := by rw [HN.out]; exact hlt
   have hqi : (q : Int) < (N : Int) := by omega
   have hqd : decide ((q : Int) < (N : Int)) = true := by simpa using hqi
   obtain ⟨b, o, rfl, hb, u, hu, hus, hcl⟩ := HI.out wr HE.out q hql; obtain ⟨k1, t1, n1, a1, l1, c1, rfl⟩ := nd_form hu; have q0 : wr.cell? ⟨b, o + q * 4, none⟩ = some (.int .i64 k1) := (keeps_bare H wr).2 _ _ ((hcl 0 (by decide)).trans rfl); have q1 : wr.cell? ⟨b, o + q * 4 + 1, none⟩ = some (.string t1) := (keeps_bare H wr).2 _ _ ((hcl 1 (by decide)).trans rfl); have q2 : wr.cell? ⟨b, o + q * 4 + 2, none⟩ = some (.int .i64 n1) := (keeps_bare H wr).2 _ _ ((hcl 2 (by decide)).trans rfl); have q3 : wr.cell? ⟨b, o + q * 4 + 3, none⟩ = some (.slice a1 l1 c1) := (keeps_bare H wr).2 _ _ ((hcl 3 (by decide)).trans rfl); have hr2 := hr.out; rw [szL_drop hql] at hr2; have HE4 := Z_ (HE.out.alloc (.cells #[.int .i64 k1, .string t1, .int .i64 n1, .slice a1 l1 c1] 24)); have HK4 := Z_ (HK.out.alloc (.cells #[.int .i64 k1, .string t1, .int .i64 n1, .slice a1 l1 c1] 24))
   have HC := Z_ (HIH.out l[q] (List.getElem_mem hql) _ (wr.alloc (.cells #[.int .i64 k1, .string t1, .int .i64 n1, .slice a1 l1 c1] 24)) H (ndAt_keeps (keeps_chg ((Chg.refl (fun _ => False) wr).alloc _) fun i _ e => e.elim) _ _ hu) (by omega)); obtain ⟨z, hz⟩ : ∃ z, szF l[q] = z := ⟨_, rfl⟩; rw [hz] at hr2 HC; have hpw : IntKind.i64.wrap ((m : Int) + (z : Int)) = ((m + z : Nat) : Int) := by rw [wrap_small _ (by omega) (by omega)]; omega
   have HR3 := Z_ hr2; clear hr hr2 hcl hu hz; go_upto_region 5 with (fail)
   have hc5 := (Blk.made wr #[.int .i64 k1, .string t1, .int .i64 n1, .slice a1 l1 c1] 24).cell; generalize wr.alloc (.cells #[.int .i64 k1, .string t1, .int .i64 n1, .slice a1 l1 c1] 24) = wz at *; go_wp2_with fail
   refine HC.out.mono ?_
   rintro e w5 ⟨rfl, hE5⟩; have HE5 := Z_ (HE4.out.ext hE5); have HK5 := Z_ (HK4.out.ext hE5); clear hE5 HC HE HK HE4 HK4 q0 q1 q2 q3 hc5; go_wp2_with fail
   go_roundw
   case rel => exact ⟨q + 1, m + z, by omega, by first | rfl | simp [hpw], by go_num, by have := HR3.out; show m + z + szL (l.drop (q + 1)) = R; omega, HE5, HK5⟩
   case measure => simp [intOf]; omega
  ·obtain rfl : q = N := by omega
   have hqd : decide ((q : Int) < (q : Int)) = false := by simp
   have hT := Z_ (show R = m by have := hr.out; rw [List.drop_of_length_le (by rw [HN.out]; exact Nat.le_refl _)] at this; simp only [szL] at this; omega); clear hr; go_wp2_with fail
   go_ret
   refine ⟨?_, HE.out⟩; have e := hT.out; subst e; first | rfl | simp
end ofw
end Go.Proofs.YtpcihajmcejliacGreatDoor
namespace Go.Proofs.YtpcihajmcejliacGreatDoor
open Go.RowKit
def varV (f : FVar) : Value := .agg #[.string f.name, .bool f.pub, .int .i64 f.label, .int .i64 f.size]
def OVar (x : FVar) (v : Value) (_ : World) : Prop := v = varV x ∧ x.name.size ≤ 10000
def OProc (x : FProc) (v : Value) (w : World) : Prop := ∃ a c, v = .agg #[.string x.name, .bool x.pub, .slice a x.params.length c, .int .i64 x.writes, .bool x.gives, .int .i64 x.given] ∧ AllIn 1 IntIn w a x.params ∧ x.params.length ≤ c ∧ c ≤ maxLen ∧ x.name.size ≤ 10000
def OStr (x : ByteArray) (v : Value) (_ : World) : Prop := v = .string x ∧ x.size ≤ 10000
def OInt (x : Int) (v : Value) (_ : World) : Prop := v = .int .i64 x
def StrIn (w : World) (b o : Nat) (x : ByteArray) : Prop := w.cell? ⟨b, o, none⟩ = some (.string x) ∧ x.size ≤ 10000
namespace ofp
theorem info_int : (Tryz.prog.info? 3).map (fun i => (i.zero, i.size, i.bytes)) = some (some (.int .i64 0), 1, 8) := by kernel_rfl
theorem info_str : (Tryz.prog.info? 9).map (fun i => (i.zero, i.size, i.bytes)) = some (some (.string ⟨#[]⟩), 1, 16) := by kernel_rfl
theorem info_var : (Tryz.prog.info? 70).map (fun i => (i.zero, i.size, i.bytes)) = some (some (.agg #[.string ⟨#[]⟩, .bool false, .int .i64 0, .int .i64 0]), 4, 40) := by kernel_rfl
theorem info_proc : (Tryz.prog.info? 68).map (fun i => (i.zero, i.size, i.bytes)) = some (some (.agg #[.string ⟨#[]⟩, .bool false, .slice none 0 0, .int .i64 0, .bool false, .int .i64 0]), 6, 72) := by kernel_rfl
theorem intIn_keeps {w w' : World} (hk : Keeps w w') {b o : Nat} {x : Int} (h : IntIn w b o x) : IntIn w' b o x := hk.2 _ _ h
theorem varIn_keeps {w w' : World} (hk : Keeps w w') {b o : Nat} {x : FVar} (h : VarIn w b o x) : VarIn w' b o x := ⟨hk.2 _ _ h.1, hk.2 _ _ h.2.1, hk.2 _ _ h.2.2.1, hk.2 _ _ h.2.2.2.1, h.2.2.2.2⟩
theorem int_keeps (x : Int) (u : Value) (w w' : World) (_ : Keeps w w') (h : OInt x u w) : OInt x u w' := h
theorem str_keeps (x : ByteArray) (u : Value) (w w' : World) (_ : Keeps w w') (h : OStr x u w) : OStr x u w' := h
theorem var_keeps (x : FVar) (u : Value) (w w' : World) (_ : Keeps w w') (h : OVar x u w) : OVar x u w' := h
theorem proc_keeps (x : FProc) (u : Value) (w w' : World) (hk : Keeps w w') (h : OProc x u w) : OProc x u w' := by
 obtain ⟨a, c, e, h1, h2⟩ := h; exact ⟨a, c, e, h1.keeps hk fun _ _ _ => intIn_keeps hk, h2⟩
theorem int_lies (w : World) (b o : Nat) (x : Int) (u : Value) (h : OInt x u w) (_ : u.cells.size = 1) (hc : ∀ i, i < 1 → w.cell? ⟨b, o + i, none⟩ = u.cells[i]?) : IntIn w b o x := by
 cases h
 exact hc 0 (by decide)
theorem str_lies (w : World) (b o : Nat) (x : ByteArray) (u : Value) (h : OStr x u w) (_ : u.cells.size = 1) (hc : ∀ i, i < 1 → w.cell? ⟨b, o + i, none⟩ = u.cells[i]?) : StrIn w b o x := by
 obtain ⟨rfl, h1⟩ := h; exact ⟨hc 0 (by decide), h1⟩
theorem small (n : Nat) (h : n ≤ 10000) : n ≤ maxLen := by unfold maxLen; omega
theorem var_lies (w : World) (b o : Nat) (x : FVar) (u : Value) (h : OVar x u w) (_ : u.cells.size = 4) (hc : ∀ i, i < 4 → w.cell? ⟨b, o + i, none⟩ = u.cells[i]?) : VarIn w b o x := by
 obtain ⟨rfl, h1⟩ := h; exact ⟨hc 0 (by decide), hc 1 (by decide), hc 2 (by decide), hc 3 (by decide), small _ h1⟩
theorem proc_lies (w : World) (b o : Nat) (x : FProc) (u : Value) (h : OProc x u w) (_ : u.cells.size = 6) (hc : ∀ i, i < 6 → w.cell? ⟨b, o + i, none⟩ = u.cells[i]?) : ProcIn w b o x := by
 obtain ⟨a, c, rfl, h1, h2, h3, h4⟩ := h; exact ⟨hc 0 (by decide), hc 1 (by decide), ⟨a, c, hc 2 (by decide), h1, h2, h3⟩, hc 3 (by decide), hc 4 (by decide), hc 5 (by decide), small _ h4⟩
theorem grown_own {u u' : World} {own : Option Nat} (hg : u.grownBy u' own) : Chg (fun i => own = some i) u u' :=
 ⟨hg.os, hg.tape, hg.output, hg.size, fun i hi hn => hg.block i hi (by first | exact hn | exact fun e => hn e.symm)⟩
theorem pushedG {α : Type} {k : Nat} {E : TypeId} {V : α → Value → World → Prop} {u w4 : World} {B : Nat} {row : Value} {acc : List α} {x : α} {v : Value} {us : List Value} {o : Obj} {g c : Nat} (hV : ∀ x u w w', Keeps w w' → V x u w → V x u w') (hu1 : us.length = acc.length) (hu3 : ∀ j (h : j < acc.length) (h' : j < us.length), V acc[j] us[j] (hide (rowHid B row) u) ∧ us[j].cells.size = k) (hx : V x v (hide (rowHid B row) u)) (hk : v.cells.size = k)
  (hown : w4.ownsRow B E k (.slice (some ⟨g, 0, none⟩) (acc.length + 1) c) (acc.length + 1) (us.flatMap (fun u => u.cells.toList) ++ v.cells.toList)) (hgrow : (u.alloc o).grownBy w4 row.ownBlock) (hat : row.ownBlock = some g ∨ g = u.heap.size + 1) :
  Grow k E V B w4 (.slice (some ⟨g, 0, none⟩) (acc.length + 1) c) (acc ++ [x]) ∧ Chg (fun i => row.ownBlock = some i) u w4 := by
 have hC : Chg (fun i => row.ownBlock = some i) u w4 := (((Chg.refl (fun _ => False) u).alloc o).weak (fun _ _ h => h.elim)).then (grown_own hgrow)
 refine ⟨Grow.push hV hu1 hu3 hx hk hown hC.size (fun i hi hn => hC.block i hi hn) (fun i hi => ?_), hC⟩
 have e : g = i := by simpa [Value.ownBlock] using hi
 subst e; rcases hat with h | h
 ·exact .inl h
 ·exact .inr (by omega)
theorem grow_slice {α : Type} {k : Nat} {E : TypeId} {V : α → Value → World → Prop} {B : Nat} {w : World} {row : Value} {acc : List α} (h : Grow k E V B w row acc) : ∃ a c, row = .slice a acc.length c ∧ (acc.length ≤ c ∧ c ≤ maxLen) := by
 obtain ⟨us, _, ho, _⟩ := h.ex; rcases ho.2 with ⟨rfl, h0⟩ | ⟨g, cap, cur, rfl, _, _, h1, h2, _⟩
 ·exact ⟨_, _, by rw [h0], by rw [h0]; exact ⟨Nat.le_refl _, by decide⟩⟩
 ·exact ⟨_, _, rfl, h1, h2⟩
theorem grow_own {α : Type} {k : Nat} {E : TypeId} {V : α → Value → World → Prop} {B : Nat} {w : World} {row : Value} {acc : List α} (h : Grow k E V B w row acc) : ∀ i, row.ownBlock = some i → B ≤ i ∧ i < w.heap.size := by
 obtain ⟨us, _, ho, _⟩ := h.ex; exact fun i e => World.ownsRow.lt ho i e
end ofp
end Go.Proofs.YtpcihajmcejliacGreatDoor
namespace Go.Proofs.YtpcihajmcejliacGreatDoor
open Go.RowKit
structure GrowX {α : Type} (X : Nat → Bool) (k : Nat) (E : TypeId) (V : α → Value → World → Prop) (B : Nat) (w : World) (v : Value) (l : List α) : Prop where
 ex : ∃ us : List Value, us.length = l.length ∧ w.ownsRow B E k v l.length (us.flatMap fun u => u.cells.toList) ∧ ∀ j (h : j < l.length) (h' : j < us.length), V l[j] us[j] (hide (fun i => rowHid B v i || X i) w) ∧ us[j].cells.size = k
namespace ofp
theorem growx_nil {α : Type} (X : Nat → Bool) (k : Nat) (E : TypeId) (V : α → Value → World → Prop) (B : Nat) (w : World) : GrowX X k E V B w (.slice none 0 0) [] :=
 ⟨[], rfl, World.ownsRow_nil _ _ _ _, fun j h => by simp at h⟩
theorem growx_slice {α : Type} {X : Nat → Bool} {k : Nat} {E : TypeId} {V : α → Value → World → Prop} {B : Nat} {w : World} {row : Value} {acc : List α} (h : GrowX X k E V B w row acc) : ∃ a c, row = .slice a acc.length c ∧ (acc.length ≤ c ∧ c ≤ maxLen) := by
 obtain ⟨us, _, ho, _⟩ := h.ex; rcases ho.2 with ⟨rfl, h0⟩ | ⟨g, cap, cur, rfl, _, _, h1, h2, _⟩
 ·exact ⟨_, _, by rw [h0], by rw [h0]; exact ⟨Nat.le_refl _, by decide⟩⟩
 ·exact ⟨_, _, rfl, h1, h2⟩
theorem growx_own {α : Type} {X : Nat → Bool} {k : Nat} {E : TypeId} {V : α → Value → World → Prop} {B : Nat} {w : World} {row : Value} {acc : List α} (h : GrowX X k E V B w row acc) : ∀ i, row.ownBlock = some i → B ≤ i ∧ i < w.heap.size := by
 obtain ⟨us, _, ho, _⟩ := h.ex; exact fun i e => World.ownsRow.lt ho i e
theorem growx_chg {α : Type} {X X' : Nat → Bool} {k : Nat} {E : TypeId} {V : α → Value → World → Prop} {B : Nat} {w w' : World} {row : Value} {acc : List α} (h : GrowX X k E V B w row acc) (hV : ∀ x u w w', Keeps w w' → V x u w → V x u w') {S : Nat → Prop} (hC : Chg S w w')
  (hS : ∀ i, S i → i < B ∨ X i = true) (hO : ∀ i, row.ownBlock = some i → ¬ S i) (hX : ∀ i, X' i = true → X i = true ∨ w.heap.size ≤ i) : GrowX X' k E V B w' row acc := by
 obtain ⟨us, h1, ⟨h2, h4⟩, h3⟩ := h.ex; refine ⟨us, h1, ⟨h2, ?_⟩, fun j hj hj' => ⟨hV _ _ _ _ (keeps_hide hC.size fun i hi hm => ?_) (h3 j hj hj').1, (h3 j hj hj').2⟩⟩
 ·rcases h4 with h4 | ⟨g, cap, cur, hv, hg, hh, r⟩
  ·exact .inl h4
  ·refine .inr ⟨g, cap, cur, hv, hg, ?_, r⟩
   rw [hC.block g (Array.getElem?_eq_some_iff.1 hh).1 (hO g (by rw [hv]; rfl))]; exact hh
 ·simp only [Bool.or_eq_false_iff, rowHid, decide_eq_false_iff_not] at hm ⊢
  have h5 : X' i = false := by
   cases hx : X' i with
   | false => rfl
   | true =>
    rcases hX i hx with h | h
    ·rw [h] at hm; cases hm.2
    ·omega
  refine ⟨⟨⟨hm.1.1, hm.1.2⟩, h5⟩, hC.block i hi fun hs => ?_⟩
  rcases hS i hs with h | h
  ·exact hm.1.1 h
  ·rw [h] at hm; cases hm.2
theorem growx_row {α : Type} {X : Nat → Bool} {k : Nat} {E : TypeId} {V : α → Value → World → Prop} {In : World → Nat → Nat → α → Prop} {B : Nat} {w : World} {v : Value} {l : List α} (h : GrowX X k E V B w v l)
  (hV : ∀ x u w w', Keeps w w' → V x u w → V x u w')
  (hI : ∀ (w : World) b o x u, V x u w → u.cells.size = k → (∀ i, i < k → w.cell? ⟨b, o + i, none⟩ = u.cells[i]?) → In w b o x) : RowAt k In l v (hide (below B) w) := by
 obtain ⟨us, h1, h2, h3⟩ := h.ex; refine Grow.row (E := E) ⟨us, h1, h2, fun j hj hj' => ⟨hV _ _ _ _ (keeps_hide (Nat.le_refl _) fun i hi hm => ?_) (h3 j hj hj').1, (h3 j hj hj').2⟩⟩ hV hI
 simp only [Bool.or_eq_false_iff] at hm; exact ⟨hm.1, rfl⟩
theorem fresh_keeps {X : Nat → Bool} {A B : Nat} {row : Value} {w : World} (hB : B ≤ A) (hr : ∀ i, row.ownBlock = some i → i < A) (hX : ∀ i, X i = true → i < A) : Keeps (hide (below A) w) (hide (fun i => rowHid B row i || X i) w) := keeps_hide (Nat.le_refl _) fun i hi hm => by
 simp only [below, decide_eq_false_iff_not] at hm; refine ⟨?_, rfl⟩
 simp only [Bool.or_eq_false_iff, rowHid, decide_eq_false_iff_not]; refine ⟨⟨by omega, fun e => hm (hr i e)⟩, ?_⟩
 cases hx : X i with
 | false => rfl
 | true => exact absurd (hX i hx) hm
def ownB (v : Value) : Nat → Bool := fun i => decide (v.ownBlock = some i)
end ofp
end Go.Proofs.YtpcihajmcejliacGreatDoor
namespace Go.Proofs.YtpcihajmcejliacGreatDoor
open Go.RowKit
def openV (all : Bool) (l : List Nd) : List FVar := (varsF l).filter fun v => all || v.pub
def openP (all : Bool) (l : List Nd) : List FProc := (procsF l).filter fun p => all || p.pub
def faceF (all : Bool) (x : Nd) : FFace := ⟨x.tx, openV all x.kids, openP all x.kids⟩
def noFace : FFace := ⟨⟨#[]⟩, [], []⟩
def ofR (s : ByteArray) : FFace × List ByteArray × Int × Int :=
 if (parseR s).2.1 = 0 then
  (if (lookF (parseR s).1.tx (parseR s).1.kids [] [] 1).1 = 0 then (faceF false (parseR s).1, impsF (parseR s).1.kids, 0, 0)
  else (noFace, [], (lookF (parseR s).1.tx (parseR s).1.kids [] [] 1).1, ((lookF (parseR s).1.tx (parseR s).1.kids [] [] 1).2 : Nat)))
 else (noFace, [], (parseR s).2.1, (parseR s).2.2)
namespace ofd
open ofp
def OfPost (w : World) (R : FFace × List ByteArray × Int × Int) (e : Ending) (w' : World) : Prop :=
 Ext w w' ∧ ∃ vF vI, e = .returned (.tuple #[vF, vI, .agg #[.int .i64 R.2.2.1, .int .i64 R.2.2.2]]) ∧ FaceAt w' R.1 vF ∧ RowAt 1 StrIn R.2.1 vI w'
theorem look_ok (m : ByteArray) : ∀ (l : List Nd) (I L : List (List UInt8)) (p : Nat), (lookF m l I L p).1 = 0 → (lookF m l I L p).2 = 0 := by
 intro l; induction l with
 | nil => intro I L p _; rfl
 | cons x r ih =>
  intro I L p h; simp only [lookF] at h ⊢; split
  ·rename_i h1
   rw [if_pos h1] at h; split
   ·rename_i h2; rw [if_pos h2] at h; exact absurd (show (5 : Int) = 0 from h) (by decide)
   ·rename_i h2
    rw [if_neg h2] at h; split
    ·rename_i h3; rw [if_pos h3] at h; exact absurd (show (5 : Int) = 0 from h) (by decide)
    ·rename_i h3
     rw [if_neg h3] at h; split
     ·rename_i h4; rw [if_pos h4] at h; exact absurd (show (1 : Int) = 0 from h) (by decide)
     ·rename_i h4; rw [if_neg h4] at h; exact ih _ _ _ h
  ·rename_i h1
   rw [if_neg h1] at h; split
   ·rename_i h2; rw [if_pos h2] at h; exact absurd (show (5 : Int) = 0 from h) (by decide)
   ·rename_i h2
    rw [if_neg h2] at h; split
    ·rename_i h3; rw [if_pos h3] at h; exact absurd (show (1 : Int) = 0 from h) (by decide)
    ·rename_i h3
     rw [if_neg h3] at h; split
     ·rename_i h4; rw [if_pos h4] at h; exact ih _ _ _ h
     ·rename_i h4; rw [if_neg h4] at h; exact absurd h h4
theorem scanTok_zero : ∀ (f : Nat) (l : List UInt8) (p : Nat) (acc : List Tok), (scanTok f l p acc).2.1 = 0 → (scanTok f l p acc).2.2 = 0 := by
 intro f; induction f with
 | zero => intro l p acc _; rfl
 | succ f ih =>
  intro l p acc h; simp only [scanTok] at h ⊢; split
  ·rename_i h1
   rw [if_pos h1] at h; split
   ·rename_i h2
    rw [if_pos h2] at h; exact ih _ _ _ h
   ·rename_i h2
    rw [if_neg h2] at h; exact absurd h h2
  ·rfl
theorem scan_zero {l : List UInt8} (h : (scanF l).2.1 = 0) : (scanF l).2.2 = 0 := by
 unfold scanF at h ⊢; split
 ·rename_i h1
  rw [if_pos h1] at h
 ·rename_i h1
  rw [if_neg h1] at h; exact scanTok_zero _ _ _ _ h
theorem parse_wf (s : ByteArray) (h : (parseR s).2.1 = 0) : (∀ y ∈ (parseR s).1.kids, DeclOk y) ∧ szF (parseR s).1 ≤ 500 ∧ (parseR s).2.2 = 0 := by
 unfold parseR at h ⊢; obtain ⟨T, hT⟩ : ∃ T, scanF s.data.toList = T := ⟨_, rfl⟩; have hz := scan_zero (l := s.data.toList); rw [hT] at h hz ⊢; obtain ⟨ts, c, a⟩ := T; simp only at h ⊢; by_cases hc : c = 0
 ·subst hc
  obtain ⟨-, hok, -⟩ := synk.scan_tks s ts a hT; rw [if_pos rfl] at h ⊢; cases hp : prs (20 * ts.length + 5) .module (tksOf s ts) with
  | out => rw [hp] at h; exact ⟨fun y hy => (by cases hy), (by decide : szF zeroN ≤ 500), rfl⟩
  | bad l => rw [hp] at h; exact absurd (show (2 : Int) = 0 from h) (by decide)
  | got x r =>
   rw [hp] at h; simp only at h ⊢; by_cases hw : (weighF 16 x 0).1 = true
   ·rw [if_pos hw] at h ⊢
    obtain ⟨m, kids, rfl, hk⟩ := ofm.module_ok _ _ _ _ hok hp; have h2 := ((weigh_law 16 _ 0 (by omega)).1.1 hw).2; exact ⟨hk, by show szF (Nd.mk 1 m 0 kids) ≤ 500; omega, by have : a = 0 := hz rfl; subst this; rfl⟩
   ·rw [if_neg hw] at h
    exact absurd (show (1 : Int) = 0 from h) (by decide)
 ·rw [if_neg hc] at h
  exact absurd h hc
end ofd
end Go.Proofs.YtpcihajmcejliacGreatDoor
