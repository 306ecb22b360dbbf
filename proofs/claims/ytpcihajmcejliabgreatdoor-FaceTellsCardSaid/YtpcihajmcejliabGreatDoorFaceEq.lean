/- The walk of the reference's Of: a text's face, its imports, its fault. The walk of the program's Of: a text's face, its imports, its fault. The walks of chapter 4's small functions: what a label is; a text's place in a list; whether two rows, two procedures are one. The walks of slices.Equal, as the faces' comparisons use it: of rows of numbers, of rows of variables. -/
import Derived.Test.YtpcihajmcejliabGreatDoorLexRefN
import Derived.Test.YtpcihajmcejliabGreatDoorSynLaw
import Derived.Test.YtpcihajmcejliabGreatDoorOfK
import Derived.Test.YtpcihajmcejliabGreatDoorFacePlc
namespace Go.Proofs.YtpcihajmcejliabGreatDoor
open Go.RowKit
namespace ofo
open synw ofp ofd
structure OA (w u : World) (R F N V : Nat) (fc nc : Array Value) (z0 z1 c a : Int) : Prop where
 ext : Ext w u
 rf : Blk u R fc 52
 rz : Blk u F #[.int .i64 z0, .int .i64 z1] 68
 nb : Blk u N nc 66
 vb : Blk u V #[.int .i64 c, .int .i64 a] 68
 hw : w.heap.size ≤ R
 hRF : R < F
 hFN : F < N
 hNV : N < V
theorem OA.extend {w u u' : World} {R F N V : Nat} {fc nc : Array Value} {z0 z1 c a : Int} (h : OA w u R F N V fc nc z0 z1 c a) (hE : Ext u u') : OA w u' R F N V fc nc z0 z1 c a :=
 ⟨h.ext.ext hE, h.rf.ext hE, h.rz.ext hE, h.nb.ext hE, h.vb.ext hE, h.hw, h.hRF, h.hFN, h.hNV⟩
theorem OA.setV {w u : World} {R F N V : Nat} {fc nc : Array Value} {z0 z1 c a : Int} (h : OA w u R F N V fc nc z0 z1 c a) (c' a' : Int) : OA w ((u.setCell ⟨V, 0, none⟩ (.int .i64 c')).setCell ⟨V, 1, none⟩ (.int .i64 a')) R F N V fc nc z0 z1 c' a' := by
 have h1 := h.hw; have h2 := h.hRF; have h3 := h.hFN; have h4 := h.hNV
 have hC := chg_set (chg_set (S := V) (Chg.refl _ u) 0 (.int .i64 c')) 1 (.int .i64 a'); exact ⟨h.ext.trans hC (fun i hi e => by omega), h.rf.chg hC (by omega), h.rz.chg hC (by omega), h.nb.chg hC (by omega), (h.vb.set 0 _).set 1 _, h1, h2, h3, h4⟩
theorem OA.setF {w u : World} {R F N V : Nat} {fc nc : Array Value} {z0 z1 c a : Int} (h : OA w u R F N V fc nc z0 z1 c a) : OA w ((u.setCell ⟨F, 0, none⟩ (.int .i64 c)).setCell ⟨F, 1, none⟩ (.int .i64 a)) R F N V fc nc c a c a := by
 have h1 := h.hw; have h2 := h.hRF; have h3 := h.hFN; have h4 := h.hNV
 have hC := chg_set (chg_set (S := F) (Chg.refl _ u) 0 (.int .i64 c)) 1 (.int .i64 a); exact ⟨h.ext.trans hC (fun i hi e => by omega), h.rf.chg hC (by omega), (h.rz.set 0 _).set 1 _, h.nb.chg hC (by omega), h.vb.chg hC (by omega), h1, h2, h3, h4⟩
theorem OA.setR {w u : World} {R F N V : Nat} {p q r : Value} {nc : Array Value} {z0 z1 c a : Int} (h : OA w u R F N V #[p, q, r] nc z0 z1 c a) (p' q' r' : Value) : OA w (((u.setCell ⟨R, 0, none⟩ p').setCell ⟨R, 1, none⟩ q').setCell ⟨R, 2, none⟩ r') R F N V #[p', q', r'] nc z0 z1 c a := by
 have h1 := h.hw; have h2 := h.hRF; have h3 := h.hFN; have h4 := h.hNV
 have hC := chg_set (chg_set (chg_set (S := R) (Chg.refl _ u) 0 p') 1 q') 2 r'; exact ⟨h.ext.trans hC (fun i hi e => by omega), ((h.rf.set 0 _).set 1 _).set 2 _, h.rz.chg hC (by omega), h.nb.chg hC (by omega), h.vb.chg hC (by omega), h1, h2, h3, h4⟩
theorem results_c1c {P : Program} {fn : Func} {p m q : Tmp} {ty ty2 : TypeId} (h : fn.results = #[.cell p ty, .tmp m, .cell q ty2]) (tmps : Array Value) (w : World) {g g2 : Nat} {T T2 : TypeId} {cs cs2 : Array Value} {d d2 : TypeDesc}
  (hp : tmps.getD p undef = .pointer (some ⟨g, 0, none⟩)) (hg : Blk w g cs T) (hu : P.underlying ty = some d) (hd : (match d with | .struct _ | .array _ _ => true | _ => false) = true) (hi : (P.info? ty).map (·.size) = some cs.size)
  (hq : tmps.getD q undef = .pointer (some ⟨g2, 0, none⟩)) (hg2 : Blk w g2 cs2 T2) (hu2 : P.underlying ty2 = some d2) (hd2 : (match d2 with | .struct _ | .array _ _ => true | _ => false) = true) (hi2 : (P.info? ty2).map (·.size) = some cs2.size) {v : Value} (hm : tmps.getD m undef = v) :
  (results fn tmps).run P w = .ok (.tuple #[.agg cs, v, .agg cs2]) w := by
 have hp' : tmps[p]?.getD undef = .pointer (some ⟨g, 0, none⟩) := by simpa using hp
 have hq' : tmps[q]?.getD undef = .pointer (some ⟨g2, 0, none⟩) := by simpa using hq
 have hm' : tmps[m]?.getD undef = v := by simpa using hm
 simp [results, h, hp', hq', hm', asAddr, run_loadVar_row w g T ty cs (0, 0) d hg hu hd hi, run_loadVar_row w g2 T2 ty2 cs2 (0, 0) d2 hg2 hu2 hd2 hi2]
theorem rowAt_keeps {l : List ByteArray} {v : Value} {w w' : World} (hk : Keeps w w') (h : RowAt 1 StrIn l v w) : RowAt 1 StrIn l v w' := h.keeps (fun _ _ _ => strIn_keeps hk) hk
theorem keeps_over {w1 u : World} (hE : Ext w1 u) : Keeps w1 (hide (fun i => decide (w1.heap.size ≤ i)) u) := ⟨by rw [hide_size]; exact hE.size, fun p v hp => by
 have hlt := World.block_lt_of_cell? w1 p hp; rw [hide_cell _ _ _ (by simp; omega), World.cell?_of_block (hE.block p.block hlt id)]; exact hp⟩
theorem noFace_at (w : World) : FaceAt w noFace (.agg #[.string ⟨#[]⟩, .slice none 0 0, .slice none 0 0]) :=
 ⟨none, 0, none, 0, rfl, fun j h => (by cases h), fun j h => (by cases h), by decide, Nat.le_refl _, by decide, Nat.le_refl _, by decide⟩
theorem noRow_at (w : World) : RowAt 1 StrIn [] (.slice none 0 0) w := ⟨none, 0, rfl, Nat.le_refl _, by decide, fun j h => (by cases h)⟩
def OC (w : World) (R F N V : Nat) (nc : Array Value) (c a : Int) (f : FFace) (is : List ByteArray) : List Value → World → Prop
 | [], u => OA w u R F N V #[.string ⟨#[]⟩, .slice none 0 0, .slice none 0 0] nc 0 0 c a
 | [vf], u => OA w u R F N V #[.string ⟨#[]⟩, .slice none 0 0, .slice none 0 0] nc 0 0 c a ∧ FaceAt (hide (below (V + 1)) u) f vf
 | [vf, vi], u => OA w u R F N V #[.string ⟨#[]⟩, .slice none 0 0, .slice none 0 0] nc 0 0 c a ∧ FaceAt (hide (below (V + 1)) u) f vf ∧ RowAt 1 StrIn is vi (hide (below (V + 1)) u)
 | [vf, vi, _], u => OA w u R F N V vf.cells nc 0 0 c a ∧ FaceAt (hide (below (V + 1)) u) f vf ∧ RowAt 1 StrIn is vi (hide (below (V + 1)) u)
 | [vf, vi, _, vi2], u => vi2 = vi ∧ OA w u R F N V vf.cells nc 0 0 c a ∧ FaceAt (hide (below (V + 1)) u) f vf ∧ RowAt 1 StrIn is vi (hide (below (V + 1)) u)
 | [vf, vi, _, vi2, _], u => vi2 = vi ∧ OA w u R F N V vf.cells nc c a c a ∧ FaceAt (hide (below (V + 1)) u) f vf ∧ RowAt 1 StrIn is vi (hide (below (V + 1)) u)
 | _, _ => False
theorem OC.any {w : World} {R F N V : Nat} {nc : Array Value} {c a : Int} {f : FFace} {is : List ByteArray} {vs : List Value} {u : World} (h : OC w R F N V nc c a f is vs u) : ∃ fc z0 z1, OA w u R F N V fc nc z0 z1 c a := by
 match vs, h with
 | [], h => exact ⟨_, _, _, h⟩
 | [_], h => exact ⟨_, _, _, h.1⟩
 | [_, _], h => exact ⟨_, _, _, h.1⟩
 | [_, _, _], h => exact ⟨_, _, _, h.1⟩
 | [_, _, _, _], h => exact ⟨_, _, _, h.2.1⟩
 | [_, _, _, _, _], h => exact ⟨_, _, _, h.2.1⟩
set_option maxRecDepth 100000 in
set_option maxHeartbeats 8000000 in
theorem rof_any (s : ByteArray) (w : World) (hs : s.size ≤ 9223372036854775807) :
  Calls Tryz.prog 30 #[.string s] w (OfPost w (ofR s)) := by
 obtain ⟨Q, hQ⟩ : ∃ Q, ofR s = Q := ⟨_, rfl⟩; rw [hQ]; unfold ofR at hQ; have hwf := parse_wf s; have HC := Z_ (fun u => synr.rparse_any s u hs); obtain ⟨T, hT⟩ : ∃ T, parseR s = T := ⟨_, rfl⟩; rw [hT] at hQ hwf HC; obtain ⟨x, c, a⟩ := T; simp only at hQ hwf; have HQ := Z_ hQ; have HWF := Z_ hwf; obtain ⟨R, hR⟩ : ∃ R, w.heap.size = R := ⟨_, rfl⟩; obtain ⟨F, hF⟩ : ∃ F, R + 1 = F := ⟨_, rfl⟩; have hR0 := (Blk.made w #[.string ⟨#[]⟩, .slice none 0 0, .slice none 0 0] 52).alloc (.cells #[.int .i64 0, .int .i64 0] 68); have hF0 := Blk.made2 w (.cells #[.string ⟨#[]⟩, .slice none 0 0, .slice none 0 0] 52) #[.int .i64 0, .int .i64 0] 68; rw [hR] at hR0 hF0; rw [hF] at hF0; have hX0 := ((Chg.refl (fun _ => False) w).alloc (.cells #[.string ⟨#[]⟩, .slice none 0 0, .slice none 0 0] 52)).alloc (.cells #[.int .i64 0, .int .i64 0] 68)
 have hRF : R < F := by omega
 have HR0 := Z_ hR0; have HF0 := Z_ hF0; have HX0 := Z_ hX0; clear hT hQ hR0 hF0 hX0 hwf; go_enter Tryz.func30, Tryz.ntmps30
 go_upto_region 1 with (fail)
 try rw [hF]
 generalize (w.alloc (.cells #[.string ⟨#[]⟩, .slice none 0 0, .slice none 0 0] 52)).alloc (.cells #[.int .i64 0, .int .i64 0] 68) = u0 at *; go_wp2_with fail
 refine (HC.out _).mono ?_
 rintro e w1 ⟨hE1, v1, rfl, hn1⟩; obtain ⟨k1, t1, m1, a1, l1, c1, rfl⟩ := nd_form hn1; have hEN := ((Chg.refl (fun _ => False) w1).alloc (.cells #[.int .i64 k1, .string t1, .int .i64 m1, .slice a1 l1 c1] 66)).alloc (.cells #[.int .i64 c, .int .i64 a] 68)
 have hOA : OA w ((w1.alloc (.cells #[.int .i64 k1, .string t1, .int .i64 m1, .slice a1 l1 c1] 66)).alloc (.cells #[.int .i64 c, .int .i64 a] 68)) R F w1.heap.size (w1.heap.size + 1) #[.string ⟨#[]⟩, .slice none 0 0, .slice none 0 0] #[.int .i64 k1, .string t1, .int .i64 m1, .slice a1 l1 c1] 0 0 c a :=
  ⟨(HX0.out.ext hE1).ext hEN, (HR0.out.ext hE1).ext hEN, (HF0.out.ext hE1).ext hEN, (Blk.made w1 _ _).alloc _, Blk.made2 w1 _ _ _, by omega, hRF, by have := (HF0.out.ext hE1).lt; omega, by omega⟩
 have HO := Z_ hOA; have HN := Z_ (fun (u : World) (hE : Ext w1 u) => ndAt_keeps (keeps_over hE) x _ hn1); have HE1 := Z_ hEN; have HW1 := Z_ (show w1.heap.size ≤ w1.heap.size from Nat.le_refl _); obtain ⟨N, hN⟩ : ∃ N, w1.heap.size = N := ⟨_, rfl⟩; rw [hN] at HO; replace HW1 : Hid (w1.heap.size = N) := Z_ hN; clear hOA hEN hE1 hn1 HC HR0 HF0 HX0; go_upto_region 2 with (fail)
 try rw [hN]
 obtain ⟨V, hV⟩ : ∃ V, N + 1 = V := ⟨_, rfl⟩; rw [hV] at HO
 try rw [hV]
 have hsz2 : V < ((w1.alloc (.cells #[.int .i64 k1, .string t1, .int .i64 m1, .slice a1 l1 c1] 66)).alloc (.cells #[.int .i64 c, .int .i64 a] 68)).heap.size := HO.out.vb.lt; generalize (w1.alloc (.cells #[.int .i64 k1, .string t1, .int .i64 m1, .slice a1 l1 c1] 66)).alloc (.cells #[.int .i64 c, .int .i64 a] 68) = u1 at *; clear hN hV; have hv := HO.out.vb.cell; by_cases hc0 : c = 0
 ·subst hc0
  have hq2 := HQ.out; rw [if_pos rfl] at hq2; have HQ2 := Z_ hq2; obtain ⟨hdk, hsz, -⟩ := HWF.out rfl; have HLK := Z_ (ofl.rlook_any (HN.out _ HE1.out) hdk (by omega)); obtain ⟨LF, hLF⟩ : ∃ LF, lookF x.tx x.kids [] [] 1 = LF := ⟨_, rfl⟩; have hlo := look_ok x.tx x.kids [] [] 1; rw [hLF] at HLK HQ2 hlo; obtain ⟨lc, lp⟩ := LF; simp only at HLK HQ2 hlo; have HLO := Z_ hlo; have HDK := Z_ hdk; have hnc := HO.out.nb.cell; clear HQ hq2 hLF hlo HWF hdk; go_wp2_with fail
  refine HLK.out.mono ?_
  rintro e w3 ⟨rfl, hE3⟩; have HO3 := Z_ ((HO.out.extend hE3).setV lc (lp : Int)); have hvc := (HO.out.extend hE3).vb.cell; have hvf := (HO.out.extend hE3).vb.frozen; have hvl := (HO.out.extend hE3).vb.lt; have hEV : Ext w1 ((w3.setCell ⟨V, 0, none⟩ (.int .i64 lc)).setCell ⟨V, 1, none⟩ (.int .i64 (lp : Nat))) := (HE1.out.ext hE3).trans (chg_set (chg_set (S := V) (Chg.refl _ _) 0 _) 1 _) (fun i hi e => by have := HW1.out; have := HO.out.hNV; omega); have HEV := Z_ hEV; clear hE3 hEV HLK HO hv hnc; go_upto_region 4 with (fail)
  clear hvc hvf hvl; generalize (w3.setCell ⟨V, 0, none⟩ (.int .i64 lc)).setCell ⟨V, 1, none⟩ (.int .i64 (lp : Nat)) = u3 at *; have hv := HO3.out.vb.cell; by_cases hl0 : lc = 0
  ·subst hl0
   obtain rfl : lp = 0 := HLO.out rfl; have HQ3 := Z_ (show Q = (faceF false x, impsF x.kids, (0 : Int), (0 : Int)) by have := HQ2.out; rw [if_pos rfl] at this; exact this.symm); clear HQ2 HLO; go_upto_region 6 with (fail)
   clear hv; refine wp_region_weave [1, 3, 5, 6, 7] (fun i v _ => v = ([.agg #[.int .i64 k1, .string t1, .int .i64 m1, .slice a1 l1 c1], undef, .agg #[.int .i64 k1, .string t1, .int .i64 m1, .slice a1 l1 c1], undef, .agg #[.int .i64 0, .int .i64 ((0 : Nat) : Int)], undef, undef, undef] : List Value).getD i undef) (fun vs u => OC w R F N V #[.int .i64 k1, .string t1, .int .i64 m1, .slice a1 l1 c1] 0 ((0 : Nat) : Int) (faceF false x) (impsF x.kids) vs u ∧ (vs.length ≤ 1 → Ext w1 u)) (fun _ _ => True) (frame := ?frab) (fun x => ?hfab) synw.mixed (by kernel_rfl) (by kernel_rfl) (fun _ _ _ _ h _ => h) ?h0b ?stb ?finb
   case hfab =>
    simp only [chain.frameOf, chain.fill, chain.setOpt, chain.dstOf, List.size_toArray, List.length_cons, List.length_nil, List.getElem?_toArray, List.getElem?_cons_succ, List.getElem?_cons_zero, List.setIfInBounds_toArray, List.set_cons_succ, List.set_cons_zero]; exact rfl
   case h0b => exact ⟨(show OC _ _ _ _ _ _ _ _ _ _ [] _ from HO3.out.extend (Chg.refl _ _).drew), fun _ => HEV.out.ext (Chg.refl _ _).drew⟩
   case stb =>
    refine AllFrom.cons (fun x vs u hF hm hb hd K' hK' => ?sb0) (AllFrom.cons (fun x vs u hF hm hb hd K' hK' => ?sb1) (AllFrom.cons (fun x vs u hF hm hb hd K' hK' => ?sb2) (AllFrom.cons (fun x vs u hF hm hb hd K' hK' => ?sb3) (AllFrom.cons (fun x vs u hF hm hb hd K' hK' => ?sb4) (AllFrom.cons (fun x vs u hF hm hb hd K' hK' => ?sb5) (AllFrom.cons (fun x vs u hF hm hb hd K' hK' => ?sb6) (AllFrom.cons (fun x vs u hF hm hb hd K' hK' => ?sb7) (AllFrom.nil))))))))
    case sb0 =>
     obtain ⟨_, _, _, hAA⟩ := OC.any hF.1; have hq := hAA.nb.cell; clear hAA; have HF := Z_ hF; clear hd hm hb hF; go_simp; exact hK'.out _ _ _ (rfl) trivial ⟨rfl, HF.out⟩
    case sb1 =>
     obtain rfl := List.eq_nil_of_length_eq_zero (hm 0 (by kernel_rfl)); have y0 := hd 0 (by decide) (by kernel_rfl); replace y0 : x 22 = .agg #[.int .i64 k1, .string t1, .int .i64 m1, .slice a1 l1 c1] := y0; obtain ⟨hAA, hEE⟩ := hF; have hEE := hEE (by simp); have HAA := Z_ (show OA _ _ _ _ _ _ _ _ _ _ _ _ from hAA); have HX := Z_ (off.rface_any false (HN.out u hEE) HDK.out (by omega)); have HEE := Z_ hEE; clear hd hm hb hAA hEE; go_simp; refine HX.out.mono ?_
     rintro e u2 ⟨vf, rfl, hface, hE⟩; exact hK'.out _ _ _ (by simp only [y0]; rfl) trivial ⟨⟨HAA.out.extend hE, faceAt_keeps (ofp.keeps_low (by have := HAA.out.vb.lt; omega)) hface⟩, fun _ => HEE.out.ext hE⟩
    case sb2 =>
     obtain ⟨_, _, _, hAA⟩ := OC.any hF.1; have hq := hAA.nb.cell; clear hAA; have HF := Z_ hF; clear hd hm hb hF; go_simp; exact hK'.out _ _ _ (rfl) trivial ⟨rfl, HF.out⟩
    case sb3 =>
     obtain ⟨v0, rfl⟩ : ∃ v0, vs = [v0] := by match vs, hm 1 (by kernel_rfl) with | [v0], _ => exact ⟨_, rfl⟩
     have y0 := hd 2 (by decide) (by kernel_rfl); replace y0 : x 24 = .agg #[.int .i64 k1, .string t1, .int .i64 m1, .slice a1 l1 c1] := y0; obtain ⟨⟨hAA, hFA⟩, hEE⟩ := hF; have hEE := hEE (by simp); have HAA := Z_ hAA; have HFA := Z_ hFA; have HX := Z_ (off.rimps_any (HN.out u hEE) (by omega)); clear hd hm hb hAA hEE hFA; go_simp; refine HX.out.mono ?_
     rintro e u2 ⟨vi, rfl, hrow, hE⟩; exact hK'.out _ _ _ (by simp only [y0]; rfl) trivial ⟨⟨HAA.out.extend hE, faceAt_keeps (keeps_chg hE fun _ _ e => e.elim) HFA.out, rowAt_keeps (ofp.keeps_low (by have := HAA.out.vb.lt; omega)) hrow⟩, fun h => by simp at h⟩
    case sb4 =>
     obtain ⟨_, _, _, hAA⟩ := OC.any hF.1; have hq := hAA.vb.cell; clear hAA; have HF := Z_ hF; clear hd hm hb hF; go_simp; exact hK'.out _ _ _ (rfl) trivial ⟨rfl, HF.out⟩
    case sb5 =>
     obtain ⟨v0, v1, rfl⟩ : ∃ v0 v1, vs = [v0, v1] := by match vs, hm 2 (by kernel_rfl) with | [v0, v1], _ => exact ⟨_, _, rfl⟩
     have y0 := hd 1 (by decide) (by kernel_rfl) 23 (by kernel_rfl); replace y0 : x 23 = v0 := y0; obtain ⟨⟨hAA, hFA, hRA⟩, -⟩ := hF; have hfo : ∃ sn fa n1 fm fc n2 fd, v0 = .agg #[.string sn, .slice fa n1 fm, .slice fc n2 fd] := by obtain ⟨a_, m_, c_, d_, e_, -⟩ := hFA; exact ⟨_, _, _, _, _, _, _, e_⟩
     obtain ⟨sn, fa, n1, fm, fc, n2, fd, rfl⟩ := hfo; have hq := hAA.rf.cell; have hf := hAA.rf.frozen; have hl := hAA.rf.lt; have HAA := Z_ hAA; have HFA := Z_ hFA; have HRA := Z_ hRA; clear hd hm hb hAA hFA hRA; go_simp; have hC := chg_set (chg_set (chg_set (S := R) (Chg.refl _ u) 0 (.string sn)) 1 (.slice fa n1 fm)) 2 (.slice fc n2 fd); have hRV : R < V + 1 := by have := HAA.out.hRF; have := HAA.out.hFN; have := HAA.out.hNV; omega
     exact hK'.out _ _ undef (by simp only [y0]; rfl) trivial ⟨⟨HAA.out.setR _ _ _, faceAt_keeps (keeps_chg hC fun i _ e => by subst e; simp [below]; omega) HFA.out, rowAt_keeps (keeps_chg hC fun i _ e => by subst e; simp [below]; omega) HRA.out⟩, fun h => by simp at h⟩
    case sb6 =>
     obtain ⟨v0, v1, v2, rfl⟩ : ∃ v0 v1 v2, vs = [v0, v1, v2] := by match vs, hm 3 (by kernel_rfl) with | [v0, v1, v2], _ => exact ⟨_, _, _, rfl⟩
     have y0 := hd 3 (by decide) (by kernel_rfl) 25 (by kernel_rfl); replace y0 : x 25 = v1 := y0; have HF := Z_ hF.1; clear hd hm hb hF; go_simp; exact hK'.out _ _ _ (by simp only [y0]; rfl) trivial ⟨⟨rfl, HF.out⟩, fun h => by simp at h⟩
    case sb7 =>
     obtain ⟨v0, v1, v2, v3, rfl⟩ : ∃ v0 v1 v2 v3, vs = [v0, v1, v2, v3] := by match vs, hm 4 (by kernel_rfl) with | [v0, v1, v2, v3], _ => exact ⟨_, _, _, _, rfl⟩
     have y0 := hd 4 (by decide) (by kernel_rfl); replace y0 : x 26 = .agg #[.int .i64 0, .int .i64 ((0 : Nat) : Int)] := y0; obtain ⟨⟨rfl, hAA, hFA, hRA⟩, -⟩ := hF; have hq := hAA.rz.cell; have hf := hAA.rz.frozen; have hl := hAA.rz.lt; have HAA := Z_ hAA; have HFA := Z_ hFA; have HRA := Z_ hRA; clear hd hm hb hAA hFA hRA; go_simp; have hC := chg_set (chg_set (S := F) (Chg.refl _ u) 0 (.int .i64 0)) 1 (.int .i64 ((0 : Nat) : Int)); have hRV : F < V + 1 := by have := HAA.out.hFN; have := HAA.out.hNV; omega
     exact hK'.out _ _ undef (by simp only [y0]; rfl) trivial ⟨⟨rfl, HAA.out.setF, faceAt_keeps (keeps_chg hC fun i _ e => by subst e; simp [below]; omega) HFA.out, rowAt_keeps (keeps_chg hC fun i _ e => by subst e; simp [below]; omega) HRA.out⟩, fun h => by simp at h⟩
   case finb =>
    intro x9 vs w9 hl hF hk; obtain ⟨v0, v1, v2, v3, v4, rfl⟩ : ∃ v0 v1 v2 v3 v4, vs = [v0, v1, v2, v3, v4] := by match vs, hl with | [v0, v1, v2, v3, v4], _ => exact ⟨_, _, _, _, _, rfl⟩
    have y3 := hk 6 (by decide) 3 (by kernel_rfl); replace y3 : x9 3 = v3 := y3; obtain ⟨⟨rfl, hAA, hFA, hRA⟩, -⟩ := hF; have hfo : ∃ p q r, v0 = .agg #[p, q, r] := by obtain ⟨a_, m_, c_, d_, e_, -⟩ := hFA; exact ⟨_, _, _, e_⟩
    obtain ⟨p9, q9, r9, rfl⟩ := hfo; have HP9 := Z_ hAA; have HFA := Z_ hFA; have HRA := Z_ hRA; clear hk hl hAA hFA hRA; go_wp2_with fail
    refine bodyPost_ret (results_c1c rfl _ _ rfl HP9.out.rf Tryz.underlying52 rfl (by kernel_rfl) rfl HP9.out.rz Tryz.underlying68 rfl (by kernel_rfl) (v := v3) (by simp [y3])) rfl ?_
    rw [HQ3.out]; exact ⟨HP9.out.ext, _, _, rfl, faceAt_keeps (keeps_bare _ _) HFA.out, rowAt_keeps (keeps_bare _ _) HRA.out⟩
  ·have hln : (lc != 0) = true := by simpa using hl0
   have HQ3 := Z_ (show Q = (noFace, [], lc, (lp : Int)) by have := HQ2.out; rw [if_neg hl0] at this; exact this.symm); clear HQ2 HLO; go_upto_region 5 with (fail)
   clear hv; refine wp_region_weave [2, 4] (fun i v _ => v = ([.agg #[.string ⟨#[]⟩, .slice none 0 0, .slice none 0 0], .agg #[.int .i64 (lc), .int .i64 (((lp : Nat) : Int))], undef, .slice none 0 0, undef] : List Value).getD i undef) (fun vs u => ∃ z0 z1 : Int, (vs.length = 2 → z0 = (lc) ∧ z1 = (((lp : Nat) : Int))) ∧ OA w u R F N V #[.string ⟨#[]⟩, .slice none 0 0, .slice none 0 0] #[.int .i64 k1, .string t1, .int .i64 m1, .slice a1 l1 c1] z0 z1 (lc) (((lp : Nat) : Int))) (fun _ _ => True) (frame := ?fraa) (fun x => ?hfaa) synw.mixed (by kernel_rfl) (by kernel_rfl) (fun _ _ _ _ h _ => h) ?h0a ?sta ?fina
   case hfaa =>
    simp only [chain.frameOf, chain.fill, chain.setOpt, chain.dstOf, List.size_toArray, List.length_cons, List.length_nil, List.getElem?_toArray, List.getElem?_cons_succ, List.getElem?_cons_zero, List.setIfInBounds_toArray, List.set_cons_succ, List.set_cons_zero]; exact rfl
   case h0a => exact ⟨0, 0, (fun h => (by cases h)), HO3.out.extend (Chg.refl _ _).drew⟩
   case sta =>
    refine AllFrom.cons (fun x vs u hF hm hb hd K' hK' => ?sa0) (AllFrom.cons (fun x vs u hF hm hb hd K' hK' => ?sa1) (AllFrom.cons (fun x vs u hF hm hb hd K' hK' => ?sa2) (AllFrom.cons (fun x vs u hF hm hb hd K' hK' => ?sa3) (AllFrom.cons (fun x vs u hF hm hb hd K' hK' => ?sa4) (AllFrom.nil)))))
    case sa0 =>
     have HF := Z_ hF; clear hd hm hb hF; go_simp; exact hK'.out _ _ _ (rfl) trivial ⟨rfl, HF.out⟩
    case sa1 =>
     obtain ⟨_, _, _, hAA⟩ := id hF; have hq := hAA.vb.cell; clear hAA; have HF := Z_ hF; clear hd hm hb hF; go_simp; exact hK'.out _ _ _ (rfl) trivial ⟨rfl, HF.out⟩
    case sa2 =>
     obtain rfl := List.eq_nil_of_length_eq_zero (hm 0 (by kernel_rfl)); have y0 := hd 0 (by decide) (by kernel_rfl); replace y0 : x 20 = .agg #[.string ⟨#[]⟩, .slice none 0 0, .slice none 0 0] := y0; obtain ⟨z0, z1, hz, hAA⟩ := hF; have hq := hAA.rf.cell; have hf := hAA.rf.frozen; have hl := hAA.rf.lt; have HF := Z_ hAA; clear hd hm hb hAA hz; go_simp; exact hK'.out _ _ undef (by simp only [y0]; rfl) trivial ⟨z0, z1, (fun h => (by cases h)), HF.out.setR _ _ _⟩
    case sa3 =>
     have HF := Z_ hF; clear hd hm hb hF; go_simp; exact hK'.out _ _ _ (rfl) trivial ⟨rfl, HF.out⟩
    case sa4 =>
     obtain ⟨v0, rfl⟩ : ∃ v0, vs = [v0] := by match vs, hm 1 (by kernel_rfl) with | [v0], _ => exact ⟨_, rfl⟩
     have y0 := hd 1 (by decide) (by kernel_rfl); replace y0 : x 21 = .agg #[.int .i64 (lc), .int .i64 (((lp : Nat) : Int))] := y0; obtain ⟨z0, z1, hz, hAA⟩ := hF; have hq := hAA.rz.cell; have hf := hAA.rz.frozen; have hl := hAA.rz.lt; have HF := Z_ hAA; clear hd hm hb hAA hz; go_simp; exact hK'.out _ _ undef (by simp only [y0]; rfl) trivial ⟨_, _, fun _ => ⟨rfl, rfl⟩, HF.out.setF⟩
   case fina =>
    intro x9 vs w9 hl hF hk; obtain ⟨v0, v1, rfl⟩ : ∃ v0 v1, vs = [v0, v1] := by match vs, hl with | [v0, v1], _ => exact ⟨_, _, rfl⟩
    obtain ⟨z0, z1, hz, hAA⟩ := hF; obtain ⟨hz0, hz1⟩ := hz rfl; rw [hz0, hz1] at hAA; have y3 := hk 3 (by decide); replace y3 : x9 3 = .slice none 0 0 := y3; have HP9 := Z_ hAA; clear hk hl hAA; go_wp2_with fail
    refine bodyPost_ret (results_c1c rfl _ _ rfl HP9.out.rf Tryz.underlying52 rfl (by kernel_rfl) rfl HP9.out.rz Tryz.underlying68 rfl (by kernel_rfl) (v := .slice none 0 0) (by simp [y3])) rfl ?_
    rw [show Q = (noFace, [], (lc), (((lp : Nat) : Int))) from HQ3.out]; exact ⟨HP9.out.ext, _, _, rfl, noFace_at _, noRow_at _⟩
 ·have hcn : (c != 0) = true := by simpa using hc0
  have HQ3 := Z_ (show Q = (noFace, [], c, a) by have := HQ.out; rw [if_neg hc0] at this; exact this.symm); clear HQ HWF; have hce : (c == 0) = false := by simpa using hc0
  go_upto_region 5 with (fail)
  clear hv; refine wp_region_weave [2, 4] (fun i v _ => v = ([.agg #[.string ⟨#[]⟩, .slice none 0 0, .slice none 0 0], .agg #[.int .i64 (c), .int .i64 (a)], undef, .slice none 0 0, undef] : List Value).getD i undef) (fun vs u => ∃ z0 z1 : Int, (vs.length = 2 → z0 = (c) ∧ z1 = (a)) ∧ OA w u R F N V #[.string ⟨#[]⟩, .slice none 0 0, .slice none 0 0] #[.int .i64 k1, .string t1, .int .i64 m1, .slice a1 l1 c1] z0 z1 (c) (a)) (fun _ _ => True) (frame := ?frac) (fun x => ?hfac) synw.mixed (by kernel_rfl) (by kernel_rfl) (fun _ _ _ _ h _ => h) ?h0c ?stc ?finc
  case hfac =>
   simp only [chain.frameOf, chain.fill, chain.setOpt, chain.dstOf, List.size_toArray, List.length_cons, List.length_nil, List.getElem?_toArray, List.getElem?_cons_succ, List.getElem?_cons_zero, List.setIfInBounds_toArray, List.set_cons_succ, List.set_cons_zero]; exact rfl
  case h0c => exact ⟨0, 0, (fun h => (by cases h)), HO.out.extend (Chg.refl _ _).drew⟩
  case stc =>
   refine AllFrom.cons (fun x vs u hF hm hb hd K' hK' => ?sc0) (AllFrom.cons (fun x vs u hF hm hb hd K' hK' => ?sc1) (AllFrom.cons (fun x vs u hF hm hb hd K' hK' => ?sc2) (AllFrom.cons (fun x vs u hF hm hb hd K' hK' => ?sc3) (AllFrom.cons (fun x vs u hF hm hb hd K' hK' => ?sc4) (AllFrom.nil)))))
   case sc0 =>
    have HF := Z_ hF; clear hd hm hb hF; go_simp; exact hK'.out _ _ _ (rfl) trivial ⟨rfl, HF.out⟩
   case sc1 =>
    obtain ⟨_, _, _, hAA⟩ := id hF; have hq := hAA.vb.cell; clear hAA; have HF := Z_ hF; clear hd hm hb hF; go_simp; exact hK'.out _ _ _ (rfl) trivial ⟨rfl, HF.out⟩
   case sc2 =>
    obtain rfl := List.eq_nil_of_length_eq_zero (hm 0 (by kernel_rfl)); have y0 := hd 0 (by decide) (by kernel_rfl); replace y0 : x 20 = .agg #[.string ⟨#[]⟩, .slice none 0 0, .slice none 0 0] := y0; obtain ⟨z0, z1, hz, hAA⟩ := hF; have hq := hAA.rf.cell; have hf := hAA.rf.frozen; have hl := hAA.rf.lt; have HF := Z_ hAA; clear hd hm hb hAA hz; go_simp; exact hK'.out _ _ undef (by simp only [y0]; rfl) trivial ⟨z0, z1, (fun h => (by cases h)), HF.out.setR _ _ _⟩
   case sc3 =>
    have HF := Z_ hF; clear hd hm hb hF; go_simp; exact hK'.out _ _ _ (rfl) trivial ⟨rfl, HF.out⟩
   case sc4 =>
    obtain ⟨v0, rfl⟩ : ∃ v0, vs = [v0] := by match vs, hm 1 (by kernel_rfl) with | [v0], _ => exact ⟨_, rfl⟩
    have y0 := hd 1 (by decide) (by kernel_rfl); replace y0 : x 21 = .agg #[.int .i64 (c), .int .i64 (a)] := y0; obtain ⟨z0, z1, hz, hAA⟩ := hF; have hq := hAA.rz.cell; have hf := hAA.rz.frozen; have hl := hAA.rz.lt; have HF := Z_ hAA; clear hd hm hb hAA hz; go_simp; exact hK'.out _ _ undef (by simp only [y0]; rfl) trivial ⟨_, _, fun _ => ⟨rfl, rfl⟩, HF.out.setF⟩
  case finc =>
   intro x9 vs w9 hl hF hk; obtain ⟨v0, v1, rfl⟩ : ∃ v0 v1, vs = [v0, v1] := by match vs, hl with | [v0, v1], _ => exact ⟨_, _, rfl⟩
   obtain ⟨z0, z1, hz, hAA⟩ := hF; obtain ⟨hz0, hz1⟩ := hz rfl; rw [hz0, hz1] at hAA; have y3 := hk 3 (by decide); replace y3 : x9 3 = .slice none 0 0 := y3; have HP9 := Z_ hAA; clear hk hl hAA; go_wp2_with fail
   refine bodyPost_ret (results_c1c rfl _ _ rfl HP9.out.rf Tryz.underlying52 rfl (by kernel_rfl) rfl HP9.out.rz Tryz.underlying68 rfl (by kernel_rfl) (v := .slice none 0 0) (by simp [y3])) rfl ?_
   rw [show Q = (noFace, [], (c), (a)) from HQ3.out]; exact ⟨HP9.out.ext, _, _, rfl, noFace_at _, noRow_at _⟩
end ofo
end Go.Proofs.YtpcihajmcejliabGreatDoor
namespace Go.Proofs.YtpcihajmcejliabGreatDoor
open Go.RowKit
namespace ofq
open synw ofp ofd
structure OQ (w u : World) (R F V : Nat) (fc : Array Value) (z0 z1 c a : Int) : Prop where
 ext : Ext w u
 rf : Blk u R fc 52
 rz : Blk u F #[.int .i64 z0, .int .i64 z1] 68
 vb : Blk u V #[.int .i64 c, .int .i64 a] 68
 hw : w.heap.size ≤ R
 hRF : R < F
 hFV : F < V
theorem OQ.extend {w u u' : World} {R F V : Nat} {fc : Array Value} {z0 z1 c a : Int} (h : OQ w u R F V fc z0 z1 c a) (hE : Ext u u') : OQ w u' R F V fc z0 z1 c a :=
 ⟨h.ext.ext hE, h.rf.ext hE, h.rz.ext hE, h.vb.ext hE, h.hw, h.hRF, h.hFV⟩
theorem OQ.setF {w u : World} {R F V : Nat} {fc : Array Value} {z0 z1 c a : Int} (h : OQ w u R F V fc z0 z1 c a) : OQ w ((u.setCell ⟨F, 0, none⟩ (.int .i64 c)).setCell ⟨F, 1, none⟩ (.int .i64 a)) R F V fc c a c a := by
 have h1 := h.hw; have h2 := h.hRF; have h3 := h.hFV
 have hC := chg_set (chg_set (S := F) (Chg.refl _ u) 0 (.int .i64 c)) 1 (.int .i64 a); exact ⟨h.ext.trans hC (fun i hi e => by omega), h.rf.chg hC (by omega), (h.rz.set 0 _).set 1 _, h.vb.chg hC (by omega), h1, h2, h3⟩
theorem OQ.setR {w u : World} {R F V : Nat} {p q r : Value} {z0 z1 c a : Int} (h : OQ w u R F V #[p, q, r] z0 z1 c a) (p' q' r' : Value) : OQ w (((u.setCell ⟨R, 0, none⟩ p').setCell ⟨R, 1, none⟩ q').setCell ⟨R, 2, none⟩ r') R F V #[p', q', r'] z0 z1 c a := by
 have h1 := h.hw; have h2 := h.hRF; have h3 := h.hFV
 have hC := chg_set (chg_set (chg_set (S := R) (Chg.refl _ u) 0 p') 1 q') 2 r'; exact ⟨h.ext.trans hC (fun i hi e => by omega), ((h.rf.set 0 _).set 1 _).set 2 _, h.rz.chg hC (by omega), h.vb.chg hC (by omega), h1, h2, h3⟩
def QC (w w1 : World) (R F V D : Nat) (dc : Array Value) (vi : Value) (f : FFace) (is : List ByteArray) : List Value → World → Prop
 | [], u => OQ w u R F V #[.string ⟨#[]⟩, .slice none 0 0, .slice none 0 0] 0 0 0 0 ∧ Blk u D dc 175 ∧ Ext w1 u
 | [vf], u => OQ w u R F V #[.string ⟨#[]⟩, .slice none 0 0, .slice none 0 0] 0 0 0 0 ∧ Blk u D dc 175 ∧ RowAt 1 StrIn is vi (hide (below (F + 1)) u) ∧ ofn.FaceX (below (F + 1)) u f vf
 | [vf, _], u => OQ w u R F V vf.cells 0 0 0 0 ∧ Blk u D dc 175 ∧ RowAt 1 StrIn is vi (hide (below (F + 1)) u) ∧ ofn.FaceX (below (F + 1)) u f vf
 | [vf, _, v2], u => v2 = vi ∧ OQ w u R F V vf.cells 0 0 0 0 ∧ Blk u D dc 175 ∧ RowAt 1 StrIn is vi (hide (below (F + 1)) u) ∧ ofn.FaceX (below (F + 1)) u f vf
 | [vf, _, v2, _], u => v2 = vi ∧ OQ w u R F V vf.cells 0 0 0 0 ∧ Blk u D dc 175 ∧ RowAt 1 StrIn is vi (hide (below (F + 1)) u) ∧ ofn.FaceX (below (F + 1)) u f vf
 | _, _ => False
theorem QC.any {w w1 : World} {R F V D : Nat} {dc : Array Value} {vi : Value} {f : FFace} {is : List ByteArray} {vs : List Value} {u : World} (h : QC w w1 R F V D dc vi f is vs u) : (∃ fc, OQ w u R F V fc 0 0 0 0) ∧ Blk u D dc 175 := by
 match vs, h with
 | [], h => exact ⟨⟨_, h.1⟩, h.2.1⟩
 | [_], h => exact ⟨⟨_, h.1⟩, h.2.1⟩
 | [_, _], h => exact ⟨⟨_, h.1⟩, h.2.1⟩
 | [_, _, _], h => exact ⟨⟨_, h.2.1⟩, h.2.2.1⟩
 | [_, _, _, _], h => exact ⟨⟨_, h.2.1⟩, h.2.2.1⟩
def OfPostX (w : World) (R : FFace × List ByteArray × Int × Int) (e : Ending) (w' : World) : Prop :=
 Ext w w' ∧ ∃ vF vI, e = .returned (.tuple #[vF, vI, .agg #[.int .i64 R.2.2.1, .int .i64 R.2.2.2]]) ∧ ofn.FaceX (below w.heap.size) w' R.1 vF ∧ RowAt 1 StrIn R.2.1 vI w'
theorem OfPostX.post {w : World} {R : FFace × List ByteArray × Int × Int} {e : Ending} {w' : World} (h : OfPostX w R e w') : OfPost w R e w' := by
 obtain ⟨h1, vF, vI, h2, h3, h4⟩ := h; exact ⟨h1, vF, vI, h2, FaceAt.keeps (keeps_bare _ _) h3.at_, h4⟩
theorem noFace_x (M : Nat → Bool) (w : World) : ofn.FaceX M w noFace (.agg #[.string ⟨#[]⟩, .slice none 0 0, .slice none 0 0]) :=
 ⟨none, 0, none, 0, rfl, fun j h => (by cases h), fun j h => (by cases h), by decide, Nat.le_refl _, by decide, Nat.le_refl _, by decide, .inl rfl⟩
theorem rowAt_keepsH {l : List ByteArray} {v : Value} {w w' : World} (h : RowAt 1 StrIn l v w) (hk : Keeps w w') : RowAt 1 StrIn l v w' := h.keeps (fun _ _ _ h => ⟨hk.2 _ _ h.1, h.2⟩) hk
theorem vars_small {l : List Nd} (h : ∀ y ∈ l, y.tx.size ≤ 10000) : ∀ x ∈ varsF l, x.name.size ≤ 10000 := fun x hx => by
 unfold varsF at hx; obtain ⟨y, hy, rfl⟩ := List.mem_map.1 hx; exact h y (List.mem_filter.1 hy).1
theorem procs_small {l : List Nd} (h : ∀ y ∈ l, y.tx.size ≤ 10000) : ∀ x ∈ procsF l, x.name.size ≤ 10000 := fun x hx => by
 unfold procsF at hx; obtain ⟨y, hy, rfl⟩ := List.mem_map.1 hx; exact h y (List.mem_filter.1 hy).1
set_option maxRecDepth 100000 in
set_option maxHeartbeats 8000000 in
theorem of_any (s : ByteArray) (w : World) (hs : s.size ≤ 9223372036854775807) (hv : ErrVar w) (hm : MaxVar w) :
  Calls Tryz.prog 29 #[.string s] w (OfPostX w (ofR s)) := by
 obtain ⟨x, hx⟩ : ∃ x, (parseR s).1 = x := ⟨_, rfl⟩; obtain ⟨Q, hQ⟩ : ∃ Q, ofR s = Q := ⟨_, rfl⟩; obtain ⟨R, hR⟩ : ∃ R, w.heap.size = R := ⟨_, rfl⟩; obtain ⟨F, hF⟩ : ∃ F, R + 1 = F := ⟨_, rfl⟩; have hR0 := (Blk.made w #[.string ⟨#[]⟩, .slice none 0 0, .slice none 0 0] 52).alloc (.cells #[.int .i64 0, .int .i64 0] 68); have hF0 := Blk.made2 w (.cells #[.string ⟨#[]⟩, .slice none 0 0, .slice none 0 0] 52) #[.int .i64 0, .int .i64 0] 68; have hz0 : ((w.alloc (.cells #[.string ⟨#[]⟩, .slice none 0 0, .slice none 0 0] 52)).alloc (.cells #[.int .i64 0, .int .i64 0] 68)).heap.size = F + 1 := by simp; omega
 rw [hR] at hR0 hF0; rw [hF] at hF0; have hX0 := ((Chg.refl (fun _ => False) w).alloc (.cells #[.string ⟨#[]⟩, .slice none 0 0, .slice none 0 0] 52)).alloc (.cells #[.int .i64 0, .int .i64 0] 68); have HC := Z_ (oflk.look_any s _ hs (hv.ext hX0) (hm.ext hX0)); rw [hx, hQ] at HC
 have HQD := Z_ (show Q.2.2.1 = 0 → Q = (faceF false x, impsF x.kids, 0, 0) by
  intro h0; subst hQ; subst hx; unfold ofR at h0 ⊢; by_cases h1 : (parseR s).2.1 = 0
  ·rw [if_pos h1] at h0 ⊢
   by_cases h2 : (lookF (parseR s).1.tx (parseR s).1.kids [] [] 1).1 = 0
   ·rw [if_pos h2]
   ·rw [if_neg h2] at h0; exact absurd h0 h2
  ·rw [if_neg h1] at h0; exact absurd h0 h1)
 have HQN := Z_ (show Q.2.2.1 ≠ 0 → Q = (noFace, [], Q.2.2.1, Q.2.2.2) by
  intro h0; subst hQ; unfold ofR at h0 ⊢; by_cases h1 : (parseR s).2.1 = 0
  ·rw [if_pos h1] at h0 ⊢
   by_cases h2 : (lookF (parseR s).1.tx (parseR s).1.kids [] [] 1).1 = 0
   ·rw [if_pos h2] at h0; exact absurd rfl h0
   ·rw [if_neg h2]
  ·rw [if_neg h1])
 have HA0 := Z_ (show Q.2.2.1 = 0 → Q.2.2.2 = 0 from fun h => by rw [HQD.out h]); rw [hQ]; have hRF : R < F := by omega
 have HR0 := Z_ hR0; have HF0 := Z_ hF0; have HX0 := Z_ hX0; have HZ0 := Z_ hz0; have HRW := Z_ hR; clear hx hQ hR0 hF0 hX0 hz0 hv hm hR; go_enter Tryz.func29, Tryz.ntmps29
 go_upto_region 1 with (fail)
 try rw [HRW.out]
 try rw [hF]
 generalize (w.alloc (.cells #[.string ⟨#[]⟩, .slice none 0 0, .slice none 0 0] 52)).alloc (.cells #[.int .i64 0, .int .i64 0] 68) = u0 at *; go_wp2_with fail
 refine HC.out.mono ?_
 rintro e w1 ⟨hE1, vp, rfl, hgood⟩; obtain ⟨c, hc⟩ : ∃ c, Q.2.2.1 = c := ⟨_, rfl⟩; obtain ⟨a, ha⟩ : ∃ a, Q.2.2.2 = a := ⟨_, rfl⟩; rw [hc] at hgood HQD HQN; rw [ha] at HQN; rw [hc, ha] at HA0; rw [hc, ha]; have HGD := Z_ hgood; have hEN := (Chg.refl (fun _ => False) w1).alloc (.cells #[.int .i64 c, .int .i64 a] 68)
 have hOQ : OQ w (w1.alloc (.cells #[.int .i64 c, .int .i64 a] 68)) R F w1.heap.size #[.string ⟨#[]⟩, .slice none 0 0, .slice none 0 0] 0 0 c a :=
  ⟨(HX0.out.ext hE1).ext hEN, (HR0.out.ext hE1).ext hEN, (HF0.out.ext hE1).ext hEN, Blk.made w1 _ _, by have := HRW.out; omega, hRF, by have := (HF0.out.ext hE1).lt; omega⟩
 have HO := Z_ hOQ; have HEN := Z_ hEN; have HF1 := Z_ (HF0.out.ext hE1).lt; obtain ⟨V, hV⟩ : ∃ V, w1.heap.size = V := ⟨_, rfl⟩; rw [hV] at HO; clear hOQ hEN hgood hE1 HC HR0 HF0 HX0 hc ha; go_upto_region 2 with (fail)
 try rw [hV]
 generalize w1.alloc (.cells #[.int .i64 c, .int .i64 a] 68) = u1 at *; clear hV; have hv := HO.out.vb.cell; by_cases hc0 : c = 0
 ·subst hc0
  have HQ3 := Z_ (HQD.out rfl); obtain ⟨D, a1, c1, a2, c2, a3, c3, d3, d4, d5, d6, d8, rfl, hD, hAV, hAP, hAI, hlv, hlp, htx, hky⟩ := HGD.out rfl; obtain rfl : a = 0 := HA0.out rfl; rw [HZ0.out] at hAV hAP hAI; have HD := Z_ hD; have HAV := Z_ hAV; have HAP := Z_ hAP; have HAI := Z_ hAI; have HKY := Z_ (And.intro htx hky); have HLN := Z_ (And.intro hlv hlp); obtain ⟨dc, hdc⟩ : ∃ dc : Array Value, #[.string x.tx, .slice a1 (varsF x.kids).length c1, .slice a2 (procsF x.kids).length c2, d3, d4, d5, d6, .slice a3 (impsF x.kids).length c3, d8] = dc := ⟨_, rfl⟩; have HDC := Z_ hdc; have HDB := Z_ (show Blk u1 D dc 175 from hdc ▸ hD.ext HEN.out); obtain ⟨nI, hnI⟩ : ∃ n, (impsF x.kids).length = n := ⟨_, rfl⟩; rw [hnI] at hdc HAI; have HD7 := Z_ (show dc[7]? = some (.slice a3 nI c3) by rw [← hdc]; rfl); clear hD hAV hAP hAI hlv hlp htx hky hdc hnI HD HGD HQD HQN
  go_upto_region 4 with (fail)
  clear hv; refine wp_region_weave [1, 7, 8, 9] (fun i v _ => v = ([.pointer (some ⟨D, 0, none⟩), undef, .pointer (some ⟨D, 0, none⟩), .pointer (some ⟨D, 0, none⟩), .pointer (some ⟨D, 7, none⟩), .slice a3 nI c3, .agg #[.int .i64 0, .int .i64 0], undef, undef, undef] : List Value).getD i undef) (QC w u1 R F V D dc (.slice a3 nI c3) (faceF false x) (impsF x.kids)) (fun _ _ => True) (frame := ?frab) (fun x => ?hfab) synw.mixed (by kernel_rfl) (by kernel_rfl) (fun _ _ _ _ h _ => h) ?h0b ?stb ?finb
  case hfab =>
   simp only [chain.frameOf, chain.fill, chain.setOpt, chain.dstOf, List.size_toArray, List.length_cons, List.length_nil, List.getElem?_toArray, List.getElem?_cons_succ, List.getElem?_cons_zero, List.setIfInBounds_toArray, List.set_cons_succ, List.set_cons_zero]; exact rfl
  case h0b => exact ⟨HO.out.extend (Chg.refl _ _).drew, HDB.out.ext (Chg.refl _ _).drew, (Chg.refl _ _).drew⟩
  case stb =>
   refine AllFrom.cons (fun x vs u hF hm hb hd K' hK' => ?sb0) (AllFrom.cons (fun x vs u hF hm hb hd K' hK' => ?sb1) (AllFrom.cons (fun x vs u hF hm hb hd K' hK' => ?sb2) (AllFrom.cons (fun x vs u hF hm hb hd K' hK' => ?sb3) (AllFrom.cons (fun x vs u hF hm hb hd K' hK' => ?sb4) (AllFrom.cons (fun x vs u hF hm hb hd K' hK' => ?sb5) (AllFrom.cons (fun x vs u hF hm hb hd K' hK' => ?sb6) (AllFrom.cons (fun x vs u hF hm hb hd K' hK' => ?sb7) (AllFrom.cons (fun x vs u hF hm hb hd K' hK' => ?sb8) (AllFrom.cons (fun x vs u hF hm hb hd K' hK' => ?sb9) (AllFrom.nil))))))))))
   case sb0 =>
    have HF := Z_ hF; clear hd hm hb hF; go_simp; exact hK'.out _ _ _ (rfl) trivial ⟨rfl, HF.out⟩
   case sb1 =>
    obtain rfl := List.eq_nil_of_length_eq_zero (hm 0 (by kernel_rfl)); have y0 := hd 0 (by decide) (by kernel_rfl); replace y0 : x 17 = .pointer (some ⟨D, 0, none⟩) := y0; obtain ⟨hAA, hDD, hEE⟩ := hF; have HK9 := Z_ (show Keeps (hide (below (F + 1)) w1) (hide (below (F + 1)) u) from keeps_chg (HEN.out.ext hEE) fun _ _ e => e.elim); have HX := Z_ (ofn.open_any (M := below (F + 1)) (w := u) (by rw [HDC.out]; exact hDD) ((HAV.out.keeps HK9.out fun _ _ _ => VarIn.keeps HK9.out).keeps (keeps_bare _ _) fun _ _ _ => VarIn.keeps (keeps_bare _ _)) (HAP.out.keeps HK9.out fun _ _ _ => ProcIn.keeps HK9.out) (fun i hi => by have := HF1.out; have h2 := (HEN.out.ext hEE).size; simp [below] at hi; omega) HKY.out.1 (vars_small HKY.out.2) (procs_small HKY.out.2) HLN.out.1 HLN.out.2); have HAA := Z_ (show OQ _ _ _ _ _ _ _ _ _ _ from hAA); have HDD := Z_ (show Blk _ _ _ _ from hDD); clear hd hm hb hAA hEE hDD
    go_simp; refine HX.out.mono ?_
    rintro e u2 ⟨vf, rfl, hface, hE⟩; exact hK'.out _ _ _ (by simp only [y0]; rfl) trivial ⟨HAA.out.extend hE, HDD.out.ext hE, rowAt_keepsH (HAI.out) ((HK9.out).trans (keeps_chg hE fun _ _ e => e.elim)), hface⟩
   case sb2 =>
    have HF := Z_ hF; clear hd hm hb hF; go_simp; exact hK'.out _ _ _ (rfl) trivial ⟨rfl, HF.out⟩
   case sb3 =>
    obtain ⟨⟨_, hAA⟩, hDD⟩ := QC.any hF; have hq := hDD.lt; clear hAA hDD; have y0 := hd 2 (by decide) (by kernel_rfl); replace y0 : x 19 = .pointer (some ⟨D, 0, none⟩) := y0; have HF := Z_ hF; clear hd hm hb hF; go_simp; exact hK'.out _ _ _ (by simp only [y0]; rfl) trivial ⟨rfl, HF.out⟩
   case sb4 =>
    have y0 := hd 3 (by decide) (by kernel_rfl); replace y0 : x 20 = .pointer (some ⟨D, 0, none⟩) := y0; have HF := Z_ hF; clear hd hm hb hF; go_simp; exact hK'.out _ _ _ (by simp only [y0]; rfl) trivial ⟨rfl, HF.out⟩
   case sb5 =>
    obtain ⟨⟨_, hAA⟩, hDD⟩ := QC.any hF; have hq := (hDD.cell 7).trans HD7.out; clear hAA hDD; have y0 := hd 4 (by decide) (by kernel_rfl); replace y0 : x 21 = .pointer (some ⟨D, 7, none⟩) := y0; have HF := Z_ hF; clear hd hm hb hF; go_simp; exact hK'.out _ _ _ (by simp only [y0]; rfl) trivial ⟨rfl, HF.out⟩
   case sb6 =>
    obtain ⟨⟨_, hAA⟩, hDD⟩ := QC.any hF; have hq := hAA.vb.cell; clear hAA hDD; have HF := Z_ hF; clear hd hm hb hF; go_simp; exact hK'.out _ _ _ (rfl) trivial ⟨rfl, HF.out⟩
   case sb7 =>
    obtain ⟨v0, rfl⟩ : ∃ v0, vs = [v0] := by match vs, hm 1 (by kernel_rfl) with | [v0], _ => exact ⟨_, rfl⟩
    have y0 := hd 1 (by decide) (by kernel_rfl) 18 (by kernel_rfl); replace y0 : x 18 = v0 := y0; obtain ⟨hAA, hDD, hRA, hFA⟩ := hF; have hfo : ∃ sn fa n1 fm fc n2 fd, v0 = .agg #[.string sn, .slice fa n1 fm, .slice fc n2 fd] := by obtain ⟨a_, m_, c_, d_, e_, -⟩ := id hFA; exact ⟨_, _, _, _, _, _, _, e_⟩
    obtain ⟨sn, fa, n1, fm, fc, n2, fd, rfl⟩ := hfo; have hq := hAA.rf.cell; have hf := hAA.rf.frozen; have hl := hAA.rf.lt; have HDR := Z_ (show D ≠ R from fun e => by subst e; unfold Blk at hDD; have := hAA.rf; unfold Blk at this; rw [hDD] at this; cases this); have HAA := Z_ hAA; have HFA := Z_ hFA; have HRA := Z_ hRA; have HDD := Z_ hDD; clear hd hm hb hAA hFA hRA hDD; go_simp; have hC := chg_set (chg_set (chg_set (S := R) (Chg.refl _ u) 0 (.string sn)) 1 (.slice fa n1 fm)) 2 (.slice fc n2 fd); exact hK'.out _ _ undef (by simp only [y0]; rfl) trivial ⟨HAA.out.setR _ _ _, HDD.out.chg hC HDR.out, rowAt_keepsH HRA.out (keeps_chg hC fun i _ e => by subst e; simp [below]; omega), HFA.out.chg hC (fun i e => by subst e; simp [below]; omega)⟩
   case sb8 =>
    obtain ⟨v0, v1, rfl⟩ : ∃ v0 v1, vs = [v0, v1] := by match vs, hm 2 (by kernel_rfl) with | [v0, v1], _ => exact ⟨_, _, rfl⟩
    have y0 := hd 5 (by decide) (by kernel_rfl); replace y0 : x 22 = .slice a3 nI c3 := y0; have HF := Z_ hF; clear hd hm hb hF; go_simp; exact hK'.out _ _ _ (by simp only [y0]; rfl) trivial ⟨rfl, HF.out⟩
   case sb9 =>
    obtain ⟨v0, v1, v2, rfl⟩ : ∃ v0 v1 v2, vs = [v0, v1, v2] := by match vs, hm 3 (by kernel_rfl) with | [v0, v1, v2], _ => exact ⟨_, _, _, rfl⟩
    have y0 := hd 6 (by decide) (by kernel_rfl); replace y0 : x 23 = .agg #[.int .i64 0, .int .i64 0] := y0; obtain ⟨rfl, hAA, hDD, hRA, hFA⟩ := hF; have hq := hAA.rz.cell; have hf := hAA.rz.frozen; have hl := hAA.rz.lt; have HDR := Z_ (show D ≠ F from fun e => by subst e; unfold Blk at hDD; have := hAA.rz; unfold Blk at this; rw [hDD] at this; cases this); have HAA := Z_ hAA; have HFA := Z_ hFA; have HRA := Z_ hRA; have HDD := Z_ hDD; clear hd hm hb hAA hFA hRA hDD; go_simp; have hC := chg_set (chg_set (S := F) (Chg.refl _ u) 0 (.int .i64 0)) 1 (.int .i64 0); exact hK'.out _ _ undef (by simp only [y0]; rfl) trivial ⟨rfl, HAA.out.setF, HDD.out.chg hC HDR.out, rowAt_keepsH HRA.out (keeps_chg hC fun i _ e => by subst e; simp [below]), HFA.out.chg hC (fun i e => by subst e; simp [below])⟩
  case finb =>
   intro x9 vs w9 hl hF hk; obtain ⟨v0, v1, v2, v3, rfl⟩ : ∃ v0 v1 v2 v3, vs = [v0, v1, v2, v3] := by match vs, hl with | [v0, v1, v2, v3], _ => exact ⟨_, _, _, _, rfl⟩
   have y3 := hk 8 (by decide) 3 (by kernel_rfl); replace y3 : x9 3 = v2 := y3; obtain ⟨rfl, hAA, hDD, hRA, hFA⟩ := hF; have hfo : ∃ p q r, v0 = .agg #[p, q, r] := by obtain ⟨a_, m_, c_, d_, e_, -⟩ := id hFA; exact ⟨_, _, _, e_⟩
   obtain ⟨p9, q9, r9, rfl⟩ := hfo; have HP9 := Z_ hAA; have HFA := Z_ hFA; have HRA := Z_ hRA; clear hk hl hAA hFA hRA hDD; go_wp2_with fail
   refine bodyPost_ret (ofo.results_c1c rfl _ _ rfl HP9.out.rf Tryz.underlying52 rfl (by kernel_rfl) rfl HP9.out.rz Tryz.underlying68 rfl (by kernel_rfl) (v := .slice a3 nI c3) (by simp)) rfl ?_
   rw [HQ3.out]; exact ⟨HP9.out.ext, _, _, rfl, HFA.out.weak (fun i hi => by have := HRW.out; simp [below] at hi ⊢; omega), rowAt_keepsH HRA.out (keeps_bare _ _)⟩
 ·have hcn : (c != 0) = true := by simpa using hc0
  have HQ3 := Z_ (HQN.out hc0); have hce : (c == 0) = false := by simpa using hc0
  clear HGD HQD HQN HA0; go_upto_region 3 with (fail)
  clear hv; refine wp_region_weave [2, 4] (fun i v _ => v = ([.agg #[.string ⟨#[]⟩, .slice none 0 0, .slice none 0 0], .agg #[.int .i64 c, .int .i64 a], undef, .slice none 0 0, undef] : List Value).getD i undef) (fun vs u => ∃ z0 z1 : Int, (vs.length = 2 → z0 = c ∧ z1 = a) ∧ OQ w u R F V #[.string ⟨#[]⟩, .slice none 0 0, .slice none 0 0] z0 z1 c a) (fun _ _ => True) (frame := ?fraa) (fun x => ?hfaa) synw.mixed (by kernel_rfl) (by kernel_rfl) (fun _ _ _ _ h _ => h) ?h0a ?sta ?fina
  case hfaa =>
   simp only [chain.frameOf, chain.fill, chain.setOpt, chain.dstOf, List.size_toArray, List.length_cons, List.length_nil, List.getElem?_toArray, List.getElem?_cons_succ, List.getElem?_cons_zero, List.setIfInBounds_toArray, List.set_cons_succ, List.set_cons_zero]; exact rfl
  case h0a => exact ⟨0, 0, (fun h => (by cases h)), HO.out.extend (Chg.refl _ _).drew⟩
  case sta =>
   refine AllFrom.cons (fun x vs u hF hm hb hd K' hK' => ?sa0) (AllFrom.cons (fun x vs u hF hm hb hd K' hK' => ?sa1) (AllFrom.cons (fun x vs u hF hm hb hd K' hK' => ?sa2) (AllFrom.cons (fun x vs u hF hm hb hd K' hK' => ?sa3) (AllFrom.cons (fun x vs u hF hm hb hd K' hK' => ?sa4) (AllFrom.nil)))))
   case sa0 =>
    have HF := Z_ hF; clear hd hm hb hF; go_simp; exact hK'.out _ _ _ (rfl) trivial ⟨rfl, HF.out⟩
   case sa1 =>
    obtain ⟨_, _, _, hAA⟩ := id hF; have hq := hAA.vb.cell; clear hAA; have HF := Z_ hF; clear hd hm hb hF; go_simp; exact hK'.out _ _ _ (rfl) trivial ⟨rfl, HF.out⟩
   case sa2 =>
    obtain rfl := List.eq_nil_of_length_eq_zero (hm 0 (by kernel_rfl)); have y0 := hd 0 (by decide) (by kernel_rfl); replace y0 : x 15 = .agg #[.string ⟨#[]⟩, .slice none 0 0, .slice none 0 0] := y0; obtain ⟨z0, z1, hz, hAA⟩ := hF; have hq := hAA.rf.cell; have hf := hAA.rf.frozen; have hl := hAA.rf.lt; have HF := Z_ hAA; clear hd hm hb hAA hz; go_simp; exact hK'.out _ _ undef (by simp only [y0]; rfl) trivial ⟨z0, z1, (fun h => (by cases h)), HF.out.setR _ _ _⟩
   case sa3 =>
    have HF := Z_ hF; clear hd hm hb hF; go_simp; exact hK'.out _ _ _ (rfl) trivial ⟨rfl, HF.out⟩
   case sa4 =>
    obtain ⟨v0, rfl⟩ : ∃ v0, vs = [v0] := by match vs, hm 1 (by kernel_rfl) with | [v0], _ => exact ⟨_, rfl⟩
    have y0 := hd 1 (by decide) (by kernel_rfl); replace y0 : x 16 = .agg #[.int .i64 c, .int .i64 a] := y0; obtain ⟨z0, z1, hz, hAA⟩ := hF; have hq := hAA.rz.cell; have hf := hAA.rz.frozen; have hl := hAA.rz.lt; have HF := Z_ hAA; clear hd hm hb hAA hz; go_simp; exact hK'.out _ _ undef (by simp only [y0]; rfl) trivial ⟨_, _, fun _ => ⟨rfl, rfl⟩, HF.out.setF⟩
  case fina =>
   intro x9 vs w9 hl hF hk; obtain ⟨v0, v1, rfl⟩ : ∃ v0 v1, vs = [v0, v1] := by match vs, hl with | [v0, v1], _ => exact ⟨_, _, rfl⟩
   obtain ⟨z0, z1, hz, hAA⟩ := hF; obtain ⟨hz0, hz1⟩ := hz rfl; rw [hz0, hz1] at hAA; have y3 := hk 3 (by decide); replace y3 : x9 3 = .slice none 0 0 := y3; have HP9 := Z_ hAA; clear hk hl hAA; go_wp2_with fail
   refine bodyPost_ret (ofo.results_c1c rfl _ _ rfl HP9.out.rf Tryz.underlying52 rfl (by kernel_rfl) rfl HP9.out.rz Tryz.underlying68 rfl (by kernel_rfl) (v := .slice none 0 0) (by simp [y3])) rfl ?_
   rw [HQ3.out]; exact ⟨HP9.out.ext, _, _, rfl, noFace_x _ _, ofo.noRow_at _⟩
end ofq
end Go.Proofs.YtpcihajmcejliabGreatDoor
namespace Go.Proofs.YtpcihajmcejliabGreatDoor
open Go.RowKit
namespace face
theorem label_any (n : Int) (w : World) : Calls Tryz.prog 103 #[.int .i64 n] w fun e w' => e = .returned (.bool (labB n)) ∧ w' = w := by
 go_enter Tryz.func103, Tryz.ntmps103
 go_wp2
 all_goals go_ret
 all_goals go_light
 all_goals refine ⟨ret_bool ?_, rfl⟩
 all_goals simp_all [labB]
end face
end Go.Proofs.YtpcihajmcejliabGreatDoor
namespace Go.Proofs.YtpcihajmcejliabGreatDoor
open Go.RowKit
instance : DecidableEq FVar := fun ⟨a, b, c, d⟩ ⟨a', b', c', d'⟩ => decidable_of_iff (a = a' ∧ b = b' ∧ c = c' ∧ d = d') (by simp)
instance : DecidableEq FProc := fun ⟨a, b, c, d, e, f⟩ ⟨a', b', c', d', e', f'⟩ => decidable_of_iff (a = a' ∧ b = b' ∧ c = c' ∧ d = d' ∧ e = e' ∧ f = f') (by simp)
instance : DecidableEq FFace := fun ⟨a, b, c⟩ ⟨a', b', c'⟩ => decidable_of_iff (a = a' ∧ b = b' ∧ c = c') (by simp)
namespace face
theorem take_snoc {α : Type} [DecidableEq α] (l m : List α) (k : Nat) (hl : k < l.length) (hm : k < m.length) : (decide (l.take (k + 1) = m.take (k + 1))) = (decide (l.take k = m.take k) && decide (l[k] = m[k])) := by
 rw [List.take_succ_eq_append_getElem hl, List.take_succ_eq_append_getElem hm]; rw [Bool.eq_iff_iff]; simp only [decide_eq_true_eq, Bool.and_eq_true]; constructor
 ·intro h
  have := List.append_inj' h rfl; exact ⟨this.1, by simpa using this.2⟩
 ·rintro ⟨h1, h2⟩
  rw [h1, h2]
theorem take_ne {α : Type} [DecidableEq α] {l m : List α} {k : Nat} (hl : k < l.length) (hm : k < m.length) (h : l[k] ≠ m[k]) : decide (l = m) = false := by
 rw [decide_eq_false_iff_not]; rintro rfl; exact h rfl
theorem take_all {α : Type} [DecidableEq α] {l m : List α} {k : Nat} (hl : l.length = k) (hm : m.length = k) (h : decide (l.take k = m.take k) = true) : decide (l = m) = true := by
 rw [List.take_of_length_le (by omega), List.take_of_length_le (by omega)] at h; exact h
theorem len_ne {α : Type} [DecidableEq α] {l m : List α} (h : l.length ≠ m.length) : decide (l = m) = false := by
 rw [decide_eq_false_iff_not]; rintro rfl; exact h rfl
set_option maxRecDepth 100000 in
theorem ints_any (a b : Option Addr) (c d : Nat) (l m : List Int) (w : World) (hl : AllIn 1 IntIn w a l) (hm : AllIn 1 IntIn w b m) (hc : l.length ≤ c) (hc2 : c ≤ maxLen) (hd : m.length ≤ d) :
  Calls Tryz.prog 107 #[.slice a l.length c, .slice b m.length d] w fun e w' => e = .returned (.bool (decide (l = m))) ∧ ∃ n, w' = w.drewN n := by
 unfold maxLen at hc2; by_cases hlen : l.length = m.length
 ·generalize hB : decide (l = m) = B
  have HB := Z_ hB; clear hB; obtain ⟨n, hn⟩ : ∃ n, l.length = n := ⟨_, rfl⟩; have HN := Z_ hn; have HM := Z_ (hlen.symm.trans hn); rw [← hlen, hn]; rw [hn] at hc; rw [← hlen, hn] at hd; have HI := Z_ (And.intro hl hm); clear hn hlen hl hm; go_enter Tryz.func107, Tryz.ntmps107
  go_wp2_with fail
  go_loopw [13] (fun i wr => ∃ k : Nat, k ≤ n ∧ i = .int .i64 k ∧ Hid (decide (l.take k = m.take k) = true) ∧ ∃ q, wr = w.drewN q) (fun i _ => n - (intOf i).toNat)
  case atStart => exact ⟨0, Nat.zero_le _, rfl, by simp [Hid], 0, rfl⟩
  case round =>
   obtain ⟨k, hk, rfl, hrel, q, rfl⟩ := hrel; by_cases hlt : k < n
   ·have hki : (k : Int) < (n : Int) := by omega
    have hlk : k < l.length := by rw [HN.out]; exact hlt
    have hmk : k < m.length := by rw [HM.out]; exact hlt
    obtain ⟨bl, ol, rfl, hbl, cl⟩ := HI.out.1 k hlk; obtain ⟨bm, om, rfl, hbm, cm⟩ := HI.out.2 k hmk; unfold IntIn at cl cm; rw [Nat.mul_one] at cl cm; have hs := take_snoc l m k hlk hmk; rw [hrel.out, Bool.true_and] at hs; have HNE := Z_ (fun h => take_ne hlk hmk h); generalize l[k] = x at *; generalize m[k] = y at *; by_cases he : x = y
    ·have hxy : (x == y) = true := by simpa using he
     have HS := Z_ (hs.trans (decide_eq_true he)); clear hs he; go_wp2_with fail
     go_quiet (fail)
     go_wp2_with fail
     go_roundw
     case rel => exact ⟨k + 1, by omega, by go_num, HS.out, _, rfl⟩
     case measure => simp [intOf]; omega
    ·have hxy : (x == y) = false := by simpa using he
     have HF := Z_ (HB.out.symm.trans (HNE.out he)); clear hs he HNE; go_wp2_with fail
     go_quiet (fail)
     go_wp2_with fail
     go_ret
     first | exact ⟨ret_bool HF.out.symm, _, rfl⟩ | exact ⟨ret_bool HF.out.symm, _, World.drewN_drewN _ _ _⟩
   ·obtain rfl : k = n := by omega
    have HF := Z_ (HB.out.symm.trans (take_all HN.out HM.out hrel.out)); go_wp2_with fail
    go_ret
    first | exact ⟨ret_bool HF.out.symm, _, rfl⟩ | exact ⟨ret_bool HF.out.symm, _, World.drewN_drewN _ _ _⟩
 ·rw [len_ne hlen]
  have hne : ((l.length : Int) == (m.length : Int)) = false := by rw [beq_eq_false_iff_ne]; omega
  obtain ⟨n, hn⟩ : ∃ n, l.length = n := ⟨_, rfl⟩; obtain ⟨n', hn'⟩ : ∃ n, m.length = n := ⟨_, rfl⟩; rw [hn, hn'] at hne hlen ⊢; clear hn hn' hl hm; go_enter Tryz.func107, Tryz.ntmps107
  go_wp2_with fail
  go_ret
  exact ⟨rfl, 0, rfl⟩
set_option maxRecDepth 100000 in
set_option maxHeartbeats 1000000 in
theorem vars_any (a b : Option Addr) (c d : Nat) (l m : List FVar) (w : World) (hl : AllIn 4 VarIn w a l) (hm : AllIn 4 VarIn w b m) (hc : l.length ≤ c) (hc2 : c ≤ maxLen) (hd : m.length ≤ d) :
  Calls Tryz.prog 104 #[.slice a l.length c, .slice b m.length d] w fun e w' => e = .returned (.bool (decide (l = m))) ∧ ∃ n, w' = w.drewN n := by
 unfold maxLen at hc2; by_cases hlen : l.length = m.length
 ·generalize hB : decide (l = m) = B
  have HB := Z_ hB; clear hB; obtain ⟨n, hn⟩ : ∃ n, l.length = n := ⟨_, rfl⟩; have HN := Z_ hn; have HM := Z_ (hlen.symm.trans hn); rw [← hlen, hn]; rw [hn] at hc; rw [← hlen, hn] at hd; have HI := Z_ (And.intro hl hm); clear hn hlen hl hm; go_enter Tryz.func104, Tryz.ntmps104
  go_wp2_with fail
  go_loopw [13] (fun i wr => ∃ k : Nat, k ≤ n ∧ i = .int .i64 k ∧ Hid (decide (l.take k = m.take k) = true) ∧ ∃ q, wr = w.drewN q) (fun i _ => n - (intOf i).toNat)
  case atStart => exact ⟨0, Nat.zero_le _, rfl, by simp [Hid], 0, rfl⟩
  case round =>
   obtain ⟨k, hk, rfl, hrel, q, rfl⟩ := hrel; by_cases hlt : k < n
   ·have hki : (k : Int) < (n : Int) := by omega
    have hlk : k < l.length := by rw [HN.out]; exact hlt
    have hmk : k < m.length := by rw [HM.out]; exact hlt
    obtain ⟨bl, ol, rfl, hbl, cl⟩ := HI.out.1 k hlk; obtain ⟨bm, om, rfl, hbm, cm⟩ := HI.out.2 k hmk; obtain ⟨l0, l1, l2, l3, _⟩ := cl; obtain ⟨m0, m1, m2, m3, _⟩ := cm; have hs := take_snoc l m k hlk hmk; rw [hrel.out, Bool.true_and] at hs; have HNE := Z_ (fun h => take_ne hlk hmk h); generalize l[k] = x at *; generalize m[k] = y at *; obtain ⟨xn, xp, xl, xs⟩ := x; obtain ⟨yn, yp, yl, ys⟩ := y; simp only at l0 l1 l2 l3 m0 m1 m2 m3; have hq : FVar.mk xn xp xl xs = FVar.mk yn yp yl ys ↔ xn = yn ∧ xp = yp ∧ xl = yl ∧ xs = ys := by simp
    have HQ := Z_ hq; have HS := Z_ hs; clear hs hq; by_cases e0 : xn = yn
    ·subst e0
     by_cases e1 : xp = yp
     ·subst e1
      by_cases e2 : xl = yl
      ·subst e2
       by_cases e3 : xs = ys
       ·subst e3
        have HT := Z_ (HS.out.trans (decide_eq_true rfl)); clear HS HQ HNE; go_wp2_with fail
        go_quiet (fail)
        go_wp2_with fail
        go_roundw
        case rel => exact ⟨k + 1, by omega, by go_num, HT.out, _, rfl⟩
        case measure => simp [intOf]; omega
       ·have HF := Z_ (HB.out.symm.trans (HNE.out (fun h => e3 (HQ.out.1 h).2.2.2)))
        have h0 : (xs == ys) = false := by simpa using e3
        clear HS HQ HNE e3; go_wp2_with fail
        go_quiet (fail)
        go_wp2_with fail
        go_ret
        first | exact ⟨ret_bool HF.out.symm, _, rfl⟩ | exact ⟨ret_bool HF.out.symm, _, World.drewN_drewN _ _ _⟩
      ·have HF := Z_ (HB.out.symm.trans (HNE.out (fun h => e2 (HQ.out.1 h).2.2.1)))
       have h0 : (xl == yl) = false := by simpa using e2
       clear HS HQ HNE e2; go_wp2_with fail
       go_quiet (fail)
       go_wp2_with fail
       go_ret
       first | exact ⟨ret_bool HF.out.symm, _, rfl⟩ | exact ⟨ret_bool HF.out.symm, _, World.drewN_drewN _ _ _⟩
     ·have HF := Z_ (HB.out.symm.trans (HNE.out (fun h => e1 (HQ.out.1 h).2.1)))
      have h0 : (xp == yp) = false := by simpa using e1
      clear HS HQ HNE e1; go_wp2_with fail
      go_quiet (fail)
      go_wp2_with fail
      go_ret
      first | exact ⟨ret_bool HF.out.symm, _, rfl⟩ | exact ⟨ret_bool HF.out.symm, _, World.drewN_drewN _ _ _⟩
    ·have HF := Z_ (HB.out.symm.trans (HNE.out (fun h => e0 (HQ.out.1 h).1)))
     have h0 : (xn.toList == yn.toList) = false := by rw [ByteArray.toList_eq, ByteArray.toList_eq]; simpa [ByteArray.ext_iff] using e0
     have h1 : (xn.data.toList == yn.data.toList) = false := by simpa [ByteArray.ext_iff] using e0
     clear HS HQ HNE e0; go_wp2_with fail
     go_quiet (fail)
     go_wp2_with fail
     go_ret
     first | exact ⟨ret_bool HF.out.symm, _, rfl⟩ | exact ⟨ret_bool HF.out.symm, _, World.drewN_drewN _ _ _⟩
   ·obtain rfl : k = n := by omega
    have HF := Z_ (HB.out.symm.trans (take_all HN.out HM.out hrel.out)); go_wp2_with fail
    go_ret
    first | exact ⟨ret_bool HF.out.symm, _, rfl⟩ | exact ⟨ret_bool HF.out.symm, _, World.drewN_drewN _ _ _⟩
 ·rw [len_ne hlen]
  have hne : ((l.length : Int) == (m.length : Int)) = false := by rw [beq_eq_false_iff_ne]; omega
  obtain ⟨n, hn⟩ : ∃ n, l.length = n := ⟨_, rfl⟩; obtain ⟨n', hn'⟩ : ∃ n, m.length = n := ⟨_, rfl⟩; rw [hn, hn'] at hne hlen ⊢; clear hn hn' hl hm; go_enter Tryz.func104, Tryz.ntmps104
  go_wp2_with fail
  go_ret
  exact ⟨rfl, 0, rfl⟩
end face
end Go.Proofs.YtpcihajmcejliabGreatDoor
