/- The walk of the program's Of: a text's face, its imports, its fault. What form a node has that a text is read as, in plain Lean. The face of a text that is a module may be, in plain Lean. The walks of chapter 4's small functions: what a label is; a text's place in a list; whether two rows, two procedures are one. -/
import Derived.Test.YtpcihajmcejliabGreatDoorOfK
import Derived.Test.YtpcihajmcejliabGreatDoorLexRefN
import Derived.Test.YtpcihajmcejliabGreatDoorOfO
import Derived.Test.YtpcihajmcejliabGreatDoorOfP
import Derived.Test.YtpcihajmcejliabGreatDoorOfS
namespace Go.Proofs.YtpcihajmcejliabGreatDoor
open Go.RowKit
namespace ofq
open synw ofp ofd
structure OQ (w u : World) (R F V : Nat) (fc : Array Value) (z0 z1 c a : Int) : Prop where
 ext : Ext w u
 rf : Blk u R fc 52
 rz : Blk u F #[.int .i64 z0, .int .i64 z1] 68
 vb : Blk u V #[.int .i64 c, .int .i64 a] 68
 hw : w.heap.size ≤ R
 hRF : R < F
 hFV : F < V
theorem OQ.extend {w u u' : World} {R F V : Nat} {fc : Array Value} {z0 z1 c a : Int} (h : OQ w u R F V fc z0 z1 c a) (hE : Ext u u') : OQ w u' R F V fc z0 z1 c a :=
 ⟨h.ext.ext hE, h.rf.ext hE, h.rz.ext hE, h.vb.ext hE, h.hw, h.hRF, h.hFV⟩
theorem OQ.setF {w u : World} {R F V : Nat} {fc : Array Value} {z0 z1 c a : Int} (h : OQ w u R F V fc z0 z1 c a) : OQ w ((u.setCell ⟨F, 0, none⟩ (.int .i64 c)).setCell ⟨F, 1, none⟩ (.int .i64 a)) R F V fc c a c a := by
 have h1 := h.hw; have h2 := h.hRF; have h3 := h.hFV
 have hC := chg_set (chg_set (S := F) (Chg.refl _ u) 0 (.int .i64 c)) 1 (.int .i64 a); exact ⟨h.ext.trans hC (fun i hi e => by omega), h.rf.chg hC (by omega), (h.rz.set 0 _).set 1 _, h.vb.chg hC (by omega), h1, h2, h3⟩
theorem OQ.setR {w u : World} {R F V : Nat} {p q r : Value} {z0 z1 c a : Int} (h : OQ w u R F V #[p, q, r] z0 z1 c a) (p' q' r' : Value) : OQ w (((u.setCell ⟨R, 0, none⟩ p').setCell ⟨R, 1, none⟩ q').setCell ⟨R, 2, none⟩ r') R F V #[p', q', r'] z0 z1 c a := by
 have h1 := h.hw; have h2 := h.hRF; have h3 := h.hFV
 have hC := chg_set (chg_set (chg_set (S := R) (Chg.refl _ u) 0 p') 1 q') 2 r'; exact ⟨h.ext.trans hC (fun i hi e => by omega), ((h.rf.set 0 _).set 1 _).set 2 _, h.rz.chg hC (by omega), h.vb.chg hC (by omega), h1, h2, h3⟩
def QC (w w1 : World) (R F V D : Nat) (dc : Array Value) (vi : Value) (f : FFace) (is : List ByteArray) : List Value → World → Prop
 | [], u => OQ w u R F V #[.string ⟨#[]⟩, .slice none 0 0, .slice none 0 0] 0 0 0 0 ∧ Blk u D dc 175 ∧ Ext w1 u
 | [vf], u => OQ w u R F V #[.string ⟨#[]⟩, .slice none 0 0, .slice none 0 0] 0 0 0 0 ∧ Blk u D dc 175 ∧ RowAt 1 StrIn is vi (hide (below (F + 1)) u) ∧ ofn.FaceX (below (F + 1)) u f vf
 | [vf, _], u => OQ w u R F V vf.cells 0 0 0 0 ∧ Blk u D dc 175 ∧ RowAt 1 StrIn is vi (hide (below (F + 1)) u) ∧ ofn.FaceX (below (F + 1)) u f vf
 | [vf, _, v2], u => v2 = vi ∧ OQ w u R F V vf.cells 0 0 0 0 ∧ Blk u D dc 175 ∧ RowAt 1 StrIn is vi (hide (below (F + 1)) u) ∧ ofn.FaceX (below (F + 1)) u f vf
 | [vf, _, v2, _], u => v2 = vi ∧ OQ w u R F V vf.cells 0 0 0 0 ∧ Blk u D dc 175 ∧ RowAt 1 StrIn is vi (hide (below (F + 1)) u) ∧ ofn.FaceX (below (F + 1)) u f vf
 | _, _ => False
theorem QC.any {w w1 : World} {R F V D : Nat} {dc : Array Value} {vi : Value} {f : FFace} {is : List ByteArray} {vs : List Value} {u : World} (h : QC w w1 R F V D dc vi f is vs u) : (∃ fc, OQ w u R F V fc 0 0 0 0) ∧ Blk u D dc 175 := by
 match vs, h with
 | [], h => exact ⟨⟨_, h.1⟩, h.2.1⟩
 | [_], h => exact ⟨⟨_, h.1⟩, h.2.1⟩
 | [_, _], h => exact ⟨⟨_, h.1⟩, h.2.1⟩
 | [_, _, _], h => exact ⟨⟨_, h.2.1⟩, h.2.2.1⟩
 | [_, _, _, _], h => exact ⟨⟨_, h.2.1⟩, h.2.2.1⟩
def OfPostX (w : World) (R : FFace × List ByteArray × Int × Int) (e : Ending) (w' : World) : Prop :=
 Ext w w' ∧ ∃ vF vI, e = .returned (.tuple #[vF, vI, .agg #[.int .i64 R.2.2.1, .int .i64 R.2.2.2]]) ∧ ofn.FaceX (below w.heap.size) w' R.1 vF ∧ RowAt 1 StrIn R.2.1 vI w'
theorem OfPostX.post {w : World} {R : FFace × List ByteArray × Int × Int} {e : Ending} {w' : World} (h : OfPostX w R e w') : OfPost w R e w' := by
 obtain ⟨h1, vF, vI, h2, h3, h4⟩ := h; exact ⟨h1, vF, vI, h2, FaceAt.keeps (keeps_bare _ _) h3.at_, h4⟩
theorem noFace_x (M : Nat → Bool) (w : World) : ofn.FaceX M w noFace (.agg #[.string ⟨#[]⟩, .slice none 0 0, .slice none 0 0]) :=
 ⟨none, 0, none, 0, rfl, fun j h => (by cases h), fun j h => (by cases h), by decide, Nat.le_refl _, by decide, Nat.le_refl _, by decide, .inl rfl⟩
theorem rowAt_keepsH {l : List ByteArray} {v : Value} {w w' : World} (h : RowAt 1 StrIn l v w) (hk : Keeps w w') : RowAt 1 StrIn l v w' := h.keeps (fun _ _ _ h => ⟨hk.2 _ _ h.1, h.2⟩) hk
theorem vars_small {l : List Nd} (h : ∀ y ∈ l, y.tx.size ≤ 10000) : ∀ x ∈ varsF l, x.name.size ≤ 10000 := fun x hx => by
 unfold varsF at hx; obtain ⟨y, hy, rfl⟩ := List.mem_map.1 hx; exact h y (List.mem_filter.1 hy).1
theorem procs_small {l : List Nd} (h : ∀ y ∈ l, y.tx.size ≤ 10000) : ∀ x ∈ procsF l, x.name.size ≤ 10000 := fun x hx => by
 unfold procsF at hx; obtain ⟨y, hy, rfl⟩ := List.mem_map.1 hx; exact h y (List.mem_filter.1 hy).1
set_option maxRecDepth 100000 in
set_option maxHeartbeats 8000000 in
theorem of_any (s : ByteArray) (w : World) (hs : s.size ≤ 9223372036854775807) (hv : ErrVar w) (hm : MaxVar w) :
  Calls Tryz.prog 29 #[.string s] w (OfPostX w (ofR s)) := by
 obtain ⟨x, hx⟩ : ∃ x, (parseR s).1 = x := ⟨_, rfl⟩; obtain ⟨Q, hQ⟩ : ∃ Q, ofR s = Q := ⟨_, rfl⟩; obtain ⟨R, hR⟩ : ∃ R, w.heap.size = R := ⟨_, rfl⟩; obtain ⟨F, hF⟩ : ∃ F, R + 1 = F := ⟨_, rfl⟩; have hR0 := (Blk.made w #[.string ⟨#[]⟩, .slice none 0 0, .slice none 0 0] 52).alloc (.cells #[.int .i64 0, .int .i64 0] 68); have hF0 := Blk.made2 w (.cells #[.string ⟨#[]⟩, .slice none 0 0, .slice none 0 0] 52) #[.int .i64 0, .int .i64 0] 68; have hz0 : ((w.alloc (.cells #[.string ⟨#[]⟩, .slice none 0 0, .slice none 0 0] 52)).alloc (.cells #[.int .i64 0, .int .i64 0] 68)).heap.size = F + 1 := by simp; omega
 rw [hR] at hR0 hF0; rw [hF] at hF0; have hX0 := ((Chg.refl (fun _ => False) w).alloc (.cells #[.string ⟨#[]⟩, .slice none 0 0, .slice none 0 0] 52)).alloc (.cells #[.int .i64 0, .int .i64 0] 68); have HC := Z_ (oflk.look_any s _ hs (hv.ext hX0) (hm.ext hX0)); rw [hx, hQ] at HC
 have HQD := Z_ (show Q.2.2.1 = 0 → Q = (faceF false x, impsF x.kids, 0, 0) by
  intro h0; subst hQ; subst hx; unfold ofR at h0 ⊢; by_cases h1 : (parseR s).2.1 = 0
  ·rw [if_pos h1] at h0 ⊢
   by_cases h2 : (lookF (parseR s).1.tx (parseR s).1.kids [] [] 1).1 = 0
   ·rw [if_pos h2]
   ·rw [if_neg h2] at h0; exact absurd h0 h2
  ·rw [if_neg h1] at h0; exact absurd h0 h1)
 have HQN := Z_ (show Q.2.2.1 ≠ 0 → Q = (noFace, [], Q.2.2.1, Q.2.2.2) by
  intro h0; subst hQ; unfold ofR at h0 ⊢; by_cases h1 : (parseR s).2.1 = 0
  ·rw [if_pos h1] at h0 ⊢
   by_cases h2 : (lookF (parseR s).1.tx (parseR s).1.kids [] [] 1).1 = 0
   ·rw [if_pos h2] at h0; exact absurd rfl h0
   ·rw [if_neg h2]
  ·rw [if_neg h1])
 have HA0 := Z_ (show Q.2.2.1 = 0 → Q.2.2.2 = 0 from fun h => by rw [HQD.out h]); rw [hQ]; have hRF : R < F := by omega
 have HR0 := Z_ hR0; have HF0 := Z_ hF0; have HX0 := Z_ hX0; have HZ0 := Z_ hz0; have HRW := Z_ hR; clear hx hQ hR0 hF0 hX0 hz0 hv hm hR; go_enter Tryz.func29, Tryz.ntmps29
 go_upto_region 1 with (fail)
 try rw [HRW.out]
 try rw [hF]
 generalize (w.alloc (.cells #[.string ⟨#[]⟩, .slice none 0 0, .slice none 0 0] 52)).alloc (.cells #[.int .i64 0, .int .i64 0] 68) = u0 at *; go_wp2_with fail
 refine HC.out.mono ?_
 rintro e w1 ⟨hE1, vp, rfl, hgood⟩; obtain ⟨c, hc⟩ : ∃ c, Q.2.2.1 = c := ⟨_, rfl⟩; obtain ⟨a, ha⟩ : ∃ a, Q.2.2.2 = a := ⟨_, rfl⟩; rw [hc] at hgood HQD HQN; rw [ha] at HQN; rw [hc, ha] at HA0; rw [hc, ha]; have HGD := Z_ hgood; have hEN := (Chg.refl (fun _ => False) w1).alloc (.cells #[.int .i64 c, .int .i64 a] 68)
 have hOQ : OQ w (w1.alloc (.cells #[.int .i64 c, .int .i64 a] 68)) R F w1.heap.size #[.string ⟨#[]⟩, .slice none 0 0, .slice none 0 0] 0 0 c a :=
  ⟨(HX0.out.ext hE1).ext hEN, (HR0.out.ext hE1).ext hEN, (HF0.out.ext hE1).ext hEN, Blk.made w1 _ _, by have := HRW.out; omega, hRF, by have := (HF0.out.ext hE1).lt; omega⟩
 have HO := Z_ hOQ; have HEN := Z_ hEN; have HF1 := Z_ (HF0.out.ext hE1).lt; obtain ⟨V, hV⟩ : ∃ V, w1.heap.size = V := ⟨_, rfl⟩; rw [hV] at HO; clear hOQ hEN hgood hE1 HC HR0 HF0 HX0 hc ha; go_upto_region 2 with (fail)
 try rw [hV]
 generalize w1.alloc (.cells #[.int .i64 c, .int .i64 a] 68) = u1 at *; clear hV; have hv := HO.out.vb.cell; by_cases hc0 : c = 0
 ·subst hc0
  have HQ3 := Z_ (HQD.out rfl); obtain ⟨D, a1, c1, a2, c2, a3, c3, d3, d4, d5, d6, d8, rfl, hD, hAV, hAP, hAI, hlv, hlp, htx, hky⟩ := HGD.out rfl; obtain rfl : a = 0 := HA0.out rfl; rw [HZ0.out] at hAV hAP hAI; have HD := Z_ hD; have HAV := Z_ hAV; have HAP := Z_ hAP; have HAI := Z_ hAI; have HKY := Z_ (And.intro htx hky); have HLN := Z_ (And.intro hlv hlp); obtain ⟨dc, hdc⟩ : ∃ dc : Array Value, #[.string x.tx, .slice a1 (varsF x.kids).length c1, .slice a2 (procsF x.kids).length c2, d3, d4, d5, d6, .slice a3 (impsF x.kids).length c3, d8] = dc := ⟨_, rfl⟩; have HDC := Z_ hdc; have HDB := Z_ (show Blk u1 D dc 175 from hdc ▸ hD.ext HEN.out); obtain ⟨nI, hnI⟩ : ∃ n, (impsF x.kids).length = n := ⟨_, rfl⟩; rw [hnI] at hdc HAI; have HD7 := Z_ (show dc[7]? = some (.slice a3 nI c3) by rw [← hdc]; rfl); clear hD hAV hAP hAI hlv hlp htx hky hdc hnI HD HGD HQD HQN
  go_upto_region 4 with (fail)
  clear hv; refine wp_region_weave [1, 7, 8, 9] (fun i v _ => v = ([.pointer (some ⟨D, 0, none⟩), undef, .pointer (some ⟨D, 0, none⟩), .pointer (some ⟨D, 0, none⟩), .pointer (some ⟨D, 7, none⟩), .slice a3 nI c3, .agg #[.int .i64 0, .int .i64 0], undef, undef, undef] : List Value).getD i undef) (QC w u1 R F V D dc (.slice a3 nI c3) (faceF false x) (impsF x.kids)) (fun _ _ => True) (frame := ?frab) (fun x => ?hfab) synw.mixed (by kernel_rfl) (by kernel_rfl) (fun _ _ _ _ h _ => h) ?h0b ?stb ?finb
  case hfab =>
   simp only [chain.frameOf, chain.fill, chain.setOpt, chain.dstOf, List.size_toArray, List.length_cons, List.length_nil, List.getElem?_toArray, List.getElem?_cons_succ, List.getElem?_cons_zero, List.setIfInBounds_toArray, List.set_cons_succ, List.set_cons_zero]; exact rfl
  case h0b => exact ⟨HO.out.extend (Chg.refl _ _).drew, HDB.out.ext (Chg.refl _ _).drew, (Chg.refl _ _).drew⟩
  case stb =>
   refine AllFrom.cons (fun x vs u hF hm hb hd K' hK' => ?sb0) (AllFrom.cons (fun x vs u hF hm hb hd K' hK' => ?sb1) (AllFrom.cons (fun x vs u hF hm hb hd K' hK' => ?sb2) (AllFrom.cons (fun x vs u hF hm hb hd K' hK' => ?sb3) (AllFrom.cons (fun x vs u hF hm hb hd K' hK' => ?sb4) (AllFrom.cons (fun x vs u hF hm hb hd K' hK' => ?sb5) (AllFrom.cons (fun x vs u hF hm hb hd K' hK' => ?sb6) (AllFrom.cons (fun x vs u hF hm hb hd K' hK' => ?sb7) (AllFrom.cons (fun x vs u hF hm hb hd K' hK' => ?sb8) (AllFrom.cons (fun x vs u hF hm hb hd K' hK' => ?sb9) (AllFrom.nil))))))))))
   case sb0 =>
    have HF := Z_ hF; clear hd hm hb hF; go_simp; exact hK'.out _ _ _ (rfl) trivial ⟨rfl, HF.out⟩
   case sb1 =>
    obtain rfl := List.eq_nil_of_length_eq_zero (hm 0 (by kernel_rfl)); have y0 := hd 0 (by decide) (by kernel_rfl); replace y0 : x 17 = .pointer (some ⟨D, 0, none⟩) := y0; obtain ⟨hAA, hDD, hEE⟩ := hF; have HK9 := Z_ (show Keeps (hide (below (F + 1)) w1) (hide (below (F + 1)) u) from keeps_chg (HEN.out.ext hEE) fun _ _ e => e.elim); have HX := Z_ (ofn.open_any (M := below (F + 1)) (w := u) (by rw [HDC.out]; exact hDD) ((HAV.out.keeps HK9.out fun _ _ _ => VarIn.keeps HK9.out).keeps (keeps_bare _ _) fun _ _ _ => VarIn.keeps (keeps_bare _ _)) (HAP.out.keeps HK9.out fun _ _ _ => ProcIn.keeps HK9.out) (fun i hi => by have := HF1.out; have h2 := (HEN.out.ext hEE).size; simp [below] at hi; omega) HKY.out.1 (vars_small HKY.out.2) (procs_small HKY.out.2) HLN.out.1 HLN.out.2); have HAA := Z_ (show OQ _ _ _ _ _ _ _ _ _ _ from hAA); have HDD := Z_ (show Blk _ _ _ _ from hDD); clear hd hm hb hAA hEE hDD
    go_simp; refine HX.out.mono ?_
    rintro e u2 ⟨vf, rfl, hface, hE⟩; exact hK'.out _ _ _ (by simp only [y0]; rfl) trivial ⟨HAA.out.extend hE, HDD.out.ext hE, rowAt_keepsH (HAI.out) ((HK9.out).trans (keeps_chg hE fun _ _ e => e.elim)), hface⟩
   case sb2 =>
    have HF := Z_ hF; clear hd hm hb hF; go_simp; exact hK'.out _ _ _ (rfl) trivial ⟨rfl, HF.out⟩
   case sb3 =>
    obtain ⟨⟨_, hAA⟩, hDD⟩ := QC.any hF; have hq := hDD.lt; clear hAA hDD; have y0 := hd 2 (by decide) (by kernel_rfl); replace y0 : x 19 = .pointer (some ⟨D, 0, none⟩) := y0; have HF := Z_ hF; clear hd hm hb hF; go_simp; exact hK'.out _ _ _ (by simp only [y0]; rfl) trivial ⟨rfl, HF.out⟩
   case sb4 =>
    have y0 := hd 3 (by decide) (by kernel_rfl); replace y0 : x 20 = .pointer (some ⟨D, 0, none⟩) := y0; have HF := Z_ hF; clear hd hm hb hF; go_simp; exact hK'.out _ _ _ (by simp only [y0]; rfl) trivial ⟨rfl, HF.out⟩
   case sb5 =>
    obtain ⟨⟨_, hAA⟩, hDD⟩ := QC.any hF; have hq := (hDD.cell 7).trans HD7.out; clear hAA hDD; have y0 := hd 4 (by decide) (by kernel_rfl); replace y0 : x 21 = .pointer (some ⟨D, 7, none⟩) := y0; have HF := Z_ hF; clear hd hm hb hF; go_simp; exact hK'.out _ _ _ (by simp only [y0]; rfl) trivial ⟨rfl, HF.out⟩
   case sb6 =>
    obtain ⟨⟨_, hAA⟩, hDD⟩ := QC.any hF; have hq := hAA.vb.cell; clear hAA hDD; have HF := Z_ hF; clear hd hm hb hF; go_simp; exact hK'.out _ _ _ (rfl) trivial ⟨rfl, HF.out⟩
   case sb7 =>
    obtain ⟨v0, rfl⟩ : ∃ v0, vs = [v0] := by match vs, hm 1 (by kernel_rfl) with | [v0], _ => exact ⟨_, rfl⟩
    have y0 := hd 1 (by decide) (by kernel_rfl) 18 (by kernel_rfl); replace y0 : x 18 = v0 := y0; obtain ⟨hAA, hDD, hRA, hFA⟩ := hF; have hfo : ∃ sn fa n1 fm fc n2 fd, v0 = .agg #[.string sn, .slice fa n1 fm, .slice fc n2 fd] := by obtain ⟨a_, m_, c_, d_, e_, -⟩ := id hFA; exact ⟨_, _, _, _, _, _, _, e_⟩
    obtain ⟨sn, fa, n1, fm, fc, n2, fd, rfl⟩ := hfo; have hq := hAA.rf.cell; have hf := hAA.rf.frozen; have hl := hAA.rf.lt; have HDR := Z_ (show D ≠ R from fun e => by subst e; unfold Blk at hDD; have := hAA.rf; unfold Blk at this; rw [hDD] at this; cases this); have HAA := Z_ hAA; have HFA := Z_ hFA; have HRA := Z_ hRA; have HDD := Z_ hDD; clear hd hm hb hAA hFA hRA hDD; go_simp; have hC := chg_set (chg_set (chg_set (S := R) (Chg.refl _ u) 0 (.string sn)) 1 (.slice fa n1 fm)) 2 (.slice fc n2 fd); exact hK'.out _ _ undef (by simp only [y0]; rfl) trivial ⟨HAA.out.setR _ _ _, HDD.out.chg hC HDR.out, rowAt_keepsH HRA.out (keeps_chg hC fun i _ e => by subst e; simp [below]; omega), HFA.out.chg hC (fun i e => by subst e; simp [below]; omega)⟩
   case sb8 =>
    obtain ⟨v0, v1, rfl⟩ : ∃ v0 v1, vs = [v0, v1] := by match vs, hm 2 (by kernel_rfl) with | [v0, v1], _ => exact ⟨_, _, rfl⟩
    have y0 := hd 5 (by decide) (by kernel_rfl); replace y0 : x 22 = .slice a3 nI c3 := y0; have HF := Z_ hF; clear hd hm hb hF; go_simp; exact hK'.out _ _ _ (by simp only [y0]; rfl) trivial ⟨rfl, HF.out⟩
   case sb9 =>
    obtain ⟨v0, v1, v2, rfl⟩ : ∃ v0 v1 v2, vs = [v0, v1, v2] := by match vs, hm 3 (by kernel_rfl) with | [v0, v1, v2], _ => exact ⟨_, _, _, rfl⟩
    have y0 := hd 6 (by decide) (by kernel_rfl); replace y0 : x 23 = .agg #[.int .i64 0, .int .i64 0] := y0; obtain ⟨rfl, hAA, hDD, hRA, hFA⟩ := hF; have hq := hAA.rz.cell; have hf := hAA.rz.frozen; have hl := hAA.rz.lt; have HDR := Z_ (show D ≠ F from fun e => by subst e; unfold Blk at hDD; have := hAA.rz; unfold Blk at this; rw [hDD] at this; cases this); have HAA := Z_ hAA; have HFA := Z_ hFA; have HRA := Z_ hRA; have HDD := Z_ hDD; clear hd hm hb hAA hFA hRA hDD; go_simp; have hC := chg_set (chg_set (S := F) (Chg.refl _ u) 0 (.int .i64 0)) 1 (.int .i64 0); exact hK'.out _ _ undef (by simp only [y0]; rfl) trivial ⟨rfl, HAA.out.setF, HDD.out.chg hC HDR.out, rowAt_keepsH HRA.out (keeps_chg hC fun i _ e => by subst e; simp [below]), HFA.out.chg hC (fun i e => by subst e; simp [below])⟩
  case finb =>
   intro x9 vs w9 hl hF hk; obtain ⟨v0, v1, v2, v3, rfl⟩ : ∃ v0 v1 v2 v3, vs = [v0, v1, v2, v3] := by match vs, hl with | [v0, v1, v2, v3], _ => exact ⟨_, _, _, _, rfl⟩
   have y3 := hk 8 (by decide) 3 (by kernel_rfl); replace y3 : x9 3 = v2 := y3; obtain ⟨rfl, hAA, hDD, hRA, hFA⟩ := hF; have hfo : ∃ p q r, v0 = .agg #[p, q, r] := by obtain ⟨a_, m_, c_, d_, e_, -⟩ := id hFA; exact ⟨_, _, _, e_⟩
   obtain ⟨p9, q9, r9, rfl⟩ := hfo; have HP9 := Z_ hAA; have HFA := Z_ hFA; have HRA := Z_ hRA; clear hk hl hAA hFA hRA hDD; go_wp2_with fail
   refine bodyPost_ret (ofo.results_c1c rfl _ _ rfl HP9.out.rf Tryz.underlying52 rfl (by kernel_rfl) rfl HP9.out.rz Tryz.underlying68 rfl (by kernel_rfl) (v := .slice a3 nI c3) (by simp)) rfl ?_
   rw [HQ3.out]; exact ⟨HP9.out.ext, _, _, rfl, HFA.out.weak (fun i hi => by have := HRW.out; simp [below] at hi ⊢; omega), rowAt_keepsH HRA.out (keeps_bare _ _)⟩
 ·have hcn : (c != 0) = true := by simpa using hc0
  have HQ3 := Z_ (HQN.out hc0); have hce : (c == 0) = false := by simpa using hc0
  clear HGD HQD HQN HA0; go_upto_region 3 with (fail)
  clear hv; refine wp_region_weave [2, 4] (fun i v _ => v = ([.agg #[.string ⟨#[]⟩, .slice none 0 0, .slice none 0 0], .agg #[.int .i64 c, .int .i64 a], undef, .slice none 0 0, undef] : List Value).getD i undef) (fun vs u => ∃ z0 z1 : Int, (vs.length = 2 → z0 = c ∧ z1 = a) ∧ OQ w u R F V #[.string ⟨#[]⟩, .slice none 0 0, .slice none 0 0] z0 z1 c a) (fun _ _ => True) (frame := ?fraa) (fun x => ?hfaa) synw.mixed (by kernel_rfl) (by kernel_rfl) (fun _ _ _ _ h _ => h) ?h0a ?sta ?fina
  case hfaa =>
   simp only [chain.frameOf, chain.fill, chain.setOpt, chain.dstOf, List.size_toArray, List.length_cons, List.length_nil, List.getElem?_toArray, List.getElem?_cons_succ, List.getElem?_cons_zero, List.setIfInBounds_toArray, List.set_cons_succ, List.set_cons_zero]; exact rfl
  case h0a => exact ⟨0, 0, (fun h => (by cases h)), HO.out.extend (Chg.refl _ _).drew⟩
  case sta =>
   refine AllFrom.cons (fun x vs u hF hm hb hd K' hK' => ?sa0) (AllFrom.cons (fun x vs u hF hm hb hd K' hK' => ?sa1) (AllFrom.cons (fun x vs u hF hm hb hd K' hK' => ?sa2) (AllFrom.cons (fun x vs u hF hm hb hd K' hK' => ?sa3) (AllFrom.cons (fun x vs u hF hm hb hd K' hK' => ?sa4) (AllFrom.nil)))))
   case sa0 =>
    have HF := Z_ hF; clear hd hm hb hF; go_simp; exact hK'.out _ _ _ (rfl) trivial ⟨rfl, HF.out⟩
   case sa1 =>
    obtain ⟨_, _, _, hAA⟩ := id hF; have hq := hAA.vb.cell; clear hAA; have HF := Z_ hF; clear hd hm hb hF; go_simp; exact hK'.out _ _ _ (rfl) trivial ⟨rfl, HF.out⟩
   case sa2 =>
    obtain rfl := List.eq_nil_of_length_eq_zero (hm 0 (by kernel_rfl)); have y0 := hd 0 (by decide) (by kernel_rfl); replace y0 : x 15 = .agg #[.string ⟨#[]⟩, .slice none 0 0, .slice none 0 0] := y0; obtain ⟨z0, z1, hz, hAA⟩ := hF; have hq := hAA.rf.cell; have hf := hAA.rf.frozen; have hl := hAA.rf.lt; have HF := Z_ hAA; clear hd hm hb hAA hz; go_simp; exact hK'.out _ _ undef (by simp only [y0]; rfl) trivial ⟨z0, z1, (fun h => (by cases h)), HF.out.setR _ _ _⟩
   case sa3 =>
    have HF := Z_ hF; clear hd hm hb hF; go_simp; exact hK'.out _ _ _ (rfl) trivial ⟨rfl, HF.out⟩
   case sa4 =>
    obtain ⟨v0, rfl⟩ : ∃ v0, vs = [v0] := by match vs, hm 1 (by kernel_rfl) with | [v0], _ => exact ⟨_, rfl⟩
    have y0 := hd 1 (by decide) (by kernel_rfl); replace y0 : x 16 = .agg #[.int .i64 c, .int .i64 a] := y0; obtain ⟨z0, z1, hz, hAA⟩ := hF; have hq := hAA.rz.cell; have hf := hAA.rz.frozen; have hl := hAA.rz.lt; have HF := Z_ hAA; clear hd hm hb hAA hz; go_simp; exact hK'.out _ _ undef (by simp only [y0]; rfl) trivial ⟨_, _, fun _ => ⟨rfl, rfl⟩, HF.out.setF⟩
  case fina =>
   intro x9 vs w9 hl hF hk; obtain ⟨v0, v1, rfl⟩ : ∃ v0 v1, vs = [v0, v1] := by match vs, hl with | [v0, v1], _ => exact ⟨_, _, rfl⟩
   obtain ⟨z0, z1, hz, hAA⟩ := hF; obtain ⟨hz0, hz1⟩ := hz rfl; rw [hz0, hz1] at hAA; have y3 := hk 3 (by decide); replace y3 : x9 3 = .slice none 0 0 := y3; have HP9 := Z_ hAA; clear hk hl hAA; go_wp2_with fail
   refine bodyPost_ret (ofo.results_c1c rfl _ _ rfl HP9.out.rf Tryz.underlying52 rfl (by kernel_rfl) rfl HP9.out.rz Tryz.underlying68 rfl (by kernel_rfl) (v := .slice none 0 0) (by simp [y3])) rfl ?_
   rw [HQ3.out]; exact ⟨HP9.out.ext, _, _, rfl, noFace_x _ _, ofo.noRow_at _⟩
end ofq
end Go.Proofs.YtpcihajmcejliabGreatDoor
namespace Go.Proofs.YtpcihajmcejliabGreatDoor
open Go.RowKit
def NameT (t : ByteArray) : Prop := nameB t.data.toList = true
def WholeT (t : ByteArray) : Prop := NameT t ∨ ∃ a b, NameT a ∧ NameT b ∧ t = a ++ (sDot ++ b)
def KdE (k : Int) : Prop := 15 ≤ k ∧ k ≤ 21
def KdP (k : Int) : Prop := k = 16 ∨ k = 17
def KdS (k : Int) : Prop := 7 ≤ k ∧ k ≤ 14
inductive Form : Int → ByteArray → Int → List Nd → Prop
 | module {t : ByteArray} {a b : List Nd} (ht : NameT t) (ha : ∀ y ∈ a, y.kd = 2) (hb : ∀ y ∈ b, y.kd = 3 ∨ y.kd = 4) : Form 1 t 0 (a ++ b)
 | imp {t : ByteArray} (ht : NameT t) : Form 2 t 0 []
 | var {t : ByteArray} {m : Int} (ht : NameT t) (h0 : 0 ≤ m) (h1 : m ≤ 3) : Form 3 t m []
 | array {t : ByteArray} {m : Int} {y : Nd} (ht : NameT t) (h0 : 0 ≤ m) (h1 : m ≤ 3) (hy : y.kd = 15) : Form 3 t m [y]
 | proc {t : ByteArray} {m : Int} {ps : List Nd} {b : Nd} (ht : NameT t) (h0 : 0 ≤ m) (h1 : m ≤ 11) (hp : ∀ y ∈ ps, y.kd = 5) (hb : b.kd = 6) : Form 4 t m (ps ++ [b])
 | param {t : ByteArray} {m : Int} (ht : NameT t) (h0 : 0 ≤ m) (h1 : m ≤ 1) : Form 5 t m []
 | block {l : List Nd} (hl : ∀ y ∈ l, KdS y.kd) : Form 6 noText 0 l
 | loc {t : ByteArray} {m : Int} {x : Nd} (ht : NameT t) (h0 : 0 ≤ m) (h1 : m ≤ 1) (hx : KdE x.kd) : Form 7 t m [x]
 | set {p x : Nd} (hp : KdP p.kd) (hx : KdE x.kd) : Form 8 noText 0 [p, x]
 | do_ {c : Nd} (hc : c.kd = 18) : Form 9 noText 0 [c]
 | if2 {x b : Nd} (hx : KdE x.kd) (hb : b.kd = 6) : Form 10 noText 0 [x, b]
 | if3 {x b c : Nd} (hx : KdE x.kd) (hb : b.kd = 6) (hc : c.kd = 6) : Form 10 noText 0 [x, b, c]
 | while_ {x b : Nd} (hx : KdE x.kd) (hb : b.kd = 6) : Form 11 noText 0 [x, b]
 | out {m : Int} {x : Nd} (h0 : 0 ≤ m) (h1 : m ≤ 1) (hx : KdE x.kd) : Form 12 noText m [x]
 | inp {m : Int} {x : Nd} (h0 : 0 ≤ m) (h1 : m ≤ 1) (hx : KdP x.kd) : Form 13 noText m [x]
 | ret {x : Nd} (hx : KdE x.kd) : Form 14 noText 0 [x]
 | num {m : Int} (h0 : 0 ≤ m) (h1 : m < 9223372036854775808) : Form 15 noText m []
 | name {t : ByteArray} (ht : WholeT t) : Form 16 t 0 []
 | item {t : ByteArray} {x : Nd} (ht : WholeT t) (hx : KdE x.kd) : Form 17 t 0 [x]
 | call {t : ByteArray} {l : List Nd} (ht : WholeT t) (hl : ∀ y ∈ l, KdE y.kd) : Form 18 t 0 l
 | op {m : Int} {x y : Nd} (h0 : 1 ≤ m) (h1 : m ≤ 9) (hx : KdE x.kd) (hy : KdE y.kd) : Form 19 noText m [x, y]
 | neg {x : Nd} (hx : KdE x.kd) : Form 20 noText 0 [x]
 | not_ {x : Nd} (hx : KdE x.kd) : Form 21 noText 0 [x]
inductive IsNd : Nd → Prop
 | mk {k : Int} {t : ByteArray} {m : Int} {l : List Nd} (hf : Form k t m l) (hl : ∀ y ∈ l, IsNd y) : IsNd (.mk k t m l)
theorem IsNd.form {k : Int} {t : ByteArray} {m : Int} {l : List Nd} (h : IsNd (.mk k t m l)) : Form k t m l := by cases h; assumption
theorem IsNd.kids {k : Int} {t : ByteArray} {m : Int} {l : List Nd} (h : IsNd (.mk k t m l)) : ∀ y ∈ l, IsNd y := by cases h; assumption
namespace ndis
open ofm synm
theorem none1 {P : Nd → Prop} {x : Nd} (h : P x) : ∀ y ∈ [x], P y := fun y hy => by rw [List.mem_singleton] at hy; subst hy; exact h
theorem none2 {P : Nd → Prop} {x z : Nd} (h : P x) (h2 : P z) : ∀ y ∈ [x, z], P y := fun y hy => by
 simp only [List.mem_cons, List.not_mem_nil, or_false] at hy; rcases hy with rfl | rfl
 ·exact h
 ·exact h2
theorem none3 {P : Nd → Prop} {x z q : Nd} (h : P x) (h2 : P z) (h3 : P q) : ∀ y ∈ [x, z, q], P y := fun y hy => by
 simp only [List.mem_cons, List.not_mem_nil, or_false] at hy; rcases hy with rfl | rfl | rfl
 ·exact h
 ·exact h2
 ·exact h3
theorem snoc {P : Nd → Prop} {l : List Nd} {x : Nd} (h : ∀ y ∈ l, P y) (hx : P x) : ∀ y ∈ l ++ [x], P y := fun y hy => by
 rw [List.mem_append, List.mem_singleton] at hy; rcases hy with hy | rfl
 ·exact h y hy
 ·exact hx
theorem name_is {s : ByteArray} {l r : List Tk} (h : pName l = .got s r) (ho : ∀ t ∈ l, TkOk t) : NameT s := by
 cases l with
 | nil => cases h
 | cons t q =>
  simp only [pName] at h; split at h
  ·rename_i hk
   injection h with h1 _
   subst h1; have hw := (ho t (by simp)).word hk.1; unfold NameT nameB; rw [hw, hk.2]; rfl
  ·cases h
theorem whole_is {s : ByteArray} {l r : List Tk} (h : pWhole l = .got s r) (ho : ∀ t ∈ l, TkOk t) : WholeT s := by
 unfold pWhole at h; obtain ⟨a, l1, h1, h⟩ := got_bind h; have ha := name_is h1 ho; have h1o := name_sub h1 ho; split at h
 ·obtain ⟨b, l2, h2, h⟩ := got_bind h
  have hb := name_is h2 (tks_tail h1o); injection h with h _
  exact .inr ⟨a, b, ha, hb, h.symm⟩
 ·injection h with h _
  subst h; exact .inl ha
theorem num_is {x : Nd} {l r : List Tk} (h : pNumber l = .got x r) (ho : ∀ t ∈ l, TkOk t) : IsNd x ∧ x.kd = 15 := by
 obtain ⟨t, ht, hk, rfl⟩ := num_ok h; have htl : t ∈ l := List.mem_of_mem_head? ht; have := ((ho t htl).num hk).2.2; refine ⟨.mk (.num (by unfold valOf; omega) (by unfold valOf; omega)) (fun y hy => by cases hy), rfl⟩
theorem op_is {s : ByteArray} {k : Nat} (h : (opOf s).2 = k) : 1 ≤ (opOf s).1 ∧ (opOf s).1 ≤ 9 := by
 unfold opOf at h ⊢
 repeat' split
 all_goals first | decide | skip
 simp_all
def PreI : NT → Prop
 | .loop _ x => IsNd x ∧ KdE x.kd
 | .place s => WholeT s
 | .call s => WholeT s
 | .args s acc => WholeT s ∧ ∀ y ∈ acc, IsNd y ∧ KdE y.kd
 | .stats acc => ∀ y ∈ acc, IsNd y ∧ KdS y.kd
 | .proc pub => pub = 0 ∨ pub = 2
 | .params s pub acc => NameT s ∧ (pub = 0 ∨ pub = 2) ∧ ∀ y ∈ acc, IsNd y ∧ y.kd = 5
 | .imports s acc => NameT s ∧ ∀ y ∈ acc, IsNd y ∧ y.kd = 2
 | .decls s acc => NameT s ∧ ∃ a b, acc = a ++ b ∧ (∀ y ∈ a, IsNd y ∧ y.kd = 2) ∧ ∀ y ∈ b, IsNd y ∧ (y.kd = 3 ∨ y.kd = 4)
 | _ => True
def PostI : NT → Int → Prop
 | .expr, k => KdE k
 | .bound _, k => KdE k
 | .loop _ _, k => KdE k
 | .unary, k => KdE k
 | .asked, k => KdE k
 | .place _, k => KdP k
 | .call _, k => k = 18
 | .args _ _, k => k = 18
 | .block, k => k = 6
 | .stats _, k => k = 6
 | .stat, k => KdS k
 | .decl, k => k = 3 ∨ k = 4
 | .proc _, k => k = 4
 | .params _ _ _, k => k = 4
 | .module, k => k = 1
 | .imports _ _, k => k = 1
 | .decls _ _, k => k = 1
theorem kp_ke {k : Int} (h : KdP k) : KdE k := by unfold KdP at h; unfold KdE; omega
theorem fst {P Q : Nd → Prop} {l : List Nd} (h : ∀ y ∈ l, P y ∧ Q y) : ∀ y ∈ l, P y := fun y hy => (h y hy).1
theorem snd {P Q : Nd → Prop} {l : List Nd} (h : ∀ y ∈ l, P y ∧ Q y) : ∀ y ∈ l, Q y := fun y hy => (h y hy).2
theorem semi_is {x y : Nd} {l r : List Tk} (h : semi x l = .got y r) : y = x := by
 unfold semi at h; obtain ⟨_, _, _, h⟩ := got_bind h; injection h with h _
 exact h.symm
theorem prs_is (n : Nat) : ∀ (X : NT) (l : List Tk) (x : Nd) (r : List Tk), (∀ t ∈ l, TkOk t) → PreI X → prs n X l = .got x r → IsNd x ∧ PostI X x.kd := by
 induction n with
 | zero => intro X l x r _ _ h; cases X <;> cases h
 | succ n ih =>
  intro X l x r ho hp h; have sub : ∀ {Y : NT} {l r : List Tk} {y : Nd}, (∀ t ∈ l, TkOk t) → prs n Y l = .got y r → ∀ t ∈ r, TkOk t := fun ho h => prs_sub n _ _ _ _ ho h
  cases X with
  | expr => simp only [prs] at h; exact ih (.bound 0) _ _ _ ho trivial h
  | bound k =>
   simp only [prs] at h; split at h
   ·exact ih .unary _ _ _ ho trivial h
   ·obtain ⟨y, l1, h1, h⟩ := got_bind h
    have hy := ih (.bound (k + 1)) _ _ _ ho trivial h1; exact ih (.loop k y) _ _ _ (sub ho h1) hy h
  | loop k y =>
   simp only [prs] at h; split at h
   ·rename_i hk
    obtain ⟨z, l1, h1, h⟩ := got_bind h; have hz := ih (.bound (k + 1)) _ _ _ (tks_tail ho) trivial h1; have hop := op_is hk.2; have hnew : IsNd (.mk 19 noText (opOf (textOf l)).1 [y, z]) ∧ KdE (Nd.mk 19 noText (opOf (textOf l)).1 [y, z]).kd := ⟨.mk (.op hop.1 hop.2 hp.2 hz.2) (none2 hp.1 hz.1), by show KdE 19; unfold KdE; omega⟩; split at h
    ·injection h with h _
     subst h; exact hnew
    ·exact ih (.loop k (.mk 19 noText (opOf (textOf l)).1 [y, z])) _ _ _ (sub (tks_tail ho) h1) hnew h
   ·injection h with h _
    subst h; exact hp
  | unary =>
   simp only [prs] at h; split at h
   ·obtain ⟨y, l1, h1, h⟩ := got_bind h
    have hy := ih .unary _ _ _ (tks_tail ho) trivial h1; injection h with h _
    subst h; exact ⟨.mk (.neg hy.2) (none1 hy.1), by show KdE 20; unfold KdE; omega⟩
   ·split at h
    ·obtain ⟨y, l1, h1, h⟩ := got_bind h
     have hy := ih .unary _ _ _ (tks_tail ho) trivial h1; injection h with h _
     subst h; exact ⟨.mk (.not_ hy.2) (none1 hy.1), by show KdE 21; unfold KdE; omega⟩
    ·split at h
     ·exact ih .asked _ _ _ ho trivial h
     ·split at h
      ·obtain ⟨h1, h2⟩ := num_is h ho
       exact ⟨h1, by show KdE x.kd; rw [h2]; unfold KdE; omega⟩
      ·obtain ⟨s, l1, h1, h⟩ := got_bind h
       have hs := whole_is h1 ho; have ho1 := sub_suf (whole_suf h1) ho; split at h
       ·obtain ⟨h2, h3⟩ := ih (.call s) _ _ _ ho1 hs h
        exact ⟨h2, by show KdE x.kd; rw [show x.kd = 18 from h3]; unfold KdE; omega⟩
       ·obtain ⟨h2, h3⟩ := ih (.place s) _ _ _ ho1 hs h
        exact ⟨h2, kp_ke h3⟩
  | asked =>
   simp only [prs] at h; obtain ⟨_, l1, h1, h⟩ := got_bind h; obtain ⟨y, l2, h2, h⟩ := got_bind h; obtain ⟨_, l3, h3, h⟩ := got_bind h; injection h with h _
   subst h; exact ih .expr _ _ _ (need_sub h1 ho) trivial h2
  | place s =>
   simp only [prs] at h; split at h
   ·obtain ⟨y, l1, h1, h⟩ := got_bind h
    have hy := ih .expr _ _ _ (tks_tail ho) trivial h1; obtain ⟨_, l2, h2, h⟩ := got_bind h; injection h with h _
    subst h; exact ⟨.mk (.item hp hy.2) (none1 hy.1), .inr rfl⟩
   ·injection h with h _
    subst h; exact ⟨.mk (.name hp) (fun y hy => by cases hy), .inl rfl⟩
  | call s =>
   simp only [prs] at h; obtain ⟨_, l1, h1, h⟩ := got_bind h; exact ih (.args s []) _ _ _ (need_sub h1 ho) ⟨hp, fun y hy => by cases hy⟩ h
  | args s acc =>
   obtain ⟨hs, ha⟩ := hp; simp only [prs] at h; split at h
   ·obtain ⟨_, l1, h1, h⟩ := got_bind h
    injection h with h _
    subst h; exact ⟨.mk (.call hs (snd ha)) (fst ha), rfl⟩
   ·obtain ⟨y, l1, h1, h⟩ := got_bind h
    have hy := ih .expr _ _ _ ho trivial h1; have ho1 := sub ho h1; split at h
    ·exact ih (.args s (acc ++ [y])) _ _ _ (tks_tail ho1) ⟨hs, snoc ha hy⟩ h
    ·obtain ⟨_, l2, h2, h⟩ := got_bind h
     injection h with h _
     subst h; exact ⟨.mk (.call hs (snoc (snd ha) hy.2)) (snoc (fst ha) hy.1), rfl⟩
  | block =>
   simp only [prs] at h; obtain ⟨_, l1, h1, h⟩ := got_bind h; exact ih (.stats []) _ _ _ (need_sub h1 ho) (fun y hy => by cases hy) h
  | stats acc =>
   simp only [prs] at h; split at h
   ·injection h with h _
    subst h; exact ⟨.mk (.block (snd hp)) (fst hp), rfl⟩
   ·obtain ⟨y, l1, h1, h⟩ := got_bind h
    have hy := ih .stat _ _ _ ho trivial h1; exact ih (.stats (acc ++ [y])) _ _ _ (sub ho h1) (snoc hp hy) h
  | stat =>
   simp only [prs] at h; split at h
   ·obtain ⟨b, l1, h1, h⟩ := got_bind h
    obtain ⟨s, l2, h2, h⟩ := got_bind h; obtain ⟨_, l3, h3, h⟩ := got_bind h; obtain ⟨y, l4, h4, h⟩ := got_bind h; have hb := lab_ok h1; have ho1 := lab_sub h1 ho; have ho2 := name_sub h2 ho1; have ho3 := need_sub h3 ho2; have hy := ih .expr _ _ _ ho3 trivial h4; rw [semi_is h]; exact ⟨.mk (.loc (name_is h2 ho1) hb.1 hb.2 hy.2) (none1 hy.1), by show KdS 7; unfold KdS; omega⟩
   ·split at h
    ·obtain ⟨s, l1, h1, h⟩ := got_bind h
     obtain ⟨y, l2, h2, h⟩ := got_bind h; have hy := ih (.call s) _ _ _ (sub_suf (whole_suf h1) (tks_tail ho)) (whole_is h1 (tks_tail ho)) h2; rw [semi_is h]; exact ⟨.mk (.do_ hy.2) (none1 hy.1), by show KdS 9; unfold KdS; omega⟩
    ·split at h
     ·obtain ⟨y, l1, h1, h⟩ := got_bind h
      have hy := ih .asked _ _ _ (tks_tail ho) trivial h1; have ho1 := sub (tks_tail ho) h1; obtain ⟨b, l2, h2, h⟩ := got_bind h; have hb := ih .block _ _ _ ho1 trivial h2; have ho2 := sub ho1 h2; split at h
      ·obtain ⟨c, l3, h3, h⟩ := got_bind h
       have hc := ih .block _ _ _ (tks_tail ho2) trivial h3; injection h with h _
       subst h; exact ⟨.mk (.if3 hy.2 hb.2 hc.2) (none3 hy.1 hb.1 hc.1), by show KdS 10; unfold KdS; omega⟩
      ·injection h with h _
       subst h; exact ⟨.mk (.if2 hy.2 hb.2) (none2 hy.1 hb.1), by show KdS 10; unfold KdS; omega⟩
     ·split at h
      ·obtain ⟨y, l1, h1, h⟩ := got_bind h
       have hy := ih .asked _ _ _ (tks_tail ho) trivial h1; have ho1 := sub (tks_tail ho) h1; obtain ⟨b, l2, h2, h⟩ := got_bind h; have hb := ih .block _ _ _ ho1 trivial h2; injection h with h _
       subst h; exact ⟨.mk (.while_ hy.2 hb.2) (none2 hy.1 hb.1), by show KdS 11; unfold KdS; omega⟩
      ·split at h
       ·obtain ⟨b, l1, h1, h⟩ := got_bind h
        obtain ⟨y, l2, h2, h⟩ := got_bind h; have hb := lab_ok h1; have hy := ih .expr _ _ _ (lab_sub h1 (tks_tail ho)) trivial h2; rw [semi_is h]; exact ⟨.mk (.out hb.1 hb.2 hy.2) (none1 hy.1), by show KdS 12; unfold KdS; omega⟩
       ·split at h
        ·obtain ⟨b, l1, h1, h⟩ := got_bind h
         obtain ⟨s, l2, h2, h⟩ := got_bind h; obtain ⟨y, l3, h3, h⟩ := got_bind h; have hb := lab_ok h1; have ho1 := lab_sub h1 (tks_tail ho); have hy := ih (.place s) _ _ _ (sub_suf (whole_suf h2) ho1) (whole_is h2 ho1) h3; rw [semi_is h]; exact ⟨.mk (.inp hb.1 hb.2 hy.2) (none1 hy.1), by show KdS 13; unfold KdS; omega⟩
        ·split at h
         ·obtain ⟨y, l1, h1, h⟩ := got_bind h
          have hy := ih .expr _ _ _ (tks_tail ho) trivial h1; rw [semi_is h]; exact ⟨.mk (.ret hy.2) (none1 hy.1), by show KdS 14; unfold KdS; omega⟩
         ·obtain ⟨s, l1, h1, h⟩ := got_bind h
          obtain ⟨p, l2, h2, h⟩ := got_bind h; obtain ⟨_, l3, h3, h⟩ := got_bind h; obtain ⟨y, l4, h4, h⟩ := got_bind h; have ho1 := sub_suf (whole_suf h1) ho; have hq := ih (.place s) _ _ _ ho1 (whole_is h1 ho) h2; have hy := ih .expr _ _ _ (need_sub h3 (sub ho1 h2)) trivial h4; rw [semi_is h]; exact ⟨.mk (.set hq.2 hy.2) (none2 hq.1 hy.1), by show KdS 8; unfold KdS; omega⟩
  | decl =>
   simp only [prs] at h; have hpub : ∀ {b : Bool}, (if b = true then (2 : Int) else 0) = 0 ∨ (if b = true then (2 : Int) else 0) = 2 := by intro b; cases b <;> simp
   have ho0 : ∀ t ∈ (if isB l [sPub] = true then l.tail else l), TkOk t := by split; exact tks_tail ho; exact ho
   generalize (if isB l [sPub] = true then l.tail else l) = l0 at h ho0; have hpb := @hpub (isB l [sPub]); generalize (if isB l [sPub] = true then (2 : Int) else 0) = pb at h hpb; split at h
   ·obtain ⟨h1, h2⟩ := ih (.proc pb) _ _ _ (tks_tail ho0) hpb h
    exact ⟨h1, .inr h2⟩
   ·obtain ⟨b, l1, h1, h⟩ := got_bind h
    obtain ⟨s, l2, h2, h⟩ := got_bind h; have hb := lab_ok h1; have ho1 := lab_sub h1 ho0; have hs := name_is h2 ho1; have ho2 := name_sub h2 ho1; split at h
    ·obtain ⟨y, l3, h3, h⟩ := got_bind h
     obtain ⟨_, l4, h4, h⟩ := got_bind h; have hy := num_is h3 (tks_tail ho2); rw [semi_is h]; exact ⟨.mk (.array hs (by omega) (by omega) hy.2) (none1 hy.1), .inl rfl⟩
    ·rw [semi_is h]
     exact ⟨.mk (.var hs (by omega) (by omega)) (fun y hy => by cases hy), .inl rfl⟩
  | proc pub =>
   simp only [prs] at h; obtain ⟨s, l1, h1, h⟩ := got_bind h; obtain ⟨_, l2, h2, h⟩ := got_bind h; exact ih (.params s pub []) _ _ _ (need_sub h2 (name_sub h1 ho)) ⟨name_is h1 ho, hp, fun y hy => by cases hy⟩ h
  | params s pub acc =>
   obtain ⟨hs, hpb, ha⟩ := hp
   have hdone : ∀ (acc : List Nd) (l : List Tk), (∀ y ∈ acc, IsNd y ∧ y.kd = 5) → (∀ t ∈ l, TkOk t) → ((pNeed sClose l).bind fun _ l => (pLabel l).bind fun b l =>
     if isB l [sGives] = true then (pLabel l.tail).bind fun g l => (prs n .block l).bind fun x l => .got (.mk 4 s (pub + b + (4 + 4 * g)) (acc ++ [x])) l
     else (prs n .block l).bind fun x l => .got (.mk 4 s (pub + b) (acc ++ [x])) l) = Out.got x r → IsNd x ∧ x.kd = 4 := by
    intro acc l hacc ho h; obtain ⟨_, l1, h1, h⟩ := got_bind h; have ho1 := need_sub h1 ho; obtain ⟨b, l2, hb, h⟩ := got_bind h; have ho2 := lab_sub hb ho1; have hb := lab_ok hb; split at h
    ·obtain ⟨g, l3, hg, h⟩ := got_bind h
     have ho3 := lab_sub hg (tks_tail ho2); have hg := lab_ok hg; obtain ⟨y, l4, h4, h⟩ := got_bind h; have hy := ih .block _ _ _ ho3 trivial h4; injection h with h1 _
     subst h1; exact ⟨.mk (.proc hs (by omega) (by omega) (snd hacc) hy.2) (snoc (fst hacc) hy.1), rfl⟩
    ·obtain ⟨y, l4, h4, h⟩ := got_bind h
     have hy := ih .block _ _ _ ho2 trivial h4; injection h with h1 _
     subst h1; exact ⟨.mk (.proc hs (by omega) (by omega) (snd hacc) hy.2) (snoc (fst hacc) hy.1), rfl⟩
   simp only [prs] at h; split at h
   ·exact hdone _ _ ha ho h
   ·obtain ⟨b, l1, h1, h⟩ := got_bind h
    obtain ⟨p, l2, h2, h⟩ := got_bind h; have ho1 := lab_sub h1 ho; have hpn := name_is h2 ho1; have ho2 := name_sub h2 ho1; have hb := lab_ok h1; have hacc2 : ∀ q ∈ acc ++ [Nd.mk 5 p b []], IsNd q ∧ q.kd = 5 := snoc ha ⟨.mk (.param hpn hb.1 hb.2) (fun y hy => by cases hy), rfl⟩; split at h
    ·exact ih (.params s pub (acc ++ [.mk 5 p b []])) _ _ _ (tks_tail ho2) ⟨hs, hpb, hacc2⟩ h
    ·exact hdone _ _ hacc2 ho2 h
  | module =>
   simp only [prs] at h; obtain ⟨_, l1, h1, h⟩ := got_bind h; obtain ⟨s, l2, h2, h⟩ := got_bind h; obtain ⟨_, l3, h3, h⟩ := got_bind h; have ho1 := need_sub h1 ho; have ho2 := name_sub h2 ho1; exact ih (.imports s []) _ _ _ (need_sub h3 ho2) ⟨name_is h2 ho1, fun y hy => by cases hy⟩ h
  | imports s acc =>
   obtain ⟨hs, ha⟩ := hp; simp only [prs] at h; split at h
   ·obtain ⟨p, l1, h1, h⟩ := got_bind h
    obtain ⟨_, l2, h2, h⟩ := got_bind h; have ho1 := name_sub h1 (tks_tail ho); exact ih (.imports s (acc ++ [.mk 2 p 0 []])) _ _ _ (need_sub h2 ho1) ⟨hs, snoc ha ⟨.mk (.imp (name_is h1 (tks_tail ho))) (fun y hy => by cases hy), rfl⟩⟩ h
   ·exact ih (.decls s acc) _ _ _ ho ⟨hs, acc, [], by simp, ha, fun y hy => by cases hy⟩ h
  | decls s acc =>
   obtain ⟨hs, a, b, rfl, ha, hb⟩ := hp; simp only [prs] at h; split at h
   ·injection h with h _
    subst h; refine ⟨.mk (.module hs (snd ha) (snd hb)) (fun y hy => ?_), rfl⟩
    rcases List.mem_append.1 hy with hy | hy
    ·exact (ha y hy).1
    ·exact (hb y hy).1
   ·obtain ⟨y, l1, h1, h⟩ := got_bind h
    have hy := ih .decl _ _ _ ho trivial h1; exact ih (.decls s (a ++ b ++ [y])) _ _ _ (sub ho h1) ⟨hs, a, b ++ [y], by rw [List.append_assoc], ha, snoc hb hy⟩ h
end ndis
theorem parse_is (s : ByteArray) (h : (parseR s).2.1 = 0) : IsNd (parseR s).1 ∧ (parseR s).1.kd = 1 ∧ dpF (parseR s).1 ≤ 16 ∧ szF (parseR s).1 ≤ 500 := by
 unfold parseR at h ⊢; obtain ⟨T, hT⟩ : ∃ T, scanF s.data.toList = T := ⟨_, rfl⟩; rw [hT] at h ⊢; obtain ⟨ts, c, a⟩ := T; simp only at h ⊢; by_cases hc : c = 0
 ·subst hc
  obtain ⟨-, hok, -⟩ := synk.scan_tks s ts a hT; rw [if_pos rfl] at h ⊢; cases hp : prs (20 * ts.length + 5) .module (tksOf s ts) with
  | out => exact absurd hp (synm.prs_in _ _ _ (by simp [tksOf, NT.rank]))
  | bad l => rw [hp] at h; exact absurd (show (2 : Int) = 0 from h) (by decide)
  | got x r =>
   rw [hp] at h; simp only at h ⊢; by_cases hw : (weighF 16 x 0).1 = true
   ·rw [if_pos hw] at h ⊢
    have h1 := ndis.prs_is _ .module _ _ _ hok trivial hp; have h2 := (weigh_law 16 x 0 (by omega)).1.1 hw; exact ⟨h1.1, h1.2, h2.1, by show szF x ≤ 500; omega⟩
   ·rw [if_neg hw] at h
    exact absurd (show (1 : Int) = 0 from h) (by decide)
 ·rw [if_neg hc] at h
  exact absurd h hc
end Go.Proofs.YtpcihajmcejliabGreatDoor
namespace Go.Proofs.YtpcihajmcejliabGreatDoor
open Go.RowKit
namespace ofmay
theorem distinct_iff (l : List (List UInt8)) : distinctB l = true ↔ l.Nodup := by
 induction l with
 | nil => simp [distinctB]
 | cons x r ih => simp [distinctB, ih]
theorem look_good (m : ByteArray) : ∀ (l : List Nd) (I L : List (List UInt8)) (p : Nat), (lookF m l I L p).1 = 0 → L.Nodup → L.length ≤ 20 →
  (L ++ (l.filter fun x => !isImp x).map Nd.key).Nodup ∧ (L ++ (l.filter fun x => !isImp x).map Nd.key).length ≤ 20 ∧ (∀ x ∈ l, isImp x = false → ∃ p, (declF x p).1 = 0) := by
 intro l; induction l with
 | nil => intro I L p _ h h2; exact ⟨by simpa using h, by simpa using h2, fun x hx => by cases hx⟩
 | cons x r ih =>
  intro I L p h hn hl; rw [lookF] at h; by_cases hk : x.kd = 2
  ·rw [if_pos hk] at h
   have hi : isImp x = true := by simpa [isImp] using hk
   split at h
   ·exact absurd h (show ¬ (5 : Int) = 0 by decide)
   ·split at h
    ·exact absurd h (show ¬ (5 : Int) = 0 by decide)
    ·split at h
     ·exact absurd h (show ¬ (1 : Int) = 0 by decide)
     ·have h1 := ih _ _ _ h hn hl
      rw [List.filter_cons, if_neg (by simp [hi])]; refine ⟨h1.1, h1.2.1, fun y hy hz => ?_⟩
      rcases List.mem_cons.1 hy with rfl | hy
      ·rw [hi] at hz; cases hz
      ·exact h1.2.2 y hy hz
  ·rw [if_neg hk] at h
   have hi : isImp x = false := by simpa [isImp] using hk
   by_cases hc : L.contains x.key = true
   ·rw [if_pos hc] at h; exact absurd h (show ¬ (5 : Int) = 0 by decide)
   ·rw [if_neg hc] at h
    by_cases h20 : 20 ≤ L.length
    ·rw [if_pos h20] at h; exact absurd h (show ¬ (1 : Int) = 0 by decide)
    ·rw [if_neg h20] at h
     by_cases hd : (declF x p).1 = 0
     ·rw [if_pos hd] at h
      have hnot : x.key ∉ L := by simpa using hc
      have h1 := ih _ _ _ h (by rw [List.nodup_append]; exact ⟨hn, by simp, fun a ha b hb => by rw [List.mem_singleton] at hb; subst hb; rintro rfl; exact hnot ha⟩) (by rw [List.length_append, List.length_singleton]; omega); rw [List.filter_cons, if_pos (by simp [hi]), List.map_cons]; rw [List.append_assoc, List.singleton_append] at h1; refine ⟨h1.1, h1.2.1, fun y hy hz => ?_⟩
      rcases List.mem_cons.1 hy with rfl | hy
      ·exact ⟨p, hd⟩
      ·exact h1.2.2 y hy hz
     ·rw [if_neg hd] at h; exact absurd h hd
theorem var_may {x : Nd} {p : Nat} (h : IsNd x) (hk : x.kd = 3) (hd : (declF x p).1 = 0) (hp : (varOf x).pub = true) : varT (varOf x) = true ∧ nameB (varOf x).key = true := by
 obtain ⟨k, t, m, l⟩ := x; subst hk; cases h.form with
 | var ht h0 h1 =>
  refine ⟨?_, ht⟩
  have hl : labB (m % 2) = true := by
   have : m % 2 = 0 ∨ m % 2 = 1 := by omega
   rcases this with e | e <;> rw [e] <;> rfl
  show ((varOf _).pub && labB (m % 2) && decide ((0 : Int) ≤ 0) && decide ((0 : Int) ≤ 64)) = true
  rw [hp, hl]; rfl
 | array ht h0 h1 hy =>
  rename_i y
  refine ⟨?_, ht⟩
  have hl : labB (m % 2) = true := by
   have : m % 2 = 0 ∨ m % 2 = 1 := by omega
   rcases this with e | e <;> rw [e] <;> rfl
  have hs : 1 ≤ y.nm ∧ y.nm ≤ 64 := by
   have : (if 1 ≤ y.nm ∧ y.nm ≤ 64 then ((0 : Int), 0) else (6, p)).1 = 0 := hd; split at this
   ·assumption
   ·exact absurd this (show ¬ (6 : Int) = 0 by decide)
  show ((varOf _).pub && labB (m % 2) && decide (0 ≤ y.nm) && decide (y.nm ≤ 64)) = true
  rw [hp, hl, decide_eq_true (show 0 ≤ y.nm by omega), decide_eq_true hs.2]; rfl
theorem proc_may {x : Nd} {p : Nat} (h : IsNd x) (hk : x.kd = 4) (hd : (declF x p).1 = 0) (hp : (procOf x).pub = true) : procT (procOf x) = true ∧ nameB (procOf x).key = true := by
 obtain ⟨k, t, m, l⟩ := x; subst hk; have hkids := h.kids; cases h.form with
 | proc ht h0 h1 hps hb =>
  rename_i ps b
  refine ⟨?_, ht⟩
  have hlab : ∀ z : Int, z = 0 ∨ z = 1 → labB z = true := fun z e => by rcases e with e | e <;> rw [e] <;> rfl
  have e1 : (procOf (.mk 4 t m (ps ++ [b]))).params = ps.map Nd.nm := by show (ps ++ [b]).dropLast.map Nd.nm = _; rw [List.dropLast_concat]
  have h5 : ps.length ≤ 5 := by
   have hd2 : (if 5 < (ps ++ [b]).dropLast.length then ((1 : Int), p) else parF p 0 [] (ps ++ [b]).dropLast).1 = 0 := hd; rw [List.dropLast_concat] at hd2; split at hd2
   ·exact absurd hd2 (show ¬ (1 : Int) = 0 by decide)
   ·omega
  have hpl : (ps.map Nd.nm).all labB = true := by
   rw [List.all_eq_true]; intro z hz; obtain ⟨y, hy, rfl⟩ := List.mem_map.1 hz; obtain ⟨k2, t2, m2, l2⟩ := y; have hk2 : k2 = 5 := hps _ hy; subst hk2; cases (hkids _ (List.mem_append_left _ hy)).form with
   | param _ q0 q1 => exact hlab _ (by show m2 = 0 ∨ m2 = 1; omega)
  unfold procT; rw [hp, e1, hpl, List.length_map, decide_eq_true h5]; rw [show (procOf (.mk 4 t m (ps ++ [b]))).writes = m % 2 from rfl, show (procOf (.mk 4 t m (ps ++ [b]))).given = m / 8 from rfl, show (procOf (.mk 4 t m (ps ++ [b]))).gives = decide (4 ≤ m) from rfl]; rw [hlab (m % 2) (by omega), hlab (m / 8) (by omega)]; by_cases h4 : 4 ≤ m
  ·rw [decide_eq_true h4]; rfl
  ·rw [decide_eq_false h4, show m / 8 = 0 by omega]; rfl
theorem parts_nodup {l : List Nd} (h : ((l.filter fun x => !isImp x).map Nd.key).Nodup) (p q : Nd → Bool) (hp : ∀ x, p x = true → isImp x = false ∧ q x = false) (hq : ∀ x, q x = true → isImp x = false) :
  ((l.filter p).map Nd.key ++ (l.filter q).map Nd.key).Nodup := by
 induction l with
 | nil => simp
 | cons x r ih =>
  rw [List.filter_cons] at h
  have hr : ((r.filter fun x => !isImp x).map Nd.key).Nodup := by
   split at h
   ·rw [List.map_cons, List.nodup_cons] at h; exact h.2
   ·exact h
  have h2 := ih hr
  have hx : isImp x = false → x.key ∉ (r.filter fun x => !isImp x).map Nd.key := fun e => by
   rw [if_pos (by simp [e]), List.map_cons, List.nodup_cons] at h; exact h.1
  have sub : ∀ (s : Nd → Bool), (∀ y, s y = true → isImp y = false) → ∀ k, k ∈ (r.filter s).map Nd.key → k ∈ (r.filter fun x => !isImp x).map Nd.key := fun s hs k hk => by
   obtain ⟨y, hy, rfl⟩ := List.mem_map.1 hk; obtain ⟨hy1, hy2⟩ := List.mem_filter.1 hy; exact List.mem_map_of_mem (List.mem_filter.2 ⟨hy1, by simp [hs y hy2]⟩)
  cases hpx : p x with
  | true =>
   obtain ⟨hi, hqx⟩ := hp x hpx; rw [List.filter_cons, if_pos hpx, List.filter_cons, if_neg (by simp [hqx]), List.map_cons, List.cons_append, List.nodup_cons]; refine ⟨fun hm => ?_, h2⟩
   rcases List.mem_append.1 hm with hm | hm
   ·exact hx hi (sub p (fun y e => (hp y e).1) _ hm)
   ·exact hx hi (sub q hq _ hm)
  | false =>
   rw [List.filter_cons, if_neg (by simp [hpx])]; cases hqx : q x with
   | false => rw [List.filter_cons, if_neg (by simp [hqx])]; exact h2
   | true =>
    have hi := hq x hqx; rw [List.filter_cons, if_pos hqx, List.map_cons]; have hperm : ((r.filter p).map Nd.key ++ x.key :: (r.filter q).map Nd.key).Perm (x.key :: ((r.filter p).map Nd.key ++ (r.filter q).map Nd.key)) := List.perm_middle; rw [hperm.nodup_iff, List.nodup_cons]; refine ⟨fun hm => ?_, h2⟩
    rcases List.mem_append.1 hm with hm | hm
    ·exact hx hi (sub p (fun y e => (hp y e).1) _ hm)
    ·exact hx hi (sub q hq _ hm)
theorem parts_len (l : List Nd) (p q : Nd → Bool) (hp : ∀ x, p x = true → isImp x = false ∧ q x = false) (hq : ∀ x, q x = true → isImp x = false) :
  (l.filter p).length + (l.filter q).length ≤ (l.filter fun x => !isImp x).length := by
 induction l with
 | nil => simp
 | cons x r ih =>
  rw [List.filter_cons, List.filter_cons, List.filter_cons]; cases hpx : p x with
  | true =>
   obtain ⟨hi, hqx⟩ := hp x hpx; rw [hqx, hi]; simp; omega
  | false =>
   cases hqx : q x with
   | true =>
    rw [hq x hqx]; simp; omega
   | false =>
    cases hi : isImp x with
    | false => simp; omega
    | true => simpa using ih
theorem filter_map_comm {α β : Type} (f : α → β) (p : β → Bool) (l : List α) : (l.map f).filter p = (l.filter fun x => p (f x)).map f := by
 induction l with
 | nil => rfl
 | cons x r ih =>
  rw [List.map_cons, List.filter_cons, List.filter_cons]; split <;> simp [ih]
theorem vars_eq (l : List Nd) (all : Bool) : openV all l = (l.filter fun x => isVar x && (all || (varOf x).pub)).map varOf := by
 unfold openV varsF; rw [filter_map_comm, List.filter_filter]; congr 2
 funext x
 exact Bool.and_comm _ _
theorem procs_eq (l : List Nd) (all : Bool) : openP all l = (l.filter fun x => isProc x && (all || (procOf x).pub)).map procOf := by
 unfold openP procsF; rw [filter_map_comm, List.filter_filter]; congr 2
 funext x
 exact Bool.and_comm _ _
theorem face_may (s : ByteArray) (h : (ofR s).2.2.1 = 0) : mayFaceB (ofR s).1 = true := by
 unfold ofR at h ⊢; by_cases h1 : (parseR s).2.1 = 0
 ·rw [if_pos h1] at h ⊢
  by_cases h2 : (lookF (parseR s).1.tx (parseR s).1.kids [] [] 1).1 = 0
  ·rw [if_pos h2]
   obtain ⟨his, hkd, -⟩ := parse_is s h1; generalize (parseR s).1 = x at h2 his hkd ⊢; obtain ⟨hnd, hlen, hdl⟩ := look_good x.tx x.kids [] [] 1 h2 (by simp) (by simp); rw [List.nil_append] at hnd hlen; obtain ⟨k, t, m, l⟩ := x; subst hkd; have hkids := his.kids
   have hname : nameB t.data.toList = true := by
    generalize h3 : (l : List Nd) = l3 at *; cases his.form with
    | module ht _ _ => exact ht
   show mayFaceB ⟨t, openV false l, openP false l⟩ = true
   have hV : ∀ v ∈ openV false l, varT v = true ∧ nameB v.key = true := fun v hv => by
    rw [vars_eq] at hv; obtain ⟨y, hy, rfl⟩ := List.mem_map.1 hv; obtain ⟨hy1, hy2⟩ := List.mem_filter.1 hy; simp only [Bool.and_eq_true, Bool.false_or, isVar, decide_eq_true_eq] at hy2; obtain ⟨p, hp⟩ := hdl y hy1 (by simp [isImp, hy2.1]); exact var_may (hkids y hy1) hy2.1 hp hy2.2
   have hP : ∀ v ∈ openP false l, procT v = true ∧ nameB v.key = true := fun v hv => by
    rw [procs_eq] at hv; obtain ⟨y, hy, rfl⟩ := List.mem_map.1 hv; obtain ⟨hy1, hy2⟩ := List.mem_filter.1 hy; simp only [Bool.and_eq_true, Bool.false_or, isProc, decide_eq_true_eq] at hy2; obtain ⟨p, hp⟩ := hdl y hy1 (by simp [isImp, hy2.1]); exact proc_may (hkids y hy1) hy2.1 hp hy2.2
   have hK : FFace.keys ⟨t, openV false l, openP false l⟩ = (l.filter fun x => isVar x && (false || (varOf x).pub)).map Nd.key ++ (l.filter fun x => isProc x && (false || (procOf x).pub)).map Nd.key := by
    unfold FFace.keys; simp only
    rw [vars_eq, procs_eq, List.map_map, List.map_map]; rfl
   have hpq1 : ∀ x, (fun x => isVar x && (false || (varOf x).pub)) x = true → isImp x = false ∧ (fun x => isProc x && (false || (procOf x).pub)) x = false := fun x hx => by
    simp only [Bool.and_eq_true, isVar, decide_eq_true_eq] at hx; simp [isImp, isProc, hx.1]
   have hpq2 : ∀ x, (fun x => isProc x && (false || (procOf x).pub)) x = true → isImp x = false := fun x hx => by
    simp only [Bool.and_eq_true, isProc, decide_eq_true_eq] at hx; simp [isImp, hx.1]
   have hN := parts_nodup hnd (fun x => isVar x && (false || (varOf x).pub)) (fun x => isProc x && (false || (procOf x).pub)) hpq1 hpq2
   have hL : (openV false l).length + (openP false l).length ≤ 20 := by
    have e : (openV false l).length + (openP false l).length = (FFace.keys ⟨t, openV false l, openP false l⟩).length := by simp [FFace.keys]
    rw [e, hK]; rw [List.length_map] at hlen; rw [List.length_append, List.length_map, List.length_map]; exact Nat.le_trans (parts_len l _ _ hpq1 hpq2) hlen
   unfold mayFaceB; have a1 : (openV false l).all varT = true := by rw [List.all_eq_true]; exact fun v hv => (hV v hv).1
   have a2 : (openP false l).all procT = true := by rw [List.all_eq_true]; exact fun v hv => (hP v hv).1
   have a3 : (FFace.keys ⟨t, openV false l, openP false l⟩).all nameB = true := by
    rw [List.all_eq_true]; intro k hk; unfold FFace.keys at hk; rcases List.mem_append.1 hk with hk | hk
    ·obtain ⟨v, hv, rfl⟩ := List.mem_map.1 hk
     exact (hV v hv).2
    ·obtain ⟨v, hv, rfl⟩ := List.mem_map.1 hk
     exact (hP v hv).2
   have a4 : distinctB (FFace.keys ⟨t, openV false l, openP false l⟩) = true := by rw [distinct_iff, hK]; exact hN
   simp only at a1 a2 ⊢; rw [hname, a1, a2, a3, a4, decide_eq_true hL]; rfl
  ·rw [if_neg h2] at h; exact absurd h h2
 ·rw [if_neg h1] at h; exact absurd h h1
end ofmay
end Go.Proofs.YtpcihajmcejliabGreatDoor
namespace Go.Proofs.YtpcihajmcejliabGreatDoor
open Go.RowKit
namespace face
theorem label_any (n : Int) (w : World) : Calls Tryz.prog 103 #[.int .i64 n] w fun e w' => e = .returned (.bool (labB n)) ∧ w' = w := by
 go_enter Tryz.func103, Tryz.ntmps103
 go_wp2
 all_goals go_ret
 all_goals go_light
 all_goals refine ⟨ret_bool ?_, rfl⟩
 all_goals simp_all [labB]
end face
end Go.Proofs.YtpcihajmcejliabGreatDoor
