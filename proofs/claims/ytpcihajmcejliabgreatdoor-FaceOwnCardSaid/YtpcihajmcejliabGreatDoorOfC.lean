/- Look's recover, and what a function with two results in cells tells. -/
import Derived.Defers
import Derived.Recover
import Derived.Test.YtpcihajmcejliabGreatDoorSynK
import Derived.Test.YtpcihajmcejliabGreatDoorOfE
namespace Go.Proofs.YtpcihajmcejliabGreatDoor
open Go.RowKit
theorem results_pc {P : Program} {fn : Func} {p q : Tmp} {ty ty2 : TypeId} (h : fn.results = #[.cell p ty, .cell q ty2]) (tmps : Array Value) (w : World) {g g2 : Nat} {T T2 : TypeId} {cs2 : Array Value} {d d2 : TypeDesc} {v : Value}
  (hp : tmps.getD p undef = .pointer (some ⟨g, 0, none⟩)) (hg : Blk w g #[v] T) (hu : P.underlying ty = some d) (hd : (match d with | .struct _ | .array _ _ => true | _ => false) = false)
  (hq : tmps.getD q undef = .pointer (some ⟨g2, 0, none⟩)) (hg2 : Blk w g2 cs2 T2) (hu2 : P.underlying ty2 = some d2) (hd2 : (match d2 with | .struct _ | .array _ _ => true | _ => false) = true) (hi2 : (P.info? ty2).map (·.size) = some cs2.size) :
  (results fn tmps).run P w = .ok (.tuple #[v, .agg cs2]) w := by
 have hp' : tmps[p]?.getD undef = .pointer (some ⟨g, 0, none⟩) := by simpa using hp
 have hq' : tmps[q]?.getD undef = .pointer (some ⟨g2, 0, none⟩) := by simpa using hq
 have hl : (loadVar ty ⟨g, 0, none⟩).run P w = .ok v w := by
  have hc := hg.cell 0; simp only [List.getElem?_toArray, List.getElem?_cons_zero] at hc
  have hagg : (isAgg ty).run P w = .ok false w := by
   unfold isAgg; rw [Sem.run_bind, run_underlying hu w]; cases d <;> simp_all
  simp [loadVar, Sem.run_bind, hagg, hc]
 simp [results, h, hp', hq', asAddr, hl, run_loadVar_row w g2 T2 ty2 cs2 (0, 0) d2 hg2 hu2 hd2 hi2]
namespace ofc
open synw ofp ofmap
theorem first_is (v : Value) (w : World) : (Instr.typeAssert (.iface 266 v) 20 266 true).run Tryz.prog w = .ok (.tuple #[v, .bool true]) w := by kernel_rfl
def CatchQ (R F : Nat) (c p : Int) (w : World) (e : Exit) (a : Act) (w' : World) : Prop := e = .normal ∧ a.defers = [] ∧ Blk w' R #[.pointer none] 171 ∧ Blk w' F #[.int .i64 c, .int .i64 p] 68 ∧ Chg (fun i => i = R ∨ i = F) w w'
def CatchF (R F B : Nat) (c p : Int) (w0 : World) (cs fs : Array Value) : List Value → World → Prop
 | [], u => Blk u R cs 171 ∧ Blk u F fs 68 ∧ Chg (fun i => i = R ∨ i = F) w0 u ∧ Blk u B #[.int .i64 c, .int .i64 p] 266
 | [_], u => Blk u R #[.pointer none] 171 ∧ Blk u F fs 68 ∧ Chg (fun i => i = R ∨ i = F) w0 u ∧ Blk u B #[.int .i64 c, .int .i64 p] 266
 | _, u => Blk u R #[.pointer none] 171 ∧ Blk u F #[.int .i64 c, .int .i64 p] 68 ∧ Chg (fun i => i = R ∨ i = F) w0 u ∧ Blk u B #[.int .i64 c, .int .i64 p] 266
theorem CatchF.b {R F B : Nat} {c p : Int} {w0 u : World} {cs fs : Array Value} {vs : List Value} (h : CatchF R F B c p w0 cs fs vs u) : Blk u B #[.int .i64 c, .int .i64 p] 266 := by
 match vs, h with
 | [], h => exact h.2.2.2
 | [_], h => exact h.2.2.2
 | _ :: _ :: _, h => exact h.2.2.2
set_option maxRecDepth 100000 in
set_option maxHeartbeats 4000000 in
theorem catch_look (R F : Nat) (c0 f0 f1 : Value) (c p : Int) (w : World) (hR : Blk w R #[c0] 171) (hF : Blk w F #[f0, f1] 68) (hne : R ≠ F) :
  CallsD Tryz.prog 183 #[.pointer (some ⟨R, 0, none⟩), .pointer (some ⟨F, 0, none⟩)] (.panicking (firstV c p)) w fun e u' w' =>
   e = .returned (.tuple #[]) ∧ u' = .panicking [{ v := .iface 266 (.agg #[.int .i64 c, .int .i64 p]), recovered := true }] ∧ Blk w' R #[.pointer none] 171 ∧ Blk w' F #[.int .i64 c, .int .i64 p] 68 ∧ Chg (fun i => i = R ∨ i = F) w w' := by
 have hta := first_is; have hRlt := hR.lt; have hFlt := hF.lt; obtain ⟨B, hB⟩ : ∃ B, w.heap.size = B := ⟨_, rfl⟩; have hB0 := Blk.made w #[.int .i64 c, .int .i64 p] 266; rw [hB] at hB0 hRlt hFlt; have hR0 := hR.alloc (.cells #[.int .i64 c, .int .i64 p] 266); have hF0 := hF.alloc (.cells #[.int .i64 c, .int .i64 p] 266); have hX0 := (Chg.refl (fun i => i = R ∨ i = F) w).alloc (.cells #[.int .i64 c, .int .i64 p] 266); refine callsD_of_wpS Tryz.func183 rfl fun c₀ cs hu => ?_
 unfold firstV at hu; apply wpS_seq
 apply wpS_region
 simp [wpOpsS, go_sem, recoverD, hu, Tryz.ntmps183, Exit.thenS]
 simp only [Array.replicate, List.replicate, List.append_toArray, List.setIfInBounds_toArray, List.set_cons_zero, List.set_cons_succ, List.cons_append, List.nil_append]; refine wpS_of_wp (Code.wp_mono (Q := CatchQ R F c p w) ?_ ?_)
 ·rintro e a w1 ⟨rfl, hd, h1, h2, h3⟩
  exact ⟨hd, _, rfl, _, results_none rfl _ _ _, rfl, rfl, h1, h2, h3⟩
 clear hu; have HR0 := Z_ hR0; have HF0 := Z_ hF0; have HX0 := Z_ hX0; have HB0 := Z_ hB0; clear hR hF hR0 hF0 hX0 hB0; unfold CatchQ; go_upto_region 5 with (fail)
 try rw [hB]
 generalize w.alloc (.cells #[.int .i64 c, .int .i64 p] 266) = u0 at *; refine wp_region_weave [2, 3] (fun i v _ => v = ([.pointer (some ⟨B, 0, none⟩), .agg #[.int .i64 c, .int .i64 p], undef, undef] : List Value).getD i undef) (CatchF R F B c p w #[c0] #[f0, f1]) (fun _ _ => True) (frame := ?frac) (fun x => ?hfac) synw.mixed (by kernel_rfl) (by kernel_rfl) (fun _ _ _ _ h _ => h) ?h0c ?stc ?finc
 case hfac =>
  simp only [chain.frameOf, chain.fill, chain.setOpt, chain.dstOf, List.size_toArray, List.length_cons, List.length_nil, List.getElem?_toArray, List.getElem?_cons_succ, List.getElem?_cons_zero, List.setIfInBounds_toArray, List.set_cons_succ, List.set_cons_zero]; exact rfl
 case h0c => exact ⟨HR0.out.drew, HF0.out.drew, HX0.out.drew, HB0.out.drew⟩
 case stc =>
  refine AllFrom.cons (fun x vs u hF hm hb hd K' hK' => ?sc0) (AllFrom.cons (fun x vs u hF hm hb hd K' hK' => ?sc1) (AllFrom.cons (fun x vs u hF hm hb hd K' hK' => ?sc2) (AllFrom.cons (fun x vs u hF hm hb hd K' hK' => ?sc3) (AllFrom.nil))))
  case sc0 =>
   have HF := Z_ hF; clear hd hm hb hF; go_simp; exact hK'.out _ _ _ (rfl) trivial ⟨rfl, HF.out⟩
  case sc1 =>
   have hc := hF.b.cell; have y0 := hd 0 (by decide) (by kernel_rfl); replace y0 : x 16 = .pointer (some ⟨B, 0, none⟩) := y0; have HF := Z_ hF; clear hd hm hb hF; go_simp; exact hK'.out _ _ _ (by simp only [y0]; rfl) trivial ⟨rfl, HF.out⟩
  case sc2 =>
   obtain rfl := List.eq_nil_of_length_eq_zero (hm 0 (by kernel_rfl)); obtain ⟨g1, g2, g3, g4⟩ := (show _ ∧ _ from hF); have hc := g1.cell; have hf := g1.frozen; have hl := g1.lt; have HG := Z_ (And.intro g1 (And.intro g2 (And.intro g3 g4))); clear hd hm hb hF g1 g2 g3 g4; go_simp; obtain ⟨g1, g2, g3, g4⟩ := HG.out; exact hK'.out _ _ undef rfl trivial ⟨g1.set 0 _, g2.setOther (p := ⟨R, 0, none⟩) (by show F ≠ R; omega) _, g3.setCell (p := ⟨R, 0, none⟩) (fun _ => .inl rfl) _, g4.setOther (p := ⟨R, 0, none⟩) (by show B ≠ R; omega) _⟩
  case sc3 =>
   have y0 := hd 1 (by decide) (by kernel_rfl); replace y0 : x 17 = .agg #[.int .i64 c, .int .i64 p] := y0; obtain ⟨v0, rfl⟩ : ∃ v0, vs = [v0] := by match vs, hm 1 (by kernel_rfl) with | [v0], _ => exact ⟨_, rfl⟩
   obtain ⟨g1, g2, g3, g4⟩ := (show _ ∧ _ from hF); have hc := g2.cell; have hf := g2.frozen; have hl := g2.lt; have HG := Z_ (And.intro g1 (And.intro g2 (And.intro g3 g4))); clear hd hm hb hF g1 g2 g3 g4; go_simp; obtain ⟨g1, g2, g3, g4⟩ := HG.out; exact hK'.out _ _ undef (by simp only [y0]; rfl) trivial ⟨(g1.setOther (p := ⟨F, 0, none⟩) hne _).setOther (p := ⟨F, 1, none⟩) hne _, (g2.set 0 _).set 1 _, (g3.setCell (p := ⟨F, 0, none⟩) (fun _ => .inr rfl) _).setCell (p := ⟨F, 1, none⟩) (fun _ => .inr rfl) _, (g4.setOther (p := ⟨F, 0, none⟩) (by show B ≠ F; omega) _).setOther (p := ⟨F, 1, none⟩) (by show B ≠ F; omega) _⟩
 case finc =>
  intro x vs w9 hl hF hk; obtain ⟨v0, v1, rfl⟩ : ∃ v0 v1, vs = [v0, v1] := by match vs, hl with | [v0, v1], _ => exact ⟨_, _, rfl⟩
  obtain ⟨g1, g2, g3, g4⟩ := (show _ ∧ _ from hF); clear hk hl; have HG := Z_ (And.intro g1 (And.intro g2 g3)); clear hF g1 g2 g3 g4; go_wp2_with (fail)
  exact HG.out
theorem idle_look (R F : Nat) (w : World) :
  CallsD Tryz.prog 183 #[.pointer (some ⟨R, 0, none⟩), .pointer (some ⟨F, 0, none⟩)] .returning w fun e u' w' => e = .returned (.tuple #[]) ∧ u' = .returning ∧ w' = w := by
 refine callsD_of_wpS Tryz.func183 rfl fun c₀ cs hu => ?_
 apply wpS_seq
 apply wpS_region
 simp [wpOpsS, go_sem, recoverD, hu, Tryz.ntmps183, Exit.thenS]
 simp only [Array.replicate, List.replicate, List.append_toArray, List.setIfInBounds_toArray, List.set_cons_zero, List.set_cons_succ, List.cons_append, List.nil_append]; refine wpS_of_wp (Code.wp_mono (Q := fun e a' w' => e = .normal ∧ a'.defers = [] ∧ w' = w) ?_ ?_)
 ·rintro e a w1 ⟨rfl, hd, rfl⟩
  exact ⟨hd, .returning, by cases c₀; simp_all, _, results_none rfl _ _ _, rfl, rfl, rfl⟩
 clear hu; go_wp2_with (fail)
end ofc
end Go.Proofs.YtpcihajmcejliabGreatDoor
