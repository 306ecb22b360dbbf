/- The walk of syntax.Parse: its recover, its two results. -/
import Derived.Test.YtpcihajmcejliabGreatDoorSyn8
import Derived.Test.YtpcihajmcejliabGreatDoorSynWA
import Derived.Defers
import Derived.Recover
namespace Go.Proofs.YtpcihajmcejliabGreatDoor
open Go.RowKit
theorem results_cc2 {P : Program} {fn : Func} {p q : Tmp} {ty ty2 : TypeId} (h : fn.results = #[.cell p ty, .cell q ty2]) (tmps : Array Value) (w : World) {g g2 : Nat} {T T2 : TypeId} {cs cs2 : Array Value} {d d2 : TypeDesc}
    (hp : tmps.getD p undef = .pointer (some ⟨g, 0, none⟩)) (hg : Blk w g cs T) (hu : P.underlying ty = some d) (hd : (match d with | .struct _ | .array _ _ => true | _ => false) = true) (hi : (P.info? ty).map (·.size) = some cs.size)
    (hq : tmps.getD q undef = .pointer (some ⟨g2, 0, none⟩)) (hg2 : Blk w g2 cs2 T2) (hu2 : P.underlying ty2 = some d2) (hd2 : (match d2 with | .struct _ | .array _ _ => true | _ => false) = true) (hi2 : (P.info? ty2).map (·.size) = some cs2.size) :
    (results fn tmps).run P w = .ok (.tuple #[.agg cs, .agg cs2]) w := by
  have hp' : tmps[p]?.getD undef = .pointer (some ⟨g, 0, none⟩) := by simpa using hp
  have hq' : tmps[q]?.getD undef = .pointer (some ⟨g2, 0, none⟩) := by simpa using hq
  simp [results, h, hp', hq', asAddr, run_loadVar_row w g T ty cs (0, 0) d hg hu hd hi, run_loadVar_row w g2 T2 ty2 cs2 (0, 0) d2 hg2 hu2 hd2 hi2]
namespace synw
theorem bad_is (v : Value) (w : World) : (Instr.typeAssert (.iface 151 v) 20 151 true).run Tryz.prog w = .ok (.tuple #[v, .bool true]) w := by kernel_rfl
/-- what the recover leaves -/
def CatchQ (R F : Nat) (p : Int) (w : World) (e : Exit) (a : Act) (w' : World) : Prop := e = .normal ∧ a.defers = [] ∧ Blk w' R zeroNd 66 ∧ Blk w' F #[.int .i64 2, .int .i64 p] 68 ∧ Chg (fun i => i = R ∨ i = F) w w'
/-- while it stores -/
def CatchF (R F B : Nat) (p : Int) (w0 : World) (cs fs : Array Value) : List Value → World → Prop
  | [], u => Blk u R cs 66 ∧ Blk u F fs 68 ∧ Chg (fun i => i = R ∨ i = F) w0 u ∧ Blk u B #[.int .i64 p] 151
  | [_], u => Blk u R zeroNd 66 ∧ Blk u F fs 68 ∧ Chg (fun i => i = R ∨ i = F) w0 u ∧ Blk u B #[.int .i64 p] 151
  | _, u => Blk u R zeroNd 66 ∧ Blk u F #[.int .i64 2, .int .i64 p] 68 ∧ Chg (fun i => i = R ∨ i = F) w0 u ∧ Blk u B #[.int .i64 p] 151
theorem CatchF.b {R F B : Nat} {p : Int} {w0 u : World} {cs fs : Array Value} {vs : List Value} (h : CatchF R F B p w0 cs fs vs u) : Blk u B #[.int .i64 p] 151 := by
  match vs, h with
  | [], h => exact h.2.2.2
  | [_], h => exact h.2.2.2
  | _ :: _ :: _, h => exact h.2.2.2
set_option maxRecDepth 100000 in
set_option maxHeartbeats 4000000 in
theorem catch_parse (R F : Nat) (cs fs : Array Value) (p : Int) (w : World) (hR : Blk w R cs 66) (hcs : cs.size = 4) (hF : Blk w F fs 68) (hfs : fs.size = 2) (hne : R ≠ F) :
    CallsD Tryz.prog 84 #[.pointer (some ⟨R, 0, none⟩), .pointer (some ⟨F, 0, none⟩)] (.panicking (badV p)) w fun e u' w' =>
      e = .returned (.tuple #[]) ∧ u' = .panicking [{ v := .iface 151 (.agg #[.int .i64 p]), recovered := true }] ∧ Blk w' R zeroNd 66 ∧ Blk w' F #[.int .i64 2, .int .i64 p] 68 ∧ Chg (fun i => i = R ∨ i = F) w w' := by
  have hta := bad_is
  have hRlt := hR.lt
  have hFlt := hF.lt
  obtain ⟨c0, c1, c2, c3, rfl⟩ : ∃ c0 c1 c2 c3, cs = #[c0, c1, c2, c3] := by
    obtain ⟨l⟩ := cs
    match l, hcs with
    | [c0, c1, c2, c3], _ => exact ⟨_, _, _, _, rfl⟩
  obtain ⟨f0, f1, rfl⟩ : ∃ f0 f1, fs = #[f0, f1] := by
    obtain ⟨l⟩ := fs
    match l, hfs with
    | [f0, f1], _ => exact ⟨_, _, rfl⟩
  clear hcs hfs
  obtain ⟨B, hB⟩ : ∃ B, w.heap.size = B := ⟨_, rfl⟩
  have hB0 := Blk.made w #[.int .i64 p] 151
  rw [hB] at hB0 hRlt hFlt
  have hR0 := hR.alloc (.cells #[.int .i64 p] 151)
  have hF0 := hF.alloc (.cells #[.int .i64 p] 151)
  have hX0 := (Chg.refl (fun i => i = R ∨ i = F) w).alloc (.cells #[.int .i64 p] 151)
  refine callsD_of_wpS Tryz.func84 rfl fun c₀ cs hu => ?_
  unfold badV at hu
  apply wpS_seq
  apply wpS_region
  simp [wpOpsS, go_sem, recoverD, hu, Tryz.ntmps84, Exit.thenS]
  simp only [Array.replicate, List.replicate, List.append_toArray, List.setIfInBounds_toArray, List.set_cons_zero, List.set_cons_succ, List.cons_append, List.nil_append]
  refine wpS_of_wp (Code.wp_mono (Q := CatchQ R F p w) ?_ ?_)
  · rintro e a w1 ⟨rfl, hd, h1, h2, h3⟩
    exact ⟨hd, _, rfl, _, results_none rfl _ _ _, rfl, rfl, h1, h2, h3⟩
  clear hu
  have HR0 := Lib.hid hR0
  have HF0 := Lib.hid hF0
  have HX0 := Lib.hid hX0
  have HB0 := Lib.hid hB0
  clear hR hF hR0 hF0 hX0 hB0
  unfold CatchQ
  go_upto_region 7 with (fail)
  generalize w.alloc (.cells #[.int .i64 p] 151) = u0 at *
  refine wp_region_weave [4, 5] (fun i v _ => v = ([.agg #[.int .i64 0, .string ⟨#[]⟩, .int .i64 0, .slice none 0 0], .pointer (some ⟨B, 0, none⟩), .int .i64 p, .agg #[.int .i64 2, .int .i64 p], undef, undef] : List Value).getD i undef) (CatchF R F B p w #[c0, c1, c2, c3] #[f0, f1]) (fun _ _ => True) (frame := ?fra) (fun x => ?hfa) mixed (by kernel_rfl) (by kernel_rfl) (fun _ _ _ _ h _ => h) ?h0 ?st ?fin
  case hfa =>
    simp only [chain.frameOf, chain.fill, chain.setOpt, chain.dstOf, List.size_toArray, List.length_cons, List.length_nil, List.getElem?_toArray, List.getElem?_cons_succ, List.getElem?_cons_zero, List.setIfInBounds_toArray, List.set_cons_succ, List.set_cons_zero]
    exact rfl
  case h0 => exact ⟨HR0.out.drew, HF0.out.drew, HX0.out.drew, HB0.out.drew⟩
  case st =>
    refine AllFrom.cons (fun x vs u hF hm hb hd K' hK' => ?s0) (AllFrom.cons (fun x vs u hF hm hb hd K' hK' => ?s1) (AllFrom.cons (fun x vs u hF hm hb hd K' hK' => ?s2) (AllFrom.cons (fun x vs u hF hm hb hd K' hK' => ?s3) (AllFrom.cons (fun x vs u hF hm hb hd K' hK' => ?s4) (AllFrom.cons (fun x vs u hF hm hb hd K' hK' => ?s5) (AllFrom.nil))))))
    case s0 =>
      have HF := Lib.hid hF
      clear hd hm hb hF
      go_simp
      exact hK'.out _ _ _ rfl trivial ⟨rfl, HF.out⟩
    case s1 =>
      have HF := Lib.hid hF
      clear hd hm hb hF
      go_simp
      exact hK'.out _ _ _ rfl trivial ⟨rfl, HF.out⟩
    case s2 =>
      have y0 := hd 1 (by decide) (by kernel_rfl)
      replace y0 : x 12 = .pointer (some ⟨B, 0, none⟩) := y0
      have hc := hF.b.cell 0
      simp at hc
      have HF := Lib.hid hF
      clear hd hm hb hF
      go_simp
      exact hK'.out _ _ _ (by simp only [y0]; rfl) trivial ⟨rfl, HF.out⟩
    case s3 =>
      have y0 := hd 2 (by decide) (by kernel_rfl)
      replace y0 : x 13 = .int .i64 p := y0
      have HF := Lib.hid hF
      clear hd hm hb hF
      go_simp
      exact hK'.out _ _ _ (by simp only [y0]; rfl) trivial ⟨rfl, HF.out⟩
    case s4 =>
      have y0 := hd 0 (by decide) (by kernel_rfl)
      replace y0 : x 11 = .agg #[.int .i64 0, .string ⟨#[]⟩, .int .i64 0, .slice none 0 0] := y0
      obtain rfl := List.eq_nil_of_length_eq_zero (hm 0 (by kernel_rfl))
      obtain ⟨g1, g2, g3, g4⟩ := (show _ ∧ _ from hF)
      have hc := g1.cell
      have hf := g1.frozen
      have hl := g1.lt
      have HG := Lib.hid (And.intro g1 (And.intro g2 (And.intro g3 g4)))
      clear hd hm hb hF g1 g2 g3 g4
      go_simp
      obtain ⟨g1, g2, g3, g4⟩ := HG.out
      exact hK'.out _ _ undef (by simp only [y0]; rfl) trivial ⟨(((g1.set 0 _).set 1 _).set 2 _).set 3 _, (((g2.setOther (p := ⟨R, 0, none⟩) (by show F ≠ R; omega) _).setOther (p := ⟨R, 1, none⟩) (by show F ≠ R; omega) _).setOther (p := ⟨R, 2, none⟩) (by show F ≠ R; omega) _).setOther (p := ⟨R, 3, none⟩) (by show F ≠ R; omega) _, (((g3.setCell (p := ⟨R, 0, none⟩) (fun _ => .inl rfl) _).setCell (p := ⟨R, 1, none⟩) (fun _ => .inl rfl) _).setCell (p := ⟨R, 2, none⟩) (fun _ => .inl rfl) _).setCell (p := ⟨R, 3, none⟩) (fun _ => .inl rfl) _, (((g4.setOther (p := ⟨R, 0, none⟩) (by show B ≠ R; omega) _).setOther (p := ⟨R, 1, none⟩) (by show B ≠ R; omega) _).setOther (p := ⟨R, 2, none⟩) (by show B ≠ R; omega) _).setOther (p := ⟨R, 3, none⟩) (by show B ≠ R; omega) _⟩
    case s5 =>
      have y0 := hd 3 (by decide) (by kernel_rfl)
      replace y0 : x 14 = .agg #[.int .i64 2, .int .i64 p] := y0
      obtain ⟨v0, rfl⟩ : ∃ v0, vs = [v0] := by match vs, hm 1 (by kernel_rfl) with | [v0], _ => exact ⟨_, rfl⟩
      obtain ⟨g1, g2, g3, g4⟩ := (show _ ∧ _ from hF)
      have hc := g2.cell
      have hf := g2.frozen
      have hl := g2.lt
      have HG := Lib.hid (And.intro g1 (And.intro g2 (And.intro g3 g4)))
      clear hd hm hb hF g1 g2 g3 g4
      go_simp
      obtain ⟨g1, g2, g3, g4⟩ := HG.out
      exact hK'.out _ _ undef (by simp only [y0]; rfl) trivial ⟨(g1.setOther (p := ⟨F, 0, none⟩) hne _).setOther (p := ⟨F, 1, none⟩) hne _, (g2.set 0 _).set 1 _, (g3.setCell (p := ⟨F, 0, none⟩) (fun _ => .inr rfl) _).setCell (p := ⟨F, 1, none⟩) (fun _ => .inr rfl) _, (g4.setOther (p := ⟨F, 0, none⟩) (by show B ≠ F; omega) _).setOther (p := ⟨F, 1, none⟩) (by show B ≠ F; omega) _⟩
  case fin =>
    intro x vs w9 hl hF hk
    obtain ⟨v0, v1, rfl⟩ : ∃ v0 v1, vs = [v0, v1] := by match vs, hl with | [v0, v1], _ => exact ⟨_, _, rfl⟩
    obtain ⟨g1, g2, g3, g4⟩ := (show _ ∧ _ from hF)
    clear hk hl
    have HG := Lib.hid (And.intro g1 (And.intro g2 g3))
    clear hF g1 g2 g3 g4
    go_wp2_with (fail)
    exact HG.out
theorem idle_parse (R F : Nat) (w : World) :
    CallsD Tryz.prog 84 #[.pointer (some ⟨R, 0, none⟩), .pointer (some ⟨F, 0, none⟩)] .returning w fun e u' w' => e = .returned (.tuple #[]) ∧ u' = .returning ∧ w' = w := by
  refine callsD_of_wpS Tryz.func84 rfl fun c₀ cs hu => ?_
  apply wpS_seq
  apply wpS_region
  simp [wpOpsS, go_sem, recoverD, hu, Tryz.ntmps84, Exit.thenS]
  simp only [Array.replicate, List.replicate, List.append_toArray, List.setIfInBounds_toArray, List.set_cons_zero, List.set_cons_succ, List.cons_append, List.nil_append]
  refine wpS_of_wp (Code.wp_mono (Q := fun e a' w' => e = .normal ∧ a'.defers = [] ∧ w' = w) ?_ ?_)
  · rintro e a w1 ⟨rfl, hd, rfl⟩
    exact ⟨hd, .returning, by cases c₀; simp_all, _, results_none rfl _ _ _, rfl, rfl, rfl⟩
  clear hu
  go_wp2_with (fail)
end synw
end Go.Proofs.YtpcihajmcejliabGreatDoor
