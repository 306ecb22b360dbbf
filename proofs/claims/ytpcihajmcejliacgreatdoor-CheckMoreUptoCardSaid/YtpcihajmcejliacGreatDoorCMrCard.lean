/- For every text, every faces and every face more the law CheckMore returns true. Where what is read is of bulk at most 1048576 (the row's own condition). -/
import Derived.Test.YtpcihajmcejliacGreatDoorCards
import Derived.Test.YtpcihajmcejliacGreatDoorTie
import Derived.WalkKit
import Derived.ProofKit
import Derived.OpenShut
import Derived.Lay
import Derived.MakeChecks
import Derived.SevenTiedAt
import Derived.Stop.LaidErr
import Derived.Carry
import Derived.Deep.DeepHandedRow
import Derived.Test.YtpcihajmcejliacGreatDoorCMrFacts
import Derived.Test.YtpcihajmcejliacGreatDoorCMrGoes
import Derived.Test.YtpcihajmcejliacGreatDoorCMrMains
import Derived.Test.YtpcihajmcejliacGreatDoorFcsOpen
namespace Go.Proofs.YtpcihajmcejliacGreatDoor.checkMore
open Go.ChangeShapes Go.WideShapes Go.ChangeAt Go.RowKit Go.ChangeMaps
theorem own : ownKnob Tryz.prog.godebug = none := by kernel_rfl
theorem gERType : (Tryz.prog.globals[6]?).map (·.type) = some 208 := by kernel_rfl
theorem cellsE : Tryz.prog.cellsOf 450 = 1 := by kernel_rfl
theorem cellsS : Tryz.prog.cellsOf 9 = 1 := by kernel_rfl
theorem star : "*" ++ "errors.errorString" = "*errors.errorString" := by decide
theorem rowE (u : TypeId) (h : Tryz.prog.typeName? 3 u = some "*errors.errorString") : u = 448 :=
 typeName_ptr_named (nm := "errors.errorString") (by rw [star]; kernel_rfl) (by kernel_rfl) (by decide) u (by rw [star]; exact h)
theorem errVar_of_laid {W : World} (h : laidMetH Tryz.prog Rows.checkMoreUptoRow.laid W) : ErrVar W := by
 rw [MakeChecks.laidMetH_plain _ _ _ (by kernel_rfl)] at h; obtain ⟨a1, s1, hv1, -, -, -⟩ := laid_sentinel h.tail.tail.tail.tail ErrVar.named gERType Tryz.underlying208 rowE Tryz.underlying448 Tryz.underlying450 rfl rfl Tryz.underlying9 cellsE cellsS; exact ⟨_, _, hv1⟩
theorem laidOut : laidOutB Tryz.prog = true := by kernel_rfl
theorem maxVar_of_shape {W : World} (h : W.ShapedOpen Tryz.prog) : MaxVar W :=
 cell_of_shapedOpen_int (P := Tryz.prog) (g := 1) (t := 3) (zero := #[.int .i64 0]) h (of_decide_eq_true (by kernel_rfl)) (by kernel_rfl) rfl (by kernel_rfl) (by kernel_rfl) Tryz.underlying3
theorem bulk (H : Type) : facesOpen.Bulk (H := H) Rows.uptoBulk Rows.uptoBulkAll where
 str l := by simp [Rows.uptoBulk]
 int k n := by simp [Rows.uptoBulk]
 bool b := by simp [Rows.uptoBulk]
 nil := by simp [Rows.uptoBulk]
 slice E S := by simp [Rows.uptoBulk]
 agg E := by simp [Rows.uptoBulk]
 none := by simp [Rows.uptoBulkAll]
 cons d r := by simp [Rows.uptoBulkAll]
 pos d := by
  cases d with
  | lit l => cases l <;> simp [Rows.uptoBulk]
  | nil => simp [Rows.uptoBulk]
  | ptr d => simp [Rows.uptoBulk]
  | slice E S => simp [Rows.uptoBulk]
  | agg E => simp [Rows.uptoBulk]
  | iface n d => simp [Rows.uptoBulk]
  | map e => simp [Rows.uptoBulk]
  | held h => simp [Rows.uptoBulk]
theorem witness_at {H : Type} {enc : TypeId × Value → H} {C : Checked} {os : Os} {f : FuncId} {fn : Func} {s : OpenSpec} {conds : List PathCond} {apart : Bool} {laid : List (String × DataW Unit)} (modest : Bool) (w0 : World) (args : Array Value) (hos : w0.os = os)
  (hsh : (w0.forCall (fun _ _ => 0) ⟨#[], args, []⟩).Shaped C.prog)
  (hok : Input.okWideB C.prog (w0.forCall (fun _ _ => 0) ⟨#[], args, []⟩) f ⟨#[], args, []⟩ = true)
  (hrow : s.preRow enc C.prog fn conds apart laid (w0.forCall (fun _ _ => 0) ⟨#[], args, []⟩).memory args) :
  ∃ (w : World) (tape : Tape) (i : Input), w.os = os ∧ (w.forCall tape i).Shaped C.prog ∧ i.vars = [] ∧ Input.okWide C.prog (w.forCall tape i) .any w.heap.size f i ∧
   s.preRow enc C.prog fn conds apart laid (w.forCall tape i).memory i.args ∧ ({ modest := modest } : Assume).holds C.prog (lone (Frame.enter C.prog f i.args .normal) [] (w.forCall tape i)) :=
 ⟨w0, fun _ _ => 0, ⟨#[], args, []⟩, hos, hsh, (Input.okWide_of_okWideB (base := 0) hok).1, (Input.okWide_of_okWideB hok).2, hrow, by
  simp only [Assume.holds]; exact ⟨by simp, by simp, fun _ => Modest.zero, by simp, by simp⟩⟩
def none0 : Value := .slice none 0 0
def text0 : Value := .string ⟨#[]⟩
def face0 : Value := .agg #[.string ⟨#[]⟩, .slice none 0 0, .slice none 0 0]
theorem reads (os : Os) {H : Type} (enc : TypeId × Value → H) : ∃ places, DataW.whole enc Tryz.prog ((World.laidAll Tryz.prog os Rows.checkMoreUptoRow.laid).forCall (fun _ _ => 0) ⟨#[], #[text0, none0, face0], []⟩).memory Tryz.f4.params.toList Rows.checkMoreSpec.vars false #[text0, none0, face0].toList 8 =
  some ([.lit (.string []), .nil, .agg [.lit (.string []), .nil, .nil]], [], places) :=
 ⟨[], by kernel_rfl⟩
set_option maxRecDepth 100000 in
theorem contract (H : Type) (enc : TypeId × Value → H) (W : World) (base : Nat) (args : Array Value) (ds gs : List (DataW H)) (before : List MemPlace)
  (hval0 : ∀ (j : Nat) t v, Tryz.f4.params[j]? = some t → args[j]? = some v → Value.okWide Tryz.prog W .any base t v)
  (hW : DataW.Whole enc Tryz.prog Tryz.f4.params.toList Rows.checkMoreSpec.vars false W args.toList ds gs before) (hsm : Rows.uptoSmall H (ds ++ gs) = true) (hL : laidMetH Tryz.prog Rows.checkMoreUptoRow.laid W) (hsh : W.ShapedOpen Tryz.prog) :
  Calls Tryz.prog 4 args W fun e W' => ∃ v, e = .returned v ∧ Rows.checkMoreSpec.post enc Tryz.prog Tryz.f4 false true false false W args v W' := by
 have hval : ∀ (j : Nat) t v, Tryz.f4.params[j]? = some t → args[j]? = some v → Value.okWide Tryz.prog W .any base t v := hval0; have hW' := hW; obtain ⟨p, q, hA0, hV, rfl, hfz, hnd⟩ := hW; have hA : DataW.TrodAll enc Tryz.prog W 0 (fun _ => true) true Tryz.f4.params.toList args.toList ds p := hA0; rw [Tryz.params4] at hA hval; obtain ⟨v0, vs0, d0, ds0, p0, q0, hargs, rfl, rfl, h0, r0⟩ := trodAll_cons hA; obtain ⟨v1, vs1, d1, ds1, p1, q1, rfl, rfl, rfl, h1, r1⟩ := trodAll_cons r0; obtain ⟨v2, vs2, d2, ds2, p2, q2, rfl, rfl, rfl, h2, r2⟩ := trodAll_cons r1; obtain ⟨rfl, rfl, rfl⟩ := trodAll_nil r2; obtain rfl : args = #[v0, v1, v2] := by cases args; simp_all
 obtain ⟨rfl, rfl⟩ := trodVars_none hV
 have hb : Rows.uptoBulk d0 ≤ 1048576 ∧ Rows.uptoBulk d1 ≤ 1048576 ∧ Rows.uptoBulk d2 ≤ 1048576 := by
  have h := of_decide_eq_true hsm; have h2 : Rows.uptoBulkAll [d0, d1, d2] ≤ 1048576 := h; rw [(bulk H).cons, (bulk H).cons, (bulk H).cons, (bulk H).none] at h2; omega
 obtain ⟨hb0, hb1, hb2⟩ := hb; obtain ⟨s0, rfl, rfl, rfl, hs0⟩ := open_string Tryz.underlying9 (hval 0 9 v0 rfl rfl) h0; obtain ⟨fuel1, h1'⟩ := id h1; obtain ⟨ba, bl, bc, rfl⟩ := okWide_slice Tryz.underlying33 (hval 1 33 v1 rfl rfl); replace h1' : DataW.trod enc Tryz.prog W 0 (fun _ => true) true fuel1 33 [.slice ba bl bc] = some (d1, p1) := h1'; obtain ⟨a1, l, cap, hev, hx, hcap, hcm, -, -, hll, hsml⟩ := facesOpen.open_faces (bulk H) h1'
 replace hll : l.length ≤ Rows.uptoBulk d1 := hll
 replace hsml : ∀ f ∈ l, f.vars.length + f.procs.length ≤ Rows.uptoBulk d1 := hsml
 obtain ⟨e1, e2, e3⟩ := Value.slice.inj hev; subst e1 e2 e3; clear hev; obtain ⟨x, hfx, hfb⟩ := facesOpen.open_arg (bulk H) (hval 2 37 v2 rfl rfl) h2; clear hA0 hval0; have hlt := hW'.lt; simp only [List.append_nil] at hW' hlt; refine (checkMore.walk s0 _ l _ _ x _ W rfl (by unfold maxLen at hs0; omega) (errVar_of_laid hL) (maxVar_of_shape hsh) hx hcap hcm (fun f hf => by have := hsml f hf; unfold maxLen; omega) hfx (by unfold maxLen; omega) (by omega)).mono fun e W' ⟨he, hg⟩ => ?_
 subst he
 exact ⟨_, rfl, _, _, _, [], _, [], hW', trodAll_mk1 (shut_bool Tryz.underlying4 _),
  trodAll_mk3 (shut_string Tryz.underlying9 hs0) (Below.trod laidOut (by kernel_rfl) (of_decide_eq_true (by kernel_rfl)) h1 hg.below (fun z hz => hlt z (by simp [hz]))) (Below.trod laidOut (by kernel_rfl) (of_decide_eq_true (by kernel_rfl)) h2 hg.below (fun z hz => hlt z (by simp [hz]))), rfl, hg.below.frame _, fun h => by cases h⟩
set_option maxRecDepth 100000 in
theorem lifted (os : Os) (started : os.Started) (H : Type) (enc : TypeId × Value → H) (F : Stop.Interp) :
  ReturnsInHanded {} Tryz.checked os 4 .any ((Rows.OpenSpec.upto Rows.checkMoreSpec).preRow enc Tryz.prog Tryz.f4 Rows.checkMoreUptoRow.domain false Rows.checkMoreUptoRow.laid) (((Rows.OpenSpec.upto Rows.checkMoreSpec).at F).post enc Tryz.prog Tryz.f4 false true false false) := by
 obtain ⟨places, hx⟩ := reads os enc
 refine returnsInHanded_of_row (C := Tryz.checked) (s := Rows.OpenSpec.upto Rows.checkMoreSpec) own started (by kernel_rfl) Tryz.func4
  (witness_at (enc := enc) (C := Tryz.checked) false (World.laidAll Tryz.prog os Rows.checkMoreUptoRow.laid) #[text0, none0, face0] (World.laidAll_os _ _ _) (World.shaped_of_ZipB (by kernel_rfl) (by kernel_rfl)) (by kernel_rfl)
   (OpenSpec.preRow_of_cond 8 hx (by kernel_rfl) (fun k hk => by cases hk; kernel_rfl) (by kernel_rfl) (by rw [MakeChecks.laidMetH_plain _ _ _ (by kernel_rfl)]; exact laidMet_laidAll _ (by kernel_rfl) (by kernel_rfl)))) ?_
 intro W base args ds gs before hval hW _ hcond _ hL hsh _; exact contract H enc W base args ds gs before hval hW (hcond _ rfl) hL hsh
theorem prog_eq : Tryz.pinned.checked.prog = Tryz.prog := by kernel_rfl
theorem func_at : Tryz.pinned.checked.prog.funcs[4]? = some Tryz.f4 := by rw [prog_eq]; exact Tryz.func4
set_option maxRecDepth 100000 in
set_option maxHeartbeats 4000000 in
theorem over : Rows.CheckMoreUptoSaid :=
 OpenClaim.holds_of_cond 4 Tryz.f4 rfl rfl rfl rfl rfl rfl rfl ⟨rfl, rfl, rfl, rfl, rfl⟩ rfl rfl rfl rfl rfl named func_at joined inst wrapper
  (fun os started H enc _ F => by rw [OpenClaim.pre_eq_preRow]; exact lifted os started H enc F)
theorem plain (f : FuncId) (fn : Func) (hf : Tryz.pinned.checked.prog.funcNamed "dryshod/dryshodkeep.CheckMore" = some f) (hfn : Tryz.pinned.checked.prog.funcs[f]? = some fn) :
  true = Tryz.pinned.checked.prog.looks [] ∧ ∀ (j : Nat) t, fn.params[j]? = some t → Tryz.pinned.checked.prog.wantsStandIn t = false := by
 obtain rfl : f = 4 := Option.some.inj ((show Tryz.prog.funcNamed "dryshod/dryshodkeep.CheckMore" = some 4 by kernel_rfl).symm.trans hf) |>.symm
 obtain rfl : fn = Tryz.f4 := (Option.some.inj (Tryz.func4.symm.trans hfn)).symm; refine ⟨by kernel_rfl, fun j t ht => ?_⟩
 rw [Tryz.params4] at ht; have ht2 : t = 9 ∨ t = 33 ∨ t = 37 := by simpa using Array.mem_of_getElem? ht
 rcases ht2 with rfl | rfl | rfl
 · exact (show Tryz.prog.wantsStandIn 9 = false by kernel_rfl)
 · exact (show Tryz.prog.wantsStandIn 33 = false by kernel_rfl)
 · exact (show Tryz.prog.wantsStandIn 37 = false by kernel_rfl)
theorem card : Rows.CheckMoreUptoCardSaid :=
 Claim7.holds_tied_plain_at .later [] _ _ _ _ over (fun _ h => by cases h) (by kernel_rfl) (fun _ h => by cases h) checkMoreUpto_row_tie rfl ⟨rfl, rfl⟩ (by rw [prog_eq]; exact mains) rfl plain (by rw [prog_eq]; exact goes)
end Go.Proofs.YtpcihajmcejliacGreatDoor.checkMore
