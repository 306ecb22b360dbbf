/- For every object that has bytes the law ObjectBack returns true: they are read as it, that has the same bytes, and no shorter row of bytes is read. Where what is read is of bulk at most 1048576 (the row's own condition). -/
import Derived.Test.YtpcihajmcejliabGreatDoorCards
import Derived.Test.YtpcihajmcejliabGreatDoorTie
import Derived.Test.YtpcihajmcejliabGreatDoorBackFacts
import Derived.Test.YtpcihajmcejliabGreatDoorBackGoes
import Derived.Test.YtpcihajmcejliabGreatDoorBackMains
import Derived.Test.YtpcihajmcejliabGreatDoorBackA
import Derived.Test.YtpcihajmcejliabGreatDoorObjOpen
import Derived.WalkKit
import Derived.ProofKit
import Derived.OpenShut
import Derived.Lay
import Derived.MakeChecks
import Derived.SevenTiedAt
import Derived.Stop.LaidErr
import Derived.Carry
import Derived.Deep.DeepHandedRow
namespace Go.Proofs.YtpcihajmcejliabGreatDoor.objectBack
open Go.ChangeShapes Go.WideShapes Go.ChangeAt Go.RowKit Go.ChangeMaps
theorem own : ownKnob Tryz.prog.godebug = none := by kernel_rfl
theorem gERType : (Tryz.prog.globals[2]?).map (·.type) = some 251 := by kernel_rfl
theorem cellsE : Tryz.prog.cellsOf 419 = 1 := by kernel_rfl
theorem cellsS : Tryz.prog.cellsOf 9 = 1 := by kernel_rfl
theorem star : "*" ++ "errors.errorString" = "*errors.errorString" := by decide
theorem rowE (u : TypeId) (h : Tryz.prog.typeName? 3 u = some "*errors.errorString") : u = 417 :=
  typeName_ptr_named (nm := "errors.errorString") (by rw [star]; kernel_rfl) (by kernel_rfl) (by decide) u (by rw [star]; exact h)
theorem errVar_of_laid {W : World} (h : laidMetH Tryz.prog Rows.objectBackUptoRow.laid W) : ErrVar W := by
  rw [MakeChecks.laidMetH_plain _ _ _ (by kernel_rfl)] at h
  obtain ⟨a1, s1, hv1, -, -, -⟩ := laid_sentinel h.tail.tail.tail.tail ErrVar.named gERType Tryz.underlying251 rowE Tryz.underlying417 Tryz.underlying419 rfl rfl Tryz.underlying9 cellsE cellsS
  exact ⟨_, _, hv1⟩
theorem laidOut : laidOutB Tryz.prog = true := by kernel_rfl
/-- the library's limit is some number, whatever it is: out of the world's shape -/
theorem maxVar_of_shape {W : World} (h : W.ShapedOpen Tryz.prog) : MaxVar W :=
  cell_of_shapedOpen_int (P := Tryz.prog) (g := 0) (t := 3) (zero := #[.int .i64 0]) h (of_decide_eq_true (by kernel_rfl)) (by kernel_rfl) rfl (by kernel_rfl) (by kernel_rfl) Tryz.underlying3
/-- the row's measure counts each part -/
theorem bulk (H : Type) : objOpen.Bulk (H := H) Rows.uptoBulk Rows.uptoBulkAll where
  str l := by simp [Rows.uptoBulk]
  int k n := by simp [Rows.uptoBulk]
  bool b := by simp [Rows.uptoBulk]
  nil := by simp [Rows.uptoBulk]
  slice E S := by simp [Rows.uptoBulk]
  agg E := by simp [Rows.uptoBulk]
  none := by simp [Rows.uptoBulkAll]
  cons d r := by simp [Rows.uptoBulkAll]
  pos d := by
    cases d with
    | lit l => cases l <;> simp [Rows.uptoBulk]
    | nil => simp [Rows.uptoBulk]
    | ptr d => simp [Rows.uptoBulk]
    | slice E S => simp [Rows.uptoBulk]
    | agg E => simp [Rows.uptoBulk]
    | iface n d => simp [Rows.uptoBulk]
    | map e => simp [Rows.uptoBulk]
    | held h => simp [Rows.uptoBulk]
/-- there is an input that fits -/
theorem witness_at {H : Type} {enc : TypeId × Value → H} {C : Checked} {os : Os} {f : FuncId} {fn : Func} {s : OpenSpec} {conds : List PathCond} {apart : Bool} {laid : List (String × DataW Unit)} (modest : Bool) (w0 : World) (args : Array Value) (hos : w0.os = os)
    (hsh : (w0.forCall (fun _ _ => 0) ⟨#[], args, []⟩).Shaped C.prog)
    (hok : Input.okWideB C.prog (w0.forCall (fun _ _ => 0) ⟨#[], args, []⟩) f ⟨#[], args, []⟩ = true)
    (hrow : s.preRow enc C.prog fn conds apart laid (w0.forCall (fun _ _ => 0) ⟨#[], args, []⟩).memory args) :
    ∃ (w : World) (tape : Tape) (i : Input), w.os = os ∧ (w.forCall tape i).Shaped C.prog ∧ i.vars = [] ∧ Input.okWide C.prog (w.forCall tape i) .any w.heap.size f i ∧
      s.preRow enc C.prog fn conds apart laid (w.forCall tape i).memory i.args ∧ ({ modest := modest } : Assume).holds C.prog (lone (Frame.enter C.prog f i.args .normal) [] (w.forCall tape i)) :=
  ⟨w0, fun _ _ => 0, ⟨#[], args, []⟩, hos, hsh, (Input.okWide_of_okWideB (base := 0) hok).1, (Input.okWide_of_okWideB hok).2, hrow, by
    simp only [Assume.holds]
    exact ⟨by simp, by simp, fun _ => Modest.zero, by simp, by simp⟩⟩
theorem plcs {w : World} {x : FObj} {v : Value} (h : ObjAt w x v) : objInj.PlcNums x := by
  obtain ⟨fa, am, fc, cm, ia, ic, ca, cc, ra, rc, pa, pc, la, lc, ha, hc, -, -, -, -, -, h4, h5, h6⟩ := h.ex
  exact ⟨objw.plc_nums h4, objw.plc_nums h5, objw.plc_nums h6⟩
def none0 : Value := .agg #[.string ⟨#[]⟩, .slice none 0 0, .slice none 0 0, .slice none 0 0, .slice none 0 0, .slice none 0 0, .slice none 0 0, .slice none 0 0, .slice none 0 0, .int .i64 0, .int .i64 0, .int .i64 0, .int .i64 0]
theorem reads (os : Os) {H : Type} (enc : TypeId × Value → H) : ∃ places, DataW.whole enc Tryz.prog ((World.laidAll Tryz.prog os Rows.objectBackUptoRow.laid).forCall (fun _ _ => 0) ⟨#[], #[none0, .int .u16 0], []⟩).memory Tryz.f5.params.toList Rows.objectBackSpec.vars false #[none0, .int .u16 0].toList 8 =
    some ([.agg [.agg [.lit (.string []), .nil, .nil], .nil, .nil, .nil, .nil, .nil, .nil, .lit (.int .i64 0), .lit (.int .i64 0), .lit (.int .i64 0), .lit (.int .i64 0)], .lit (.int .u16 0)], [], places) :=
  ⟨[], by kernel_rfl⟩
set_option maxRecDepth 100000 in
theorem contract (H : Type) (enc : TypeId × Value → H) (W : World) (base : Nat) (args : Array Value) (ds gs : List (DataW H)) (before : List MemPlace)
    (hval0 : ∀ (j : Nat) t v, Tryz.f5.params[j]? = some t → args[j]? = some v → Value.okWide Tryz.prog W .any base t v)
    (hW : DataW.Whole enc Tryz.prog Tryz.f5.params.toList Rows.objectBackSpec.vars false W args.toList ds gs before) (hsm : Rows.uptoSmall H (ds ++ gs) = true) (hL : laidMetH Tryz.prog Rows.objectBackUptoRow.laid W) (hsh : W.ShapedOpen Tryz.prog) :
    Calls Tryz.prog 5 args W fun e W' => ∃ v, e = .returned v ∧ Rows.objectBackSpec.post enc Tryz.prog Tryz.f5 false true false false W args v W' := by
  have hval : ∀ (j : Nat) t v, Tryz.f5.params[j]? = some t → args[j]? = some v → Value.okWide Tryz.prog W .any base t v := hval0
  have hW' := hW
  obtain ⟨p, q, hA0, hV, rfl, hfz, hnd⟩ := hW
  have hA : DataW.TrodAll enc Tryz.prog W 0 (fun _ => true) true Tryz.f5.params.toList args.toList ds p := hA0
  rw [Tryz.params5] at hA hval
  obtain ⟨v0, v1, d0, d1, p0, p1, rfl, rfl, rfl, h0, h1⟩ := trodAll_two hA
  obtain ⟨rfl, rfl⟩ := trodVars_none hV
  have hb : Rows.uptoBulk d0 + Rows.uptoBulk d1 ≤ 1048576 := by
    have h := of_decide_eq_true hsm
    have h2 : Rows.uptoBulkAll [d0, d1] ≤ 1048576 := h
    rw [(bulk H).cons, (bulk H).cons, (bulk H).none] at h2
    omega
  obtain ⟨x, hx, hnum, hsml, hlen⟩ := objOpen.open_obj (bulk H) (hval 0 57 v0 rfl rfl) h0 (by omega)
  obtain ⟨a1, rfl, rfl, rfl, w1⟩ := open_int Tryz.underlying58 (hval 1 58 v1 rfl rfl) h1
  have hc : 0 ≤ a1 ∧ a1 ≤ 65535 := by simpa [Lit.wf, IntKind.min, IntKind.max, IntKind.signed, IntKind.bits] using w1
  obtain ⟨cut, rfl⟩ := Int.eq_ofNat_of_zero_le hc.1
  clear hA0 hval0
  have hlt := hW'.lt
  simp only [List.append_nil] at hW' hlt
  refine (backLaw.walk x v0 W cut ⟨hx, hnum, plcs hx, hsml, hlen⟩ (by omega) (errVar_of_laid hL) (maxVar_of_shape hsh)).mono fun e W' ⟨he, hg⟩ => ?_
  subst he
  exact ⟨_, rfl, _, _, _, [], _, [], hW', trodAll_mk1 (shut_bool Tryz.underlying4 _),
    trodAll_mk2 (Below.trod laidOut (by kernel_rfl) (of_decide_eq_true (by kernel_rfl)) h0 hg.below (fun z hz => hlt z (by simp [hz]))) (shut_int Tryz.underlying58 w1), rfl, hg.below.frame _, fun h => by cases h⟩
set_option maxRecDepth 100000 in
theorem lifted (os : Os) (started : os.Started) (H : Type) (enc : TypeId × Value → H) (F : Stop.Interp) :
    ReturnsInHanded {} Tryz.checked os 5 .any ((Rows.OpenSpec.upto Rows.objectBackSpec).preRow enc Tryz.prog Tryz.f5 Rows.objectBackUptoRow.domain false Rows.objectBackUptoRow.laid) (((Rows.OpenSpec.upto Rows.objectBackSpec).at F).post enc Tryz.prog Tryz.f5 false true false false) := by
  obtain ⟨places, hx⟩ := reads os enc
  refine returnsInHanded_of_row (C := Tryz.checked) (s := Rows.OpenSpec.upto Rows.objectBackSpec) own started (by kernel_rfl) Tryz.func5
    (witness_at (enc := enc) (C := Tryz.checked) false (World.laidAll Tryz.prog os Rows.objectBackUptoRow.laid) #[none0, .int .u16 0] (World.laidAll_os _ _ _) (World.shaped_of_ZipB (by kernel_rfl) (by kernel_rfl)) (by kernel_rfl)
      (OpenSpec.preRow_of_cond 8 hx (by kernel_rfl) (fun k hk => by cases hk; kernel_rfl) (by kernel_rfl) (by rw [MakeChecks.laidMetH_plain _ _ _ (by kernel_rfl)]; exact laidMet_laidAll _ (by kernel_rfl) (by kernel_rfl)))) ?_
  intro W base args ds gs before hval hW _ hcond _ hL hsh _
  exact contract H enc W base args ds gs before hval hW (hcond _ rfl) hL hsh
theorem prog_eq : Tryz.pinned.checked.prog = Tryz.prog := by kernel_rfl
theorem func_at : Tryz.pinned.checked.prog.funcs[5]? = some Tryz.f5 := by rw [prog_eq]; exact Tryz.func5
set_option maxRecDepth 100000 in
set_option maxHeartbeats 4000000 in
theorem over : Rows.ObjectBackUptoSaid :=
  OpenClaim.holds_of_cond 5 Tryz.f5 rfl rfl rfl rfl rfl rfl rfl ⟨rfl, rfl, rfl, rfl, rfl⟩ rfl rfl rfl rfl rfl named func_at joined inst wrapper
    (fun os started H enc _ F => by rw [OpenClaim.pre_eq_preRow]; exact lifted os started H enc F)
/-- No parameter wants a stand-in: what the card asks. -/
theorem plain (f : FuncId) (fn : Func) (hf : Tryz.pinned.checked.prog.funcNamed "dryshod/dryshodkeep.ObjectBack" = some f) (hfn : Tryz.pinned.checked.prog.funcs[f]? = some fn) :
    true = Tryz.pinned.checked.prog.looks [] ∧ ∀ (j : Nat) t, fn.params[j]? = some t → Tryz.pinned.checked.prog.wantsStandIn t = false := by
  obtain rfl : f = 5 := Option.some.inj ((show Tryz.prog.funcNamed "dryshod/dryshodkeep.ObjectBack" = some 5 by kernel_rfl).symm.trans hf) |>.symm
  obtain rfl : fn = Tryz.f5 := (Option.some.inj (Tryz.func5.symm.trans hfn)).symm
  refine ⟨by kernel_rfl, fun j t ht => ?_⟩
  rw [Tryz.params5] at ht
  have ht2 : t = 57 ∨ t = 58 := by simpa using Array.mem_of_getElem? ht
  rcases ht2 with rfl | rfl
  · exact (show Tryz.prog.wantsStandIn 57 = false by kernel_rfl)
  · exact (show Tryz.prog.wantsStandIn 58 = false by kernel_rfl)
/-- THE CARD -/
theorem card : Rows.ObjectBackUptoCardSaid :=
  Claim7.holds_tied_plain_at .later [] _ _ _ _ over (fun _ h => by cases h) (by kernel_rfl) (fun _ h => by cases h) objectBackUpto_row_tie rfl ⟨rfl, rfl⟩ (by rw [prog_eq]; exact mains) rfl plain (by rw [prog_eq]; exact goes)
end Go.Proofs.YtpcihajmcejliabGreatDoor.objectBack
