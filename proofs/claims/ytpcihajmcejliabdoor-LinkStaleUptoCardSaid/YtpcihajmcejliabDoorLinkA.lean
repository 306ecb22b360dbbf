/- The walk of the program's linker: must, find, known. The linker's map of the modules' numbers. -/
import Derived.Test.YtpcihajmcejliabDoorObjDefs
import Derived.Test.YtpcihajmcejliabDoorProg
import Derived.Test.YtpcihajmcejliabDoorFaceSame
import Derived.WalkKit
import Derived.WalkSpells
import Derived.Deep.QuietTactic
import Derived.BigQuiet
import Derived.Test.YtpcihajmcejliabDoorFaceMay
import Derived.Maps.OwnSet
import Derived.Maps.OwnOps
namespace Go.Proofs.YtpcihajmcejliabDoor
open Go.RowKit
/-- an object's cells in a row of objects -/
def ObjIn (w : World) (b o : Nat) (x : FObj) : Prop :=
  ∃ fa am fc cm ia ic ca cc ra rc pa pc la lc ha hc,
    w.cell? ⟨b, o, none⟩ = some (.string x.face.modn) ∧ w.cell? ⟨b, o + 1, none⟩ = some (.slice fa x.face.vars.length am) ∧ w.cell? ⟨b, o + 2, none⟩ = some (.slice fc x.face.procs.length cm) ∧
    w.cell? ⟨b, o + 3, none⟩ = some (.slice ia x.imports.length ic) ∧ w.cell? ⟨b, o + 4, none⟩ = some (.slice ca x.code.length cc) ∧ w.cell? ⟨b, o + 5, none⟩ = some (.slice ra x.relocs.length rc) ∧
    w.cell? ⟨b, o + 6, none⟩ = some (.slice pa x.procs.length pc) ∧ w.cell? ⟨b, o + 7, none⟩ = some (.slice la x.lows.length lc) ∧ w.cell? ⟨b, o + 8, none⟩ = some (.slice ha x.highs.length hc) ∧
    w.cell? ⟨b, o + 9, none⟩ = some (.int .i64 x.low) ∧ w.cell? ⟨b, o + 10, none⟩ = some (.int .i64 x.high) ∧ w.cell? ⟨b, o + 11, none⟩ = some (.int .i64 x.lowF) ∧ w.cell? ⟨b, o + 12, none⟩ = some (.int .i64 x.highF) ∧
    ObjAt w x (.agg #[.string x.face.modn, .slice fa x.face.vars.length am, .slice fc x.face.procs.length cm, .slice ia x.imports.length ic, .slice ca x.code.length cc, .slice ra x.relocs.length rc, .slice pa x.procs.length pc, .slice la x.lows.length lc, .slice ha x.highs.length hc, .int .i64 x.low, .int .i64 x.high, .int .i64 x.lowF, .int .i64 x.highF])
theorem ObjIn.ext {w w' : World} (hE : Ext w w') {b o : Nat} {x : FObj} (hb : b < w.heap.size) (h : ObjIn w b o x) : ObjIn w' b o x := by
  obtain ⟨fa, am, fc, cm, ia, ic, ca, cc, ra, rc, pa, pc, la, lc, ha, hc, h0, h1, h2, h3, h4, h5, h6, h7, h8, h9, h10, h11, h12, h13⟩ := h
  have e : ∀ j, w'.cell? ⟨b, j, none⟩ = w.cell? ⟨b, j, none⟩ := fun j => hE.cell (by exact hb) id
  refine ⟨fa, am, fc, cm, ia, ic, ca, cc, ra, rc, pa, pc, la, lc, ha, hc, ?_, ?_, ?_, ?_, ?_, ?_, ?_, ?_, ?_, ?_, ?_, ?_, ?_, ObjAt.ext hE h13⟩ <;> rw [e] <;> assumption
/-- an object's rows, at the very addresses of its value -/
theorem ObjAt.rows {w : World} {x : FObj} {fa fc ia ca ra pa la ha : Option Addr} {n1 n2 n3 n4 n5 n6 n7 n8 am cm ic cc rc pc lc hc : Nat} {s : ByteArray} {i1 i2 i3 i4 : Int}
    (h : ObjAt w x (.agg #[.string s, .slice fa n1 am, .slice fc n2 cm, .slice ia n3 ic, .slice ca n4 cc, .slice ra n5 rc, .slice pa n6 pc, .slice la n7 lc, .slice ha n8 hc, .int .i64 i1, .int .i64 i2, .int .i64 i3, .int .i64 i4])) :
    FaceAt w x.face (.agg #[.string x.face.modn, .slice fa x.face.vars.length am, .slice fc x.face.procs.length cm]) ∧
    AllIn 3 FaceIn w ia x.imports ∧ AllIn 5 InsIn5 w ca x.code ∧ AllIn 4 RelIn w ra x.relocs ∧ AllIn 2 PlcIn w pa x.procs ∧ AllIn 2 PlcIn w la x.lows ∧ AllIn 2 PlcIn w ha x.highs := by
  obtain ⟨fa', am', fc', cm', ia', ic', ca', cc', ra', rc', pa', pc', la', lc', ha', hc', e, r⟩ := h.ex
  simp only [Value.agg.injEq, Array.mk.injEq, List.cons.injEq, Value.slice.injEq, Value.string.injEq, Value.int.injEq, true_and, and_true] at e
  obtain ⟨-, ⟨rfl, -, rfl⟩, ⟨rfl, -, rfl⟩, ⟨rfl, -, rfl⟩, ⟨rfl, -, rfl⟩, ⟨rfl, -, rfl⟩, ⟨rfl, -, rfl⟩, ⟨rfl, -, rfl⟩, ⟨rfl, -, rfl⟩, -⟩ := e
  exact r
/-- does an object know a module -/
def knowsF (x : FObj) (s : ByteArray) : Bool := decide (x.face.modn = s) || x.imports.any fun f => decide (f.modn = s)
namespace linkw
theorem mixed : Tryd.prog.follows .mixedOrders = true := by kernel_rfl
/-- the trouble that is thrown -/
def troubleV (m c a : Int) : List PanicEntry := [{ v := .iface 44 (.agg #[.int .i64 m, .int .i64 c, .int .i64 a]), recovered := false }]
theorem must_true (m c a : Int) (w : World) : Calls Tryd.prog 6 #[.bool true, .int .i64 m, .int .i64 c, .int .i64 a] w fun r w' => r = .returned (.tuple #[]) ∧ w = w' := by
  go_enter Tryd.func6, Tryd.ntmps6
  go_wp2
  go_end0
  exact ⟨rfl, rfl⟩
theorem must_false (m c a : Int) (w : World) : Calls Tryd.prog 6 #[.bool false, .int .i64 m, .int .i64 c, .int .i64 a] w fun r w' => r = .panicked (troubleV m c a) ∧ w = w' := by
  go_enter Tryd.func6, Tryd.ntmps6
  go_wp2
  exact ⟨rfl, rfl, rfl⟩
/-- where a name stands -/
def findF : List FPlc → ByteArray → Option Int
  | [], _ => none
  | p :: r, s => if p.name = s then some p.at_ else findF r s
theorem find_drop {l : List FPlc} {k : Nat} {s : ByteArray} (h : k < l.length) : findF (l.drop k) s = if l[k].name = s then some l[k].at_ else findF (l.drop (k + 1)) s := by
  rw [List.drop_eq_getElem_cons h]; rfl
set_option maxRecDepth 100000 in
set_option maxHeartbeats 2000000 in
theorem find_any (a : Option Addr) (l : List FPlc) (n cap : Nat) (s : ByteArray) (w : World) (hn : l.length = n) (hl : AllIn 2 PlcIn w a l) (hm : n ≤ 9223372036854775807) :
    Calls Tryd.prog 16 #[.slice a n cap, .string s] w fun e w' => e = .returned (.tuple #[.int .i64 ((findF l s).getD 0), .bool (findF l s).isSome]) ∧ Ext w w' := by
  obtain ⟨R, hR⟩ : ∃ R, findF l s = R := ⟨_, rfl⟩
  rw [hR]
  have HR := Lib.hid hR
  have HN := Lib.hid hn
  have HL := Lib.hid hl
  clear hR hn hl
  go_enter Tryd.func16, Tryd.ntmps16
  go_wp2_with fail
  go_loopw [10] (fun i wr => ∃ k : Nat, k ≤ n ∧ i = .int .i64 k ∧ Ext w wr ∧ Hid (findF (l.drop k) s = R)) (fun i _ => n - (intOf i).toNat)
  case atStart => exact ⟨0, Nat.zero_le _, rfl, Chg.refl _ _, by unfold Hid; exact HR.out⟩
  case round =>
    obtain ⟨k, hk, rfl, hE, hr⟩ := hrel
    by_cases hlt : k < n
    · have hkl : k < l.length := by rw [HN.out]; exact hlt
      obtain ⟨b, o, rfl, hb, hc⟩ := HL.out k hkl
      have hc2 := PlcIn.ext hE hb hc
      obtain ⟨c0, c1, -, hin⟩ := hc2
      have HF := Lib.hid ((find_drop hkl).symm.trans hr.out)
      clear hc hr
      generalize l[k] = x at *
      obtain ⟨nm, at_⟩ := x
      simp only at c0 c1 hin
      rw [show o + k * 2 = o + k * 2 from rfl] at c0
      by_cases hs : nm = s
      · subst hs
        have HF2 := Lib.hid (show R = some at_ by rw [← HF.out]; simp)
        go_wp2_with fail
        go_ret2
        rw [HF2.out]
        exact ⟨rfl, hE.alloc _⟩
      · have HF2 := Lib.hid (show findF (l.drop (k + 1)) s = R by rw [← HF.out]; simp [hs])
        have h0 : (nm.toList == s.toList) = false := by rw [ByteArray.toList_eq, ByteArray.toList_eq]; simpa [ByteArray.ext_iff] using hs
        have h1 : (nm.data.toList == s.data.toList) = false := by simpa [ByteArray.ext_iff] using hs
        clear hs HF
        go_wp2_with fail
        go_roundw
        case rel => exact ⟨k + 1, by omega, by go_num, hE.alloc _, HF2.out⟩
        case measure => simp [intOf]; omega
    · obtain rfl : k = n := by omega
      have HF2 := Lib.hid (show R = none by rw [← hr.out, List.drop_of_length_le (by rw [HN.out]; exact Nat.le_refl _)]; rfl)
      clear hr
      go_wp2_with fail
      go_ret2
      rw [HF2.out]
      exact ⟨rfl, hE⟩
theorem any_no {l : List FFace} {k : Nat} {s : ByteArray} (hk : k < l.length) (h : ∀ q (h : q < l.length), q < k → l[q].modn ≠ s) (hn : l[k].modn ≠ s) : ∀ q (h : q < l.length), q < k + 1 → l[q].modn ≠ s := fun q hq h1 => by
  by_cases e : q = k
  · subst e; exact hn
  · exact h q hq (by omega)
set_option maxRecDepth 100000 in
set_option maxHeartbeats 4000000 in
theorem known_any (x : FObj) (v : Value) (s : ByteArray) (w : World) (hx : ObjAt w x v) (hm : x.imports.length ≤ 9223372036854775807) :
    Calls Tryd.prog 15 #[v, .string s] w fun e w' => e = .returned (.bool (knowsF x s)) ∧ Ext w w' := by
  obtain ⟨fa, am, fc, cm, ia, ic, ca, cc, ra, rc, pa, pc, la, lc, ha, hc, rfl, hF0, h1, -⟩ := hx.ex
  clear hx hF0
  obtain ⟨xf, xi, xc, xr, op, ol, oh, lo, hi, lf, hf⟩ := x
  simp only at *
  obtain ⟨n, hn⟩ : ∃ n, xi.length = n := ⟨_, rfl⟩
  obtain ⟨n1, hn1⟩ : ∃ n, xf.vars.length = n := ⟨_, rfl⟩
  obtain ⟨n2, hn2⟩ : ∃ n, xf.procs.length = n := ⟨_, rfl⟩
  obtain ⟨nc, hnc⟩ : ∃ n, xc.length = n := ⟨_, rfl⟩
  obtain ⟨nr, hnr⟩ : ∃ n, xr.length = n := ⟨_, rfl⟩
  obtain ⟨np, hnp⟩ : ∃ n, op.length = n := ⟨_, rfl⟩
  obtain ⟨nl, hnl⟩ : ∃ n, ol.length = n := ⟨_, rfl⟩
  obtain ⟨nh, hnh⟩ : ∃ n, oh.length = n := ⟨_, rfl⟩
  obtain ⟨xn, hxn⟩ : ∃ n, xf.modn = n := ⟨_, rfl⟩
  rw [hn] at hm
  obtain ⟨R, hR⟩ : ∃ R, knowsF ⟨xf, xi, xc, xr, op, ol, oh, lo, hi, lf, hf⟩ s = R := ⟨_, rfl⟩
  rw [hR]
  rw [hn, hn1, hn2, hnc, hnr, hnp, hnl, hnh, hxn]
  have H0 := Lib.hid (fun h : xn = s => show R = true by rw [← hR]; simp [knowsF, hxn, h])
  have HY := Lib.hid (fun k (hk : k < xi.length) (h : xi[k].modn = s) => show R = true by
    rw [← hR]; simp only [knowsF, Bool.or_eq_true, List.any_eq_true, decide_eq_true_eq]; exact .inr ⟨_, List.getElem_mem hk, h⟩)
  have HNO := Lib.hid (fun (h0 : xn ≠ s) (h : ∀ q (hq : q < xi.length), q < n → xi[q].modn ≠ s) => show R = false by
    rw [← hR, Bool.eq_false_iff]; intro hc
    simp only [knowsF, Bool.or_eq_true, List.any_eq_true, decide_eq_true_eq] at hc
    rcases hc with hc | ⟨f, hf, e⟩
    · exact h0 (hxn.symm.trans hc)
    · obtain ⟨q, hq, rfl⟩ := List.getElem_of_mem hf
      exact h q hq (by omega) e)
  have HN := Lib.hid hn
  have HI := Lib.hid h1
  clear hR hn hn1 hn2 hnc hnr hnp hnl hnh hxn h1
  go_enter Tryd.func15, Tryd.ntmps15
  by_cases hs : xn = s
  · subst hs
    have HF := Lib.hid (H0.out rfl)
    go_wp2_with fail
    go_ret
    exact ⟨ret_bool HF.out.symm, (Chg.refl _ _).alloc _⟩
  · have HS := Lib.hid hs
    obtain ⟨e0, e1⟩ := face.str_ne hs
    clear hs H0
    go_wp2_with fail
    go_loopw [15] (fun i wr => ∃ k : Nat, k ≤ n ∧ i = .int .i64 k ∧ Ext w wr ∧ Hid (∀ q (hq : q < xi.length), q < k → xi[q].modn ≠ s)) (fun i _ => n - (intOf i).toNat)
    case atStart => exact ⟨0, Nat.zero_le _, rfl, (Chg.refl _ _).alloc _, fun q _ h => absurd h (Nat.not_lt_zero _)⟩
    case round =>
      obtain ⟨k, hk, rfl, hE, hr⟩ := hrel
      by_cases hlt : k < n
      · have hkl : k < xi.length := by rw [HN.out]; exact hlt
        obtain ⟨b, o, rfl, hb, hc⟩ := HI.out k hkl
        obtain ⟨ya, ym, yc, yd, l0, l1, l2, -⟩ := FaceIn.ext hE hb hc
        have HNX := Lib.hid (any_no hkl hr.out)
        have HYX := Lib.hid (HY.out k hkl)
        clear hc hr
        generalize xi[k] = y at *
        obtain ⟨yn, yv, yp⟩ := y
        simp only at l0 l1 l2 HNX HYX
        by_cases hs : yn = s
        · subst hs
          have HF := Lib.hid (HYX.out rfl)
          go_wp2_with fail
          go_ret
          exact ⟨ret_bool HF.out.symm, hE.alloc _⟩
        · obtain ⟨e2, e3⟩ := face.str_ne hs
          have HX := Lib.hid (HNX.out hs)
          clear hs
          go_wp2_with fail
          go_roundw
          case rel => exact ⟨k + 1, by omega, by go_num, hE.alloc _, HX.out⟩
          case measure => simp [intOf]; omega
      · obtain rfl : k = n := by omega
        have HF := Lib.hid (HNO.out HS.out hr.out)
        clear hr
        go_wp2_with fail
        go_ret
        exact ⟨ret_bool HF.out.symm, hE⟩
end linkw
end Go.Proofs.YtpcihajmcejliabDoor
namespace Go.Proofs.YtpcihajmcejliabDoor
open Go.RowKit Go.WideMaps Go.Maps
/-- the first of a list of names that is one -/
def modF : List ByteArray → ByteArray → Option Nat
  | [], _ => none
  | x :: r, s => if x = s then some 0 else (modF r s).map (· + 1)
namespace linkw
open face
theorem modF_snoc (L : List ByteArray) (x s : ByteArray) : modF (L ++ [x]) s = (modF L s).or (if x = s then some L.length else none) := by
  induction L with
  | nil => simp [modF]
  | cons y r ih =>
    simp only [List.cons_append, modF, List.length_cons]
    by_cases h : y = s
    · simp [h]
    · simp only [h, if_false, ih]
      cases modF r s <;> simp
theorem modF_some {L : List ByteArray} {s : ByteArray} {i : Nat} (h : modF L s = some i) : ∃ hi : i < L.length, L[i] = s := by
  induction L generalizing i with
  | nil => simp [modF] at h
  | cons y r ih =>
    simp only [modF] at h
    by_cases hy : y = s
    · rw [if_pos hy] at h
      obtain rfl := Option.some.inj h
      exact ⟨by simp, hy⟩
    · rw [if_neg hy] at h
      cases hm : modF r s with
      | none => rw [hm] at h; cases h
      | some j =>
        rw [hm] at h
        obtain rfl := Option.some.inj h
        obtain ⟨hj, e⟩ := ih hm
        exact ⟨by simpa using hj, by simpa using e⟩
theorem modF_none {L : List ByteArray} {s : ByteArray} : modF L s = none ↔ s ∉ L := by
  induction L with
  | nil => simp [modF]
  | cons y r ih =>
    simp only [modF]
    by_cases hy : y = s
    · simp [hy]
    · rw [if_neg hy]
      simp [ih, Ne.symm hy]
/-- the map of numbers holds the places of the names -/
def NumMap (w : World) (b : Nat) (L : List ByteArray) : Prop :=
  ∃ (D : DataW Unit), w.ownsMap Tryd.prog 9 (plainElem Tryd.prog 3) b L.length D ∧
    ∀ s : ByteArray, has D (.string s.data.toList) = (modF L s).isSome ∧ ∀ c : Int, D.atKey (.string s.data.toList) (.lit (.int .i64 0)) = .lit (.int .i64 c) → c = ((modF L s).getD 0 : Nat)
theorem NumMap.kept {w w' : World} {b : Nat} {L : List ByteArray} (h : NumMap w b L) (hE : Ext w w') : NumMap w' b L := by
  obtain ⟨D, h1, h2⟩ := h
  exact ⟨D, h1.kept (ext_grown hE) (by simp), h2⟩
theorem NumMap.drew {w : World} {b : Nat} {L : List ByteArray} (h : NumMap w b L) : NumMap w.drew b L := h
theorem NumMap.lt {w : World} {b : Nat} {L : List ByteArray} (h : NumMap w b L) : b < w.heap.size := by
  obtain ⟨D, h1, _⟩ := h; exact h1.lt
theorem NumMap.made (w : World) : NumMap (w.alloc (.map #[] 0)) w.heap.size [] := by
  refine ⟨.map [], World.ownsMap_made _ _ _ _, fun s => ⟨rfl, fun c h => ?_⟩⟩
  rw [WideAt.atKey_none _ (by simp)] at h
  simp at h
  simp [modF]; exact h.symm
/-- with a new name -/
theorem NumMap.put {w : World} {b : Nat} {L : List ByteArray} (h : NumMap w b L) {x : ByteArray} (hx : modF L x = none) (hs : x.size ≤ maxLen) (hl : L.length < maxLen) :
    ∃ w', (Instr.mapUpdate 48 (.map (some b)) (.string x) (.int .i64 L.length)).run Tryd.prog w = .ok () w' ∧ NumMap w' b (L ++ [x]) ∧ w.grownBy w' (some b) := by
  obtain ⟨D, hown, h2⟩ := h
  have hkey := keyOf_string_mk (P := Tryd.prog) (k := 9) Tryd.underlying9 hs
  have hwf : (Lit.int .i64 (L.length : Int)).wf = true := by
    have e : maxLen = 9223372036854775807 := rfl
    simp only [Lit.wf, Bool.and_eq_true, decide_eq_true_eq, show IntKind.i64.min = -9223372036854775808 from rfl, show IntKind.i64.max = 9223372036854775807 from rfl]; omega
  obtain ⟨w', hrun, hM, hg⟩ := hown.update (t := 48) keyLaw Tryd.underlying48 hl hkey (plainElem_int (P := Tryd.prog) (q := .i64) Tryd.underlying3 (a := (L.length : Int)) hwf)
  refine ⟨w', hrun, ⟨_, by rw [List.length_append]; exact hM, fun s => ?_⟩, hg⟩
  have hk : WideAt.IsKeyLit (.string x.data.toList) := by trivial
  rw [modF_snoc]
  by_cases e : x = s
  · subst e
    rw [has_put_same hown.isMap hk, hx]
    refine ⟨by simp, fun c hc => ?_⟩
    rw [atKey_put_same hown.isMap hk] at hc
    simp at hc ⊢
    exact hc.symm
  · have hne : (Lit.string s.data.toList) ≠ .string x.data.toList := by
      intro h
      exact e (ByteArray.ext (Array.ext' (by simpa using h.symm)))
    rw [has_put_other hne, (h2 s).1]
    refine ⟨by simp [e], fun c hc => ?_⟩
    rw [atKey_put_other hne] at hc
    rw [(h2 s).2 c hc]
    simp [e]
/-- looked up -/
theorem NumMap.look {w : World} {b : Nat} {L : List ByteArray} (h : NumMap w b L) (hz : (zeroValue 3).run Tryd.prog w = .ok (.int .i64 0) w) {s : ByteArray} (hs : s.size ≤ maxLen) :
    (Instr.lookup 48 (.map (some b)) (.string s) true).run Tryd.prog w = .ok (.tuple #[.int .i64 ((modF L s).getD 0 : Nat), .bool (modF L s).isSome]) w ∧
    (Instr.lookup 48 (.map (some b)) (.string s) false).run Tryd.prog w = .ok (.int .i64 ((modF L s).getD 0 : Nat)) w := by
  obtain ⟨D, hown, h2⟩ := h
  have hkey := keyOf_string_mk (P := Tryd.prog) (k := 9) Tryd.underlying9 hs
  obtain ⟨c, hrun, hat, -⟩ := hown.lookup_int (t := 48) keyLaw Tryd.underlying48 Tryd.underlying3 hz hkey
  obtain ⟨v, ps, hrun2, hv⟩ := hown.look_ok (t := 48) keyLaw Tryd.underlying48 hz (plainElem_int (P := Tryd.prog) (q := .i64) Tryd.underlying3 (a := 0) (by decide)) hkey
  obtain ⟨c2, rfl, hc2, -⟩ := plainElem_int_inv Tryd.underlying3 hv
  simp only [Prod.mk.injEq] at hc2
  rw [(h2 s).2 c hat] at hrun
  rw [(h2 s).2 c2 hc2.1, (h2 s).1] at hrun2
  exact ⟨hrun2, hrun⟩
end linkw
end Go.Proofs.YtpcihajmcejliabDoor
