/- The walk of chapter 11's reference: find, module, knows, Base. The walk of chapter 11's reference: knows, stands, Main. -/
import Derived.Test.YtpcihajmcejliabGreatDoorLinkDef
import Derived.IntWalk
namespace Go.Proofs.YtpcihajmcejliabGreatDoor
open Go.RowKit Go.WideMaps Go.Maps
def optI (o : Option Nat) : Int := match o with
  | none => -1
  | some i => (i : Int)
def modI (L : List ByteArray) (s : ByteArray) : Int := optI (modF L s)
theorem quiet_ext {P : Program} {f : FuncId} {args : Array Value} {v : Value} {w : World} {n : Nat} (c : ∀ W : World, Ext w W → Calls P f args W fun e w' => e = .returned v ∧ W = w') :
    Calls P f args (w.drewN n) fun e w'' => e = .returned v ∧ ∃ m, w'' = w.drewN m := (c _ ((Chg.refl _ _).drewN n)).mono fun _ _ ⟨he, hm⟩ => ⟨he, n, hm.symm⟩
/-- where something of an object begins -/
def rBase (l : List FObj) (q : Nat) (k : Int) : Int := if k = 3 then baseF FObj.low 0 l q else if k = 4 then baseF FObj.high 0 l q else baseF codeLen 4 l q
namespace rlink
open linkw face
theorem modI_drop {L : List ByteArray} {k : Nat} {s : ByteArray} (h : k < L.length) (hn : ∀ q (hq : q < L.length), q < k → L[q] ≠ s) (e : L[k] = s) : modF L s = some k := by
  induction L generalizing k with
  | nil => cases h
  | cons x r ih =>
    simp only [modF]
    cases k with
    | zero => exact if_pos e
    | succ k =>
      have hx : x ≠ s := hn 0 (by simp) (by omega)
      rw [if_neg hx, ih (by simpa using h) (fun q hq hk => by have := hn (q + 1) (by simpa using hq) (by omega); simpa using this) (by simpa using e)]
      rfl
theorem modI_no {L : List ByteArray} {s : ByteArray} (hn : ∀ q (hq : q < L.length), L[q] ≠ s) : modF L s = none := by
  rw [modF_none]
  intro h
  obtain ⟨q, hq, e⟩ := List.getElem_of_mem h
  exact hn q hq e
theorem no_step {L : List ByteArray} {k : Nat} {s : ByteArray} (hk : k < L.length) (h : ∀ q (hq : q < L.length), q < k → L[q] ≠ s) (hn : L[k] ≠ s) : ∀ q (hq : q < L.length), q < k + 1 → L[q] ≠ s := fun q hq h1 => by
  by_cases e : q = k
  · subst e; exact hn
  · exact h q hq (by omega)
set_option maxRecDepth 100000 in
set_option maxHeartbeats 2000000 in
theorem rfind_any (a : Option Addr) (l : List FPlc) (n cap : Nat) (s : ByteArray) (w : World) (hn : l.length = n) (hl : AllIn 2 PlcIn w a l) (hm : n ≤ 9223372036854775807) :
    Calls Tryz.prog 117 #[.slice a n cap, .string s] w fun e w' => e = .returned (.int .i64 ((findF l s).getD (-1))) ∧ w = w' := by
  obtain ⟨R, hR⟩ : ∃ R, findF l s = R := ⟨_, rfl⟩
  rw [hR]
  have HR := Lib.hid hR
  have HN := Lib.hid hn
  have HL := Lib.hid hl
  clear hR hn hl
  go_enter Tryz.func117, Tryz.ntmps117
  go_wp2_with fail
  go_loop [5] (fun i => ∃ k : Nat, k ≤ n ∧ i = .int .i64 k ∧ Hid (findF (l.drop k) s = R)) (fun i => n - (intOf i).toNat)
  case atStart => exact ⟨0, Nat.zero_le _, rfl, by unfold Hid; exact HR.out⟩
  case round =>
    obtain ⟨k, hk, rfl, hr⟩ := hrel
    by_cases hlt : k < n
    · have hkl : k < l.length := by rw [HN.out]; exact hlt
      obtain ⟨b, o, rfl, hb, hc⟩ := HL.out k hkl
      obtain ⟨c0, c1, -, hin⟩ := hc
      have HF := Lib.hid ((find_drop hkl).symm.trans hr.out)
      clear hr
      generalize l[k] = x at *
      obtain ⟨nm, at_⟩ := x
      simp only at c0 c1 hin
      by_cases hs : nm = s
      · subst hs
        have HF2 := Lib.hid (show R = some at_ by rw [← HF.out]; simp)
        go_wp2_with fail
        go_ret
        rw [HF2.out]
        exact ⟨rfl, rfl⟩
      · have HF2 := Lib.hid (show findF (l.drop (k + 1)) s = R by rw [← HF.out]; simp [hs])
        obtain ⟨h0, h1⟩ := face.str_ne hs
        clear hs HF
        go_wp2_with fail
        go_round
        case rel => exact ⟨k + 1, by omega, by go_num, HF2.out⟩
        case measure => simp [intOf]; omega
    · obtain rfl : k = n := by omega
      have HF2 := Lib.hid (show R = none by rw [← hr.out, List.drop_of_length_le (by rw [HN.out]; exact Nat.le_refl _)]; rfl)
      clear hr
      go_wp2_with fail
      go_ret
      rw [HF2.out]
      exact ⟨rfl, rfl⟩
set_option maxRecDepth 100000 in
set_option maxHeartbeats 2000000 in
theorem rmodule_any (a : Option Addr) (l : List FObj) (n cap : Nat) (s : ByteArray) (w : World) (hn : l.length = n) (hl : AllIn 13 ObjIn w a l) (hm : n ≤ 9223372036854775807) :
    Calls Tryz.prog 115 #[.slice a n cap, .string s] w fun e w' => e = .returned (.int .i64 (modI (modsF l) s)) ∧ w = w' := by
  obtain ⟨R, hR⟩ : ∃ R, modI (modsF l) s = R := ⟨_, rfl⟩
  rw [hR]
  have hml : (modsF l).length = n := by simpa [modsF] using hn
  have HY := Lib.hid (fun (k : Nat) (hk : k < (modsF l).length) (hno : ∀ q (hq : q < (modsF l).length), q < k → (modsF l)[q] ≠ s) (e : (modsF l)[k] = s) => show R = (k : Int) by
    rw [← hR]; unfold modI; rw [modI_drop hk hno e]; rfl)
  have HNO := Lib.hid (fun (hno : ∀ q (hq : q < (modsF l).length), q < n → (modsF l)[q] ≠ s) => show R = -1 by
    rw [← hR]; unfold modI; rw [modI_no (fun q hq => hno q hq (by omega))]; rfl)
  have HN := Lib.hid hn
  have HL := Lib.hid hl
  have HML := Lib.hid hml
  clear hR hn hl hml
  go_enter Tryz.func115, Tryz.ntmps115
  go_wp2_with fail
  go_loop [5] (fun i => ∃ k : Nat, k ≤ n ∧ i = .int .i64 k ∧ Hid (∀ q (hq : q < (modsF l).length), q < k → (modsF l)[q] ≠ s)) (fun i => n - (intOf i).toNat)
  case atStart => exact ⟨0, Nat.zero_le _, rfl, fun q _ h => absurd h (Nat.not_lt_zero _)⟩
  case round =>
    obtain ⟨k, hk, rfl, hr⟩ := hrel
    by_cases hlt : k < n
    · have hkl : k < l.length := by rw [HN.out]; exact hlt
      have hkm : k < (modsF l).length := by rw [HML.out]; exact hlt
      obtain ⟨b, o, rfl, hb, hc⟩ := HL.out k hkl
      obtain ⟨_, _, _, _, _, _, _, _, _, _, _, _, _, _, _, _, c0, -⟩ := hc
      have e0 : (modsF l)[k] = l[k].face.modn := by simp [modsF]
      have HS := Lib.hid (fun (h : l[k].face.modn ≠ s) => no_step hkm hr.out (by rw [e0]; exact h))
      have HE := Lib.hid (fun (h : l[k].face.modn = s) => HY.out k hkm hr.out (by rw [e0]; exact h))
      clear hr e0
      generalize l[k].face.modn = nm at *
      by_cases hs : nm = s
      · subst hs
        have HF2 := Lib.hid (HE.out rfl)
        go_wp2_with fail
        go_ret
        exact ⟨ret_int HF2.out.symm, rfl⟩
      · have HF2 := Lib.hid (HS.out hs)
        obtain ⟨h0, h1⟩ := face.str_ne hs
        clear hs
        go_wp2_with fail
        go_round
        case rel => exact ⟨k + 1, by omega, by go_num, HF2.out⟩
        case measure => simp [intOf]; omega
    · obtain rfl : k = n := by omega
      have HF2 := Lib.hid (HNO.out hr.out)
      clear hr
      go_wp2_with fail
      go_ret
      exact ⟨ret_int HF2.out.symm, rfl⟩
set_option maxRecDepth 100000 in
set_option maxHeartbeats 4000000 in
theorem rbase_any (a : Option Addr) (l : List FObj) (n cap q : Nat) (kind : Int) (w : World) (hn : l.length = n) (hl : AllIn 13 ObjIn w a l) (hq : q ≤ n) (h6 : n ≤ 6) (hk1 : 1 ≤ kind) (hk4 : kind ≤ 4) (hnum : ∀ x ∈ l, LnkNums x) :
    Calls Tryz.prog 45 #[.slice a n cap, .int .i64 q, .int .i64 kind] w fun e w' => e = .returned (.int .i64 (rBase l q kind)) ∧ w = w' := by
  obtain ⟨f, a0, hf, hfb, hf3, hf4, hfo⟩ : ∃ (f : FObj → Int) (a0 : Int), rBase l q kind = baseF f a0 l q ∧ (0 ≤ a0 ∧ a0 ≤ 4 ∧ ∀ x ∈ l, 0 ≤ f x ∧ f x ≤ 1048576) ∧ (kind = 3 → f = FObj.low ∧ a0 = 0) ∧ (kind = 4 → f = FObj.high ∧ a0 = 0) ∧ (¬kind = 3 → ¬kind = 4 → f = codeLen ∧ a0 = 4) := by
    unfold rBase
    by_cases h3 : kind = 3
    · exact ⟨FObj.low, 0, by rw [if_pos h3], ⟨by omega, by omega, fun x hx => by have := hnum x hx; unfold LnkNums at this; omega⟩, fun _ => ⟨rfl, rfl⟩, fun h => by omega, fun h => absurd h3 h⟩
    · by_cases h4 : kind = 4
      · exact ⟨FObj.high, 0, by rw [if_neg h3, if_pos h4], ⟨by omega, by omega, fun x hx => by have := hnum x hx; unfold LnkNums at this; omega⟩, fun h => by omega, fun _ => ⟨rfl, rfl⟩, fun _ h => absurd h4 h⟩
      · exact ⟨codeLen, 4, by rw [if_neg h3, if_neg h4], ⟨by omega, by omega, fun x hx => by have := hnum x hx; unfold LnkNums at this; unfold codeLen; omega⟩, fun h => absurd h h3, fun h => absurd h h4, fun _ _ => ⟨rfl, rfl⟩⟩
  rw [hf]
  have HN := Lib.hid hn
  have HL := Lib.hid hl
  have HFB := Lib.hid hfb
  have HF3 := Lib.hid hf3
  have HF4 := Lib.hid hf4
  have HFO := Lib.hid hfo
  have HA0 := Lib.hid (show a0 = baseF f a0 l 0 by simp [baseF])
  clear hn hl hf hfb hf3 hf4 hfo hnum
  go_enter Tryz.func45, Tryz.ntmps45
  have hk : kind = 1 ∨ kind = 2 ∨ kind = 3 ∨ kind = 4 := by omega
  rcases hk with rfl | rfl | rfl | rfl
  all_goals clear hk1 hk4
  all_goals have HKK := Lib.hid (And.intro HF3.out (And.intro HF4.out HFO.out))
  all_goals clear HF3 HF4 HFO
  all_goals go_wp2_with fail
  all_goals
    go_loop [7, 8] (fun c i => ∃ k : Nat, k ≤ q ∧ i = .int .i64 k ∧ c = .int .i64 (baseF f a0 l k)) (fun _ i => q - (intOf i).toNat)
    case atStart => exact ⟨0, Nat.zero_le _, rfl, by rw [← HA0.out]; first | rw [(HKK.out.1 (by decide)).2] | rw [(HKK.out.2.1 (by decide)).2] | rw [(HKK.out.2.2 (by decide) (by decide)).2]⟩
    case round =>
      obtain ⟨k, hk, rfl, rfl⟩ := hrel
      by_cases hlt : k < q
      · have hkl : k < l.length := by rw [HN.out]; omega
        obtain ⟨b, o, rfl, hb, hc⟩ := HL.out k hkl
        obtain ⟨_, _, _, _, _, _, _, _, _, _, _, _, _, _, _, _, -, -, -, -, c4, -, -, -, -, c9, c10, -⟩ := hc
        have hst := baseF_step f a0 hkl
        have hbd := baseF_le f a0 1048576 HFB.out.2.2 k (by omega)
        have hfx := HFB.out.2.2 _ (List.getElem_mem hkl)
        have ha := HFB.out.1
        have ha4 := HFB.out.2.1
        have HSTP := Lib.hid hst
        have hkn : k < n := by omega
        have e1 : (f = FObj.low → f l[k] = l[k].low) ∧ (f = FObj.high → f l[k] = l[k].high) ∧ (f = codeLen → f l[k] = (l[k].code.length : Int)) := ⟨fun h => by rw [h], fun h => by rw [h], fun h => by rw [h]; rfl⟩
        have HE1 := Lib.hid e1
        clear hst e1
        generalize l[k] = x at *
        obtain ⟨xf, xi, xc, xr, op, ol, oh, lo, hi, lf, hf⟩ := x
        simp only at c4 c9 c10 HE1
        generalize baseF f a0 l k = C at *
        have HV : Hid (f ⟨xf, xi, xc, xr, op, ol, oh, lo, hi, lf, hf⟩ = _) := Lib.hid (by first | exact HE1.out.1 (HKK.out.1 (by decide)).1 | exact HE1.out.2.1 (HKK.out.2.1 (by decide)).1 | exact HE1.out.2.2 (HKK.out.2.2 (by decide) (by decide)).1)
        rw [HV.out] at hfx
        go_wp2_with fail
        go_round
        case rel => exact ⟨k + 1, by omega, by go_num, by rw [HSTP.out, HV.out]⟩
        case measure => simp [intOf]; omega
      · obtain rfl : k = q := by omega
        go_wp2_with fail
        go_ret
        exact ⟨rfl, rfl⟩
end rlink
end Go.Proofs.YtpcihajmcejliabGreatDoor
namespace Go.Proofs.YtpcihajmcejliabGreatDoor
open Go.RowKit Go.WideMaps Go.Maps
/-- where a reloc's name stands -/
def standsF (l : List FObj) (r : FRel) : Int :=
  match modF (modsF l) r.modn with
  | none => -1
  | some g => match linkw.findF (relPick r.kind ((l[g]?).getD default).procs ((l[g]?).getD default).lows ((l[g]?).getD default).highs) r.name with
    | none => -1
    | some a => a + rBase l g r.kind
def rMainF (l : List FObj) : Int := match mainF l with
  | none => -1
  | some m => m.2 + baseF codeLen 4 l m.1
namespace rlink
open linkw face
set_option maxRecDepth 100000 in
set_option maxHeartbeats 4000000 in
theorem rknows_any (x : FObj) (v : Value) (s : ByteArray) (w : World) (hx : ObjAt w x v) (hm : x.imports.length ≤ 1048576) :
    Calls Tryz.prog 116 #[v, .string s] w fun e w' => e = .returned (.bool (knowsF x s)) ∧ Ext w w' := by
  obtain ⟨fa, am, fc, cm, ia, ic, ca, cc, ra, rc, pa, pc, la, lc, ha, hc, rfl, hF0, h1, -⟩ := hx.ex
  clear hx hF0
  obtain ⟨xf, xi, xc, xr, op, ol, oh, lo, hi, lf, hf⟩ := x
  simp only at *
  obtain ⟨n, hn⟩ : ∃ n, xi.length = n := ⟨_, rfl⟩
  obtain ⟨n1, hn1⟩ : ∃ n, xf.vars.length = n := ⟨_, rfl⟩
  obtain ⟨n2, hn2⟩ : ∃ n, xf.procs.length = n := ⟨_, rfl⟩
  obtain ⟨nc, hnc⟩ : ∃ n, xc.length = n := ⟨_, rfl⟩
  obtain ⟨nr, hnr⟩ : ∃ n, xr.length = n := ⟨_, rfl⟩
  obtain ⟨np, hnp⟩ : ∃ n, op.length = n := ⟨_, rfl⟩
  obtain ⟨nl, hnl⟩ : ∃ n, ol.length = n := ⟨_, rfl⟩
  obtain ⟨nh, hnh⟩ : ∃ n, oh.length = n := ⟨_, rfl⟩
  obtain ⟨xn, hxn⟩ : ∃ n, xf.modn = n := ⟨_, rfl⟩
  rw [hn] at hm
  obtain ⟨R, hR⟩ : ∃ R, knowsF ⟨xf, xi, xc, xr, op, ol, oh, lo, hi, lf, hf⟩ s = R := ⟨_, rfl⟩
  rw [hR]
  rw [hn, hn1, hn2, hnc, hnr, hnp, hnl, hnh, hxn]
  have H0 := Lib.hid (fun h : xn = s => show R = true by rw [← hR]; simp [knowsF, hxn, h])
  have HY := Lib.hid (fun k (hk : k < xi.length) (h : xi[k].modn = s) => show R = true by
    rw [← hR]; simp only [knowsF, Bool.or_eq_true, List.any_eq_true, decide_eq_true_eq]; exact .inr ⟨_, List.getElem_mem hk, h⟩)
  have HNO := Lib.hid (fun (h0 : xn ≠ s) (h : ∀ q (hq : q < xi.length), q < n → xi[q].modn ≠ s) => show R = false by
    rw [← hR, Bool.eq_false_iff]; intro hc
    simp only [knowsF, Bool.or_eq_true, List.any_eq_true, decide_eq_true_eq] at hc
    rcases hc with hc | ⟨f, hf, e⟩
    · exact h0 (hxn.symm.trans hc)
    · obtain ⟨q, hq, rfl⟩ := List.getElem_of_mem hf
      exact h q hq (by omega) e)
  have HN := Lib.hid hn
  have HI := Lib.hid h1
  clear hR hn hn1 hn2 hnc hnr hnp hnl hnh hxn h1
  have KB := Blk.made w #[.string xn, .slice fa n1 am, .slice fc n2 cm, .slice ia n ic, .slice ca nc cc, .slice ra nr rc, .slice pa np pc, .slice la nl lc, .slice ha nh hc, .int .i64 lo, .int .i64 hi, .int .i64 lf, .int .i64 hf] 57
  have hE0 := (Chg.refl (fun _ => False) w).alloc (.cells #[.string xn, .slice fa n1 am, .slice fc n2 cm, .slice ia n ic, .slice ca nc cc, .slice ra nr rc, .slice pa np pc, .slice la nl lc, .slice ha nh hc, .int .i64 lo, .int .i64 hi, .int .i64 lf, .int .i64 hf] 57)
  go_enter Tryz.func116, Tryz.ntmps116
  by_cases hs : xn = s
  · subst hs
    have HF := Lib.hid (H0.out rfl)
    go_wp2_with fail
    go_ret
    exact ⟨ret_bool HF.out.symm, hE0⟩
  · have HS := Lib.hid hs
    obtain ⟨e0, e1⟩ := face.str_ne hs
    clear hs H0
    go_wp2_with fail
    generalize w.alloc (.cells #[.string xn, .slice fa n1 am, .slice fc n2 cm, .slice ia n ic, .slice ca nc cc, .slice ra nr rc, .slice pa np pc, .slice la nl lc, .slice ha nh hc, .int .i64 lo, .int .i64 hi, .int .i64 lf, .int .i64 hf] 57) = w1 at *
    obtain ⟨ko, hko⟩ : ∃ q, w.heap.size = q := ⟨_, rfl⟩
    rw [hko] at KB ⊢
    have hKc := KB.cell
    go_loop [5] (fun i => ∃ k : Nat, k ≤ n ∧ i = .int .i64 k ∧ Hid (∀ q (hq : q < xi.length), q < k → xi[q].modn ≠ s)) (fun i => n - (intOf i).toNat)
    case atStart => exact ⟨0, Nat.zero_le _, rfl, fun q _ h => absurd h (Nat.not_lt_zero _)⟩
    case round =>
      obtain ⟨k, hk, rfl, hr⟩ := hrel
      by_cases hlt : k < n
      · have hkl : k < xi.length := by rw [HN.out]; exact hlt
        obtain ⟨b, o, rfl, hb, hc⟩ := HI.out k hkl
        obtain ⟨ya, ym, yc, yd, l0, l1, l2, -⟩ := FaceIn.ext hE0 hb hc
        have HNX := Lib.hid (any_no hkl hr.out)
        have HYX := Lib.hid (HY.out k hkl)
        clear hc hr
        generalize xi[k] = y at *
        obtain ⟨yn, yv, yp⟩ := y
        simp only at l0 l1 l2 HNX HYX
        by_cases hs : yn = s
        · subst hs
          have HF := Lib.hid (HYX.out rfl)
          go_wp2_with fail
          go_ret
          exact ⟨ret_bool HF.out.symm, hE0⟩
        · obtain ⟨e2, e3⟩ := face.str_ne hs
          have HX := Lib.hid (HNX.out hs)
          clear hs
          go_wp2_with fail
          go_round
          case rel => exact ⟨k + 1, by omega, by go_num, HX.out⟩
          case measure => simp [intOf]; omega
      · obtain rfl : k = n := by omega
        have HF := Lib.hid (HNO.out HS.out hr.out)
        clear hr
        go_wp2_with fail
        go_ret
        exact ⟨ret_bool HF.out.symm, hE0⟩
theorem rBase_le {l : List FObj} (hnum : ∀ x ∈ l, LnkNums x) {q : Nat} (h : q ≤ l.length) (h6 : q ≤ 6) (k : Int) : 0 ≤ rBase l q k ∧ rBase l q k ≤ 10000000 := by
  unfold rBase
  split
  · have := baseF_le FObj.low 0 1000000 (fun x hx => ⟨(hnum x hx).2.1, (hnum x hx).2.2.1⟩) q h; omega
  · split
    · have := baseF_le FObj.high 0 1000000 (fun x hx => ⟨(hnum x hx).2.2.2.1, (hnum x hx).2.2.2.2.1⟩) q h; omega
    · have := baseF_le codeLen 4 1048576 (fun x hx => ⟨by unfold codeLen; omega, by unfold codeLen; have := (hnum x hx).1; omega⟩) q h; omega
set_option maxRecDepth 100000 in
set_option maxHeartbeats 8000000 in
theorem rstands_any (a : Option Addr) (l : List FObj) (n cap : Nat) (r : FRel) (w : World) (hn : l.length = n) (hl : AllIn 13 ObjIn w a l) (h6 : n ≤ 6) (hk1 : 1 ≤ r.kind) (hk4 : r.kind ≤ 4) (hnum : ∀ x ∈ l, LnkNums x) (hps : ∀ x ∈ l, PlcOk x.procs ∧ PlcOk x.lows ∧ PlcOk x.highs) :
    Calls Tryz.prog 47 #[.slice a n cap, .agg #[.int .i64 r.at_, .int .i64 r.kind, .string r.modn, .string r.name]] w fun e w' => e = .returned (.int .i64 (standsF l r)) ∧ Ext w w' := by
  obtain ⟨T, hT⟩ : ∃ T, standsF l r = T := ⟨_, rfl⟩
  rw [hT]
  have HMOD := Lib.hid (fun (u : World) (hE : Ext w u) => rmodule_any a l n cap r.modn u hn (hl.mono hE.size fun _ _ _ hb h => ObjIn.ext hE hb h) (by omega))
  have HBASE := Lib.hid (fun (u : World) (q : Nat) (hq : q ≤ n) (hE : Ext w u) => rbase_any a l n cap q r.kind u hn (hl.mono hE.size fun _ _ _ hb h => ObjIn.ext hE hb h) hq h6 hk1 hk4 hnum)
  have HT := Lib.hid hT
  have HN := Lib.hid hn
  have HL := Lib.hid hl
  have HNUM := Lib.hid hnum
  have HPS := Lib.hid hps
  clear hT hn hl hnum hps
  obtain ⟨at_, rk, rm, rn⟩ := r
  simp only at hk1 hk4 HMOD HBASE
  have KR := Blk.made w #[.int .i64 at_, .int .i64 rk, .string rm, .string rn] 100
  have hE0 := (Chg.refl (fun _ => False) w).alloc (.cells #[.int .i64 at_, .int .i64 rk, .string rm, .string rn] 100)
  go_enter Tryz.func47, Tryz.ntmps47
  go_wp2_with fail
  generalize w.alloc (.cells #[.int .i64 at_, .int .i64 rk, .string rm, .string rn] 100) = w1 at *
  obtain ⟨kr, hkr⟩ : ∃ q, w.heap.size = q := ⟨_, rfl⟩
  rw [hkr] at KR ⊢
  have hRc := KR.cell
  refine (HMOD.out w1 hE0).mono ?_
  rintro e w2 ⟨rfl, rfl⟩
  obtain ⟨G, hG⟩ : ∃ G, modF (modsF l) rm = G := ⟨_, rfl⟩
  have HG := Lib.hid hG
  have hmi : modI (modsF l) rm = optI G := by unfold modI; rw [hG]
  rw [hmi]
  clear hG hmi
  cases G with
  | none =>
    have HF := Lib.hid (show T = -1 by rw [← HT.out]; unfold standsF; simp only [HG.out])
    rw [show optI none = -1 from rfl]
    go_wp2_with fail
    go_ret
    exact ⟨ret_int HF.out.symm, hE0⟩
  | some g =>
    rw [show optI (some g) = (g : Int) from rfl]
    obtain ⟨hg, -⟩ := modF_some HG.out
    have hgl : g < l.length := by simpa [modsF] using hg
    have hgn : g < n := by rw [← HN.out]; exact hgl
    have hST := Lib.hid (show T = (match findF (relPick rk l[g].procs l[g].lows l[g].highs) rn with | none => -1 | some a => a + rBase l g rk) by
      rw [← HT.out]; unfold standsF; simp only [HG.out, List.getElem?_eq_getElem hgl, Option.getD_some])
    have hrb := rBase_le HNUM.out (q := g) (by omega) (by omega) rk
    obtain ⟨bz, oz, rfl, hbz, hcz⟩ := HL.out g hgl
    obtain ⟨fa, am, fc, cm, ia, ic, ca, cc, ra, rc, pa, pc, la, lc, ha, hcp, -, -, -, -, -, -, h6_, h7, h8, -, -, -, -, HO⟩ := ObjIn.ext hE0 hbz hcz
    have hbz2 := Nat.lt_of_lt_of_le hbz hE0.size
    have HP := Lib.hid HO.rows.2.2.2.2
    have HPX := Lib.hid (HPS.out _ (List.getElem_mem hgl))
    clear HO hcz hg
    generalize l[g] = z at *
    obtain ⟨xf, xi, xc, xr, op, ol, oh, lo, hi, lf, hf⟩ := z
    simp only at h6_ h7 h8 hST HP HPX
    obtain ⟨RB, hRB⟩ : ∃ q, rBase l g rk = q := ⟨_, rfl⟩
    rw [hRB] at hST hrb
    have HRB := Lib.hid hRB
    clear hRB
    by_cases hk3 : rk = 3
    · subst hk3
      simp only [relPick, if_true] at hST
      have hln : ol.length ≤ 9223372036854775807 := by have := HPX.out.2.1.1; omega
      have hfl := found_le HPX.out.2.1 rn
      go_wp2_with fail
      go_quiet ((exact quiet_ext fun W hE => rfind_any la ol _ lc rn W rfl (obj.plc_all HP.out.2.1 hE) hln))
      obtain ⟨F, hF⟩ : ∃ F, findF ol rn = F := ⟨_, rfl⟩
      rw [hF] at hfl hST ⊢
      clear hF hRc
      have hE1 := hE0.drewN nq
      have KR1 := KR.drewN nq
      clear hE0 KR
      generalize w1.drewN nq = w3 at *
      have hRc := KR1.cell
      cases F with
      | none =>
        simp only [Option.getD_none]
        go_wp2_with fail
        go_ret
        exact ⟨ret_int hST.out.symm, hE1⟩
      | some at2 =>
        simp only [Option.getD_some] at hfl ⊢
        go_wp2_with fail
        refine (HBASE.out w3 g (by omega) hE1).mono ?_
        rintro e w4 ⟨rfl, rfl⟩
        rw [HRB.out]
        go_wp2_with fail
        go_ret
        exact ⟨ret_int hST.out.symm, hE1⟩
    · by_cases hk4' : rk = 4
      · subst hk4'
        simp only [relPick, if_neg hk3, if_true] at hST
        have hln : oh.length ≤ 9223372036854775807 := by have := HPX.out.2.2.1; omega
        have hfl := found_le HPX.out.2.2 rn
        go_wp2_with fail
        go_quiet ((exact quiet_ext fun W hE => rfind_any ha oh _ hcp rn W rfl (obj.plc_all HP.out.2.2 hE) hln))
        obtain ⟨F, hF⟩ : ∃ F, findF oh rn = F := ⟨_, rfl⟩
        rw [hF] at hfl hST ⊢
        clear hF hRc
        have hE1 := hE0.drewN nq
        have KR1 := KR.drewN nq
        clear hE0 KR
        generalize w1.drewN nq = w3 at *
        have hRc := KR1.cell
        cases F with
        | none =>
          simp only [Option.getD_none]
          go_wp2_with fail
          go_ret
          exact ⟨ret_int hST.out.symm, hE1⟩
        | some at2 =>
          simp only [Option.getD_some] at hfl ⊢
          go_wp2_with fail
          refine (HBASE.out w3 g (by omega) hE1).mono ?_
          rintro e w4 ⟨rfl, rfl⟩
          rw [HRB.out]
          go_wp2_with fail
          go_ret
          exact ⟨ret_int hST.out.symm, hE1⟩
      · simp only [relPick, if_neg hk3, if_neg hk4'] at hST
        have hln : op.length ≤ 9223372036854775807 := by have := HPX.out.1.1; omega
        have hfl := found_le HPX.out.1 rn
        go_wp2_with fail
        go_quiet ((exact quiet_ext fun W hE => rfind_any pa op _ pc rn W rfl (obj.plc_all HP.out.1 hE) hln))
        obtain ⟨F, hF⟩ : ∃ F, findF op rn = F := ⟨_, rfl⟩
        rw [hF] at hfl hST ⊢
        clear hF hRc
        have hE1 := hE0.drewN nq
        have KR1 := KR.drewN nq
        clear hE0 KR
        generalize w1.drewN nq = w3 at *
        have hRc := KR1.cell
        cases F with
        | none =>
          simp only [Option.getD_none]
          go_wp2_with fail
          go_ret
          exact ⟨ret_int hST.out.symm, hE1⟩
        | some at2 =>
          simp only [Option.getD_some] at hfl ⊢
          go_wp2_with fail
          refine (HBASE.out w3 g (by omega) hE1).mono ?_
          rintro e w4 ⟨rfl, rfl⟩
          rw [HRB.out]
          go_wp2_with fail
          go_ret
          exact ⟨ret_int hST.out.symm, hE1⟩
set_option maxRecDepth 100000 in
set_option maxHeartbeats 8000000 in
theorem rmain_any (a : Option Addr) (l : List FObj) (n cap : Nat) (w : World) (hn : l.length = n) (hl : AllIn 13 ObjIn w a l) (h6 : n ≤ 6) (hnum : ∀ x ∈ l, LnkNums x) (hsm : ∀ x ∈ l, ObjSmall x) (hps : ∀ x ∈ l, PlcOk x.procs ∧ PlcOk x.lows ∧ PlcOk x.highs) :
    Calls Tryz.prog 46 #[.slice a n cap] w fun e w' => e = .returned (.int .i64 (rMainF l)) ∧ Ext w w' := by
  obtain ⟨T, hT⟩ : ∃ T, rMainF l = T := ⟨_, rfl⟩
  rw [hT]
  have HMOD := Lib.hid (rmodule_any a l n cap ⟨#[109, 97, 105, 110]⟩ w hn hl (by omega))
  have HBASE := Lib.hid (fun (u : World) (q : Nat) (hq : q ≤ n) (hE : Ext w u) => rbase_any a l n cap q 2 u hn (hl.mono hE.size fun _ _ _ hb h => ObjIn.ext hE hb h) hq h6 (by decide) (by decide) hnum)
  have HT := Lib.hid hT
  have HN := Lib.hid hn
  have HL := Lib.hid hl
  have HNUM := Lib.hid hnum
  have HPS := Lib.hid hps
  have HSM := Lib.hid hsm
  clear hT hn hl hnum hps hsm
  go_enter Tryz.func46, Tryz.ntmps46
  go_wp2_with fail
  refine HMOD.out.mono ?_
  rintro e w2 ⟨rfl, rfl⟩
  obtain ⟨G, hG⟩ : ∃ G, modF (modsF l) ⟨#[109, 97, 105, 110]⟩ = G := ⟨_, rfl⟩
  have HG := Lib.hid hG
  have hmi : modI (modsF l) ⟨#[109, 97, 105, 110]⟩ = optI G := by unfold modI; rw [hG]
  rw [hmi]
  clear hG hmi
  cases G with
  | none =>
    rw [show optI none = -1 from rfl]
    have HF := Lib.hid (show T = -1 by rw [← HT.out]; unfold rMainF mainF mainN; rw [HG.out])
    go_wp2_with fail
    go_ret
    exact ⟨ret_int HF.out.symm, Chg.refl _ _⟩
  | some g =>
    rw [show optI (some g) = (g : Int) from rfl]
    obtain ⟨hg, -⟩ := modF_some HG.out
    have hgl : g < l.length := by simpa [modsF] using hg
    have hgn : g < n := by rw [← HN.out]; exact hgl
    have hST := Lib.hid (show mainF l = (match findF l[g].procs mainN with | none => none | some a => if l[g].face.procs.any mainPB then some (g, a) else none) by
      unfold mainF; rw [show modF (modsF l) mainN = some g from HG.out]; simp only [List.getElem?_eq_getElem hgl, Option.getD_some]; cases findF l[g].procs mainN <;> rfl)
    have hrb := rBase_le HNUM.out (q := g) (by omega) (by omega) 2
    obtain ⟨bz, oz, rfl, hbz, hcz⟩ := HL.out g hgl
    obtain ⟨fa, am, fc, cm, ia, ic, ca, cc, ra, rc, pa, pc, la, lc, ha, hcp, h0, h1, h2, h3, h4, h5, h6_, h7, h8, h9, h10, h11, h12, HO⟩ := hcz
    have HP := Lib.hid HO.rows.2.2.2.2.1
    have HPI := Lib.hid (allIn_of HO.rows.1 (Chg.refl _ _))
    have HPX := Lib.hid (HPS.out _ (List.getElem_mem hgl)).1
    have hxp := (HSM.out _ (List.getElem_mem hgl)).faces _ (List.mem_cons_self ..)
    clear HO hg h0 h1 h3 h4 h5 h7 h8 h9 h10 h11 h12
    generalize l[g] = z at *
    obtain ⟨xf, xi, xc, xr, op, ol, oh, lo, hi, lf, hf⟩ := z
    obtain ⟨xn, xv, xp⟩ := xf
    simp only at h2 h6_ hST HP HPX HPI hxp
    obtain ⟨RB, hRB⟩ : ∃ q, rBase l g 2 = q := ⟨_, rfl⟩
    have HRB := Lib.hid hRB
    have HRB2 := Lib.hid (show baseF codeLen 4 l g = RB by rw [← hRB]; rfl)
    rw [hRB] at hrb
    clear hRB
    obtain ⟨m, hm'⟩ : ∃ m, xp.length = m := ⟨_, rfl⟩
    have HMM := Lib.hid hm'
    rw [hm'] at hxp h2
    obtain ⟨R, hRR⟩ : ∃ R, xp.any mainPB = R := ⟨_, rfl⟩
    have HRR := Lib.hid hRR
    clear hm' hRR
    have hbw := hbz
    go_wp2_with fail
    obtain ⟨wz, hwz⟩ : ∃ q, q = w := ⟨_, rfl⟩
    have HE0 := Lib.hid (show Ext w wz by rw [hwz]; exact Chg.refl _ _)
    rw [← hwz]
    have h2' : wz.cell? ⟨bz, oz + g * 13 + 2, none⟩ = some (.slice fc m cm) := by rw [hwz]; exact h2
    go_loopw [4] (fun i wr => ∃ (q : Nat), q ≤ m ∧ i = .int .i64 q ∧ Ext w wr ∧ Hid ((false || (xp.drop q).any mainPB) = R)) (fun i _ => m - (intOf i).toNat)
    case atStart => exact ⟨0, Nat.zero_le _, rfl, HE0.out, HRR.out⟩
    case round =>
      obtain ⟨q, hq, rfl, hE7, hr⟩ := hrel
      have e2 := (hE7.cell (p := ⟨bz, oz + g * 13 + 2, none⟩) hbz id).trans h2
      have e6 := (hE7.cell (p := ⟨bz, oz + g * 13 + 6, none⟩) hbz id).trans h6_
      have hbz7 := Nat.lt_of_lt_of_le hbz hE7.size
      clear hwz
      by_cases hlt : q < m
      · have hqx : q < xp.length := by rw [HMM.out]; exact hlt
        obtain ⟨bp, bo, rfl, hbp, hcp2⟩ := HPI.out q hqx
        obtain ⟨p0, p1, ⟨pa2, pc2, p2, -⟩, p3, p4, p5, hpn⟩ := ProcIn.ext hE7 hbp hcp2
        have HT2 := Lib.hid (main_drop hqx hr.out)
        clear hr hcp2
        generalize xp[q] = p at *
        obtain ⟨pn, pp, ps, pw, pg, pv⟩ := p
        simp only at p0 p1 p2 p3 p4 p5 hpn
        by_cases t1 : pn.toList = [109, 97, 105, 110]
        · by_cases t2 : ps = []
          · by_cases t3 : pw = 0
            · cases pg
              · have HRT := Lib.hid (show R = true by have h := HT2.out; rw [show mainPB ⟨pn, pp, ps, pw, false, pv⟩ = true from by have := mp4 (n := pn) (b := pp) (g := false) (ps := ps) (w := pw) (v := pv) t1 t2 t3; simpa using this.symm] at h; simpa using h.symm)
                have hln : op.length ≤ 9223372036854775807 := by have := HPX.out.1; omega
                have hfl := found_le HPX.out ⟨#[109, 97, 105, 110]⟩
                have hE8 := hE7.alloc (.cells #[.string pn, .bool pp, .slice pa2 ps.length pc2, .int .i64 pw, .bool false, .int .i64 pv] 179)
                subst t2
                subst t3
                go_wp2_with fail
                refine (rfind_any pa op _ pc ⟨#[109, 97, 105, 110]⟩ _ rfl (obj.plc_all HP.out hE8) hln).mono ?_
                rintro e w4 ⟨rfl, rfl⟩
                obtain ⟨F, hF⟩ : ∃ F, findF op ⟨#[109, 97, 105, 110]⟩ = F := ⟨_, rfl⟩
                rw [hF] at hfl ⊢
                have HF := Lib.hid (show findF op mainN = F from hF)
                clear hF
                cases F with
                | none =>
                  have HX := Lib.hid (show T = -1 by rw [← HT.out]; unfold rMainF; rw [hST.out, HF.out])
                  simp only [Option.getD_none]
                  go_wp2_with fail
                  go_ret
                  exact ⟨ret_int HX.out.symm, hE8⟩
                | some at2 =>
                  have HX := Lib.hid (show T = at2 + RB by rw [← HT.out]; unfold rMainF; rw [hST.out, HF.out, HRR.out, HRT.out]; simp only [if_true]; rw [HRB2.out])
                  simp only [Option.getD_some] at hfl ⊢
                  go_wp2_with fail
                  refine (HBASE.out _ g (by omega) hE8).mono ?_
                  rintro e w4 ⟨rfl, rfl⟩
                  rw [HRB.out]
                  go_wp2_with fail
                  go_ret
                  exact ⟨ret_int HX.out.symm, hE8⟩
              · have HX := Lib.hid (show (false || (xp.drop (q + 1)).any mainPB) = R by have h := HT2.out; rw [show mainPB ⟨pn, pp, ps, pw, true, pv⟩ = false from by have := mp4 (n := pn) (b := pp) (g := true) (ps := ps) (w := pw) (v := pv) t1 t2 t3; simpa using this.symm] at h; simpa using h)
                clear HT2
                go_wp2_with fail
                go_roundw
                case rel => exact ⟨q + 1, by omega, by go_num, hE7.alloc _, HX.out⟩
                case measure => simp [intOf]; omega
            · have HX := Lib.hid (show (false || (xp.drop (q + 1)).any mainPB) = R by have h := HT2.out; rw [show mainPB ⟨pn, pp, ps, pw, pg, pv⟩ = false from by have := mp3 (n := pn) (b := pp) (g := pg) (ps := ps) (w := pw) (v := pv) t3; simpa using this.symm] at h; simpa using h)
              clear HT2
              go_wp2_with fail
              go_roundw
              case rel => exact ⟨q + 1, by omega, by go_num, hE7.alloc _, HX.out⟩
              case measure => simp [intOf]; omega
          · have HX := Lib.hid (show (false || (xp.drop (q + 1)).any mainPB) = R by have h := HT2.out; rw [show mainPB ⟨pn, pp, ps, pw, pg, pv⟩ = false from by have := mp2 (n := pn) (b := pp) (g := pg) (ps := ps) (w := pw) (v := pv) t2; simpa using this.symm] at h; simpa using h)
            clear HT2
            go_wp2_with fail
            go_roundw
            case rel => exact ⟨q + 1, by omega, by go_num, hE7.alloc _, HX.out⟩
            case measure => simp [intOf]; omega
        · have HX := Lib.hid (show (false || (xp.drop (q + 1)).any mainPB) = R by have h := HT2.out; rw [show mainPB ⟨pn, pp, ps, pw, pg, pv⟩ = false from by have := mp1 (n := pn) (b := pp) (g := pg) (ps := ps) (w := pw) (v := pv) t1; simpa using this.symm] at h; simpa using h)
          clear HT2
          go_wp2_with fail
          go_roundw
          case rel => exact ⟨q + 1, by omega, by go_num, hE7.alloc _, HX.out⟩
          case measure => simp [intOf]; omega
      · obtain rfl : q = m := by omega
        have HRF : R = false := by have := hr.out; rw [List.drop_of_length_le (by rw [HMM.out]; exact Nat.le_refl _)] at this; exact this.symm
        have HF := Lib.hid (show T = -1 by
          rw [← HT.out]; unfold rMainF; rw [hST.out, HRR.out, HRF]
          split
          · rfl
          · rename_i h; split at h <;> simp at h)
        clear hr HRF
        go_wp2_with fail
        go_ret
        exact ⟨ret_int HF.out.symm, hE7⟩
end rlink
end Go.Proofs.YtpcihajmcejliabGreatDoor
