/- The walk of chapter 11's reference: wrong. -/
import Derived.Test.YtpcihajmcejliabGreatDoorRLinkP
import Derived.Test.YtpcihajmcejliabGreatDoorObjRMayA
import Derived.Test.YtpcihajmcejliabGreatDoorFaceR
import Derived.Deep.RegionHeld3
namespace Go.Proofs.YtpcihajmcejliabGreatDoor
open Go.RowKit Go.WideMaps Go.Maps
/-- K1: the first thing that is wrong, ahead of the image -/
def wrongF (l : List FObj) : Option (Nat × Int × Int) :=
  if 1 ≤ l.length ∧ l.length ≤ 6 then (formsF [] l).or ((impF l 0 l).or ((relF l 0 l).or (if (mainF l).isNone then some (0, 4, 0) else none))) else some (0, 1, 0)
def trV : Option (Nat × Int × Int) → Array Value
  | none => #[.int .i64 0, .int .i64 0, .int .i64 0]
  | some (m, c, k) => #[.int .i64 m, .int .i64 c, .int .i64 k]
def WrPost (w : World) (T : Option (Nat × Int × Int)) (e : Ending) (w' : World) : Prop := e = .returned (.agg (trV T)) ∧ Ext w w'
namespace rlink
open linkw face
theorem ends_one {P : Program} {fn : Func} {p : Tmp} {ty : TypeId} {Q : Ending → World → Prop} {a : Act} {w : World} {A : Nat} {T : TypeId} {cs : Array Value} {d : TypeDesc} (h : fn.results = #[.cell p ty]) (hd : a.defers = []) (hp : a.tmps[p]?.getD undef = .pointer (some ⟨A, 0, none⟩)) (hA : Blk w A cs T)
    (hu : P.underlying ty = some d) (hd2 : (match d with | .struct _ | .array _ _ => true | _ => false) = true) (hi : (P.info? ty).map (·.size) = some cs.size) (hq : Q (.returned (.agg cs)) w) : bodyPost P fn Q .ret a w := by
  refine bodyPost_ret (v := .agg cs) ?_ hd hq
  simp [results, h, hp, asAddr, run_loadVar_row w A T ty cs (0, 0) d hA hu hd2 hi]
theorem wr_some {w w' : World} {T : Option (Nat × Int × Int)} {m : Nat} {c k : Int} (hE : Ext w w') (h : T = some (m, c, k)) : WrPost w T (.returned (.agg #[.int .i64 m, .int .i64 c, .int .i64 k])) w' := by subst h; exact ⟨rfl, hE⟩
theorem wr_none {w w' : World} {T : Option (Nat × Int × Int)} (hE : Ext w w') (h : T = none) : WrPost w T (.returned (.agg #[.int .i64 0, .int .i64 0, .int .i64 0])) w' := by subst h; exact ⟨rfl, hE⟩
theorem three_new {w u : World} {K : Nat} (hE : Ext w u) (hK : w.heap.size ≤ K) (x y z : Value) : Ext w (((u.setCell ⟨K, 0, none⟩ x).setCell ⟨K, 1, none⟩ y).setCell ⟨K, 2, none⟩ z) := ((hE.setNew (p := ⟨K, 0, none⟩) hK _).setNew (p := ⟨K, 1, none⟩) hK _).setNew (p := ⟨K, 2, none⟩) hK _
theorem slice_run (b o m c p : Nat) (hp : p ≤ c) (w : World) :
    (Instr.slice 22 (.slice (some ⟨b, o, none⟩) m c) none (some (.int .i64 p)) none).run Tryz.prog w = .ok (.slice (some ⟨b, o, none⟩) p c) w := by
  have h3 : (0 : Int) ≤ (p : Int) := by omega
  have hsz : (sizeOf 57).run Tryz.prog w = .ok 13 w := by kernel_rfl
  simp [Instr.slice, Instr.sliceBounds, Instr.sliceBound, go_sem, h3, hp, hsz, Addr.add]
theorem wrong_size {l : List FObj} (h : ¬(1 ≤ l.length ∧ l.length ≤ 6)) : wrongF l = some (0, 1, 0) := by rw [wrongF, if_neg h]
theorem wrong_forms {l : List FObj} (h : 1 ≤ l.length ∧ l.length ≤ 6) {t : Nat × Int × Int} (h1 : formsF [] l = some t) : wrongF l = some t := by rw [wrongF, if_pos h, h1]; rfl
theorem wrong_imp {l : List FObj} (h : 1 ≤ l.length ∧ l.length ≤ 6) (h1 : formsF [] l = none) {t : Nat × Int × Int} (h2 : impF l 0 l = some t) : wrongF l = some t := by rw [wrongF, if_pos h, h1, h2]; rfl
theorem wrong_rel {l : List FObj} (h : 1 ≤ l.length ∧ l.length ≤ 6) (h1 : formsF [] l = none) (h2 : impF l 0 l = none) {t : Nat × Int × Int} (h3 : relF l 0 l = some t) : wrongF l = some t := by rw [wrongF, if_pos h, h1, h2, h3]; rfl
theorem wrong_main {l : List FObj} (h : 1 ≤ l.length ∧ l.length ≤ 6) (h1 : formsF [] l = none) (h2 : impF l 0 l = none) (h3 : relF l 0 l = none) (h4 : mainF l = none) : wrongF l = some (0, 4, 0) := by rw [wrongF, if_pos h, h1, h2, h3, h4]; rfl
theorem wrong_none {l : List FObj} (h : 1 ≤ l.length ∧ l.length ≤ 6) (h1 : formsF [] l = none) (h2 : impF l 0 l = none) (h3 : relF l 0 l = none) {m : Nat × Int} (h4 : mainF l = some m) : wrongF l = none := by rw [wrongF, if_pos h, h1, h2, h3, h4]; rfl
/-- whom an object knows is there -/
theorem known_there {l : List FObj} (h : impF l 0 l = none) {x : FObj} (hx : x ∈ l) {s : ByteArray} (hk : knowsF x s = true) : ∃ g, modF (modsF l) s = some g := by
  have h1 : ∀ (m : List FObj) (i : Nat), impF l i m = none → ∀ y ∈ m, ∀ f ∈ y.imports, ∃ g, modF (modsF l) f.modn = some g := by
    intro m
    induction m with
    | nil => intro i _ y hy; cases hy
    | cons z r ih =>
      intro i hi y hy f hf
      rw [impF, Option.or_eq_none_iff] at hi
      rcases List.mem_cons.1 hy with rfl | hy
      · have h2 : ∀ (fs : List FFace) (k : Nat), impF1 l i k fs = none → ∀ f ∈ fs, ∃ g, modF (modsF l) f.modn = some g := by
          intro fs
          induction fs with
          | nil => intro k _ f hf; cases hf
          | cons q t ih2 =>
            intro k hk f hf
            rw [impF1] at hk
            split at hk
            · cases hk
            · rename_i g hg
              split at hk
              · cases hk
              · rcases List.mem_cons.1 hf with rfl | hf
                · exact ⟨g, hg⟩
                · exact ih2 _ hk f hf
        exact h2 _ _ hi.1 f hf
      · exact ih _ hi.2 y hy f hf
  unfold knowsF at hk
  rw [Bool.or_eq_true] at hk
  rcases hk with hk | hk
  · have e := of_decide_eq_true hk
    cases hm : modF (modsF l) s with
    | some g => exact ⟨g, rfl⟩
    | none => rw [modF_none] at hm; exact absurd (by rw [← e]; exact List.mem_map.2 ⟨x, hx, rfl⟩) hm
  · rw [List.any_eq_true] at hk
    obtain ⟨f, hf, e⟩ := hk
    obtain ⟨g, hg⟩ := h1 l 0 h x hx f hf
    exact ⟨g, by rw [← of_decide_eq_true e]; exact hg⟩
theorem stands_place {l : List FObj} {r : FRel} {g : Nat} (hg : modF (modsF l) r.modn = some g) (hgl : g < l.length) (hp : PlcOk l[g].procs ∧ PlcOk l[g].lows ∧ PlcOk l[g].highs) (hnum : ∀ x ∈ l, LnkNums x) (h6 : l.length ≤ 6) : decide (standsF l r < 0) = !(placeF l [] [] [] r).2 := by
  have hr := rBase_le hnum (q := g) (by omega) (by omega) r.kind
  have hl : (linkw.findF (relPick r.kind l[g].procs l[g].lows l[g].highs) r.name).getD 0 ≥ 0 := by
    unfold relPick
    split
    · exact (found_le hp.2.1 _).1
    · split
      · exact (found_le hp.2.2 _).1
      · exact (found_le hp.1 _).1
  have e1 : standsF l r = (match linkw.findF (relPick r.kind l[g].procs l[g].lows l[g].highs) r.name with | none => -1 | some a => a + rBase l g r.kind) := by
    unfold standsF; rw [hg]; simp only [List.getElem?_eq_getElem hgl, Option.getD_some]; cases linkw.findF (relPick r.kind l[g].procs l[g].lows l[g].highs) r.name <;> rfl
  have e2 : (placeF l [] [] [] r).2 = (linkw.findF (relPick r.kind l[g].procs l[g].lows l[g].highs) r.name).isSome := by
    unfold placeF; simp only [hg, Option.getD_some, List.getElem?_eq_getElem hgl]
  rw [e1, e2]
  cases hf : linkw.findF (relPick r.kind l[g].procs l[g].lows l[g].highs) r.name with
  | none => rfl
  | some a => rw [hf] at hl; simp only [Option.getD_some] at hl; simp; omega
theorem rel_kinds {x : FObj} (h : mayObjB x = true) : ∀ r ∈ x.relocs, 1 ≤ r.kind ∧ r.kind ≤ 4 := by
  simp only [mayObjB, Bool.and_eq_true, codeB, List.all_eq_true] at h
  obtain ⟨-, ⟨⟨⟨-, ⟨-, h5⟩, -⟩, -⟩, -⟩, -⟩ := h
  intro r hr
  obtain ⟨k, hk, rfl⟩ := List.getElem_of_mem hr
  unfold relsB at h5
  rw [List.all_eq_true] at h5
  have h10 := h5 k (List.mem_range.2 hk)
  unfold relAt relB at h10
  simp only [Bool.and_eq_true, decide_eq_true_eq] at h10
  have e : x.relocs[k]! = x.relocs[k] := getElem!_pos x.relocs k hk
  rw [e] at h10
  exact ⟨h10.2.1.1.2, h10.2.1.2⟩
theorem rmain_pos {l : List FObj} {m : Nat × Int} (h : mainF l = some m) (hnum : ∀ x ∈ l, LnkNums x) (hps : ∀ x ∈ l, PlcOk x.procs ∧ PlcOk x.lows ∧ PlcOk x.highs) : 0 ≤ rMainF l := by
  unfold rMainF
  rw [h]
  unfold mainF at h
  split at h
  · cases h
  · rename_i g hg
    obtain ⟨h1, -⟩ := modF_some hg
    have hgl : g < l.length := by simpa [modsF] using h1
    simp only [List.getElem?_eq_getElem hgl, Option.getD_some] at h
    split at h
    · cases h
    · rename_i a ha
      split at h
      · obtain rfl := Option.some.inj h
        obtain ⟨p, hp, e⟩ := found ha
        have h2 := ((hps _ (List.getElem_mem hgl)).1).2 p hp
        have h3 := baseF_le codeLen 4 1048576 (fun x hx => ⟨by unfold codeLen; omega, by unfold codeLen; have := (hnum x hx).1; omega⟩) g (by omega)
        show 0 ≤ a + baseF codeLen 4 l g
        omega
      · cases h
theorem rel_ok {l : List FObj} {x : FObj} (hx : x ∈ l) (hi : impF l 0 l = none) (hps : ∀ x ∈ l, PlcOk x.procs ∧ PlcOk x.lows ∧ PlcOk x.highs) (hnum : ∀ x ∈ l, LnkNums x) (h6 : l.length ≤ 6) (r : FRel) :
    relOk l x r = (decide (r.kind = 1) || (knowsF x r.modn && !decide (standsF l r < 0))) := by
  unfold relOk
  cases hk : knowsF x r.modn with
  | false => rfl
  | true =>
    obtain ⟨g, hg⟩ := known_there hi hx hk
    obtain ⟨h1, -⟩ := modF_some hg
    have hgl : g < l.length := by simpa [modsF] using h1
    rw [stands_place hg hgl (hps _ (List.getElem_mem hgl)) hnum h6, Bool.not_not]
set_option maxRecDepth 100000 in
set_option maxHeartbeats 32000000 in
theorem rwrong_any (a : Option Addr) (l : List FObj) (n cap : Nat) (w : World) (hn : l.length = n) (hl : AllIn 13 ObjIn w a l) (hcap : n ≤ cap) (hsm : ∀ x ∈ l, ObjSmall x) :
    Calls Tryz.prog 44 #[.slice a n cap] w (WrPost w (wrongF l)) := by
  obtain ⟨T, hT⟩ : ∃ T, wrongF l = T := ⟨_, rfl⟩
  rw [hT]
  have HT := Lib.hid hT
  have HN := Lib.hid hn
  have HOBJ := Lib.hid (fun (u : World) (hE : Ext w u) => (hl.mono hE.size fun _ _ _ hb h => ObjIn.ext hE hb h : AllIn 13 ObjIn u a l))
  have HSM := Lib.hid hsm
  have KB := Blk.made w #[.int .i64 0, .int .i64 0, .int .i64 0] 28
  have hE1 := (Chg.refl (fun _ => False) w).alloc (.cells #[.int .i64 0, .int .i64 0, .int .i64 0] 28)
  clear hT hn hl hsm
  go_enter Tryz.func44, Tryz.ntmps44
  by_cases h1 : 1 ≤ (n : Int)
  · by_cases h6 : (n : Int) ≤ 6
    · have HOK := Lib.hid (show 1 ≤ l.length ∧ l.length ≤ 6 by rw [HN.out]; omega)
      go_wp2_with fail
      generalize w.alloc (.cells #[.int .i64 0, .int .i64 0, .int .i64 0] 28) = w1 at *
      obtain ⟨K, hK⟩ : ∃ q, w.heap.size = q := ⟨_, rfl⟩
      rw [hK] at KB ⊢
      have hKw : w.heap.size ≤ K := by omega
      have HR1 := Lib.hid (show ∀ t, formsF [] l = some t → T = some t from fun t ht => by rw [← HT.out]; exact wrong_forms HOK.out ht)
      obtain ⟨R1, hR1⟩ : ∃ R, formsF [] l = R := ⟨_, rfl⟩
      have HF1 := Lib.hid hR1
      rw [hR1] at HR1
      clear hK hR1
      go_loopw [3] (fun i wr => ∃ k : Nat, k ≤ n ∧ i = .int .i64 k ∧ Ext w1 wr ∧ Hid (formsF ((modsF l).take k) (l.drop k) = R1)) (fun i _ => n - (intOf i).toNat)
      case atStart => exact ⟨0, Nat.zero_le _, rfl, Chg.refl _ _, by have := HF1.out; simpa [Hid] using this⟩
      case round =>
        obtain ⟨k, hk, rfl, hE, hr⟩ := hrel
        have hEw := hE1.ext hE
        have KBr := KB.ext hE
        have hKc := KBr.cell
        have hKf := KBr.frozen
        have hKl := KBr.lt
        by_cases hlt : k < n
        · have hkl : k < l.length := by rw [HN.out]; exact hlt
          have HALL := Lib.hid (HOBJ.out wr hEw)
          obtain ⟨bo, o, rfl, hbo, hc⟩ := HALL.out k hkl
          obtain ⟨fa, am, fc, cm, ia, ic, ca, cc, ra, rc, pa, pc, la, lc, ha, hcp, h0, h1_, h2, h3, h4, h5, h6_, h7, h8, h9, h10, h11, h12, HO⟩ := hc
          obtain ⟨s1, s2, s3⟩ := forms_step hkl R1 hr.out
          have HS1 := Lib.hid s1
          have HS2 := Lib.hid s2
          have HS3 := Lib.hid s3
          have HO2 := Lib.hid HO
          have HSMx := Lib.hid (HSM.out _ (List.getElem_mem hkl))
          clear s1 s2 s3 HO hr
          generalize l[k] = x at *
          obtain ⟨xf, xi, xc, xr, op, ol, oh, lo, hi, lf, hf⟩ := x
          obtain ⟨xn, xv, xp⟩ := xf
          simp only at h0 h1_ h2 h3 h4 h5 h6_ h7 h8 h9 h10 h11 h12 HS2 HS3 HO2
          clear hKc hKf
          go_wp2_with fail
          refine (rmayo.may_any _ _ _ HO2.out HSMx.out).mono ?_
          rintro e w2 ⟨rfl, hE2⟩
          have KB2 := KBr.ext hE2
          have hEw2 := hEw.ext hE2
          have hE12 := hE.ext hE2
          have h0' := (hE2.cell (p := ⟨bo, o + k * 13, none⟩) hbo id).trans h0
          have hbo2 := Nat.lt_of_lt_of_le hbo hE2.size
          clear h0 h1_ h2 h3 h4 h5 h6_ h7 h8 h9 h10 h11 h12 HO2 HSMx hKl HALL
          generalize mayObjB ⟨⟨xn, xv, xp⟩, xi, xc, xr, op, ol, oh, lo, hi, lf, hf⟩ = M at *
          have hKc := KB2.cell
          have hKf := KB2.frozen
          have hKl := KB2.lt
          cases M
          · have HX := Lib.hid (HR1.out _ (HS1.out rfl))
            go_wp2_with fail
            refine ends_one rfl rfl rfl (Blk.three KB2 _ _ _) Tryz.underlying28 rfl (by kernel_rfl) ?_
            exact wr_some (three_new hEw2 (by omega) _ _ _) HX.out
          · go_wp2_with fail
            have hsr := slice_run bo o n cap k (by omega)
            go_quiet ((exact quiet_ext fun W hEx => rmodule_any (some ⟨bo, o, none⟩) (l.take k) k cap xn W (by rw [List.length_take, HN.out]; omega) (AllIn.take (HOBJ.out W (hEw2.ext hEx)) k) (by omega)))
            clear hsr
            obtain ⟨F, hF⟩ : ∃ F, modF ((modsF l).take k) xn = F := ⟨_, rfl⟩
            have hmi : modI (modsF (l.take k)) xn = optI F := by unfold modI; rw [show modsF (l.take k) = (modsF l).take k by simp [modsF, List.map_take], hF]
            rw [hmi]
            have HF := Lib.hid hF
            have KB3 := KB2.drewN nq
            have hEw3 := hEw2.drewN nq
            have hE13 := hE12.drewN nq
            clear hF hmi hKc hKf hKl KB2 hEw2 hE12 h0'
            generalize w2.drewN nq = w3 at *
            have hKc := KB3.cell
            have hKf := KB3.frozen
            have hKl := KB3.lt
            cases F with
            | some i =>
              rw [show optI (some i) = (i : Int) from rfl]
              have HX := Lib.hid (HR1.out _ (HS2.out trivial (by rw [HF.out]; rfl)))
              go_wp2_with fail
              refine ends_one rfl rfl rfl (Blk.three KB3 _ _ _) Tryz.underlying28 rfl (by kernel_rfl) ?_
              exact wr_some (three_new hEw3 (by omega) _ _ _) HX.out
            | none =>
              rw [show optI none = -1 from rfl]
              have HX := Lib.hid (HS3.out trivial HF.out)
              clear hKc hKf
              go_wp2_with fail
              go_roundw
              case rel => exact ⟨k + 1, by omega, by go_num, hE13, HX⟩
              case measure => simp [intOf]; omega
        · obtain rfl : k = n := by omega
          obtain rfl : R1 = none := by have := hr.out; rw [List.drop_of_length_le (by rw [HN.out]; exact Nat.le_refl _)] at this; exact this.symm
          clear hr hKc hKf hKl
          have HMAY := Lib.hid (fun (x : FObj) (hx : x ∈ l) => may_facts (forms_none HF1.out x hx) (HSM.out x hx))
          go_wp2_with fail
          have HR2 := Lib.hid (show ∀ t, impF l 0 l = some t → T = some t from fun t ht => by rw [← HT.out]; exact wrong_imp HOK.out HF1.out ht)
          obtain ⟨R2, hR2⟩ : ∃ R, impF l 0 l = R := ⟨_, rfl⟩
          have HF2 := Lib.hid hR2
          rw [hR2] at HR2
          have HI0 := Lib.hid (show impF l 0 (l.drop 0) = R2 by simpa using hR2)
          clear hR2
          have HE0 := Lib.hid hE
          clear hE hEw KBr
          go_loopw [4] (fun i wr => ∃ i2 : Nat, i2 ≤ k ∧ i = .int .i64 i2 ∧ Ext w1 wr ∧ Hid (impF l i2 (l.drop i2) = R2)) (fun i _ => k - (intOf i).toNat)
          case atStart => exact ⟨0, Nat.zero_le _, rfl, HE0.out, HI0⟩
          case round =>
            obtain ⟨i, hi, rfl, hE, hr⟩ := hrel
            obtain ⟨wo, rfl⟩ : ∃ wo, wo = wr := ⟨_, rfl⟩
            clear HI0 HE0
            by_cases hlt : i < k
            · have hil : i < l.length := by rw [HN.out]; exact hlt
              have HE := Lib.hid hE
              have HEW := Lib.hid (hE1.ext hE)
              obtain ⟨bo, o, rfl, hbo, hc⟩ := HOBJ.out wo HEW.out i hil
              obtain ⟨fa, am, fc, cm, ia, ic, ca, cc, ra, rc, pa, pc, la, lc, ha, hcp, -, -, -, h3, -, -, -, -, -, -, -, -, -, HO⟩ := hc
              have HIM := Lib.hid HO.rows.2.1
              have hni := (HSM.out _ (List.getElem_mem hil)).imports
              have HRI := Lib.hid (imp_step hil hr.out)
              clear HO hr hE
              generalize l[i] = x at *
              obtain ⟨xf, xi, xc, xr, op, ol, oh, lo, hi', lf, hf⟩ := x
              simp only at hni HRI HIM h3
              obtain ⟨m, hm'⟩ : ∃ m, xi.length = m := ⟨_, rfl⟩
              rw [hm'] at hni h3
              have HMM := Lib.hid hm'
              have H3 := Lib.hid (fun (u : World) (hu : Ext wo u) => (hu.cell (p := ⟨bo, o + i * 13 + 3, none⟩) hbo id).trans h3)
              clear hm' h3
              go_wp2_with fail
              go_loopw [5] (fun j wr => ∃ k2 : Nat, k2 ≤ m ∧ j = .int .i64 k2 ∧ Ext wo wr ∧ Hid ((impF1 l i k2 (xi.drop k2)).or (impF l (i + 1) (l.drop (i + 1))) = R2)) (fun j _ => m - (intOf j).toNat)
              case atStart => exact ⟨0, Nat.zero_le _, rfl, Chg.refl _ _, HRI.out⟩
              case round =>
                obtain ⟨q, hq, rfl, hE2, hr⟩ := hrel
                have hc3 := H3.out wr hE2
                have hbo3 := Nat.lt_of_lt_of_le hbo hE2.size
                have HE2 := Lib.hid hE2
                by_cases hlt2 : q < m
                · have hqm : q < xi.length := by rw [HMM.out]; exact hlt2
                  obtain ⟨bi, oi, rfl, hbi, hcf⟩ := HIM.out q hqm
                  obtain ⟨ja, jm, jc, jd, l0, l1, l2, HF0⟩ := FaceIn.ext hE2 hbi hcf
                  have hbi2 := Nat.lt_of_lt_of_le hbi hE2.size
                  obtain ⟨s1, s2⟩ := imp1_step hqm hr.out
                  have HS1 := Lib.hid s1
                  have HS2 := Lib.hid s2
                  have HFX := Lib.hid HF0
                  have HEWr := Lib.hid (HEW.out.ext hE2)
                  have KBr := KB.ext (HE.out.ext hE2)
                  clear s1 s2 hcf hr hE2 HF0
                  generalize xi[q] = y at *
                  obtain ⟨fn, fv, fp⟩ := y
                  simp only at l0 l1 l2 HS1 HS2 HFX
                  go_wp2_with fail
                  refine (rmodule_any (some ⟨bo, o, none⟩) l k cap fn _ HN.out (HOBJ.out wr HEWr.out) (by omega)).mono ?_
                  rintro e w9 ⟨rfl, rfl⟩
                  obtain ⟨G, hG⟩ : ∃ G, modF (modsF l) fn = G := ⟨_, rfl⟩
                  have hmi : modI (modsF l) fn = optI G := by unfold modI; rw [hG]
                  rw [hmi]
                  have HG := Lib.hid hG
                  clear hG hmi
                  cases G with
                  | none =>
                    rw [show optI none = -1 from rfl]
                    have HX := Lib.hid (HR2.out _ (HS1.out HG.out))
                    have hKc := KBr.cell
                    have hKf := KBr.frozen
                    have hKl := KBr.lt
                    have hEwr := HEWr.out
                    clear l0 l1 l2 hc3
                    go_wp2_with fail
                    refine ends_one rfl rfl rfl (Blk.three KBr _ _ _) Tryz.underlying28 rfl (by kernel_rfl) ?_
                    exact wr_some (three_new hEwr (by omega) _ _ _) HX.out
                  | some g =>
                    rw [show optI (some g) = (g : Int) from rfl]
                    obtain ⟨hg, hgn⟩ := modF_some HG.out
                    have hgl : g < l.length := by simpa [modsF] using hg
                    have hgn2 : g < k := by rw [← HN.out]; exact hgl
                    have HS4 := Lib.hid (HS2.out g HG.out)
                    obtain ⟨bz, oz, ez, hbz, hcz⟩ := HOBJ.out wr HEWr.out g hgl
                    obtain ⟨rfl, rfl⟩ : bo = bz ∧ o = oz := by simpa using ez
                    obtain ⟨ga, gm, gc, gd, _, _, _, _, _, _, _, _, _, _, _, _, z0, z1, z2, -, -, -, -, -, -, -, -, -, -, HO⟩ := hcz
                    have HFY := Lib.hid HO.rows.1
                    have hfa : faceAtF l g = l[g].face := by simp [faceAtF, hgl]
                    rw [hfa] at HS4
                    have HZ := Lib.hid (fun (u : World) (hu : Ext wr u) => And.intro ((hu.cell (p := ⟨bo, o + g * 13, none⟩) hbz id).trans z0) (And.intro ((hu.cell (p := ⟨bo, o + g * 13 + 1, none⟩) hbz id).trans z1) ((hu.cell (p := ⟨bo, o + g * 13 + 2, none⟩) hbz id).trans z2)))
                    have HL := Lib.hid (fun (u : World) (hu : Ext wr u) => And.intro ((hu.cell (p := ⟨bi, oi + q * 3, none⟩) hbi2 id).trans l0) (And.intro ((hu.cell (p := ⟨bi, oi + q * 3 + 1, none⟩) hbi2 id).trans l1) ((hu.cell (p := ⟨bi, oi + q * 3 + 2, none⟩) hbi2 id).trans l2)))
                    have HC3 := Lib.hid (fun (u : World) (hu : Ext wr u) => (hu.cell (p := ⟨bo, o + i * 13 + 3, none⟩) hbo3 id).trans hc3)
                    clear z0 z1 z2 l0 l1 l2 hc3 HO ez hfa hgn hg
                    generalize l[g] = z at *
                    obtain ⟨M, hM⟩ : ∃ M, decide (FFace.mk fn fv fp = z.face) = M := ⟨_, rfl⟩
                    rw [hM] at HS4
                    have HMD := Lib.hid hM
                    clear hM
                    go_wp2_with fail
                    refine wp_region_chain [13, 14] [.slice (some ⟨bo, o, none⟩) k cap, .int .i64 (i : Nat), .pointer (some ⟨bo, o + i * 13, none⟩), .pointer (some ⟨bo, o + i * 13 + 3, none⟩), .slice (some ⟨bi, oi, none⟩) m ic, .int .i64 (q : Nat), .pointer (some ⟨bi, oi + q * 3, none⟩), .agg #[.string fn, .slice ja fv.length jm, .slice jc fp.length jd], .slice (some ⟨bo, o, none⟩) k cap, .int .i64 (g : Nat), .pointer (some ⟨bo, o + g * 13, none⟩), .pointer (some ⟨bo, o + g * 13, none⟩), .agg #[.string z.face.modn, .slice ga z.face.vars.length gm, .slice gc z.face.procs.length gd], undef, undef] (fun vs u => Ext wr u ∧ (match vs with | [] => True | [v0] => v0 = .bool M | [v0, v1] => v0 = .bool M ∧ v1 = .bool (!M) | _ => False)) (frame := ?fraa) (fun x => ?hfaa) mixed (by kernel_rfl) ?h0a ?sta ?fina
                    case hfaa =>
                      simp only [chain.frameOf, chain.fill, chain.setOpt, chain.dstOf, List.size_toArray, List.length_cons, List.length_nil, List.getElem?_toArray, List.getElem?_cons_succ, List.getElem?_cons_zero, List.setIfInBounds_toArray, List.set_cons_succ, List.set_cons_zero]
                      exact rfl
                    case h0a => exact ⟨(Chg.refl _ _).drew, trivial⟩
                    case sta =>
                      refine AllFrom.cons (fun x vs u hF hm hd K' hK' => ?sa0) (AllFrom.cons (fun x vs u hF hm hd K' hK' => ?sa1) (AllFrom.cons (fun x vs u hF hm hd K' hK' => ?sa2) (AllFrom.cons (fun x vs u hF hm hd K' hK' => ?sa3) (AllFrom.cons (fun x vs u hF hm hd K' hK' => ?sa4) (AllFrom.cons (fun x vs u hF hm hd K' hK' => ?sa5) (AllFrom.cons (fun x vs u hF hm hd K' hK' => ?sa6) (AllFrom.cons (fun x vs u hF hm hd K' hK' => ?sa7) (AllFrom.cons (fun x vs u hF hm hd K' hK' => ?sa8) (AllFrom.cons (fun x vs u hF hm hd K' hK' => ?sa9) (AllFrom.cons (fun x vs u hF hm hd K' hK' => ?sa10) (AllFrom.cons (fun x vs u hF hm hd K' hK' => ?sa11) (AllFrom.cons (fun x vs u hF hm hd K' hK' => ?sa12) (AllFrom.cons (fun x vs u hF hm hd K' hK' => ?sa13) (AllFrom.cons (fun x vs u hF hm hd K' hK' => ?sa14) (AllFrom.nil)))))))))))))))
                      case sa0 =>
                        clear hd hm hF
                        go_simp
                        exact hK'.out _ _ _ rfl ⟨rfl, rfl⟩
                      case sa1 =>
                        clear hd hm hF
                        go_simp
                        exact hK'.out _ _ _ rfl ⟨rfl, rfl⟩
                      case sa2 =>
                        have y0 := hd 0 78 (by decide) (by kernel_rfl) (by kernel_rfl)
                        replace y0 : x 78 = .slice (some ⟨bo, o, none⟩) k cap := y0
                        have y1 := hd 1 79 (by decide) (by kernel_rfl) (by kernel_rfl)
                        replace y1 : x 79 = .int .i64 (i : Nat) := y1
                        clear hd hm hF
                        go_simp
                        exact hK'.out _ _ _ (by simp only [y0, y1]; rfl) ⟨rfl, rfl⟩
                      case sa3 =>
                        have y0 := hd 2 80 (by decide) (by kernel_rfl) (by kernel_rfl)
                        replace y0 : x 80 = .pointer (some ⟨bo, o + i * 13, none⟩) := y0
                        clear hd hm hF
                        go_simp
                        exact hK'.out _ _ _ (by simp only [y0]; rfl) ⟨rfl, rfl⟩
                      case sa4 =>
                        have y0 := hd 3 81 (by decide) (by kernel_rfl) (by kernel_rfl)
                        replace y0 : x 81 = .pointer (some ⟨bo, o + i * 13 + 3, none⟩) := y0
                        have hc3 := HC3.out u hF.1
                        clear hd hm hF
                        go_simp
                        exact hK'.out _ _ _ (by simp only [y0]; rfl) ⟨rfl, rfl⟩
                      case sa5 =>
                        clear hd hm hF
                        go_simp
                        exact hK'.out _ _ _ rfl ⟨rfl, rfl⟩
                      case sa6 =>
                        have y0 := hd 4 82 (by decide) (by kernel_rfl) (by kernel_rfl)
                        replace y0 : x 82 = .slice (some ⟨bi, oi, none⟩) m ic := y0
                        have y1 := hd 5 83 (by decide) (by kernel_rfl) (by kernel_rfl)
                        replace y1 : x 83 = .int .i64 (q : Nat) := y1
                        clear hd hm hF
                        go_simp
                        exact hK'.out _ _ _ (by simp only [y0, y1]; rfl) ⟨rfl, rfl⟩
                      case sa7 =>
                        have y0 := hd 6 84 (by decide) (by kernel_rfl) (by kernel_rfl)
                        replace y0 : x 84 = .pointer (some ⟨bi, oi + q * 3, none⟩) := y0
                        obtain ⟨l0, l1, l2⟩ := HL.out u hF.1
                        clear hd hm hF
                        go_simp
                        exact hK'.out _ _ _ (by simp only [y0]; rfl) ⟨rfl, rfl⟩
                      case sa8 =>
                        clear hd hm hF
                        go_simp
                        exact hK'.out _ _ _ rfl ⟨rfl, rfl⟩
                      case sa9 =>
                        clear hd hm hF
                        go_simp
                        exact hK'.out _ _ _ rfl ⟨rfl, rfl⟩
                      case sa10 =>
                        have y0 := hd 8 86 (by decide) (by kernel_rfl) (by kernel_rfl)
                        replace y0 : x 86 = .slice (some ⟨bo, o, none⟩) k cap := y0
                        have y1 := hd 9 87 (by decide) (by kernel_rfl) (by kernel_rfl)
                        replace y1 : x 87 = .int .i64 (g : Nat) := y1
                        clear hd hm hF
                        go_simp
                        exact hK'.out _ _ _ (by simp only [y0, y1]; rfl) ⟨rfl, rfl⟩
                      case sa11 =>
                        have y0 := hd 10 88 (by decide) (by kernel_rfl) (by kernel_rfl)
                        replace y0 : x 88 = .pointer (some ⟨bo, o + g * 13, none⟩) := y0
                        clear hd hm hF
                        go_simp
                        exact hK'.out _ _ _ (by simp only [y0]; rfl) ⟨rfl, rfl⟩
                      case sa12 =>
                        have y0 := hd 11 89 (by decide) (by kernel_rfl) (by kernel_rfl)
                        replace y0 : x 89 = .pointer (some ⟨bo, o + g * 13, none⟩) := y0
                        obtain ⟨z0, z1, z2⟩ := HZ.out u hF.1
                        clear hd hm hF
                        go_simp
                        exact hK'.out _ _ _ (by simp only [y0]; rfl) ⟨rfl, rfl⟩
                      case sa13 =>
                        have y0 := hd 7 85 (by decide) (by kernel_rfl) (by kernel_rfl)
                        replace y0 : x 85 = .agg #[.string fn, .slice ja fv.length jm, .slice jc fp.length jd] := y0
                        have y1 := hd 12 90 (by decide) (by kernel_rfl) (by kernel_rfl)
                        replace y1 : x 90 = .agg #[.string z.face.modn, .slice ga z.face.vars.length gm, .slice gc z.face.procs.length gd] := y1
                        obtain rfl := List.eq_nil_of_length_eq_zero (hm 0 (by kernel_rfl))
                        obtain ⟨hE, -⟩ := hF
                        clear hd hm
                        go_simp
                        refine (rface.same_any _ _ _ _ _ (FaceAt.ext hE HFX.out) (FaceAt.ext hE HFY.out)).mono ?_
                        rintro e u2 ⟨rfl, hE2⟩
                        rw [HMD.out]
                        exact hK'.out _ _ _ (by first | rfl | (simp only [y0, y1]; rfl)) ⟨hE.ext hE2, rfl⟩
                      case sa14 =>
                        obtain ⟨v0, rfl⟩ : ∃ v0, vs = [v0] := by match vs, hm 1 (by kernel_rfl) with | [v0], _ => exact ⟨_, rfl⟩
                        obtain ⟨hE, rfl⟩ := hF
                        have y0 := hd 13 91 (by decide) (by kernel_rfl) (by kernel_rfl)
                        replace y0 : x 91 = .bool M := y0
                        clear hd hm
                        go_simp
                        exact hK'.out _ _ (.bool (!M)) (by first | rfl | (simp only [y0]; rfl)) ⟨hE, rfl, rfl⟩
                    case fina =>
                      intro x vs u hl hF hs
                      obtain ⟨v0, v1, rfl⟩ : ∃ v0 v1, vs = [v0, v1] := by match vs, hl with | [v0, v1], _ => exact ⟨_, _, rfl⟩
                      obtain ⟨hE, rfl, rfl⟩ := hF
                      have y92 := hs 14 92 (by decide) (by kernel_rfl)
                      replace y92 : x 92 = .bool (!M) := y92
                      clear hs hl
                      have KBu := KBr.ext hE
                      have hEwu := HEWr.out.ext hE
                      have hE9 := HE2.out.ext hE
                      clear KBr hE
                      cases M
                      · have HX := Lib.hid (HR2.out _ (HS4.out.1 rfl))
                        replace y92 : x 92 = .bool true := y92
                        have hKc := KBu.cell
                        have hKf := KBu.frozen
                        have hKl := KBu.lt
                        go_wp2_with fail
                        refine ends_one rfl rfl rfl (Blk.three KBu _ _ _) Tryz.underlying28 rfl (by kernel_rfl) ?_
                        exact wr_some (three_new hEwu (by omega) _ _ _) HX.out
                      · have HX := Lib.hid (HS4.out.2 rfl)
                        replace y92 : x 92 = .bool false := y92
                        clear KBu
                        go_wp2_with fail
                        go_roundw
                        case rel => exact ⟨q + 1, by omega, by go_num, hE9, HX⟩
                        case measure => simp [intOf]; omega
                · obtain rfl : q = m := by omega
                  have HX := Lib.hid (show impF l (i + 1) (l.drop (i + 1)) = R2 by have := hr.out; rwa [List.drop_of_length_le (by rw [HMM.out]; exact Nat.le_refl _), impF1, Option.none_or] at this)
                  have hE6 := HE.out.ext hE2
                  clear hr hE2
                  go_wp2_with fail
                  go_roundw
                  case rel => exact ⟨i + 1, by omega, by go_num, hE6, HX⟩
                  case measure => simp [intOf]; omega
            · obtain rfl : k = i := by omega
              obtain rfl : R2 = none := by have := hr.out; rw [List.drop_of_length_le (by rw [HN.out]; exact Nat.le_refl _)] at this; exact this.symm
              clear hr
              go_wp2_with fail
              have HR3 := Lib.hid (show ∀ t, relF l 0 l = some t → T = some t from fun t ht => by rw [← HT.out]; exact wrong_rel HOK.out HF1.out HF2.out ht)
              obtain ⟨R3, hR3⟩ : ∃ R, relF l 0 l = R := ⟨_, rfl⟩
              have HF3 := Lib.hid hR3
              rw [hR3] at HR3
              have HI0 := Lib.hid (show relF l 0 (l.drop 0) = R3 by simpa using hR3)
              clear hR3
              have HE0 := Lib.hid hE
              clear hE
              go_loopw [7] (fun i wr => ∃ i2 : Nat, i2 ≤ k ∧ i = .int .i64 i2 ∧ Ext w1 wr ∧ Hid (relF l i2 (l.drop i2) = R3)) (fun i _ => k - (intOf i).toNat)
              case atStart => exact ⟨0, Nat.zero_le _, rfl, HE0.out, HI0⟩
              case round =>
                obtain ⟨i, hi, rfl, hE, hr⟩ := hrel
                obtain ⟨wo, rfl⟩ : ∃ wo, wo = wr := ⟨_, rfl⟩
                clear HI0 HE0
                by_cases hlt : i < k
                · have hil : i < l.length := by rw [HN.out]; exact hlt
                  have HE := Lib.hid hE
                  have HEW := Lib.hid (hE1.ext hE)
                  obtain ⟨bo, o, rfl, hbo, hc⟩ := HOBJ.out wo HEW.out i hil
                  obtain ⟨fa, am, fc, cm, ia, ic, ca, cc, ra, rc, pa, pc, la, lc, ha, hcp, h0, h1_, h2, h3, h4, h5, h6_, h7, h8, h9, h10, h11, h12, HO⟩ := hc
                  have HRM := Lib.hid HO.rows.2.2.2.1
                  have HOA := Lib.hid HO
                  have hnr := (HSM.out _ (List.getElem_mem hil)).relocs
                  have hni := (HSM.out _ (List.getElem_mem hil)).imports
                  have HMX := Lib.hid (HMAY.out _ (List.getElem_mem hil))
                  have HKD := Lib.hid (rel_kinds (forms_none HF1.out _ (List.getElem_mem hil)))
                  have HRI := Lib.hid (rel_step hil hr.out)
                  have HRK := Lib.hid (fun r => rel_ok (r := r) (List.getElem_mem hil) HF2.out (fun x hx => (HMAY.out x hx).2.1) (fun x hx => (HMAY.out x hx).1) HOK.out.2)
                  clear HO hr hE
                  generalize l[i] = x at *
                  obtain ⟨xf, xi, xc, xr, op, ol, oh, lo, hi', lf, hf⟩ := x
                  obtain ⟨xn, xv, xp⟩ := xf
                  simp only at hnr hni HRI HRM HKD h0 h1_ h2 h3 h4 h5 h6_ h7 h8 h9 h10 h11 h12
                  obtain ⟨m, hm'⟩ : ∃ m, xr.length = m := ⟨_, rfl⟩
                  rw [hm'] at hnr h5
                  have HMM := Lib.hid hm'
                  have HC := Lib.hid (fun (u : World) (hu : Ext wo u) (j : Nat) => (hu.cell (p := ⟨bo, j, none⟩) hbo id : u.cell? ⟨bo, j, none⟩ = wo.cell? ⟨bo, j, none⟩))
                  have H0 := Lib.hid (And.intro h0 (And.intro h1_ (And.intro h2 (And.intro h3 (And.intro h4 (And.intro h5 (And.intro h6_ (And.intro h7 (And.intro h8 (And.intro h9 (And.intro h10 (And.intro h11 h12))))))))))))
                  clear hm' h0 h1_ h2 h3 h4 h5 h6_ h7 h8 h9 h10 h11 h12
                  go_wp2_with fail
                  go_loopw [8] (fun j wr => ∃ k2 : Nat, k2 ≤ m ∧ j = .int .i64 k2 ∧ Ext wo wr ∧ Hid ((relF1 l i ⟨⟨xn, xv, xp⟩, xi, xc, xr, op, ol, oh, lo, hi', lf, hf⟩ k2 (xr.drop k2)).or (relF l (i + 1) (l.drop (i + 1))) = R3)) (fun j _ => m - (intOf j).toNat)
                  case atStart => exact ⟨0, Nat.zero_le _, rfl, Chg.refl _ _, HRI.out⟩
                  case round =>
                    obtain ⟨q, hq, rfl, hE2, hr⟩ := hrel
                    have hc5 := (HC.out wr hE2 (o + i * 13 + 5)).trans H0.out.2.2.2.2.2.1
                    have hbo3 := Nat.lt_of_lt_of_le hbo hE2.size
                    have HE2 := Lib.hid hE2
                    by_cases hlt2 : q < m
                    · have hqm : q < xr.length := by rw [HMM.out]; exact hlt2
                      obtain ⟨bi, oi, rfl, hbi, hcf⟩ := HRM.out q hqm
                      obtain ⟨l0, l1, l2, l3⟩ := RelIn.ext hE2 hbi hcf
                      have hbi2 := Nat.lt_of_lt_of_le hbi hE2.size
                      obtain ⟨s1, s2⟩ := rel1_step hqm hr.out
                      have HS1 := Lib.hid s1
                      have HS2 := Lib.hid s2
                      have HK := Lib.hid (HKD.out _ (List.getElem_mem hqm))
                      have HEWr := Lib.hid (HEW.out.ext hE2)
                      have KBr := KB.ext (HE.out.ext hE2)
                      clear s1 s2 hcf hr hE2
                      generalize xr[q] = y at *
                      obtain ⟨ra_, rk, rm, rn⟩ := y
                      simp only at l0 l1 l2 l3 HS1 HS2 HK
                      have HRK2 := Lib.hid (HRK.out ⟨ra_, rk, rm, rn⟩)
                      have KR := Blk.made wr #[.int .i64 ra_, .int .i64 rk, .string rm, .string rn] 100
                      have hE7 := (Chg.refl (fun _ => False) wr).alloc (.cells #[.int .i64 ra_, .int .i64 rk, .string rm, .string rn] 100)
                      have KB7 := KBr.ext hE7
                      have HEW7 := Lib.hid (HEWr.out.ext hE7)
                      have HE27 := Lib.hid (HE2.out.ext hE7)
                      have HOA7 := Lib.hid (ObjAt.ext HE27.out HOA.out)
                      simp only [HMM.out] at HOA7
                      by_cases hk1 : rk = 1
                      · subst hk1
                        have HX := Lib.hid (HS2.out (by rw [HRK2.out]; rfl))
                        go_wp2_with fail
                        generalize wr.alloc (.cells #[.int .i64 ra_, .int .i64 1, .string rm, .string rn] 100) = w7 at *
                        have hRc := KR.cell
                        clear l0 l1 l2 l3 hc5
                        go_quiet (fail)
                        have hE9 := HE27.out.drewN nq
                        generalize w7.drewN nq = w9 at *
                        clear hRc
                        go_wp2_with fail
                        go_roundw
                        case rel => exact ⟨q + 1, by omega, by go_num, hE9, HX⟩
                        case measure => simp [intOf]; omega
                      · obtain ⟨KN, hKN⟩ : ∃ b, knowsF ⟨⟨xn, xv, xp⟩, xi, xc, xr, op, ol, oh, lo, hi', lf, hf⟩ rm = b := ⟨_, rfl⟩
                        obtain ⟨SV, hSV⟩ : ∃ b, standsF l ⟨ra_, rk, rm, rn⟩ = b := ⟨_, rfl⟩
                        have hok : relOk l ⟨⟨xn, xv, xp⟩, xi, xc, xr, op, ol, oh, lo, hi', lf, hf⟩ ⟨ra_, rk, rm, rn⟩ = (KN && !decide (SV < 0)) := by
                          rw [HRK2.out, hKN, hSV]; simp [hk1]
                        rw [hok] at HS1 HS2
                        have HKN := Lib.hid hKN
                        have HSV := Lib.hid hSV
                        clear hok hKN hSV
                        have hd1 : decide (rk = 1) = false := by simpa using hk1
                        go_wp2_with fail
                        generalize wr.alloc (.cells #[.int .i64 ra_, .int .i64 rk, .string rm, .string rn] 100) = w7 at *
                        obtain ⟨kr, hkr⟩ : ∃ q, wr.heap.size = q := ⟨_, rfl⟩
                        rw [hkr] at KR ⊢
                        clear l0 l1 l2 l3 hc5
                        have HCELLS := Lib.hid (fun (u : World) (hu : Ext w7 u) => show (u.cell? ⟨kr, 0, none⟩ = some (.int .i64 ra_) ∧ u.cell? ⟨kr, 1, none⟩ = some (.int .i64 rk) ∧ u.cell? ⟨kr, 2, none⟩ = some (.string rm) ∧ u.cell? ⟨kr, 3, none⟩ = some (.string rn) ∧ u.cell? ⟨bo, o + i * 13, none⟩ = some (.string xn) ∧ u.cell? ⟨bo, o + i * 13 + 1, none⟩ = some (.slice fa xv.length am) ∧ u.cell? ⟨bo, o + i * 13 + 2, none⟩ = some (.slice fc xp.length cm) ∧ u.cell? ⟨bo, o + i * 13 + 3, none⟩ = some (.slice ia xi.length ic) ∧ u.cell? ⟨bo, o + i * 13 + 4, none⟩ = some (.slice ca xc.length cc) ∧ u.cell? ⟨bo, o + i * 13 + 5, none⟩ = some (.slice (some ⟨bi, oi, none⟩) m rc) ∧ u.cell? ⟨bo, o + i * 13 + 6, none⟩ = some (.slice pa op.length pc) ∧ u.cell? ⟨bo, o + i * 13 + 7, none⟩ = some (.slice la ol.length lc) ∧ u.cell? ⟨bo, o + i * 13 + 8, none⟩ = some (.slice ha oh.length hcp) ∧ u.cell? ⟨bo, o + i * 13 + 9, none⟩ = some (.int .i64 lo) ∧ u.cell? ⟨bo, o + i * 13 + 10, none⟩ = some (.int .i64 hi') ∧ u.cell? ⟨bo, o + i * 13 + 11, none⟩ = some (.int .i64 lf) ∧ u.cell? ⟨bo, o + i * 13 + 12, none⟩ = some (.int .i64 hf)) ∧ Ext w7 u from
                          have e := fun j => HC.out u (HE27.out.ext hu) j
                          ⟨⟨((KR.ext hu).cell 0), ((KR.ext hu).cell 1), ((KR.ext hu).cell 2), ((KR.ext hu).cell 3), (e _).trans H0.out.1, (e _).trans H0.out.2.1, (e _).trans H0.out.2.2.1, (e _).trans H0.out.2.2.2.1, (e _).trans H0.out.2.2.2.2.1, (e _).trans H0.out.2.2.2.2.2.1, (e _).trans H0.out.2.2.2.2.2.2.1, (e _).trans H0.out.2.2.2.2.2.2.2.1, (e _).trans H0.out.2.2.2.2.2.2.2.2.1, (e _).trans H0.out.2.2.2.2.2.2.2.2.2.1, (e _).trans H0.out.2.2.2.2.2.2.2.2.2.2.1, (e _).trans H0.out.2.2.2.2.2.2.2.2.2.2.2.1, (e _).trans H0.out.2.2.2.2.2.2.2.2.2.2.2.2⟩, hu⟩)
                        have HST := Lib.hid (fun (u : World) (hu : Ext w7 u) => rstands_any (some ⟨bo, o, none⟩) l k cap ⟨ra_, rk, rm, rn⟩ u HN.out (HOBJ.out u (HEW7.out.ext hu)) (by omega) HK.out.1 HK.out.2 (fun x hx => (HMAY.out x hx).1) (fun x hx => (HMAY.out x hx).2.1))
                        have HKW := Lib.hid (fun (u : World) (hu : Ext w7 u) => rknows_any _ _ rm u (ObjAt.ext hu HOA7.out) (by simp only; omega))
                        cases KN
                        · have HX := Lib.hid (HR3.out _ (HS1.out rfl))
                          refine wp_region_held_drew (S := fun w' => (w'.cell? ⟨kr, 0, none⟩ = some (.int .i64 ra_) ∧ w'.cell? ⟨kr, 1, none⟩ = some (.int .i64 rk) ∧ w'.cell? ⟨kr, 2, none⟩ = some (.string rm) ∧ w'.cell? ⟨kr, 3, none⟩ = some (.string rn) ∧ w'.cell? ⟨bo, o + i * 13, none⟩ = some (.string xn) ∧ w'.cell? ⟨bo, o + i * 13 + 1, none⟩ = some (.slice fa xv.length am) ∧ w'.cell? ⟨bo, o + i * 13 + 2, none⟩ = some (.slice fc xp.length cm) ∧ w'.cell? ⟨bo, o + i * 13 + 3, none⟩ = some (.slice ia xi.length ic) ∧ w'.cell? ⟨bo, o + i * 13 + 4, none⟩ = some (.slice ca xc.length cc) ∧ w'.cell? ⟨bo, o + i * 13 + 5, none⟩ = some (.slice (some ⟨bi, oi, none⟩) m rc) ∧ w'.cell? ⟨bo, o + i * 13 + 6, none⟩ = some (.slice pa op.length pc) ∧ w'.cell? ⟨bo, o + i * 13 + 7, none⟩ = some (.slice la ol.length lc) ∧ w'.cell? ⟨bo, o + i * 13 + 8, none⟩ = some (.slice ha oh.length hcp) ∧ w'.cell? ⟨bo, o + i * 13 + 9, none⟩ = some (.int .i64 lo) ∧ w'.cell? ⟨bo, o + i * 13 + 10, none⟩ = some (.int .i64 hi') ∧ w'.cell? ⟨bo, o + i * 13 + 11, none⟩ = some (.int .i64 lf) ∧ w'.cell? ⟨bo, o + i * 13 + 12, none⟩ = some (.int .i64 hf)) ∧ Ext w7 w') (by kernel_rfl) (HCELLS.out _ (Chg.refl _ _).drew) (fun hHeld => ?_)
                          refine wpAnyH_take (i := 0) (v := ?vb0) rfl (by kernel_rfl) (by kernel_rfl) (by kernel_rfl) (fun _ _ _ h => h) (Or.inl ⟨by rfl, ?hb0⟩) (by assumption) ?rb0
                          case hb0 => intro w hSw; (try dsimp only at hSw); go_simp; (try with_reducible rfl)
                          simp only [Act.put, List.getElem_toArray, List.getElem_cons_zero, List.setIfInBounds_toArray, List.set_cons_zero, List.set_cons_succ]
                          refine wpAnyH_take (i := 1) (v := ?vb1) rfl (by kernel_rfl) (by kernel_rfl) (by kernel_rfl) (fun _ _ _ h => h) (Or.inl ⟨by rfl, ?hb1⟩) (by assumption) ?rb1
                          case hb1 => intro w hSw; (try dsimp only at hSw); go_simp; (try with_reducible rfl)
                          simp only [Act.put, List.getElem_toArray, List.getElem_cons_zero, List.getElem_cons_succ, List.setIfInBounds_toArray, List.set_cons_zero, List.set_cons_succ]
                          refine wpAnyH_take (i := 2) (v := .bool true) rfl (by kernel_rfl) (by kernel_rfl) (by kernel_rfl) (fun _ _ _ h => h) (Or.inl ⟨by rfl, ?hb2⟩) (by assumption) ?rb2
                          case hb2 => intro w hSw; (try dsimp only at hSw); go_simp; (first | done | rfl | simp [hk1])
                          simp only [Act.put, List.getElem_toArray, List.getElem_cons_zero, List.getElem_cons_succ, List.setIfInBounds_toArray, List.set_cons_zero, List.set_cons_succ]
                          refine wpAnyH_take (i := 3) (v := ?vb3) rfl (by kernel_rfl) (by kernel_rfl) (by kernel_rfl) (fun _ _ _ h => h) (Or.inl ⟨by rfl, ?hb3⟩) (by assumption) ?rb3
                          case hb3 => intro w hSw; (try dsimp only at hSw); go_simp; (try with_reducible rfl)
                          simp only [Act.put, List.getElem_toArray, List.getElem_cons_zero, List.getElem_cons_succ, List.setIfInBounds_toArray, List.set_cons_zero, List.set_cons_succ]
                          refine wpAnyH_take (i := 4) (v := ?vb4) rfl (by kernel_rfl) (by kernel_rfl) (by kernel_rfl) (fun _ _ _ h => h) (Or.inl ⟨by rfl, ?hb4⟩) (by assumption) ?rb4
                          case hb4 => intro w hSw; (try dsimp only at hSw); go_simp; (try with_reducible rfl)
                          simp only [Act.put, List.getElem_toArray, List.getElem_cons_zero, List.getElem_cons_succ, List.setIfInBounds_toArray, List.set_cons_zero, List.set_cons_succ]
                          refine wpAnyH_take (i := 5) (v := ?vb5) rfl (by kernel_rfl) (by kernel_rfl) (by kernel_rfl) (fun _ _ _ h => h) (Or.inl ⟨by rfl, ?hb5⟩) (by assumption) ?rb5
                          case hb5 => intro w hSw; (try dsimp only at hSw); go_simp; (try with_reducible rfl)
                          simp only [Act.put, List.getElem_toArray, List.getElem_cons_zero, List.getElem_cons_succ, List.setIfInBounds_toArray, List.set_cons_zero, List.set_cons_succ]
                          refine wpAnyH_take (i := 6) (v := ?vb6) rfl (by kernel_rfl) (by kernel_rfl) (by kernel_rfl) (fun _ _ _ h => h) (Or.inl ⟨by rfl, ?hb6⟩) (by assumption) ?rb6
                          case hb6 => intro w hSw; (try dsimp only at hSw); go_simp; (try with_reducible rfl)
                          simp only [Act.put, List.getElem_toArray, List.getElem_cons_zero, List.getElem_cons_succ, List.setIfInBounds_toArray, List.set_cons_zero, List.set_cons_succ]
                          refine wpAnyH_take (i := 7) (v := ?vb7) rfl (by kernel_rfl) (by kernel_rfl) (by kernel_rfl) (fun _ _ _ h => h) (Or.inl ⟨by rfl, ?hb7⟩) (by assumption) ?rb7
                          case hb7 => intro w hSw; (try dsimp only at hSw); go_simp; (try with_reducible rfl)
                          simp only [Act.put, List.getElem_toArray, List.getElem_cons_zero, List.getElem_cons_succ, List.setIfInBounds_toArray, List.set_cons_zero, List.set_cons_succ]
                          refine wpAnyH_take (i := 8) (v := ?vb8) rfl (by kernel_rfl) (by kernel_rfl) (by kernel_rfl) (fun _ _ _ h => h) (Or.inl ⟨by rfl, ?hb8⟩) (by assumption) ?rb8
                          case hb8 => intro w hSw; (try dsimp only at hSw); go_simp; (try with_reducible rfl)
                          simp only [Act.put, List.getElem_toArray, List.getElem_cons_zero, List.getElem_cons_succ, List.setIfInBounds_toArray, List.set_cons_zero, List.set_cons_succ]
                          refine wpAnyH_take (i := 9) (v := ?vb9) rfl (by kernel_rfl) (by kernel_rfl) (by kernel_rfl) (fun _ _ _ h => h) (Or.inl ⟨by rfl, ?hb9⟩) (by assumption) ?rb9
                          case hb9 => intro w hSw; (try dsimp only at hSw); go_simp; (try with_reducible rfl)
                          simp only [Act.put, List.getElem_toArray, List.getElem_cons_zero, List.getElem_cons_succ, List.setIfInBounds_toArray, List.set_cons_zero, List.set_cons_succ]
                          refine wpAnyH_ready (rs := [10]) (by kernel_rfl) (by simp) ?_
                          refine AllReadyH.cons rfl (fun K2 hK2 => ?_) AllReadyH.nil
                          go_simp
                          refine (HKW.out _ hHeld.2).mono ?_
                          rintro e w' ⟨rfl, hE'⟩
                          rw [HKN.out]
                          refine hK2.out _ _ (HCELLS.out _ (hHeld.2.ext hE')) (fun hHeld2 => ?_)
                          clear hK2 K2 hHeld hE'
                          try simp only [Act.put, List.getElem_toArray, List.getElem_cons_zero, List.getElem_cons_succ, List.setIfInBounds_toArray, List.set_cons_zero, List.set_cons_succ]
                          refine wpAnyH_take (i := 11) (v := ?vb11) rfl (by kernel_rfl) (by kernel_rfl) (by kernel_rfl) (fun _ _ _ h => h) (Or.inl ⟨by rfl, ?hb11⟩) (by assumption) ?rb11
                          case hb11 => intro w hSw; (try dsimp only at hSw); go_simp; (try with_reducible rfl)
                          simp only [Act.put, List.getElem_toArray, List.getElem_cons_zero, List.getElem_cons_succ, List.setIfInBounds_toArray, List.set_cons_zero, List.set_cons_succ]
                          refine wpAnyH_take (i := 12) (v := ?vb12) rfl (by kernel_rfl) (by kernel_rfl) (by kernel_rfl) (fun _ _ _ h => h) (Or.inl ⟨by rfl, ?hb12⟩) (by assumption) ?rb12
                          case hb12 => intro w hSw; (try dsimp only at hSw); go_simp; (try with_reducible rfl)
                          simp only [Act.put, List.getElem_toArray, List.getElem_cons_zero, List.getElem_cons_succ, List.setIfInBounds_toArray, List.set_cons_zero, List.set_cons_succ]
                          refine wpAnyH_take (i := 13) (v := undef) rfl (by kernel_rfl) (by kernel_rfl) (by kernel_rfl) (fun _ _ _ h => h) (Or.inr ⟨by rfl, rfl⟩) (by assumption) ?_
                          simp only [Act.put, List.getElem_toArray, List.getElem_cons_zero, List.getElem_cons_succ, List.setIfInBounds_toArray, List.set_cons_zero, List.set_cons_succ]
                          refine wpAnyH_take (i := 14) (v := undef) rfl (by kernel_rfl) (by kernel_rfl) (by kernel_rfl) (fun _ _ _ h => h) (Or.inr ⟨by rfl, rfl⟩) (by assumption) ?_
                          simp only [Act.put, List.getElem_toArray, List.getElem_cons_zero, List.getElem_cons_succ, List.setIfInBounds_toArray, List.set_cons_zero, List.set_cons_succ]
                          refine wpAnyH_take (i := 15) (v := undef) rfl (by kernel_rfl) (by kernel_rfl) (by kernel_rfl) (fun _ _ _ h => h) (Or.inr ⟨by rfl, rfl⟩) (by assumption) ?_
                          simp only [Act.put, List.getElem_toArray, List.getElem_cons_zero, List.getElem_cons_succ, List.setIfInBounds_toArray, List.set_cons_zero, List.set_cons_succ]
                          refine wpAnyH_take (i := 16) (v := undef) rfl (by kernel_rfl) (by kernel_rfl) (by kernel_rfl) (fun _ _ _ h => h) (Or.inr ⟨by rfl, rfl⟩) (by assumption) ?_
                          simp only [Act.put, List.getElem_toArray, List.getElem_cons_zero, List.getElem_cons_succ, List.setIfInBounds_toArray, List.set_cons_zero, List.set_cons_succ]
                          refine wpAnyH_take (i := 17) (v := ?vb17) rfl (by kernel_rfl) (by kernel_rfl) (by kernel_rfl) (fun _ _ _ h => h) (Or.inl ⟨by rfl, ?hb17⟩) (by assumption) ?rb17
                          case hb17 => intro w hSw; (try dsimp only at hSw); go_simp; (try with_reducible rfl)
                          simp only [Act.put, List.getElem_toArray, List.getElem_cons_zero, List.getElem_cons_succ, List.setIfInBounds_toArray, List.set_cons_zero, List.set_cons_succ]
                          refine wpAnyH_take (i := 18) (v := ?vb18) rfl (by kernel_rfl) (by kernel_rfl) (by kernel_rfl) (fun _ _ _ h => h) (Or.inl ⟨by rfl, ?hb18⟩) (by assumption) ?rb18
                          case hb18 => intro w hSw; (try dsimp only at hSw); go_simp; (try with_reducible rfl)
                          simp only [Act.put, List.getElem_toArray, List.getElem_cons_zero, List.getElem_cons_succ, List.setIfInBounds_toArray, List.set_cons_zero, List.set_cons_succ]
                          refine wpAnyH_done (by kernel_rfl) ?_ _
                          have hEnd := hHeld2.2
                          clear hHeld2
                          have KB9 := KB7.ext hEnd
                          have hEw9 := HEW7.out.ext hEnd
                          have hKc := KB9.cell
                          have hKf := KB9.frozen
                          have hKl := KB9.lt
                          clear hEnd KB7
                          go_wp2_with fail
                          refine ends_one rfl rfl rfl (Blk.three KB9 _ _ _) Tryz.underlying28 rfl (by kernel_rfl) ?_
                          exact wr_some (three_new hEw9 (by omega) _ _ _) HX.out
                        · obtain ⟨SN, hSN⟩ : ∃ b, decide (SV < 0) = b := ⟨_, rfl⟩
                          rw [hSN] at HS1 HS2
                          have HSN := Lib.hid hSN
                          clear hSN
                          cases SN
                          · have HX := Lib.hid (HS2.out rfl)
                            refine wp_region_held_drew (S := fun w' => (w'.cell? ⟨kr, 0, none⟩ = some (.int .i64 ra_) ∧ w'.cell? ⟨kr, 1, none⟩ = some (.int .i64 rk) ∧ w'.cell? ⟨kr, 2, none⟩ = some (.string rm) ∧ w'.cell? ⟨kr, 3, none⟩ = some (.string rn) ∧ w'.cell? ⟨bo, o + i * 13, none⟩ = some (.string xn) ∧ w'.cell? ⟨bo, o + i * 13 + 1, none⟩ = some (.slice fa xv.length am) ∧ w'.cell? ⟨bo, o + i * 13 + 2, none⟩ = some (.slice fc xp.length cm) ∧ w'.cell? ⟨bo, o + i * 13 + 3, none⟩ = some (.slice ia xi.length ic) ∧ w'.cell? ⟨bo, o + i * 13 + 4, none⟩ = some (.slice ca xc.length cc) ∧ w'.cell? ⟨bo, o + i * 13 + 5, none⟩ = some (.slice (some ⟨bi, oi, none⟩) m rc) ∧ w'.cell? ⟨bo, o + i * 13 + 6, none⟩ = some (.slice pa op.length pc) ∧ w'.cell? ⟨bo, o + i * 13 + 7, none⟩ = some (.slice la ol.length lc) ∧ w'.cell? ⟨bo, o + i * 13 + 8, none⟩ = some (.slice ha oh.length hcp) ∧ w'.cell? ⟨bo, o + i * 13 + 9, none⟩ = some (.int .i64 lo) ∧ w'.cell? ⟨bo, o + i * 13 + 10, none⟩ = some (.int .i64 hi') ∧ w'.cell? ⟨bo, o + i * 13 + 11, none⟩ = some (.int .i64 lf) ∧ w'.cell? ⟨bo, o + i * 13 + 12, none⟩ = some (.int .i64 hf)) ∧ Ext w7 w') (by kernel_rfl) (HCELLS.out _ (Chg.refl _ _).drew) (fun hHeld => ?_)
                            refine wpAnyH_take (i := 0) (v := ?vc0) rfl (by kernel_rfl) (by kernel_rfl) (by kernel_rfl) (fun _ _ _ h => h) (Or.inl ⟨by rfl, ?hc0⟩) (by assumption) ?rc0
                            case hc0 => intro w hSw; (try dsimp only at hSw); go_simp; (try with_reducible rfl)
                            simp only [Act.put, List.getElem_toArray, List.getElem_cons_zero, List.setIfInBounds_toArray, List.set_cons_zero, List.set_cons_succ]
                            refine wpAnyH_take (i := 1) (v := ?vc1) rfl (by kernel_rfl) (by kernel_rfl) (by kernel_rfl) (fun _ _ _ h => h) (Or.inl ⟨by rfl, ?hc1⟩) (by assumption) ?rc1
                            case hc1 => intro w hSw; (try dsimp only at hSw); go_simp; (try with_reducible rfl)
                            simp only [Act.put, List.getElem_toArray, List.getElem_cons_zero, List.getElem_cons_succ, List.setIfInBounds_toArray, List.set_cons_zero, List.set_cons_succ]
                            refine wpAnyH_take (i := 2) (v := .bool true) rfl (by kernel_rfl) (by kernel_rfl) (by kernel_rfl) (fun _ _ _ h => h) (Or.inl ⟨by rfl, ?hc2⟩) (by assumption) ?rc2
                            case hc2 => intro w hSw; (try dsimp only at hSw); go_simp; (first | done | rfl | simp [hk1])
                            simp only [Act.put, List.getElem_toArray, List.getElem_cons_zero, List.getElem_cons_succ, List.setIfInBounds_toArray, List.set_cons_zero, List.set_cons_succ]
                            refine wpAnyH_take (i := 3) (v := ?vc3) rfl (by kernel_rfl) (by kernel_rfl) (by kernel_rfl) (fun _ _ _ h => h) (Or.inl ⟨by rfl, ?hc3⟩) (by assumption) ?rc3
                            case hc3 => intro w hSw; (try dsimp only at hSw); go_simp; (try with_reducible rfl)
                            simp only [Act.put, List.getElem_toArray, List.getElem_cons_zero, List.getElem_cons_succ, List.setIfInBounds_toArray, List.set_cons_zero, List.set_cons_succ]
                            refine wpAnyH_take (i := 4) (v := ?vc4) rfl (by kernel_rfl) (by kernel_rfl) (by kernel_rfl) (fun _ _ _ h => h) (Or.inl ⟨by rfl, ?hc4⟩) (by assumption) ?rc4
                            case hc4 => intro w hSw; (try dsimp only at hSw); go_simp; (try with_reducible rfl)
                            simp only [Act.put, List.getElem_toArray, List.getElem_cons_zero, List.getElem_cons_succ, List.setIfInBounds_toArray, List.set_cons_zero, List.set_cons_succ]
                            refine wpAnyH_take (i := 5) (v := ?vc5) rfl (by kernel_rfl) (by kernel_rfl) (by kernel_rfl) (fun _ _ _ h => h) (Or.inl ⟨by rfl, ?hc5⟩) (by assumption) ?rc5
                            case hc5 => intro w hSw; (try dsimp only at hSw); go_simp; (try with_reducible rfl)
                            simp only [Act.put, List.getElem_toArray, List.getElem_cons_zero, List.getElem_cons_succ, List.setIfInBounds_toArray, List.set_cons_zero, List.set_cons_succ]
                            refine wpAnyH_take (i := 6) (v := ?vc6) rfl (by kernel_rfl) (by kernel_rfl) (by kernel_rfl) (fun _ _ _ h => h) (Or.inl ⟨by rfl, ?hc6⟩) (by assumption) ?rc6
                            case hc6 => intro w hSw; (try dsimp only at hSw); go_simp; (try with_reducible rfl)
                            simp only [Act.put, List.getElem_toArray, List.getElem_cons_zero, List.getElem_cons_succ, List.setIfInBounds_toArray, List.set_cons_zero, List.set_cons_succ]
                            refine wpAnyH_take (i := 7) (v := ?vc7) rfl (by kernel_rfl) (by kernel_rfl) (by kernel_rfl) (fun _ _ _ h => h) (Or.inl ⟨by rfl, ?hc7⟩) (by assumption) ?rc7
                            case hc7 => intro w hSw; (try dsimp only at hSw); go_simp; (try with_reducible rfl)
                            simp only [Act.put, List.getElem_toArray, List.getElem_cons_zero, List.getElem_cons_succ, List.setIfInBounds_toArray, List.set_cons_zero, List.set_cons_succ]
                            refine wpAnyH_take (i := 8) (v := ?vc8) rfl (by kernel_rfl) (by kernel_rfl) (by kernel_rfl) (fun _ _ _ h => h) (Or.inl ⟨by rfl, ?hc8⟩) (by assumption) ?rc8
                            case hc8 => intro w hSw; (try dsimp only at hSw); go_simp; (try with_reducible rfl)
                            simp only [Act.put, List.getElem_toArray, List.getElem_cons_zero, List.getElem_cons_succ, List.setIfInBounds_toArray, List.set_cons_zero, List.set_cons_succ]
                            refine wpAnyH_take (i := 9) (v := ?vc9) rfl (by kernel_rfl) (by kernel_rfl) (by kernel_rfl) (fun _ _ _ h => h) (Or.inl ⟨by rfl, ?hc9⟩) (by assumption) ?rc9
                            case hc9 => intro w hSw; (try dsimp only at hSw); go_simp; (try with_reducible rfl)
                            simp only [Act.put, List.getElem_toArray, List.getElem_cons_zero, List.getElem_cons_succ, List.setIfInBounds_toArray, List.set_cons_zero, List.set_cons_succ]
                            refine wpAnyH_ready (rs := [10]) (by kernel_rfl) (by simp) ?_
                            refine AllReadyH.cons rfl (fun K2 hK2 => ?_) AllReadyH.nil
                            go_simp
                            refine (HKW.out _ hHeld.2).mono ?_
                            rintro e w' ⟨rfl, hE'⟩
                            rw [HKN.out]
                            refine hK2.out _ _ (HCELLS.out _ (hHeld.2.ext hE')) (fun hHeld2 => ?_)
                            clear hK2 K2 hHeld hE'
                            try simp only [Act.put, List.getElem_toArray, List.getElem_cons_zero, List.getElem_cons_succ, List.setIfInBounds_toArray, List.set_cons_zero, List.set_cons_succ]
                            refine wpAnyH_take (i := 11) (v := ?vc11) rfl (by kernel_rfl) (by kernel_rfl) (by kernel_rfl) (fun _ _ _ h => h) (Or.inl ⟨by rfl, ?hc11⟩) (by assumption) ?rc11
                            case hc11 => intro w hSw; (try dsimp only at hSw); go_simp; (try with_reducible rfl)
                            simp only [Act.put, List.getElem_toArray, List.getElem_cons_zero, List.getElem_cons_succ, List.setIfInBounds_toArray, List.set_cons_zero, List.set_cons_succ]
                            refine wpAnyH_take (i := 12) (v := ?vc12) rfl (by kernel_rfl) (by kernel_rfl) (by kernel_rfl) (fun _ _ _ h => h) (Or.inl ⟨by rfl, ?hc12⟩) (by assumption) ?rc12
                            case hc12 => intro w hSw; (try dsimp only at hSw); go_simp; (try with_reducible rfl)
                            simp only [Act.put, List.getElem_toArray, List.getElem_cons_zero, List.getElem_cons_succ, List.setIfInBounds_toArray, List.set_cons_zero, List.set_cons_succ]
                            refine wpAnyH_take (i := 13) (v := ?vc13) rfl (by kernel_rfl) (by kernel_rfl) (by kernel_rfl) (fun _ _ _ h => h) (Or.inl ⟨by rfl, ?hc13⟩) (by assumption) ?rc13
                            case hc13 => intro w hSw; (try dsimp only at hSw); go_simp; (try with_reducible rfl)
                            simp only [Act.put, List.getElem_toArray, List.getElem_cons_zero, List.getElem_cons_succ, List.setIfInBounds_toArray, List.set_cons_zero, List.set_cons_succ]
                            refine wpAnyH_take (i := 14) (v := ?vc14) rfl (by kernel_rfl) (by kernel_rfl) (by kernel_rfl) (fun _ _ _ h => h) (Or.inl ⟨by rfl, ?hc14⟩) (by assumption) ?rc14
                            case hc14 => intro w hSw; (try dsimp only at hSw); go_simp; (try with_reducible rfl)
                            simp only [Act.put, List.getElem_toArray, List.getElem_cons_zero, List.getElem_cons_succ, List.setIfInBounds_toArray, List.set_cons_zero, List.set_cons_succ]
                            refine wpAnyH_ready (rs := [15]) (by kernel_rfl) (by simp) ?_
                            refine AllReadyH.cons rfl (fun K3 hK3 => ?_) AllReadyH.nil
                            go_simp
                            refine (HST.out _ hHeld2.2).mono ?_
                            rintro e w' ⟨rfl, hE'⟩
                            rw [HSV.out]
                            refine hK3.out _ _ (HCELLS.out _ (hHeld2.2.ext hE')) (fun hHeld3 => ?_)
                            clear hK3 K3 hHeld2 hE'
                            try simp only [Act.put, List.getElem_toArray, List.getElem_cons_zero, List.getElem_cons_succ, List.setIfInBounds_toArray, List.set_cons_zero, List.set_cons_succ]
                            have hsn := HSN.out
                            refine wpAnyH_take (i := 16) (v := .bool false) rfl (by kernel_rfl) (by kernel_rfl) (by kernel_rfl) (fun _ _ _ h => h) (Or.inl ⟨by rfl, ?hc16⟩) (by assumption) ?rc16
                            case hc16 => intro w hSw; (try dsimp only at hSw); go_simp; (first | done | rfl | simp [hsn])
                            simp only [Act.put, List.getElem_toArray, List.getElem_cons_zero, List.getElem_cons_succ, List.setIfInBounds_toArray, List.set_cons_zero, List.set_cons_succ]
                            refine wpAnyH_take (i := 17) (v := ?vc17) rfl (by kernel_rfl) (by kernel_rfl) (by kernel_rfl) (fun _ _ _ h => h) (Or.inl ⟨by rfl, ?hc17⟩) (by assumption) ?rc17
                            case hc17 => intro w hSw; (try dsimp only at hSw); go_simp; (try with_reducible rfl)
                            simp only [Act.put, List.getElem_toArray, List.getElem_cons_zero, List.getElem_cons_succ, List.setIfInBounds_toArray, List.set_cons_zero, List.set_cons_succ]
                            refine wpAnyH_take (i := 18) (v := ?vc18) rfl (by kernel_rfl) (by kernel_rfl) (by kernel_rfl) (fun _ _ _ h => h) (Or.inl ⟨by rfl, ?hc18⟩) (by assumption) ?rc18
                            case hc18 => intro w hSw; (try dsimp only at hSw); go_simp; (try with_reducible rfl)
                            simp only [Act.put, List.getElem_toArray, List.getElem_cons_zero, List.getElem_cons_succ, List.setIfInBounds_toArray, List.set_cons_zero, List.set_cons_succ]
                            clear hsn
                            refine wpAnyH_done (by kernel_rfl) ?_ _
                            have hEnd := hHeld3.2
                            clear hHeld3
                            have hE9 := HE27.out.ext hEnd
                            clear hEnd KB7
                            go_wp2_with fail
                            go_roundw
                            case rel => exact ⟨q + 1, by omega, by go_num, hE9, HX⟩
                            case measure => simp [intOf]; omega
                          · have HX := Lib.hid (HR3.out _ (HS1.out rfl))
                            refine wp_region_held_drew (S := fun w' => (w'.cell? ⟨kr, 0, none⟩ = some (.int .i64 ra_) ∧ w'.cell? ⟨kr, 1, none⟩ = some (.int .i64 rk) ∧ w'.cell? ⟨kr, 2, none⟩ = some (.string rm) ∧ w'.cell? ⟨kr, 3, none⟩ = some (.string rn) ∧ w'.cell? ⟨bo, o + i * 13, none⟩ = some (.string xn) ∧ w'.cell? ⟨bo, o + i * 13 + 1, none⟩ = some (.slice fa xv.length am) ∧ w'.cell? ⟨bo, o + i * 13 + 2, none⟩ = some (.slice fc xp.length cm) ∧ w'.cell? ⟨bo, o + i * 13 + 3, none⟩ = some (.slice ia xi.length ic) ∧ w'.cell? ⟨bo, o + i * 13 + 4, none⟩ = some (.slice ca xc.length cc) ∧ w'.cell? ⟨bo, o + i * 13 + 5, none⟩ = some (.slice (some ⟨bi, oi, none⟩) m rc) ∧ w'.cell? ⟨bo, o + i * 13 + 6, none⟩ = some (.slice pa op.length pc) ∧ w'.cell? ⟨bo, o + i * 13 + 7, none⟩ = some (.slice la ol.length lc) ∧ w'.cell? ⟨bo, o + i * 13 + 8, none⟩ = some (.slice ha oh.length hcp) ∧ w'.cell? ⟨bo, o + i * 13 + 9, none⟩ = some (.int .i64 lo) ∧ w'.cell? ⟨bo, o + i * 13 + 10, none⟩ = some (.int .i64 hi') ∧ w'.cell? ⟨bo, o + i * 13 + 11, none⟩ = some (.int .i64 lf) ∧ w'.cell? ⟨bo, o + i * 13 + 12, none⟩ = some (.int .i64 hf)) ∧ Ext w7 w') (by kernel_rfl) (HCELLS.out _ (Chg.refl _ _).drew) (fun hHeld => ?_)
                            refine wpAnyH_take (i := 0) (v := ?vd0) rfl (by kernel_rfl) (by kernel_rfl) (by kernel_rfl) (fun _ _ _ h => h) (Or.inl ⟨by rfl, ?hd0⟩) (by assumption) ?rd0
                            case hd0 => intro w hSw; (try dsimp only at hSw); go_simp; (try with_reducible rfl)
                            simp only [Act.put, List.getElem_toArray, List.getElem_cons_zero, List.setIfInBounds_toArray, List.set_cons_zero, List.set_cons_succ]
                            refine wpAnyH_take (i := 1) (v := ?vd1) rfl (by kernel_rfl) (by kernel_rfl) (by kernel_rfl) (fun _ _ _ h => h) (Or.inl ⟨by rfl, ?hd1⟩) (by assumption) ?rd1
                            case hd1 => intro w hSw; (try dsimp only at hSw); go_simp; (try with_reducible rfl)
                            simp only [Act.put, List.getElem_toArray, List.getElem_cons_zero, List.getElem_cons_succ, List.setIfInBounds_toArray, List.set_cons_zero, List.set_cons_succ]
                            refine wpAnyH_take (i := 2) (v := .bool true) rfl (by kernel_rfl) (by kernel_rfl) (by kernel_rfl) (fun _ _ _ h => h) (Or.inl ⟨by rfl, ?hd2⟩) (by assumption) ?rd2
                            case hd2 => intro w hSw; (try dsimp only at hSw); go_simp; (first | done | rfl | simp [hk1])
                            simp only [Act.put, List.getElem_toArray, List.getElem_cons_zero, List.getElem_cons_succ, List.setIfInBounds_toArray, List.set_cons_zero, List.set_cons_succ]
                            refine wpAnyH_take (i := 3) (v := ?vd3) rfl (by kernel_rfl) (by kernel_rfl) (by kernel_rfl) (fun _ _ _ h => h) (Or.inl ⟨by rfl, ?hd3⟩) (by assumption) ?rd3
                            case hd3 => intro w hSw; (try dsimp only at hSw); go_simp; (try with_reducible rfl)
                            simp only [Act.put, List.getElem_toArray, List.getElem_cons_zero, List.getElem_cons_succ, List.setIfInBounds_toArray, List.set_cons_zero, List.set_cons_succ]
                            refine wpAnyH_take (i := 4) (v := ?vd4) rfl (by kernel_rfl) (by kernel_rfl) (by kernel_rfl) (fun _ _ _ h => h) (Or.inl ⟨by rfl, ?hd4⟩) (by assumption) ?rd4
                            case hd4 => intro w hSw; (try dsimp only at hSw); go_simp; (try with_reducible rfl)
                            simp only [Act.put, List.getElem_toArray, List.getElem_cons_zero, List.getElem_cons_succ, List.setIfInBounds_toArray, List.set_cons_zero, List.set_cons_succ]
                            refine wpAnyH_take (i := 5) (v := ?vd5) rfl (by kernel_rfl) (by kernel_rfl) (by kernel_rfl) (fun _ _ _ h => h) (Or.inl ⟨by rfl, ?hd5⟩) (by assumption) ?rd5
                            case hd5 => intro w hSw; (try dsimp only at hSw); go_simp; (try with_reducible rfl)
                            simp only [Act.put, List.getElem_toArray, List.getElem_cons_zero, List.getElem_cons_succ, List.setIfInBounds_toArray, List.set_cons_zero, List.set_cons_succ]
                            refine wpAnyH_take (i := 6) (v := ?vd6) rfl (by kernel_rfl) (by kernel_rfl) (by kernel_rfl) (fun _ _ _ h => h) (Or.inl ⟨by rfl, ?hd6⟩) (by assumption) ?rd6
                            case hd6 => intro w hSw; (try dsimp only at hSw); go_simp; (try with_reducible rfl)
                            simp only [Act.put, List.getElem_toArray, List.getElem_cons_zero, List.getElem_cons_succ, List.setIfInBounds_toArray, List.set_cons_zero, List.set_cons_succ]
                            refine wpAnyH_take (i := 7) (v := ?vd7) rfl (by kernel_rfl) (by kernel_rfl) (by kernel_rfl) (fun _ _ _ h => h) (Or.inl ⟨by rfl, ?hd7⟩) (by assumption) ?rd7
                            case hd7 => intro w hSw; (try dsimp only at hSw); go_simp; (try with_reducible rfl)
                            simp only [Act.put, List.getElem_toArray, List.getElem_cons_zero, List.getElem_cons_succ, List.setIfInBounds_toArray, List.set_cons_zero, List.set_cons_succ]
                            refine wpAnyH_take (i := 8) (v := ?vd8) rfl (by kernel_rfl) (by kernel_rfl) (by kernel_rfl) (fun _ _ _ h => h) (Or.inl ⟨by rfl, ?hd8⟩) (by assumption) ?rd8
                            case hd8 => intro w hSw; (try dsimp only at hSw); go_simp; (try with_reducible rfl)
                            simp only [Act.put, List.getElem_toArray, List.getElem_cons_zero, List.getElem_cons_succ, List.setIfInBounds_toArray, List.set_cons_zero, List.set_cons_succ]
                            refine wpAnyH_take (i := 9) (v := ?vd9) rfl (by kernel_rfl) (by kernel_rfl) (by kernel_rfl) (fun _ _ _ h => h) (Or.inl ⟨by rfl, ?hd9⟩) (by assumption) ?rd9
                            case hd9 => intro w hSw; (try dsimp only at hSw); go_simp; (try with_reducible rfl)
                            simp only [Act.put, List.getElem_toArray, List.getElem_cons_zero, List.getElem_cons_succ, List.setIfInBounds_toArray, List.set_cons_zero, List.set_cons_succ]
                            refine wpAnyH_ready (rs := [10]) (by kernel_rfl) (by simp) ?_
                            refine AllReadyH.cons rfl (fun K2 hK2 => ?_) AllReadyH.nil
                            go_simp
                            refine (HKW.out _ hHeld.2).mono ?_
                            rintro e w' ⟨rfl, hE'⟩
                            rw [HKN.out]
                            refine hK2.out _ _ (HCELLS.out _ (hHeld.2.ext hE')) (fun hHeld2 => ?_)
                            clear hK2 K2 hHeld hE'
                            try simp only [Act.put, List.getElem_toArray, List.getElem_cons_zero, List.getElem_cons_succ, List.setIfInBounds_toArray, List.set_cons_zero, List.set_cons_succ]
                            refine wpAnyH_take (i := 11) (v := ?vd11) rfl (by kernel_rfl) (by kernel_rfl) (by kernel_rfl) (fun _ _ _ h => h) (Or.inl ⟨by rfl, ?hd11⟩) (by assumption) ?rd11
                            case hd11 => intro w hSw; (try dsimp only at hSw); go_simp; (try with_reducible rfl)
                            simp only [Act.put, List.getElem_toArray, List.getElem_cons_zero, List.getElem_cons_succ, List.setIfInBounds_toArray, List.set_cons_zero, List.set_cons_succ]
                            refine wpAnyH_take (i := 12) (v := ?vd12) rfl (by kernel_rfl) (by kernel_rfl) (by kernel_rfl) (fun _ _ _ h => h) (Or.inl ⟨by rfl, ?hd12⟩) (by assumption) ?rd12
                            case hd12 => intro w hSw; (try dsimp only at hSw); go_simp; (try with_reducible rfl)
                            simp only [Act.put, List.getElem_toArray, List.getElem_cons_zero, List.getElem_cons_succ, List.setIfInBounds_toArray, List.set_cons_zero, List.set_cons_succ]
                            refine wpAnyH_take (i := 13) (v := ?vd13) rfl (by kernel_rfl) (by kernel_rfl) (by kernel_rfl) (fun _ _ _ h => h) (Or.inl ⟨by rfl, ?hd13⟩) (by assumption) ?rd13
                            case hd13 => intro w hSw; (try dsimp only at hSw); go_simp; (try with_reducible rfl)
                            simp only [Act.put, List.getElem_toArray, List.getElem_cons_zero, List.getElem_cons_succ, List.setIfInBounds_toArray, List.set_cons_zero, List.set_cons_succ]
                            refine wpAnyH_take (i := 14) (v := ?vd14) rfl (by kernel_rfl) (by kernel_rfl) (by kernel_rfl) (fun _ _ _ h => h) (Or.inl ⟨by rfl, ?hd14⟩) (by assumption) ?rd14
                            case hd14 => intro w hSw; (try dsimp only at hSw); go_simp; (try with_reducible rfl)
                            simp only [Act.put, List.getElem_toArray, List.getElem_cons_zero, List.getElem_cons_succ, List.setIfInBounds_toArray, List.set_cons_zero, List.set_cons_succ]
                            refine wpAnyH_ready (rs := [15]) (by kernel_rfl) (by simp) ?_
                            refine AllReadyH.cons rfl (fun K3 hK3 => ?_) AllReadyH.nil
                            go_simp
                            refine (HST.out _ hHeld2.2).mono ?_
                            rintro e w' ⟨rfl, hE'⟩
                            rw [HSV.out]
                            refine hK3.out _ _ (HCELLS.out _ (hHeld2.2.ext hE')) (fun hHeld3 => ?_)
                            clear hK3 K3 hHeld2 hE'
                            try simp only [Act.put, List.getElem_toArray, List.getElem_cons_zero, List.getElem_cons_succ, List.setIfInBounds_toArray, List.set_cons_zero, List.set_cons_succ]
                            have hsn := HSN.out
                            refine wpAnyH_take (i := 16) (v := .bool true) rfl (by kernel_rfl) (by kernel_rfl) (by kernel_rfl) (fun _ _ _ h => h) (Or.inl ⟨by rfl, ?hd16⟩) (by assumption) ?rd16
                            case hd16 => intro w hSw; (try dsimp only at hSw); go_simp; (first | done | rfl | simp [hsn])
                            simp only [Act.put, List.getElem_toArray, List.getElem_cons_zero, List.getElem_cons_succ, List.setIfInBounds_toArray, List.set_cons_zero, List.set_cons_succ]
                            refine wpAnyH_take (i := 17) (v := ?vd17) rfl (by kernel_rfl) (by kernel_rfl) (by kernel_rfl) (fun _ _ _ h => h) (Or.inl ⟨by rfl, ?hd17⟩) (by assumption) ?rd17
                            case hd17 => intro w hSw; (try dsimp only at hSw); go_simp; (try with_reducible rfl)
                            simp only [Act.put, List.getElem_toArray, List.getElem_cons_zero, List.getElem_cons_succ, List.setIfInBounds_toArray, List.set_cons_zero, List.set_cons_succ]
                            refine wpAnyH_take (i := 18) (v := ?vd18) rfl (by kernel_rfl) (by kernel_rfl) (by kernel_rfl) (fun _ _ _ h => h) (Or.inl ⟨by rfl, ?hd18⟩) (by assumption) ?rd18
                            case hd18 => intro w hSw; (try dsimp only at hSw); go_simp; (try with_reducible rfl)
                            simp only [Act.put, List.getElem_toArray, List.getElem_cons_zero, List.getElem_cons_succ, List.setIfInBounds_toArray, List.set_cons_zero, List.set_cons_succ]
                            clear hsn
                            refine wpAnyH_done (by kernel_rfl) ?_ _
                            have hEnd := hHeld3.2
                            clear hHeld3
                            have KB9 := KB7.ext hEnd
                            have hEw9 := HEW7.out.ext hEnd
                            have hKc := KB9.cell
                            have hKf := KB9.frozen
                            have hKl := KB9.lt
                            clear hEnd KB7
                            go_wp2_with fail
                            refine ends_one rfl rfl rfl (Blk.three KB9 _ _ _) Tryz.underlying28 rfl (by kernel_rfl) ?_
                            exact wr_some (three_new hEw9 (by omega) _ _ _) HX.out
                    · obtain rfl : q = m := by omega
                      have HX := Lib.hid (show relF l (i + 1) (l.drop (i + 1)) = R3 by have := hr.out; rwa [List.drop_of_length_le (by rw [HMM.out]; exact Nat.le_refl _), relF1, Option.none_or] at this)
                      have hE6 := HE.out.ext hE2
                      clear hr hE2
                      go_wp2_with fail
                      go_roundw
                      case rel => exact ⟨i + 1, by omega, by go_num, hE6, HX⟩
                      case measure => simp [intOf]; omega
                · obtain rfl : k = i := by omega
                  obtain rfl : R3 = none := by have := hr.out; rw [List.drop_of_length_le (by rw [HN.out]; exact Nat.le_refl _)] at this; exact this.symm
                  clear hr
                  have hEw := hE1.ext hE
                  have KBr := KB.ext hE
                  go_wp2_with fail
                  refine (rmain_any a l k cap _ HN.out (HOBJ.out _ hEw) (by omega) (fun x hx => (HMAY.out x hx).1) HSM.out (fun x hx => (HMAY.out x hx).2.1)).mono ?_
                  rintro e w9 ⟨rfl, hE9⟩
                  have hEw9 := hEw.ext hE9
                  have KB9 := KBr.ext hE9
                  have hKc := KB9.cell
                  have hKf := KB9.frozen
                  have hKl := KB9.lt
                  obtain ⟨MV, hMV⟩ : ∃ q, mainF l = q := ⟨_, rfl⟩
                  have HMV := Lib.hid hMV
                  cases MV with
                  | none =>
                    have HX := Lib.hid (show T = some (0, 4, 0) by rw [← HT.out]; exact wrong_main HOK.out HF1.out HF2.out HF3.out HMV.out)
                    rw [show rMainF l = -1 by unfold rMainF; rw [hMV]]
                    clear hMV
                    go_wp2_with fail
                    refine ends_one rfl rfl rfl (Blk.three KB9 _ _ _) Tryz.underlying28 rfl (by kernel_rfl) ?_
                    exact wr_some (three_new hEw9 (by omega) _ _ _) HX.out
                  | some mm =>
                    have HX := Lib.hid (show T = none by rw [← HT.out]; exact wrong_none HOK.out HF1.out HF2.out HF3.out HMV.out)
                    obtain ⟨MX, hMX⟩ : ∃ q, rMainF l = q := ⟨_, rfl⟩
                    have hmx : 0 ≤ MX := by rw [← hMX]; exact rmain_pos hMV (fun x hx => (HMAY.out x hx).1) (fun x hx => (HMAY.out x hx).2.1)
                    rw [hMX]
                    clear hMV hMX
                    go_wp2_with fail
                    refine ends_one rfl rfl rfl (Blk.three KB9 _ _ _) Tryz.underlying28 rfl (by kernel_rfl) ?_
                    exact wr_none (three_new hEw9 (by omega) _ _ _) HX.out
    · have HX := Lib.hid (show T = some (0, 1, 0) by rw [← HT.out]; exact wrong_size (by rw [HN.out]; omega))
      go_wp2_with fail
      refine ends_one rfl rfl rfl (Blk.made _ _ _) Tryz.underlying28 rfl (by kernel_rfl) ?_
      exact wr_some ((Chg.refl _ _).alloc _) HX.out
  · obtain rfl : n = 0 := by omega
    have HX := Lib.hid (show T = some (0, 1, 0) by rw [← HT.out]; exact wrong_size (by rw [HN.out]; omega))
    go_wp2_with fail
    refine ends_one rfl rfl rfl (Blk.made _ _ _) Tryz.underlying28 rfl (by kernel_rfl) ?_
    exact wr_some ((Chg.refl _ _).alloc _) HX.out
end rlink
end Go.Proofs.YtpcihajmcejliabGreatDoor

