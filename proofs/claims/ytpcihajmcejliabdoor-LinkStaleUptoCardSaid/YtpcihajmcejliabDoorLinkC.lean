/- The walk of the linker's place. The walk of the linker's relocs. The rows of the linker: where each object's orders begin, and its words. -/
import Derived.Test.YtpcihajmcejliabDoorLinkB
import Derived.Test.YtpcihajmcejliabDoorChainA
import Derived.Test.YtpcihajmcejliabDoorGetI
namespace Go.Proofs.YtpcihajmcejliabDoor
open Go.RowKit Go.WideMaps Go.Maps
instance : Inhabited FObj := ⟨⟨default, [], [], [], [], [], [], 0, 0, 0, 0⟩⟩
/-- the place that a reloc names: which row of names, which row of bases -/
def relPick {α : Type} (k : Int) (c l h : α) : α := if k = 3 then l else if k = 4 then h else c
def placeF (l : List FObj) (cs ls hs : List Int) (r : FRel) : Int × Bool :=
  let g := (modF (modsF l) r.modn).getD 0
  let o := (l[g]?).getD default
  let p := linkw.findF (relPick r.kind o.procs o.lows o.highs) r.name
  (((relPick r.kind cs ls hs)[g]?).getD 0 + p.getD 0, p.isSome)
namespace linkw
open face
theorem found {l : List FPlc} {s : ByteArray} {a : Int} (h : findF l s = some a) : ∃ p ∈ l, p.at_ = a := by
  induction l with
  | nil => cases h
  | cons p r ih =>
    simp only [findF] at h
    split at h
    · exact ⟨p, List.mem_cons_self .., Option.some.inj h⟩
    · obtain ⟨q, hq, e⟩ := ih h; exact ⟨q, List.mem_cons_of_mem _ hq, e⟩
def PlcOk (l : List FPlc) : Prop := l.length < 1000000000 ∧ ∀ p ∈ l, 0 ≤ p.at_ ∧ p.at_ ≤ 1000000000
theorem found_le {l : List FPlc} (h : PlcOk l) (s : ByteArray) : 0 ≤ (findF l s).getD 0 ∧ (findF l s).getD 0 ≤ 1000000000 := by
  cases hf : findF l s with
  | none => simp
  | some a => obtain ⟨p, hp, rfl⟩ := found hf; simpa using h.2 p hp
def BasesOk (n : Nat) (l : List Int) : Prop := l.length = n ∧ ∀ x ∈ l, 0 ≤ x ∧ x ≤ 1000000000000
theorem IntIn.all {w w' : World} (hE : Ext w w') {a : Option Addr} {l : List Int} (h : AllIn 1 IntIn w a l) : AllIn 1 IntIn w' a l := h.mono hE.size fun _ _ _ hb h => IntIn.ext hE hb h
/-- the last two statements of place: find, and the sum -/
theorem base_at {w : World} {a : Option Addr} {bs : List Int} {n g : Nat} (hb : BasesOk n bs) (h : AllIn 1 IntIn w a bs) (hg : g < n) :
    ∃ b o x, a = some ⟨b, o, none⟩ ∧ b < w.heap.size ∧ w.cell? ⟨b, o + g, none⟩ = some (.int .i64 x) ∧ (bs[g]?).getD 0 = x ∧ 0 ≤ x ∧ x ≤ 1000000000000 := by
  have hgl : g < bs.length := by rw [hb.1]; exact hg
  obtain ⟨b, o, e, hbl, hc⟩ := h g hgl
  refine ⟨b, o, bs[g], e, hbl, ?_, by simp [hgl], (hb.2 _ (List.getElem_mem hgl)).1, (hb.2 _ (List.getElem_mem hgl)).2⟩
  unfold IntIn at hc
  rwa [Nat.mul_one] at hc
set_option maxRecDepth 100000 in
set_option maxHeartbeats 16000000 in
theorem place_any (W : World) (v0 v1 v2 : Value) (a ac al ah : Option Addr) (l : List FObj) (cs ls hs : List Int) (n cap cc cl ch S b : Nat) (w : World) (r : FRel) (hn : l.length = n) (hl : AllIn 13 ObjIn W a l) (hE0 : Ext W w)
    (hB : Blk w S #[v0, v1, v2, .slice a n cap, .map (some b), .slice ac n cc, .slice al n cl, .slice ah n ch] 51) (hM : NumMap w b (modsF l)) (hpos : 0 < n) (_ : n < 1000000)
    (hc : AllIn 1 IntIn w ac cs) (hlo : AllIn 1 IntIn w al ls) (hhi : AllIn 1 IntIn w ah hs) (hcs : BasesOk n cs) (hls : BasesOk n ls) (hhs : BasesOk n hs)
    (hps : ∀ x ∈ l, PlcOk x.procs ∧ PlcOk x.lows ∧ PlcOk x.highs) (hrm : r.modn.size ≤ maxLen) :
    Calls Tryd.prog 14 #[.pointer (some ⟨S, 0, none⟩), .agg #[.int .i64 r.at_, .int .i64 r.kind, .string r.modn, .string r.name]] w
      fun e w' => e = .returned (.tuple #[.int .i64 (placeF l cs ls hs r).1, .bool (placeF l cs ls hs r).2]) ∧ Ext w w' := by
  obtain ⟨Rv, hRv⟩ : ∃ R, placeF l cs ls hs r = R := ⟨_, rfl⟩
  rw [hRv]
  obtain ⟨g, hg⟩ : ∃ g, (modF (modsF l) r.modn).getD 0 = g := ⟨_, rfl⟩
  have hgn : g < n := by
    rw [← hg]
    cases h : modF (modsF l) r.modn with
    | none => exact hpos
    | some i => obtain ⟨h1, _⟩ := modF_some h; rw [← hn]; simpa [modsF] using h1
  have hgl : g < l.length := by omega
  have HRV := Lib.hid (show ((relPick r.kind cs ls hs)[g]?).getD 0 + (findF (relPick r.kind l[g].procs l[g].lows l[g].highs) r.name).getD 0 = Rv.1 ∧ (findF (relPick r.kind l[g].procs l[g].lows l[g].highs) r.name).isSome = Rv.2 by
    rw [← hRv]; simp only [placeF, hg, List.getElem?_eq_getElem hgl, Option.getD_some, and_self])
  obtain ⟨bz, oz, rfl, hbz, hcz⟩ := hl g hgl
  obtain ⟨fa, am, fc, cm, ia, ic, ca, cc', ra, rc, pa, pc, la, lc, ha, hcp, h0, h1, h2, h3, h4, h5, h6, h7, h8, h9, h10, h11, h12, HO⟩ := ObjIn.ext hE0 hbz hcz
  have hbz2 := Nat.lt_of_lt_of_le hbz hE0.size
  have HROWS := Lib.hid HO.rows
  have HPS := Lib.hid (hps _ (List.getElem_mem hgl))
  have HB := Lib.hid hB
  have HM := Lib.hid hM
  have HG := Lib.hid hg
  have HC := Lib.hid hc
  have HLO := Lib.hid hlo
  have HHI := Lib.hid hhi
  have HCS := Lib.hid hcs
  have HLS := Lib.hid hls
  have HHS := Lib.hid hhs
  have hxl := hB.lt
  clear hRv hg HO hcz hps hB hM hc hlo hhi hcs hls hhs hl hE0 hpos hn
  generalize l[g] = z at *
  obtain ⟨xf, xi, xc, xr, op, ol, oh, lo, hi, lf, hf⟩ := z
  obtain ⟨ra_, rk, rm, rn⟩ := r
  simp only at h0 h1 h2 h3 h4 h5 h6 h7 h8 h9 h10 h11 h12 hrm HRV HPS HROWS HG ⊢
  have H13 := Lib.hid (And.intro h0 (And.intro h1 (And.intro h2 (And.intro h3 (And.intro h4 (And.intro h5 (And.intro h6 (And.intro h7 (And.intro h8 (And.intro h9 (And.intro h10 (And.intro h11 h12))))))))))))
  clear h0 h1 h2 h3 h4 h5 h6 h7 h8 h9 h10 h11 h12
  go_enter Tryd.func14, Tryd.ntmps14
  go_wp2_with fail
  have hB1 := Blk.made w #[.int .i64 ra_, .int .i64 rk, .string rm, .string rn] 56
  have hE1 : Ext w (w.alloc (.cells #[.int .i64 ra_, .int .i64 rk, .string rm, .string rn] 56)) := (Chg.refl _ _).alloc _
  generalize w.alloc (.cells #[.int .i64 ra_, .int .i64 rk, .string rm, .string rn] 56) = w1 at *
  have hc1 := hB1.cell
  have hS1 := (HB.out.ext hE1).cell
  have hlk := ((HM.out.kept hE1).drew.look (face.zeroInt w1.drew) hrm).2
  rw [HG.out] at hlk
  go_still (by kernel_rfl)
  clear hlk hc1 hS1
  have hB2 := hB1.drew
  have hE2 := hE1.drew
  change Exit.then _ _ _ _ w1.drew
  clear hB1 hE1
  generalize w1.drew = w2 at *
  have hS2 := (HB.out.ext hE2).cell
  obtain ⟨h0, h1, h2, h3, h4, h5, h6, h7, h8, h9, h10, h11, h12⟩ := H13.out
  have e : ∀ j, w2.cell? ⟨bz, j, none⟩ = w.cell? ⟨bz, j, none⟩ := fun j => hE2.cell (by exact hbz2) id
  rw [← e] at h0 h1 h2 h3 h4 h5 h6 h7 h8 h9 h10 h11 h12
  have hbz3 := Nat.lt_of_lt_of_le hbz2 hE2.size
  clear e
  go_wp2_with fail
  clear h0 h1 h2 h3 h4 h5 h6 h7 h8 h9 h10 h11 h12 hS2
  have hO3 := Blk.made w2 #[.string xf.modn, .slice fa xf.vars.length am, .slice fc xf.procs.length cm, .slice ia xi.length ic, .slice ca xc.length cc', .slice ra xr.length rc, .slice pa op.length pc, .slice la ol.length lc, .slice ha oh.length hcp, .int .i64 lo, .int .i64 hi, .int .i64 lf, .int .i64 hf] 39
  have hB3 := hB2.alloc (.cells #[.string xf.modn, .slice fa xf.vars.length am, .slice fc xf.procs.length cm, .slice ia xi.length ic, .slice ca xc.length cc', .slice ra xr.length rc, .slice pa op.length pc, .slice la ol.length lc, .slice ha oh.length hcp, .int .i64 lo, .int .i64 hi, .int .i64 lf, .int .i64 hf] 39)
  have hE3 := hE2.alloc (.cells #[.string xf.modn, .slice fa xf.vars.length am, .slice fc xf.procs.length cm, .slice ia xi.length ic, .slice ca xc.length cc', .slice ra xr.length rc, .slice pa op.length pc, .slice la ol.length lc, .slice ha oh.length hcp, .int .i64 lo, .int .i64 hi, .int .i64 lf, .int .i64 hf] 39)
  clear hB2 hE2
  generalize w2.alloc (.cells #[.string xf.modn, .slice fa xf.vars.length am, .slice fc xf.procs.length cm, .slice ia xi.length ic, .slice ca xc.length cc', .slice ra xr.length rc, .slice pa op.length pc, .slice la ol.length lc, .slice ha oh.length hcp, .int .i64 lo, .int .i64 hi, .int .i64 lf, .int .i64 hf] 39) = w3 at *
  have hOc := hO3.cell
  have hBc := hB3.cell
  have hSc := (HB.out.ext hE3).cell
  go_still (by kernel_rfl)
  clear hOc hBc hSc
  have hO4 := hO3.drew
  have hB4 := hB3.drew
  have hE4 := hE3.drew
  change Exit.then _ _ _ _ w3.drew
  clear hO3 hB3 hE3
  generalize w3.drew = w4 at *
  have hOc := hO4.cell
  have hBc := hB4.cell
  have hSc := (HB.out.ext hE4).cell
  by_cases hk3 : rk = 3
  · subst hk3
    simp only [relPick, if_true] at HRV
    go_wp2_with fail
    go_still (by kernel_rfl)
    clear hOc hBc hSc
    have hO5 := hO4.drew
    have hB5 := hB4.drew
    have hE5 := hE4.drew
    change Exit.inBlock _ _ _ _ w4.drew
    clear hO4 hB4 hE4
    generalize w4.drew = w5 at *
    have hBc := hB5.cell
    have hln : ol.length ≤ 9223372036854775807 := by have := HPS.out.2.1.1; omega
    go_wp2_with fail
    refine (find_any la ol _ lc rn _ rfl (obj.plc_all HROWS.out.2.2.2.2.2.1 hE5) hln).mono ?_
    rintro e w6 ⟨rfl, hE6⟩
    obtain ⟨bb, bo, xv, rfl, hbb, hcb, hgx, hx0, hx1⟩ := base_at HLS.out (IntIn.all (hE5.ext hE6) HLO.out) hgn
    have hfl := found_le HPS.out.2.1 rn
    rw [hgx] at HRV
    generalize findF ol rn = F at *
    obtain ⟨hr1, hr2⟩ := HRV.out
    obtain ⟨D, hD⟩ : ∃ D, F.getD 0 = D := ⟨_, rfl⟩
    rw [hD] at hr1 hfl ⊢
    clear HRV hgx
    go_wp2_with fail
    go_ret2
    exact ⟨rfl, hE5.ext hE6⟩
  · by_cases hk4 : rk = 4
    · subst hk4
      simp only [relPick, if_neg hk3, if_true] at HRV
      go_wp2_with fail
      go_still (by kernel_rfl)
      clear hOc hBc hSc
      have hO5 := hO4.drew
      have hB5 := hB4.drew
      have hE5 := hE4.drew
      change Exit.inBlock _ _ _ _ w4.drew
      clear hO4 hB4 hE4
      generalize w4.drew = w5 at *
      have hBc := hB5.cell
      have hln : oh.length ≤ 9223372036854775807 := by have := HPS.out.2.2.1; omega
      go_wp2_with fail
      refine (find_any ha oh _ hcp rn _ rfl (obj.plc_all HROWS.out.2.2.2.2.2.2 hE5) hln).mono ?_
      rintro e w6 ⟨rfl, hE6⟩
      obtain ⟨bb, bo, xv, rfl, hbb, hcb, hgx, hx0, hx1⟩ := base_at HHS.out (IntIn.all (hE5.ext hE6) HHI.out) hgn
      have hfl := found_le HPS.out.2.2 rn
      rw [hgx] at HRV
      generalize findF oh rn = F at *
      obtain ⟨hr1, hr2⟩ := HRV.out
      obtain ⟨D, hD⟩ : ∃ D, F.getD 0 = D := ⟨_, rfl⟩
      rw [hD] at hr1 hfl ⊢
      clear HRV hgx
      go_wp2_with fail
      go_ret2
      exact ⟨rfl, hE5.ext hE6⟩
    · simp only [relPick, if_neg hk3, if_neg hk4] at HRV
      have hB5 := hB4
      have hE5 := hE4
      have hln : op.length ≤ 9223372036854775807 := by have := HPS.out.1.1; omega
      go_wp2_with fail
      refine (find_any pa op _ pc rn _ rfl (obj.plc_all HROWS.out.2.2.2.2.1 hE5) hln).mono ?_
      rintro e w6 ⟨rfl, hE6⟩
      obtain ⟨bb, bo, xv, rfl, hbb, hcb, hgx, hx0, hx1⟩ := base_at HCS.out (IntIn.all (hE5.ext hE6) HC.out) hgn
      have hfl := found_le HPS.out.1 rn
      rw [hgx] at HRV
      generalize findF op rn = F at *
      obtain ⟨hr1, hr2⟩ := HRV.out
      obtain ⟨D, hD⟩ : ∃ D, F.getD 0 = D := ⟨_, rfl⟩
      rw [hD] at hr1 hfl ⊢
      clear HRV hgx
      go_wp2_with fail
      go_ret2
      exact ⟨rfl, hE5.ext hE6⟩
end linkw
end Go.Proofs.YtpcihajmcejliabDoor
namespace Go.Proofs.YtpcihajmcejliabDoor
open Go.RowKit Go.WideMaps Go.Maps
/-- is a reloc's name there, and known -/
def relOk (l : List FObj) (x : FObj) (r : FRel) : Bool := decide (r.kind = 1) || (knowsF x r.modn && (placeF l [] [] [] r).2)
def relF1 (l : List FObj) (i : Nat) (x : FObj) : Nat → List FRel → Option (Nat × Int × Int)
  | _, [] => none
  | k, r :: t => if relOk l x r = false then some (i, 4, (k : Int)) else relF1 l i x (k + 1) t
def relF (l : List FObj) : Nat → List FObj → Option (Nat × Int × Int)
  | _, [] => none
  | i, x :: r => (relF1 l i x 0 x.relocs).or (relF l (i + 1) r)
namespace linkw
open face
theorem rel1_step {l : List FObj} {i k : Nat} {x : FObj} {m : List FRel} (h : k < m.length) {R T : Option (Nat × Int × Int)} (hr : (relF1 l i x k (m.drop k)).or T = R) :
    (relOk l x m[k] = false → R = some (i, 4, (k : Int))) ∧ (relOk l x m[k] = true → (relF1 l i x (k + 1) (m.drop (k + 1))).or T = R) := by
  rw [List.drop_eq_getElem_cons h, relF1] at hr
  refine ⟨fun e => ?_, fun e => ?_⟩
  · simp only [e, if_true] at hr; simpa using hr.symm
  · simp only [e] at hr; simpa using hr
theorem rel_step {l : List FObj} {k : Nat} (h : k < l.length) {R : Option (Nat × Int × Int)} (hr : relF l k (l.drop k) = R) : (relF1 l k l[k] 0 (l[k].relocs.drop 0)).or (relF l (k + 1) (l.drop (k + 1))) = R := by
  rw [List.drop_eq_getElem_cons h, relF] at hr
  simpa using hr
theorem place_is (l : List FObj) (cs ls hs : List Int) (r : FRel) : (placeF l cs ls hs r).2 = (placeF l [] [] [] r).2 := rfl
set_option maxRecDepth 100000 in
set_option maxHeartbeats 16000000 in
theorem relocs_any (W : World) (v0 v1 v2 : Value) (a ac al ah : Option Addr) (l : List FObj) (cs ls hs : List Int) (n cap cc cl ch S b : Nat) (w : World) (hn : l.length = n) (hl : AllIn 13 ObjIn W a l) (hE0 : Ext W w)
    (hB : Blk w S #[v0, v1, v2, .slice a n cap, .map (some b), .slice ac n cc, .slice al n cl, .slice ah n ch] 51) (hM : NumMap w b (modsF l)) (hsm : ∀ x ∈ l, ObjSmall x) (hm : n < 1000000)
    (hc : AllIn 1 IntIn w ac cs) (hlo : AllIn 1 IntIn w al ls) (hhi : AllIn 1 IntIn w ah hs) (hcs : BasesOk n cs) (hls : BasesOk n ls) (hhs : BasesOk n hs)
    (hps : ∀ x ∈ l, PlcOk x.procs ∧ PlcOk x.lows ∧ PlcOk x.highs) :
    Calls Tryd.prog 9 #[.pointer (some ⟨S, 0, none⟩)] w fun e w' => Ext w w' ∧ ThrewOr (relF l 0 l) (fun _ => True) e w' := by
  obtain ⟨R, hR⟩ : ∃ R, relF l 0 l = R := ⟨_, rfl⟩
  rw [hR]
  have hxc := hB.cell
  have hxf := hB.frozen
  have hxl := hB.lt
  have HPL := Lib.hid (fun (u : World) (hE : Ext w u) (r : FRel) (hp : 0 < n) (hr : r.modn.size ≤ maxLen) => place_any W v0 v1 v2 a ac al ah l cs ls hs n cap cc cl ch S b u r hn hl (hE0.ext hE) (hB.ext hE) (hM.kept hE) hp hm (IntIn.all hE hc) (IntIn.all hE hlo) (IntIn.all hE hhi) hcs hls hhs hps hr)
  have HR := Lib.hid hR
  have HN := Lib.hid hn
  have HL := Lib.hid hl
  have HE0 := Lib.hid hE0
  have HB := Lib.hid hB
  have HSM := Lib.hid hsm
  clear hR hn hl hE0 hB hM hsm hc hlo hhi hcs hls hhs hps
  go_enter Tryd.func9, Tryd.ntmps9
  go_wp2_with fail
  clear hxc hxf
  go_loopw [13] (fun i wr => ∃ k : Nat, k ≤ n ∧ i = .int .i64 k ∧ Ext w wr ∧ Hid (relF l k (l.drop k) = R)) (fun i _ => n - (intOf i).toNat)
  case atStart => exact ⟨0, Nat.zero_le _, rfl, Chg.refl _ _, by have := HR.out; simpa [Hid] using this⟩
  case round =>
    obtain ⟨i, hi, rfl, hE, hr⟩ := hrel
    obtain ⟨wo, rfl⟩ : ∃ wo, wo = wr := ⟨_, rfl⟩
    by_cases hlt : i < n
    · have hil : i < l.length := by rw [HN.out]; exact hlt
      have hEW := HE0.out.ext hE
      obtain ⟨bo, o, ea, hbo, hc⟩ := HL.out i hil
      have hbo2 := Nat.lt_of_lt_of_le hbo hEW.size
      obtain ⟨fa, am, fc, cm, ia, ic, ca, cc', ra, rc, pa, pc, la, lc, ha, hcp, h0, h1, h2, h3, h4, h5, h6, h7, h8, h9, h10, h11, h12, HO⟩ := ObjIn.ext hEW hbo hc
      have HRL := Lib.hid HO.rows.2.2.2.1
      have hsx := HSM.out _ (List.getElem_mem hil)
      have hnr := hsx.relocs
      have hni := hsx.imports
      have HST := Lib.hid hsx.strs
      have HR1 := Lib.hid (rel_step hil hr.out)
      have HE := Lib.hid hE
      have HOA := Lib.hid HO
      clear HO hc hr hE hsx
      have hB2 := HB.out.ext HE.out
      have hxc := hB2.cell
      have hxf := hB2.frozen
      clear hB2
      generalize l[i] = x at *
      obtain ⟨xf, xi, xc, xr, op, ol, oh, lo, hi', lf, hf⟩ := x
      obtain ⟨xn, xv, xp⟩ := xf
      simp only at hni hnr HST HR1 HRL HOA h0 h1 h2 h3 h4 h5 h6 h7 h8 h9 h10 h11 h12
      obtain ⟨m, hm'⟩ : ∃ m, xr.length = m := ⟨_, rfl⟩
      rw [hm'] at hnr h5
      have HMM := Lib.hid hm'
      subst ea
      go_wp2_with fail
      clear h0 h1 h2 h3 h4 h5 h6 h7 h8 h9 h10 h11 h12 hxc hxf hm'
      have hO3 := Blk.made wo #[.string xn, .slice fa xv.length am, .slice fc xp.length cm, .slice ia xi.length ic, .slice ca xc.length cc', .slice ra m rc, .slice pa op.length pc, .slice la ol.length lc, .slice ha oh.length hcp, .int .i64 lo, .int .i64 hi', .int .i64 lf, .int .i64 hf] 39
      have HEO := Lib.hid ((Chg.refl (fun _ => False) wo).alloc (.cells #[.string xn, .slice fa xv.length am, .slice fc xp.length cm, .slice ia xi.length ic, .slice ca xc.length cc', .slice ra m rc, .slice pa op.length pc, .slice la ol.length lc, .slice ha oh.length hcp, .int .i64 lo, .int .i64 hi', .int .i64 lf, .int .i64 hf] 39))
      have HE3 := Lib.hid (HE.out.ext HEO.out)
      have HOA3 := Lib.hid (ObjAt.ext HEO.out HOA.out)
      simp only [HMM.out] at HOA3
      have HRL3 := Lib.hid (HRL.out.mono HEO.out.size fun _ _ _ hb h => RelIn.ext HEO.out hb h)
      clear HEO HOA HRL
      generalize wo.alloc (.cells #[.string xn, .slice fa xv.length am, .slice fc xp.length cm, .slice ia xi.length ic, .slice ca xc.length cc', .slice ra m rc, .slice pa op.length pc, .slice la ol.length lc, .slice ha oh.length hcp, .int .i64 lo, .int .i64 hi', .int .i64 lf, .int .i64 hf] 39) = w3 at *
      have HO3 := Lib.hid hO3
      clear hO3
      obtain ⟨K3, hK3⟩ : ∃ K, wo.heap.size = K := ⟨_, rfl⟩
      rw [hK3] at HO3 ⊢
      go_loopw [21] (fun j wr => ∃ k : Nat, k ≤ m ∧ j = .int .i64 k ∧ Ext w3 wr ∧ Hid ((relF1 l i ⟨⟨xn, xv, xp⟩, xi, xc, xr, op, ol, oh, lo, hi', lf, hf⟩ k (xr.drop k)).or (relF l (i + 1) (l.drop (i + 1))) = R)) (fun j _ => m - (intOf j).toNat)
      case atStart => exact ⟨0, Nat.zero_le _, rfl, Chg.refl _ _, HR1.out⟩
      case round =>
        obtain ⟨k, hk, rfl, hE2, hr⟩ := hrel
        by_cases hlt2 : k < m
        · have hkm : k < xr.length := by rw [HMM.out]; exact hlt2
          obtain ⟨bi, oi, rfl, hbi, hc⟩ := HRL3.out k hkm
          obtain ⟨l0, l1, l2, l3⟩ := RelIn.ext hE2 hbi hc
          have hbi2 := Nat.lt_of_lt_of_le hbi hE2.size
          obtain ⟨s1, s2⟩ := rel1_step hkm hr.out
          have HS1 := Lib.hid s1
          have HS2 := Lib.hid s2
          have hfm := HST.out _ (List.getElem_mem hkm)
          have HE2 := Lib.hid hE2
          clear s1 s2 hc hr hE2
          generalize xr[k] = y at *
          obtain ⟨ra_, rk, rm, rn⟩ := y
          simp only at hfm l0 l1 l2 l3 HS1 HS2
          by_cases hk1 : rk = 1
          · subst hk1
            have HT := Lib.hid (HS2.out (by simp [relOk]))
            have hE4 := HE2.out.alloc (.cells #[.int .i64 ra_, .int .i64 1, .string rm, .string rn] 56)
            go_wp2_with fail
            go_roundw
            case rel => exact ⟨k + 1, by omega, by go_num, hE4, HT⟩
            case measure => simp [intOf]; omega
          · obtain ⟨KN, hKN⟩ : ∃ b, knowsF ⟨⟨xn, xv, xp⟩, xi, xc, xr, op, ol, oh, lo, hi', lf, hf⟩ rm = b := ⟨_, rfl⟩
            obtain ⟨PL, hPL⟩ : ∃ b, (placeF l cs ls hs ⟨ra_, rk, rm, rn⟩).2 = b := ⟨_, rfl⟩
            have hok : relOk l ⟨⟨xn, xv, xp⟩, xi, xc, xr, op, ol, oh, lo, hi', lf, hf⟩ ⟨ra_, rk, rm, rn⟩ = (KN && PL) := by
              rw [← hKN, ← hPL, place_is]; simp [relOk, hk1]
            rw [hok] at HS1 HS2
            have HKN := Lib.hid hKN
            have HPLE := Lib.hid hPL
            clear hok hKN hPL
            go_wp2_with fail
            have hBr := Blk.made wr #[.int .i64 ra_, .int .i64 rk, .string rm, .string rn] 56
            have HE4 := Lib.hid (HE2.out.alloc (.cells #[.int .i64 ra_, .int .i64 rk, .string rm, .string rn] 56))
            refine (HPL.out _ (HE3.out.ext HE4.out) ⟨ra_, rk, rm, rn⟩ (by omega) (Nat.le_trans hfm.1 (by decide))).mono ?_
            rintro e w5 ⟨rfl, hE5⟩
            have HE5 := Lib.hid (HE4.out.ext hE5)
            have hBr5 := hBr.ext hE5
            have hrc := hBr5.cell
            have hoc := (HO3.out.ext HE5.out).cell
            have HOA5 := Lib.hid (ObjAt.ext HE5.out HOA3.out)
            rw [HPLE.out]
            clear l0 l1 l2 l3 hBr hE5 HE4
            generalize (placeF l cs ls hs ⟨ra_, rk, rm, rn⟩).1 = P1 at *
            go_wp2_with fail
            refine (known_any _ _ _ _ HOA5.out (by simp only; omega)).mono ?_
            rintro e w6 ⟨rfl, hE6⟩
            have HE6 := Lib.hid (HE5.out.ext hE6)
            rw [HKN.out]
            clear hrc hoc HOA5 hE6 hBr5
            cases KN
            · have HT := Lib.hid (HS1.out rfl)
              go_wp2_with fail
              refine (must_false _ _ _ _).mono ?_
              rintro e w7 ⟨rfl, rfl⟩
              go_wp2_with fail
              rw [HT.out]
              exact ⟨rfl, HE3.out.ext HE6.out, rfl⟩
            · cases PL
              · have HT := Lib.hid (HS1.out rfl)
                go_wp2_with fail
                refine (must_false _ _ _ _).mono ?_
                rintro e w7 ⟨rfl, rfl⟩
                go_wp2_with fail
                rw [HT.out]
                exact ⟨rfl, HE3.out.ext HE6.out, rfl⟩
              · have HT := Lib.hid (HS2.out rfl)
                go_wp2_with fail
                refine (must_true _ _ _ _).mono ?_
                rintro e w7 ⟨rfl, rfl⟩
                go_wp2_with fail
                go_roundw
                case rel => exact ⟨k + 1, by omega, by go_num, HE6.out, HT⟩
                case measure => simp [intOf]; omega
        · obtain rfl : k = m := by omega
          have HT := Lib.hid (show relF l (i + 1) (l.drop (i + 1)) = R by have := hr.out; rwa [List.drop_of_length_le (by rw [HMM.out]; exact Nat.le_refl _), relF1, Option.none_or] at this)
          have HE6 := Lib.hid (HE3.out.ext hE2)
          clear hr hE2
          go_wp2_with fail
          go_roundw
          case rel => exact ⟨i + 1, by omega, by go_num, HE6.out, HT⟩
          case measure => simp [intOf]; omega
    · obtain rfl : i = n := by omega
      obtain rfl : R = none := by have := hr.out; rw [List.drop_of_length_le (by rw [HN.out]; exact Nat.le_refl _)] at this; exact this.symm
      clear hr
      go_wp2_with fail
      go_end0
      exact ⟨hE, rfl, trivial⟩
end linkw
end Go.Proofs.YtpcihajmcejliabDoor
namespace Go.Proofs.YtpcihajmcejliabDoor
open Go.RowKit Go.WideMaps Go.Maps
def intV (x : Int) : Value := .int .i64 x
/-- a row of numbers of the call's own -/
def IntRow (w : World) (B : Nat) (v : Value) (cs : List Int) : Prop := w.ownsRow B 3 1 v cs.length (cs.map intV)
/-- three of them, apart -/
structure Rows3 (w : World) (B : Nat) (vc vl vh : Value) (cs ls hs : List Int) : Prop where
  c : IntRow w B vc cs
  l : IntRow w B vl ls
  h : IntRow w B vh hs
  cl : ∀ g, vc.ownBlock = some g → vl.ownBlock ≠ some g
  ch : ∀ g, vc.ownBlock = some g → vh.ownBlock ≠ some g
  lh : ∀ g, vl.ownBlock = some g → vh.ownBlock ≠ some g
namespace linkw
theorem Rows3.nil (w : World) (B : Nat) : Rows3 w B (.slice none 0 0) (.slice none 0 0) (.slice none 0 0) [] [] [] :=
  ⟨World.ownsRow_nil _ _ _ _, World.ownsRow_nil _ _ _ _, World.ownsRow_nil _ _ _ _, fun _ h => (by cases h), fun _ h => (by cases h), fun _ h => (by cases h)⟩
theorem Rows3.rot {w : World} {B : Nat} {vc vl vh : Value} {cs ls hs : List Int} (h : Rows3 w B vc vl vh cs ls hs) : Rows3 w B vl vh vc ls hs cs :=
  ⟨h.l, h.h, h.c, h.lh, fun g e e' => h.cl g e' e, fun g e e' => h.ch g e' e⟩
theorem Rows3.chg {w w' : World} {B : Nat} {vc vl vh : Value} {cs ls hs : List Int} (h : Rows3 w B vc vl vh cs ls hs) {S : Nat → Prop} (hc : Chg S w w') (hS : ∀ i, S i → i < B) : Rows3 w' B vc vl vh cs ls hs := by
  refine ⟨ownsRow_chg h.c hc fun i hi hs => by have := hS i hs; omega, ownsRow_chg h.l hc fun i hi hs => by have := hS i hs; omega, ownsRow_chg h.h hc fun i hi hs => by have := hS i hs; omega, h.cl, h.ch, h.lh⟩
theorem Rows3.push {w w' : World} {B g cap : Nat} {vc vl vh : Value} {cs ls hs : List Int} (h : Rows3 w B vc vl vh cs ls hs) (x : Int)
    (ho : w'.ownsRow B 3 1 (.slice (some ⟨g, 0, none⟩) (cs.length + 1) cap) (cs.length + 1) (cs.map intV ++ [intV x])) (hg : w.grownBy w' vc.ownBlock) (hat : vc.ownBlock = some g ∨ g = w.heap.size) :
    Rows3 w' B (.slice (some ⟨g, 0, none⟩) (cs.length + 1) cap) vl vh (cs ++ [x]) ls hs := by
  have hne : ∀ {v : Value} {n : Nat} {xs : List Value}, w.ownsRow B 3 1 v n xs → (∀ g, vc.ownBlock = some g → v.ownBlock ≠ some g) → v.ownBlock = none ∨ v.ownBlock ≠ vc.ownBlock := fun {v n xs} hr hd => by
    cases hv : v.ownBlock with
    | none => exact .inl rfl
    | some i => exact .inr fun e => hd i e.symm hv
  have hnew : ∀ {v : Value} {n : Nat} {xs : List Value}, w.ownsRow B 3 1 v n xs → (∀ g, vc.ownBlock = some g → v.ownBlock ≠ some g) → v.ownBlock ≠ some g := fun {v n xs} hr hd e => by
    rcases hat with h1 | rfl
    · exact hd g h1 e
    · have := (hr.lt _ e).2; omega
  refine ⟨?_, h.l.kept hg (hne h.l h.cl), h.h.kept hg (hne h.h h.ch), fun i e => ?_, fun i e => ?_, h.lh⟩
  · unfold IntRow; rw [List.length_append, List.length_singleton, List.map_append]; exact ho
  · obtain rfl : g = i := by simpa [Value.ownBlock] using e
    exact hnew h.l h.cl
  · obtain rfl : g = i := by simpa [Value.ownBlock] using e
    exact hnew h.h h.ch
theorem IntRow.all {w : World} {B : Nat} {a : Option Addr} {n cap : Nat} {cs : List Int} (h : IntRow w B (.slice a n cap) cs) : AllIn 1 IntIn w a cs := fun j hj => by
  obtain ⟨h1, h2⟩ := h
  rcases h2 with ⟨_, h2⟩ | ⟨g, cap', cur, e, hb, hh, h3, h4, h5, h6⟩
  · rw [h2] at hj; omega
  · obtain ⟨rfl, rfl, rfl⟩ : a = some ⟨g, 0, none⟩ ∧ n = cs.length ∧ cap = cap' := by simpa using e
    refine ⟨g, 0, rfl, ?_, ?_⟩
    · by_cases hlt : g < w.heap.size
      · exact hlt
      · rw [Array.getElem?_eq_none (by omega)] at hh; cases hh
    · have hr : w.ownsRow B 3 1 (.slice (some ⟨g, 0, none⟩) cs.length cap) cs.length (cs.map intV) := ⟨h1, .inr ⟨g, cap, cur, rfl, hb, hh, h3, h4, h5, h6⟩⟩
      unfold IntIn
      rw [Nat.zero_add, hr.cellAt _ (by simpa using hj)]
      simp [intV, hj]
/-- the linker's block while three rows grow -/
def layS (v0 : Value) (L H : Int) (o m vc vl vh : Value) : List Value → Array Value
  | [x, _, _, _] => #[v0, intV L, intV H, o, m, x, vl, vh]
  | [x, y, _, _, _] => #[v0, intV L, intV H, o, m, x, y, vh]
  | [x, y, z, _, _, _] => #[v0, intV L, intV H, o, m, x, y, z]
  | _ => #[v0, intV L, intV H, o, m, vc, vl, vh]
theorem layS_base {v0 : Value} {L H : Int} {o m vc vl vh : Value} {vs : List Value} (h : vs.length ≤ 3) : layS v0 L H o m vc vl vh vs = #[v0, intV L, intV H, o, m, vc, vl, vh] := by
  match vs, h with
  | [], _ => rfl
  | [_], _ => rfl
  | [_, _], _ => rfl
  | [_, _, _], _ => rfl
theorem layS_low (v0 : Value) (L H : Int) (o m vc vl vh : Value) (vs : List Value) : (layS v0 L H o m vc vl vh vs)[1]? = some (intV L) ∧ (layS v0 L H o m vc vl vh vs)[2]? = some (intV H) := by
  unfold layS; split <;> exact ⟨rfl, rfl⟩
def layR (u : World) (B : Nat) (vc vl vh : Value) (cs ls hs : List Int) (C L H : Int) : List Value → Prop
  | [] => Rows3 u B vc vl vh cs ls hs
  | [x] => Rows3 u B x vl vh (cs ++ [C]) ls hs
  | [x, y] => Rows3 u B x y vh (cs ++ [C]) (ls ++ [L]) hs
  | x :: y :: z :: _ => Rows3 u B x y z (cs ++ [C]) (ls ++ [L]) (hs ++ [H])
structure LayF (w1 : World) (S B ko : Nat) (ob : Array Value) (T : TypeId) (v0 : Value) (o m vc vl vh : Value) (cs ls hs : List Int) (C L H : Int) (vs : List Value) (u : World) : Prop where
  chg : Chg (fun i => i = S ∨ vc.ownBlock = some i ∨ vl.ownBlock = some i ∨ vh.ownBlock = some i) w1 u
  obj : Blk u ko ob T
  sb : Blk u S (layS v0 L H o m vc vl vh vs) 51
  rows : layR u B vc vl vh cs ls hs C L H vs
theorem layR.chg {u u' : World} {B : Nat} {vc vl vh : Value} {cs ls hs : List Int} {C L H : Int} {vs : List Value} (h : layR u B vc vl vh cs ls hs C L H vs) {S : Nat → Prop} (hc : Chg S u u') (hS : ∀ i, S i → i < B) : layR u' B vc vl vh cs ls hs C L H vs := by
  match vs, h with
  | [], h => exact Rows3.chg h hc hS
  | [_], h => exact Rows3.chg h hc hS
  | [_, _], h => exact Rows3.chg h hc hS
  | _ :: _ :: _ :: _, h => exact Rows3.chg h hc hS
theorem LayF.ext {w1 : World} {S B ko : Nat} {ob : Array Value} {T : TypeId} {v0 o m vc vl vh : Value} {cs ls hs : List Int} {C L H : Int} {vs : List Value} {u u' : World} (h : LayF w1 S B ko ob T v0 o m vc vl vh cs ls hs C L H vs u) (hE : Ext u u') : LayF w1 S B ko ob T v0 o m vc vl vh cs ls hs C L H vs u' :=
  ⟨h.chg.ext hE, h.obj.ext hE, h.sb.ext hE, h.rows.chg hE fun _ h => h.elim⟩
theorem LayF.push1 {w1 : World} {S B ko : Nat} {ob : Array Value} {T : TypeId} {v0 : Value} {o m vc vl vh : Value} {cs ls hs : List Int} {C L H : Int} {u w' : World} {g cap N : Nat} (h : LayF w1 S B ko ob T v0 o m vc vl vh cs ls hs C L H [] u)
    (ho : w'.ownsRow B 3 1 (.slice (some ⟨g, 0, none⟩) (cs.length + 1) cap) (cs.length + 1) (cs.map intV ++ [intV C])) (hg : u.grownBy w' vc.ownBlock) (hat : vc.ownBlock = some g ∨ g = u.heap.size) (hown : ∀ i, vc.ownBlock = some i → i < N ∧ B ≤ i ∧ i ≠ ko) (hSB : S < B) :
    LayF w1 S B ko ob T v0 o m vc vl vh cs ls hs C L H [.slice (some ⟨g, 0, none⟩) (cs.length + 1) cap] w' ∧ Chg (fun i => i < N) u w' := by
  have hc : Chg (fun i => vc.ownBlock = some i) u w' := ⟨hg.os, hg.tape, hg.output, hg.size, fun k hk hn => hg.block k hk fun e => hn e.symm⟩
  refine ⟨⟨h.chg.trans hc fun i _ hi => ?_, h.obj.chg hc fun e => (hown _ e).2.2 rfl, ?_, ?_⟩, hc.weak fun i _ hi => (hown i hi).1⟩
  · simp only [hi, true_or, or_true]
  · have := h.sb.chg hc fun e => by have := (hown _ e).2.1; omega
    rw [layS_base (by simp)] at this ⊢
    exact this
  · exact (Rows3.push (h.rows) C ho hg hat)
theorem LayF.push2 {w1 : World} {S B ko : Nat} {ob : Array Value} {T : TypeId} {v0 : Value} {o m vc vl vh : Value} {cs ls hs : List Int} {C L H : Int} {u w' : World} {g cap N : Nat} {x : Value} (h : LayF w1 S B ko ob T v0 o m vc vl vh cs ls hs C L H [x] u)
    (ho : w'.ownsRow B 3 1 (.slice (some ⟨g, 0, none⟩) (ls.length + 1) cap) (ls.length + 1) (ls.map intV ++ [intV L])) (hg : u.grownBy w' vl.ownBlock) (hat : vl.ownBlock = some g ∨ g = u.heap.size) (hown : ∀ i, vl.ownBlock = some i → i < N ∧ B ≤ i ∧ i ≠ ko) (hSB : S < B) :
    LayF w1 S B ko ob T v0 o m vc vl vh cs ls hs C L H [x, .slice (some ⟨g, 0, none⟩) (ls.length + 1) cap] w' ∧ Chg (fun i => i < N) u w' := by
  have hc : Chg (fun i => vl.ownBlock = some i) u w' := ⟨hg.os, hg.tape, hg.output, hg.size, fun k hk hn => hg.block k hk fun e => hn e.symm⟩
  refine ⟨⟨h.chg.trans hc fun i _ hi => ?_, h.obj.chg hc fun e => (hown _ e).2.2 rfl, ?_, ?_⟩, hc.weak fun i _ hi => (hown i hi).1⟩
  · simp only [hi, true_or, or_true]
  · have := h.sb.chg hc fun e => by have := (hown _ e).2.1; omega
    rw [layS_base (by simp)] at this ⊢
    exact this
  · exact Rows3.rot (Rows3.rot (Rows3.push (Rows3.rot h.rows) L ho hg hat))
theorem LayF.push3 {w1 : World} {S B ko : Nat} {ob : Array Value} {T : TypeId} {v0 : Value} {o m vc vl vh : Value} {cs ls hs : List Int} {C L H : Int} {u w' : World} {g cap N : Nat} {x : Value} {y : Value} (h : LayF w1 S B ko ob T v0 o m vc vl vh cs ls hs C L H [x, y] u)
    (ho : w'.ownsRow B 3 1 (.slice (some ⟨g, 0, none⟩) (hs.length + 1) cap) (hs.length + 1) (hs.map intV ++ [intV H])) (hg : u.grownBy w' vh.ownBlock) (hat : vh.ownBlock = some g ∨ g = u.heap.size) (hown : ∀ i, vh.ownBlock = some i → i < N ∧ B ≤ i ∧ i ≠ ko) (hSB : S < B) :
    LayF w1 S B ko ob T v0 o m vc vl vh cs ls hs C L H [x, y, .slice (some ⟨g, 0, none⟩) (hs.length + 1) cap] w' ∧ Chg (fun i => i < N) u w' := by
  have hc : Chg (fun i => vh.ownBlock = some i) u w' := ⟨hg.os, hg.tape, hg.output, hg.size, fun k hk hn => hg.block k hk fun e => hn e.symm⟩
  refine ⟨⟨h.chg.trans hc fun i _ hi => ?_, h.obj.chg hc fun e => (hown _ e).2.2 rfl, ?_, ?_⟩, hc.weak fun i _ hi => (hown i hi).1⟩
  · simp only [hi, or_true]
  · have := h.sb.chg hc fun e => by have := (hown _ e).2.1; omega
    rw [layS_base (by simp)] at this ⊢
    exact this
  · exact Rows3.rot (Rows3.push (Rows3.rot (Rows3.rot h.rows)) H ho hg hat)
theorem LayF.store1 {w1 : World} {S B ko : Nat} {ob : Array Value} {T : TypeId} {v0 : Value} {o m vc vl vh : Value} {cs ls hs : List Int} {C L H : Int} {u : World} {x : Value} {y : Value} {z : Value} {e : Value} (h : LayF w1 S B ko ob T v0 o m vc vl vh cs ls hs C L H [x, y, z] u) (hSB : S < B) (hko : S ≠ ko) :
    LayF w1 S B ko ob T v0 o m vc vl vh cs ls hs C L H [x, y, z, e] (u.setCell ⟨S, 5, none⟩ x) := by
  have hc : Chg (fun i => i = S) u (u.setCell ⟨S, 5, none⟩ x) := (Chg.refl (fun i => i = S) u).setCell (fun _ => rfl) _
  exact ⟨h.chg.trans hc fun i _ hi => .inl hi, h.obj.chg hc hko.symm, h.sb.set 5 x, h.rows.chg hc fun i hi => by omega⟩
theorem LayF.store2 {w1 : World} {S B ko : Nat} {ob : Array Value} {T : TypeId} {v0 : Value} {o m vc vl vh : Value} {cs ls hs : List Int} {C L H : Int} {u : World} {x : Value} {y : Value} {z : Value} {d : Value} {e : Value} (h : LayF w1 S B ko ob T v0 o m vc vl vh cs ls hs C L H [x, y, z, d] u) (hSB : S < B) (hko : S ≠ ko) :
    LayF w1 S B ko ob T v0 o m vc vl vh cs ls hs C L H [x, y, z, d, e] (u.setCell ⟨S, 6, none⟩ y) := by
  have hc : Chg (fun i => i = S) u (u.setCell ⟨S, 6, none⟩ y) := (Chg.refl (fun i => i = S) u).setCell (fun _ => rfl) _
  exact ⟨h.chg.trans hc fun i _ hi => .inl hi, h.obj.chg hc hko.symm, h.sb.set 6 y, h.rows.chg hc fun i hi => by omega⟩
theorem LayF.store3 {w1 : World} {S B ko : Nat} {ob : Array Value} {T : TypeId} {v0 : Value} {o m vc vl vh : Value} {cs ls hs : List Int} {C L H : Int} {u : World} {x : Value} {y : Value} {z : Value} {d : Value} {d2 : Value} {e : Value} (h : LayF w1 S B ko ob T v0 o m vc vl vh cs ls hs C L H [x, y, z, d, d2] u) (hSB : S < B) (hko : S ≠ ko) :
    LayF w1 S B ko ob T v0 o m vc vl vh cs ls hs C L H [x, y, z, d, d2, e] (u.setCell ⟨S, 7, none⟩ z) := by
  have hc : Chg (fun i => i = S) u (u.setCell ⟨S, 7, none⟩ z) := (Chg.refl (fun i => i = S) u).setCell (fun _ => rfl) _
  exact ⟨h.chg.trans hc fun i _ hi => .inl hi, h.obj.chg hc hko.symm, h.sb.set 7 z, h.rows.chg hc fun i hi => by omega⟩
/-- what a float of such a region comes to -/
inductive Cm where
  | val (v : Value)
  | row (cs : List Value) (n : Nat) (T : TypeId)
  | any
def Cm.holds (N : Nat) : Cm → Value → World → Prop
  | .val v, u, _ => u = v
  | .row cs n T, u, w => ∃ g, u = .slice (some ⟨g, 0, none⟩) n n ∧ N ≤ g ∧ Blk w g cs.toArray T
  | .any, _, _ => True
theorem Cm.stab (N : Nat) (c : Cm) (v : Value) (w w' : World) (h : c.holds N v w) (hG : Chg (fun i => i < N) w w') : c.holds N v w' := by
  cases c with
  | val x => exact h
  | row cs n T => obtain ⟨g, e, hn, hb⟩ := h; exact ⟨g, e, hn, hb.chg hG (by omega)⟩
  | any => trivial
end linkw
end Go.Proofs.YtpcihajmcejliabDoor
