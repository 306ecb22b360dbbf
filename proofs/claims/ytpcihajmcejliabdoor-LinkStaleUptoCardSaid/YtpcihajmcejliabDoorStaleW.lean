/- LinkStale, walked. -/
import Derived.Test.YtpcihajmcejliabDoorStaleTurn
import Derived.Test.YtpcihajmcejliabDoorLinkD
import Derived.Test.YtpcihajmcejliabDoorGetI
namespace Go.Proofs.YtpcihajmcejliabDoor
open Go.RowKit Go.WideMaps Go.Maps
namespace stalew
open linkw
theorem info_var : (Tryd.prog.info? 41).map (fun i => (i.zero, i.size, i.bytes)) = some (some (.agg #[.string ⟨#[]⟩, .bool false, .int .i64 0, .int .i64 0]), 4, 40) := by kernel_rfl
theorem info_obj : (Tryd.prog.info? 39).map (fun i => (i.zero, i.size, i.bytes)) = some (some (.agg #[.string ⟨#[]⟩, .slice none 0 0, .slice none 0 0, .slice none 0 0, .slice none 0 0, .slice none 0 0, .slice none 0 0, .slice none 0 0, .slice none 0 0, .int .i64 0, .int .i64 0, .int .i64 0, .int .i64 0]), 13, 240) := by kernel_rfl
set_option maxRecDepth 100000 in
set_option maxHeartbeats 8000000 in
theorem stale_any (a : Option Addr) (l : List FObj) (n cap : Nat) (c : Int) (w : World) (hn : l.length = n) (hl : AllIn 13 ObjIn w a l) (hcap : n ≤ cap) (hc0 : 0 ≤ c) (hc1 : c ≤ 255) (hsm : ∀ x ∈ l, ObjSmall x) (hev : ErrVar w) (hmv : MaxVar w) :
    Calls Tryd.prog 3 #[.slice a n cap, .int .u8 c] w fun e w' => e = .returned (.bool true) ∧ Ext w w' := by
  have HL := Lib.hid (link_any a l n cap w hn hl hsm hev hmv)
  have HEV := Lib.hid hev
  have HMV := Lib.hid hmv
  have HSM := Lib.hid hsm
  have HN := Lib.hid hn
  have HAL := Lib.hid (fun (u : World) (hE : Ext w u) => (hl.mono hE.size fun _ _ _ hb h => ObjIn.ext hE hb h : AllIn 13 ObjIn u a l))
  obtain ⟨T, hT⟩ : ∃ T, linkF l = T := ⟨_, rfl⟩
  rw [hT] at HL
  have HT := Lib.hid hT
  clear hn hl hsm hev hmv hT
  go_enter Tryd.func3, Tryd.ntmps3
  go_wp2_with fail
  refine HL.out.mono ?_
  rintro e w1 ⟨hE1, h1⟩
  cases T with
  | bad m cd p =>
    obtain rfl : e = _ := h1
    unfold zeroImg
    have hcd : cd ≠ 0 := stale.bad_code HT.out
    have K2 := Blk.made2 w1 (.cells #[.slice none 0 0, .int .i64 0, .int .i64 0] 25) #[.int .i64 m, .int .i64 cd, .int .i64 p] 28
    have hX := (hE1.alloc (.cells #[.slice none 0 0, .int .i64 0, .int .i64 0] 25)).alloc (.cells #[.int .i64 m, .int .i64 cd, .int .i64 p] 28)
    go_wp2_with fail
    go_ret
    exact ⟨rfl, hX⟩
  | good is lo hi =>
    obtain ⟨g, ci, rfl, -⟩ := h1
    obtain ⟨⟨hn1, hn6⟩, hfm, -⟩ := stale.good_facts HT.out
    rw [HN.out] at hn1 hn6
    obtain ⟨NI, hNI⟩ : ∃ q, is.length = q := ⟨_, rfl⟩
    rw [hNI]
    have hNn : (1 : Int) ≤ (n : Int) := by omega
    have HFM := Lib.hid hfm
    clear hfm hNI hn1
    have hX := (hE1.alloc (.cells #[.slice (some ⟨g, 0, none⟩) NI ci, .int .i64 lo, .int .i64 hi] 25)).alloc (.cells #[.int .i64 0, .int .i64 0, .int .i64 0] 28)
    go_wp2_with fail
    generalize (w1.alloc (.cells #[.slice (some ⟨g, 0, none⟩) NI ci, .int .i64 lo, .int .i64 hi] 25)).alloc (.cells #[.int .i64 0, .int .i64 0, .int .i64 0] 28) = w2 at *
    obtain ⟨k1, hk1⟩ : ∃ q, w1.heap.size = q := ⟨_, rfl⟩
    rw [hk1]
    clear hk1 hE1 HL
    obtain ⟨B, hB⟩ : ∃ q, w2.heap.size = q := ⟨_, rfl⟩
    have HB := Lib.hid hB
    clear hB
    have HX := Lib.hid hX
    clear hX
    rw [show ((n : Int) == 0) = false by simp; omega]
    go_loopw [7, 8] (fun v i wr => ∃ k : Nat, k ≤ n ∧ i = .int .i64 k ∧ ObjRow w2 wr B v (l.take k) ∧ Ext w2 wr) (fun _ i _ => n - (intOf i).toNat)
    case atStart => exact ⟨0, Nat.zero_le _, rfl, ObjRow.nil _ _ _, Chg.refl _ _⟩
    case round =>
      obtain ⟨k, hk, rfl, hR, hE⟩ := hrel
      by_cases hlt : k < n
      · have hkl : k < l.length := by rw [HN.out]; exact hlt
        have hki : (k : Int) < (n : Int) := by omega
        have hsz : B ≤ wr.heap.size := HB.out ▸ hE.size
        obtain ⟨b, o, rfl, hb, fa, am, fc, cm, ia, ic, ca, cc, ra, rc, pa, pc, la, lc, ha, hc, p0, p1, p2, p3, p4, p5, p6, p7, p8, p9, p10, p11, p12, pO⟩ := HAL.out w2 HX.out k hkl
        have e : ∀ j, wr.cell? ⟨b, j, none⟩ = w2.cell? ⟨b, j, none⟩ := fun j => hE.cell hb id
        rw [← e] at p0 p1 p2 p3 p4 p5 p6 p7 p8 p9 p10 p11 p12
        clear e
        have hXC : ObjCells w2 l[k] _ := ⟨fa, am, fc, cm, ia, ic, ca, cc, ra, rc, pa, pc, la, lc, ha, hc, rfl, pO⟩
        have HXC := Lib.hid hXC
        clear hXC pO
        obtain ⟨us, hu1, hu2, hu3⟩ := hR
        have hkt : (l.take k).length = k := by rw [List.length_take]; omega
        rw [hkt] at hu2
        have HU := Lib.hid (And.intro hu1 hu3)
        have HTK := Lib.hid (show l.take (k + 1) = l.take k ++ [l[k]] by simp)
        clear hu1 hu3 hkt
        generalize l[k] = x at *
        obtain ⟨⟨xm, xv, xp⟩, xi, xc, xr, xq, xl, xh, y0, y1, y2, y3⟩ := x
        simp only at p0 p1 p2 p3 p4 p5 p6 p7 p8 p9 p10 p11 p12
        obtain ⟨i0_, hi, hz0, hz1, hz2⟩ := info_parts info_obj
        go_wp2_with (at_builtin; refine wpList_append_lies _ rfl _ _ 22 rfl B 39 i0_ (.agg #[.string ⟨#[]⟩, .slice none 0 0, .slice none 0 0, .slice none 0 0, .slice none 0 0, .slice none 0 0, .slice none 0 0, .slice none 0 0, .slice none 0 0, .int .i64 0, .int .i64 0, .int .i64 0, .int .i64 0]) 13 240 Tryd.underlying22 hi hz0 hz1 hz2 rfl (by decide) _ _ _ rfl (hu2.alloc _) ⟨wr.heap.size, 0, none⟩ 1 1 [.string xm, .slice fa xv.length am, .slice fc xp.length cm, .slice ia xi.length ic, .slice ca xc.length cc, .slice ra xr.length rc, .slice pa xq.length pc, .slice la xl.length lc, .slice ha xh.length hc, .int .i64 y0, .int .i64 y1, .int .i64 y2, .int .i64 y3] rfl rfl (getw.news_at rfl rfl) (by intro u hu; simp at hu; rcases hu with rfl | rfl | rfl | rfl | rfl | rfl | rfl | rfl | rfl | rfl | rfl | rfl | rfl <;> rfl) (by decide) (by unfold maxLen; omega) (by omega) (by simp; omega) (wr.heap.size + 1) (by simp) ?_; intro g cap' w3 hown hgrow hat hlt1)
        have hb9 : Ext w2 w3 := by
          refine (hE.alloc _).trans (⟨hgrow.os, hgrow.tape, hgrow.output, hgrow.size, fun i hi hn => hgrow.block i hi (by first | exact hn | exact fun e => hn e.symm)⟩ : Chg (fun i => _ = some i) _ w3) fun i hi e => ?_
          have h7 := (World.ownsRow.lt hu2 i (by first | exact e | exact e.symm)).1
          have h8 := HB.out
          omega
        have hR9 := ObjRow.push HU.out.1 HU.out.2 HXC.out (by
          have h7 : (l.take k).length = k := by rw [List.length_take, HN.out]; omega
          rw [h7]; exact hown)
        rw [← HTK.out] at hR9
        go_roundw
        case rel => exact ⟨k + 1, by omega, by go_num, hR9, hb9⟩
        case measure => simp [intOf]; omega
      · obtain rfl : k = n := by omega
        have hR2 : ObjRow w2 wr B u7 l := by
          have h7 : l.take k = l := List.take_of_length_le (by rw [HN.out]; exact Nat.le_refl _)
          rw [h7] at hR; exact hR
        clear hR
        have hn0 : 0 < l.length := by rw [HN.out]; omega
        obtain ⟨gm, cm, rfl, hm1, hm2, hm3⟩ := hR2.lies hn0
        obtain ⟨-, hA⟩ := hR2.all hE hn0
        rw [HN.out] at hm1 ⊢
        have HA := Lib.hid hA
        have HR := Lib.hid hR2
        clear hA hR2 hn0
        obtain ⟨q, hq⟩ : ∃ q : Nat, c % (k : Int) = (q : Int) := Int.eq_ofNat_of_zero_le (Int.emod_nonneg _ (by omega))
        have hq1 : q < k := by have := Int.emod_lt_of_pos c (by omega : (0 : Int) < (k : Int)); omega
        have hqw : c % (k : Int) = (q : Int) := hq
        go_wp2_with fail
        rw [hqw]
        obtain ⟨W5, hW5⟩ : ∃ W5, W5 = wr := ⟨_, rfl⟩
        subst hW5
        clear hq
        go_loopw [10, 11] (fun kn i wr => ∃ (j : Nat) (b : Bool), j ≤ k ∧ i = .int .i64 j ∧ kn = .bool b ∧ Ext W5 wr ∧ Hid (b = true → ∃ x ∈ l, ∃ f ∈ x.imports, f.modn = ((l[q]?).getD default).face.modn)) (fun _ i _ => k - (intOf i).toNat)
        case atStart => exact ⟨0, false, Nat.zero_le _, rfl, rfl, Chg.refl _ _, Lib.hid fun h => by cases h⟩
        case round =>
          obtain ⟨j, b, hj, rfl, rfl, hE5, hb⟩ := hrel
          have hE9 : Ext w2 wr := hE.ext hE5
          by_cases hlt : j < k
          · have hjl : j < l.length := by rw [HN.out]; exact hlt
            have hjk : (j : Int) < (k : Int) := by omega
            obtain ⟨b1, o1, hg1, hb1, hin⟩ := HA.out j hjl
            obtain ⟨rfl, rfl⟩ : gm = b1 ∧ 0 = o1 := by simpa using hg1
            obtain ⟨fa, am, fc, cm1, ia, ic, ca, cc, ra, rc, pa, pc, la, lc, ha, hc, p0, p1, p2, p3, p4, p5, p6, p7, p8, p9, p10, p11, p12, pO⟩ := hin
            clear p0 p1 p2 p4 p5 p6 p7 p8 p9 p10 p11 p12 hg1
            have e : ∀ i, wr.cell? ⟨gm, i, none⟩ = W5.cell? ⟨gm, i, none⟩ := fun i => hE5.cell hb1 id
            rw [← e] at p3
            rw [Nat.zero_add] at p3
            have hbr : gm < wr.heap.size := Nat.lt_of_lt_of_le hb1 hE5.size
            go_wp2_with fail
            obtain ⟨W6, hW6⟩ : ∃ W6, W6 = wr := ⟨_, rfl⟩
            subst hW6
            obtain ⟨NJ, hNJ⟩ : ∃ q, (l[j]'hjl).imports.length = q := ⟨_, rfl⟩
            have hNJm : NJ ≤ 1048576 := hNJ ▸ (HSM.out _ (List.getElem_mem hjl)).imports
            rw [hNJ] at p3
            go_loopw [10, 12] (fun kn i wr => ∃ (m : Nat) (b : Bool), m ≤ NJ ∧ i = .int .i64 m ∧ kn = .bool b ∧ Ext W6 wr ∧ Hid (b = true → ∃ x ∈ l, ∃ f ∈ x.imports, f.modn = ((l[q]?).getD default).face.modn)) (fun _ i _ => NJ - (intOf i).toNat)
            case atStart => exact ⟨0, b, Nat.zero_le _, rfl, rfl, Chg.refl _ _, hb⟩
            case round =>
              obtain ⟨m, b2, hm, rfl, rfl, hE6, hb2⟩ := hrel
              have p3' : wr.cell? ⟨gm, j * 13 + 3, none⟩ = some (.slice ia NJ ic) := by rw [hE6.cell hbr id]; exact p3
              have hmi : m < NJ → (m : Int) < (NJ : Int) := fun h => by omega
              by_cases hlm : m < NJ
              · have hmi2 := hmi hlm
                cases b2 with
                | true =>
                  go_wp2_with fail
                  go_quiet (fail)
                  have hE7 := hE6.drewN nq
                  generalize wr.drewN nq = w9 at *
                  go_wp2_with fail
                  go_roundw
                  case rel => exact ⟨m + 1, true, by omega, by go_num, rfl, hE7, Lib.hid fun _ => hb2.out trivial⟩
                  case measure => simp [intOf]; omega
                | false =>
                  have hmm : m < (l[j]'hjl).imports.length := by omega
                  have hIJ := (ObjAt.ext (hE5.ext hE6) pO).rows.2.1
                  obtain ⟨bi, oi, rfl, hbi, hfi⟩ := hIJ m hmm
                  have hfx := List.getElem_mem hmm
                  obtain ⟨ja, jm, jc, jd, l0, -, -, -⟩ := hfi
                  have hql : q < l.length := by rw [HN.out]; exact hq1
                  obtain ⟨b3, o3, hg3, -, hin3⟩ := HA.out q hql
                  obtain ⟨rfl, rfl⟩ : gm = b3 ∧ 0 = o3 := by simpa using hg3
                  clear hg3
                  obtain ⟨fa', am', fc', cm', ia', ic', ca', cc', ra', rc', pa', pc', la', lc', ha', hc', r0, -, -, -, -, -, -, -, -, -, -, -, -, -⟩ := hin3
                  have r0' : wr.cell? ⟨gm, q * 13, none⟩ = some (.string (l[q]'hql).face.modn) := by
                    rw [(hE5.ext hE6).cell hb1 id]; rw [Nat.zero_add] at r0; exact r0
                  have hqi : (q : Int) < (k : Int) := by omega
                  have HK := Lib.hid (show ((l[j]'hjl).imports[m]'hmm).modn = (l[q]'hql).face.modn → ∃ x ∈ l, ∃ f ∈ x.imports, f.modn = ((l[q]?).getD default).face.modn from fun e => ⟨_, List.getElem_mem hjl, _, hfx, by rw [List.getElem?_eq_getElem hql]; exact e⟩)
                  clear r0 hb2 hfx
                  generalize ((l[j]'hjl).imports[m]'hmm).modn = s1 at *
                  generalize (l[q]'hql).face.modn = s2 at *
                  clear pO p3 e hIJ
                  go_wp2_with fail
                  go_quiet (fail)
                  have hE7 := hE6.drewN nq
                  generalize wr.drewN nq = w9 at *
                  go_wp2_with fail
                  go_roundw
                  case rel =>
                    exact ⟨m + 1, _, by omega, rfl, rfl, hE7, Lib.hid fun h => HK.out (by
                      by_cases e : s1 = s2
                      · exact e
                      · rw [(face.str_ne e).1] at h; cases h)⟩
                  case measure => simp [intOf]; omega
              · obtain rfl : m = NJ := by omega
                clear hmi
                go_wp2_with fail
                go_roundw
                case rel => exact ⟨j + 1, b2, by omega, by go_num, rfl, hE5.ext hE6, hb2⟩
                case measure => simp [intOf]; omega
          · obtain rfl : j = k := by omega
            have hql : q < l.length := by rw [HN.out]; exact hq1
            obtain ⟨b3, o3, hg3, hb3, hin3⟩ := HA.out q hql
            obtain ⟨rfl, rfl⟩ : gm = b3 ∧ 0 = o3 := by simpa using hg3
            clear hg3
            obtain ⟨fa, am, fc, cm1, ia, ic, ca, cc, ra, rc, pa, pc, la, lc, ha, hc, r0, r1, r2, -, -, -, -, -, -, -, -, -, -, rO⟩ := hin3
            have HRO := Lib.hid rO
            clear rO
            have e : ∀ i, wr.cell? ⟨gm, i, none⟩ = W5.cell? ⟨gm, i, none⟩ := fun i => hE5.cell hb3 id
            rw [Nat.zero_add] at r0 r1 r2
            rw [← e] at r0 r1 r2
            clear e
            have hqi : (q : Int) < (j : Int) := by omega
            obtain ⟨NV, hNV⟩ : ∃ n, (l[q]'hql).face.vars.length = n := ⟨_, rfl⟩
            rw [hNV] at r1
            have HNV := Lib.hid hNV
            clear hNV
            by_cases hv0 : NV = 0
            · subst hv0
              go_wp2_with fail
              go_ret
              exact ⟨rfl, HX.out.ext (hE.ext hE5)⟩
            · have hv0' : ((NV : Int) == 0) = false := by simp; omega
              cases b with
              | false =>
                go_wp2_with fail
                go_ret
                exact ⟨rfl, HX.out.ext (hE.ext hE5)⟩
              | true =>
                have HK := hb.out rfl
                rw [List.getElem?_eq_getElem hql] at HK
                have HKN := Lib.hid HK
                have hvl : NV ≤ 1048576 := by
                  have h7 := (HSM.out _ (List.getElem_mem hql)).faces _ (List.mem_cons_self ..)
                  rw [HNV.out] at h7; omega
                obtain ⟨F, hF⟩ : ∃ F, wr.heap.size = F := ⟨_, rfl⟩
                have hgF : gm < F := hF ▸ Nat.lt_of_lt_of_le hb3 hE5.size
                have HTN := Lib.hid (show ∀ P : FObj → Prop, P (l[q]'hql) → P ((l[q]?).getD default) from fun P h => by rw [List.getElem?_eq_getElem hql]; exact h)
                have hxq := HRO.out
                obtain ⟨X, hX⟩ : ∃ X, l[q]'hql = X := ⟨_, rfl⟩
                rw [hX] at r0 r2 HRO HNV hxq
                have hlab := staled.labels (staled.forms_all HFM.out _ (List.getElem_mem hql))
                rw [hX] at hlab
                have HXQ := Lib.hid hX
                clear hX HK hb hxq HTN
                have hfa := ((ObjAt.ext (((hE5.alloc (.cells #[.string X.face.modn, .slice fa NV am, .slice fc X.face.procs.length cm1] 34))).alloc (.cells #[] 41)) HRO.out).ex)
                obtain ⟨fa', am', fc', cm', ia', ic', ca', cc', ra', rc', pa', pc', la', lc', ha', hc', e', hf', -⟩ := hfa
                simp only [Value.agg.injEq, Array.mk.injEq, List.cons.injEq, Value.slice.injEq, true_and, and_true] at e'
                obtain ⟨⟨rfl, rfl⟩, ⟨rfl, rfl⟩, -⟩ := e'
                obtain ⟨a1, m1, c1, d1, e1, q1, -, q3, q4, q5, q6, q7⟩ := hf'
                simp only [Value.agg.injEq, Array.mk.injEq, List.cons.injEq, Value.slice.injEq, true_and, and_true] at e1
                obtain ⟨⟨rfl, rfl⟩, ⟨rfl, rfl⟩⟩ := e1
                have hname : ∀ v ∈ X.face.vars, v.name.size ≤ maxLen := fun v hv => by
                  obtain ⟨i, hi, rfl⟩ := List.getElem_of_mem hv
                  obtain ⟨_, _, -, -, h7⟩ := q1 i hi
                  exact h7.2.2.2.2
                obtain ⟨bv, ov, rfl, -, hcells⟩ := staled.row_cells q1 (by rw [HNV.out]; omega)
                have hlen := staled.row_len X.face.vars
                have hone := staled.row_one X.face.vars
                rw [HNV.out] at hlen
                have hown0 : ((wr.alloc (.cells #[.string X.face.modn, .slice (some ⟨bv, ov, none⟩) NV am, .slice fc X.face.procs.length cm1] 34)).alloc (.cells #[] 41)).ownsRow (F + 1) 41 4 (.slice (some ⟨F + 1, 0, none⟩) 0 0) 0 [] := by
                  have h7 := World.ownsRow_made (base := F + 1) (e := 41) (size := 4) (wr.alloc (.cells #[.string X.face.modn, .slice (some ⟨bv, ov, none⟩) NV am, .slice fc X.face.procs.length cm1] 34)) #[] 0 (by rw [← hF]; simp) (by decide) rfl
                  rw [← hF]
                  rw [← hF] at h7
                  simpa using h7
                clear q1 q3 q4 q5 q6 q7
                have HFC := Lib.hid hcells
                have HN2 := Lib.hid hname
                clear hname hcells
                obtain ⟨v0, vr, hvr⟩ : ∃ v0 vr, X.face.vars = v0 :: vr := by
                  have h7 := HNV.out
                  cases hh : X.face.vars with
                  | nil => rw [hh] at h7; simp at h7; omega
                  | cons v r => exact ⟨v, r, rfl⟩
                have hl0 := hlab v0 (by rw [hvr]; exact List.mem_cons_self ..)
                have hn2 : (staled.rowOf X.face.vars)[2]? = some (.int .i64 v0.label) := by rw [hvr]; rfl
                have HVR := Lib.hid hvr
                clear hlab hvr
                obtain ⟨L, hL⟩ : ∃ L : Int, 1 - v0.label = L := ⟨_, rfl⟩
                have hLw : IntKind.i64.wrap (1 - v0.label) = L := by rw [hL]; exact staled.wrap_bit (by omega) (by omega)
                have HL2 := Lib.hid hL
                obtain ⟨lab0, hlv⟩ : ∃ x, v0.label = x := ⟨_, rfl⟩
                rw [hlv] at hn2 hl0 hLw HL2
                have HLV := Lib.hid hlv
                clear hlv hL
                generalize hVS : staled.rowOf X.face.vars = news at *
                have HVS := Lib.hid hVS
                clear hVS
                obtain ⟨i0_, hi, hz0, hz1, hz2⟩ := info_parts info_var
                go_wp2_with (at_builtin; refine wpList_append_lies _ rfl _ _ 31 rfl (F + 1) 41 i0_ (.agg #[.string ⟨#[]⟩, .bool false, .int .i64 0, .int .i64 0]) 4 40 Tryd.underlying31 hi hz0 hz1 hz2 rfl (by decide) (.slice (some ⟨F + 1, 0, none⟩) 0 0) 0 [] rfl hown0 ⟨bv, ov, none⟩ NV am news rfl hlen HFC.out hone (by omega) (by unfold maxLen; omega) (by omega) (by simp; omega) (F + 2) (by simp; omega) ?_; intro g9 cap9 w9 hown hgrow hat hlt9; have hG9 : Blk w9 F #[.string X.face.modn, .slice (some ⟨bv, ov, none⟩) NV am, .slice fc X.face.procs.length cm1] 34 := (hgrow.block F (by simp; omega) (by simp [Value.ownBlock])).trans (hF ▸ (Blk.made wr _ _).alloc _); have hc9 := hG9.cell 1; have hf9 := hG9.frozen 1; have hEW9 : Ext wr w9 := (((Chg.refl _ wr).alloc _).alloc _).trans (⟨hgrow.os, hgrow.tape, hgrow.output, hgrow.size, fun i hi hn => hgrow.block i hi (by first | exact hn | exact fun e => hn e.symm)⟩ : Chg (fun i => _ = some i) _ w9) (fun i hi e => by simp [Value.ownBlock] at e; omega); clear hgrow hat)
                simp only [Nat.zero_add, List.nil_append] at hown
                have hgF9 := (World.ownsRow.lt hown g9 rfl).1
                obtain ⟨cur9, hB9⟩ := staled.own_blk hown
                have hG10 := hG9.set 1 (.slice (some ⟨g9, 0, none⟩) NV cap9)
                have hB10 := hB9.setOther (p := ⟨F, 1, none⟩) (by show g9 ≠ F; omega) (.slice (some ⟨g9, 0, none⟩) NV cap9)
                have hown10 := ownsRow_set hown (p := ⟨F, 1, none⟩) (by intro k hk; simp [Value.ownBlock] at hk; show k ≠ F; omega) (.slice (some ⟨g9, 0, none⟩) NV cap9)
                have hE10 : Ext wr (w9.setCell ⟨F, 1, none⟩ (.slice (some ⟨g9, 0, none⟩) NV cap9)) := hEW9.setNew (by show wr.heap.size ≤ F; omega) _
                clear hc9 hf9 hG9 hB9 hown hEW9
                generalize w9.setCell ⟨F, 1, none⟩ (.slice (some ⟨g9, 0, none⟩) NV cap9) = w10 at *
                have k1 : w10.cell? ⟨F, 1, none⟩ = some (.slice (some ⟨g9, 0, none⟩) NV cap9) := hG10.cell 1
                have k2 : w10.cell? ⟨g9, 2, none⟩ = some (.int .i64 lab0) := (hown10.cellAt 2 (by omega)).trans hn2
                have k3 := hB10.frozen 2
                have hNVn : 0 < NV := by omega
                go_still_tail 10, (by kernel_rfl)
                change wpList _ _ _ _ _ w10.drew
                have hG11 : Blk w10.drew F _ _ := hG10
                have hB11 : Blk w10.drew g9 _ _ := hB10
                have hown11 : w10.drew.ownsRow (F + 1) 41 4 (.slice (some ⟨g9, 0, none⟩) NV cap9) NV news := hown10
                have hE11 : Ext wr w10.drew := hE10.drew
                clear k1 k2 k3 hG10 hB10 hown10 hE10
                generalize w10.drew = w11 at *
                have hv12 : AllIn 4 VarIn (w11.setCell ⟨g9, 2, none⟩ (.int .i64 L)) (some ⟨g9, 0, none⟩) (turnVs X.face.vars) := staled.row_turn HVR.out (by rw [HVS.out]; exact hown11) (by have h7 := HLV.out; have h8 := HL2.out; omega) HN2.out
                have k2 : w11.cell? ⟨g9, 2, none⟩ = some (.int .i64 lab0) := (hown11.cellAt 2 (by omega)).trans hn2
                have k3 := hB11.frozen 2
                have hG12 := hG11.setOther (p := ⟨g9, 2, none⟩) (by show F ≠ g9; omega) (.int .i64 L)
                have hE12 : Ext wr (w11.setCell ⟨g9, 2, none⟩ (.int .i64 L)) := hE11.setNew (by show wr.heap.size ≤ g9; omega) _
                have hcap12 : NV ≤ cap9 ∧ cap9 ≤ maxLen := staled.own_cap hown11
                have HRC := Lib.hid hcap12
                clear hcap12 hown11 hB11 hE11 hG11
                have k4 := hG12.cell 0
                have k5 := hG12.cell 1
                have k6 := hG12.cell 2
                simp at k4 k5 k6
                obtain ⟨us5, -, ho5, -⟩ := HR.out
                obtain ⟨curm, hM5⟩ := staled.own_blk ho5
                have hM12 := (hM5.ext hE5).ext hE12
                have hs : ∀ i, i < 13 → ∃ u, (w11.setCell ⟨g9, 2, none⟩ (.int .i64 L)).cell? ⟨gm, q * 13 + i, none⟩ = some u := fun i hi => by
                  rw [hE12.cell (by show gm < wr.heap.size; omega) id, hE5.cell (by exact hb3) id, ho5.cellAt (q * 13 + i) (by have := ho5.1; omega)]
                  exact ⟨_, List.getElem?_eq_getElem (by have := ho5.1; omega)⟩
                obtain ⟨s0, hs0⟩ := hs 0 (by decide)
                obtain ⟨s1, hs1⟩ := hs 1 (by decide)
                obtain ⟨s2, hs2⟩ := hs 2 (by decide)
                rw [Nat.add_zero] at hs0
                have f0 := hM12.frozen (q * 13)
                have f1 := hM12.frozen (q * 13 + 1)
                have f2 := hM12.frozen (q * 13 + 2)
                have hF3 := staled.three_cells (u0 := .string X.face.modn) (u1 := .slice (some ⟨g9, 0, none⟩) NV cap9) (u2 := .slice fc X.face.procs.length cm1) hs0 hs1 hs2
                have HF3 := Lib.hid hF3
                clear hF3
                go_wp2_with fail
                clear k2 k3 k4 k5 k6 hs0 hs1 hs2 f0 f1 f2 hM12 hM5 hG12 ho5
                have r2' := (hE12.cell (p := ⟨gm, q * 13 + 2, none⟩) (by show gm < wr.heap.size; omega) id).trans r2
                have hHR := HR.out.ext (hE5.ext hE12)
                have hW12 : Ext w2 (w11.setCell ⟨g9, 2, none⟩ (.int .i64 L)) := hE9.ext hE12
                generalize w11.setCell ⟨g9, 2, none⟩ (.int .i64 L) = w12 at *
                obtain ⟨z0, z1, z2, z3, z4, z5, z6⟩ := HF3.out
                have hW15 := z6 w2 (fun _ => False) hW12 (by rw [HB.out]; exact hm3)
                clear HF3 hs
                generalize ((w12.setCell ⟨gm, q * 13, none⟩ (.string X.face.modn)).setCell ⟨gm, q * 13 + 1, none⟩ (.slice (some ⟨g9, 0, none⟩) NV cap9)).setCell ⟨gm, q * 13 + 2, none⟩ (.slice fc X.face.procs.length cm1) = w15 at *
                have hv15 := staled.row_else hv12 (by omega) z4 z5
                have hall : AllIn 13 ObjIn w15 (some ⟨gm, 0, none⟩) (turnL l q) := by
                  refine staled.all_turn hHR hW15 hql (by rw [z5]; exact Nat.lt_of_lt_of_le hb3 (hE5.ext hE12).size) z3 z0 z1 z2 ?_
                  rw [HXQ.out]
                  intro fa' am' fc' cm' ia ic ca cc ra rc pa pc la lc ha hc hfc hat
                  rw [r2'] at hfc
                  simp only [Option.some.injEq, Value.slice.injEq, true_and] at hfc
                  obtain ⟨rfl, rfl⟩ := hfc
                  exact ⟨g9, cap9, rfl, by rw [HNV.out], rfl, hv15, by rw [HNV.out]; exact HRC.out.1, HRC.out.2⟩
                have hlt : (turnL l q).length = j := by unfold turnL; rw [List.length_modify]; exact HN.out
                obtain ⟨bm, bp, hbad⟩ := stale.stale HT.out hql (by rw [HXQ.out, HVR.out]; simp) HKN.out
                have hL2 := link_any (some ⟨gm, 0, none⟩) (turnL l q) j cm w15 hlt hall (staled.small_turn HSM.out) (HEV.out.ext (HX.out.ext hW15)) (HMV.out.ext (HX.out.ext hW15))
                rw [hbad] at hL2
                refine hL2.mono ?_
                rintro e w16 ⟨hE16, h16⟩
                obtain rfl : e = _ := h16
                have hEE : Ext w w16 := (HX.out.ext hW15).ext hE16
                clear hL2 hall hv15 hv12 hHR z0 z1 z2 z3 z4 z5 z6 hW15 hW12 hE12 r2' r0 r2
                unfold zeroImg
                have K2 := Blk.made2 w16 (.cells #[.slice none 0 0, .int .i64 0, .int .i64 0] 25) #[.int .i64 bm, .int .i64 3, .int .i64 bp] 28
                have hX16 := (hEE.alloc (.cells #[.slice none 0 0, .int .i64 0, .int .i64 0] 25)).alloc (.cells #[.int .i64 bm, .int .i64 3, .int .i64 bp] 28)
                have HX16 := Lib.hid hX16
                clear hX16 hEE
                go_wp2_with fail
                go_ret
                exact ⟨rfl, HX16.out⟩
end stalew
end Go.Proofs.YtpcihajmcejliabDoor
