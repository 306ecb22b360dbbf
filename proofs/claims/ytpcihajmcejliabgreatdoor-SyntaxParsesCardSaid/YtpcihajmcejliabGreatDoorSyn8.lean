/- The walk of the program's parser: modules. -/
import Derived.Test.YtpcihajmcejliabGreatDoorSyn7
import Derived.Test.YtpcihajmcejliabGreatDoorSyn1
namespace Go.Proofs.YtpcihajmcejliabGreatDoor
open Go.RowKit
namespace synw
set_option maxRecDepth 100000 in
set_option maxHeartbeats 4000000 in
theorem module_any {n : Nat} (ih : ∀ m, m ≤ n → Good m) {W w : World} {S E : Nat} {l : List Tk} (h : PrAt W w S E l) (hm : MaxVar W) (hne : prs (n + 1) (.module) l ≠ .out) :
    Calls Tryz.prog 85 #[.pointer (some ⟨S, 0, none⟩)] w (Pst (VN w.heap.size) W w S E (prs (n + 1) (.module) l)) := by
  obtain ⟨T, hT⟩ : ∃ T, prs (n + 1) (.module) l = T := ⟨_, rfl⟩
  rw [hT] at hne ⊢
  simp only [prs] at hT
  have HT := Lib.hid hT
  have HNE := Lib.hid hne
  have HM := Lib.hid hm
  have HAT : Hid (At W w (w.alloc (.cells #[.int .i64 0, .string ⟨#[]⟩, .int .i64 0, .slice none 0 0] 66)) S E w.heap.size l) := Lib.hid (At.start h)
  obtain ⟨A, hA⟩ : ∃ A, w.heap.size = A := ⟨_, rfl⟩
  rw [hA] at HAT
  have hSA : S < A := by have := h.lt; omega
  clear h hm hne hT
  go_enter Tryz.func85, Tryz.ntmps85
  go_upto_region 1 with (fail)
  generalize w.alloc (.cells #[.int .i64 0, .string ⟨#[]⟩, .int .i64 0, .slice none 0 0] 66) = u0 at *
  have HN := Lib.hid (need_any (HAT.out.pr.alloc (.cells #[.string sModule] 9)) u0.heap.size 1 sModule ((Blk.made u0 #[.string sModule] 9).cell 0))
  have hEx := (Chg.refl (fun _ => False) u0).alloc (.cells #[.string sModule] 9)
  replace HAT := Lib.hid (HAT.out.extend hEx)
  clear hEx
  go_wp2_with fail
  refine HN.out.mono ?_
  rintro e u1 hr
  obtain ⟨hC, ⟨lb, hp, rfl⟩ | ⟨_, l1, _, hp, rfl, rfl, hP⟩⟩ := hr.cases (pNeed_ne _ _)
  · have HF := Lib.hid (Out.bind_bad HT.out hp)
    have HC := Lib.hid (HAT.out.chg.then hC)
    clear hr hp hC
    go_wp2_with fail
    exact ⟨rfl, Pst.fails HC.out HF.out⟩
  replace HT := Lib.hid (Out.bind_got HT.out hp)
  replace HAT := Lib.hid (HAT.out.call hC hP)
  clear hr hp hC hP HN
  have HN := Lib.hid (name_any HAT.out.pr HM.out)
  go_wp2_with fail
  refine HN.out.mono ?_
  rintro e u2 hr
  obtain ⟨hC, ⟨lb, hp, rfl⟩ | ⟨s2, l2, v, hp, rfl, ⟨rfl, hs⟩, hP⟩⟩ := hr.cases (pName_ne _)
  · have HF := Lib.hid (Out.bind_bad HT.out hp)
    have HC := Lib.hid (HAT.out.chg.then hC)
    clear hr hp hC
    go_wp2_with fail
    exact ⟨rfl, Pst.fails HC.out HF.out⟩
  replace HT := Lib.hid (Out.bind_got HT.out hp)
  replace HAT := Lib.hid (HAT.out.call hC hP)
  have HSZ := Lib.hid hs
  clear hr hp hC hP HN
  clear hs
  generalize s2 = s at *
  go_wp2_with fail
  refine (node_any _ _ _ _ _ _ _).mono ?_
  rintro e u3 ⟨rfl, hE⟩
  replace HAT := Lib.hid (HAT.out.extend hE)
  have HB := Lib.hid ((HAT.out.alloc (.cells #[.int .i64 (1), .string s, .int .i64 (0), .slice none 0 0] 66)).bld (Blk.made u3 _ _) HAT.out.lt)
  obtain ⟨N, hN⟩ : ∃ N, u3.heap.size = N := ⟨_, rfl⟩
  rw [hN] at HB
  clear hE HAT
  go_upto_region 3 with (fail)
  generalize u3.alloc (.cells #[.int .i64 (1), .string s, .int .i64 (0), .slice none 0 0] 66) = v0 at *
  have HAT := Lib.hid HB.out.at
  have HN := Lib.hid (need_any (HAT.out.pr.alloc (.cells #[.string sSemi] 9)) v0.heap.size 1 sSemi ((Blk.made v0 #[.string sSemi] 9).cell 0))
  have hEx := (Chg.refl (fun _ => False) v0).alloc (.cells #[.string sSemi] 9)
  replace HB := Lib.hid (HB.out.extend hEx)
  replace HAT := Lib.hid HB.out.at
  clear hEx
  go_wp2_with fail
  refine HN.out.mono ?_
  rintro e u4 hr
  obtain ⟨hC, ⟨lb, hp, rfl⟩ | ⟨_, l4, _, hp, rfl, rfl, hP⟩⟩ := hr.cases (pNeed_ne _ _)
  · have HF := Lib.hid (Out.bind_bad HT.out hp)
    have HC := Lib.hid (HAT.out.chg.then hC)
    clear hr hp hC
    go_wp2_with fail
    exact ⟨rfl, Pst.fails HC.out HF.out⟩
  replace HT := Lib.hid (Out.bind_got HT.out hp)
  replace HB := Lib.hid (HB.out.call hC hP (by have := synm.need_lt hp; omega))
  replace HAT := Lib.hid HB.out.at
  clear hr hp hC hP HN
  go_wp2_with fail
  go_loopg [] n (fun k wr => ∃ l2 acc row, k ≤ n ∧ Hid (prs k (.imports s acc) l2 = T) ∧ Hid (Bld W w wr S E A N l2 1 s 0 row row acc))
  case atStart => exact ⟨l4, [], .slice none 0 0, Nat.le_refl _, HT, HB⟩
  clear HT HB HAT
  case round =>
    obtain ⟨lr, acc, row, hkn, HT, HB⟩ := hrel
    cases gk with
    | zero => exact absurd HT.out.symm HNE.out
    | succ m =>
      have HT0 := HT.out
      clear HT
      simp only [prs] at HT0
      have HT := Lib.hid HT0
      clear HT0
      have HAT := Lib.hid HB.out.at
      have HH := Lib.hid (have_any HAT.out.pr sImport)
      have HLE := Lib.hid (fun (h : isB lr [sImport] = true) => synm.tail_lt h)
      generalize isB lr [sImport] = R at *
      go_wp2_with fail
      refine HH.out.mono ?_
      rintro e u5 ⟨rfl, hC, hP⟩
      cases R with
      | false =>
        replace hP : PrAt W u5 S E lr := by simpa using hP
        have HT0 := HT.out
        clear HT
        simp only [Bool.false_eq_true, ↓reduceIte] at HT0
        have HT := Lib.hid HT0
        clear HT0
        replace HB := Lib.hid (HB.out.call hC hP (Nat.le_refl _))
        replace HAT := Lib.hid HB.out.at
        clear hC hP HH HLE
        go_wp2_with fail
        go_loopg [] m (fun k wr => ∃ l2 acc row, k ≤ m ∧ Hid (prs k (.decls s acc) l2 = T) ∧ Hid (Bld W w wr S E A N l2 1 s 0 row row acc))
        case atStart => exact ⟨lr, acc, row, Nat.le_refl _, HT, HB⟩
        clear HT HB HAT
        case round =>
          obtain ⟨ld, acc, row, hkm, HT, HB⟩ := hrel
          cases gk with
          | zero => exact absurd HT.out.symm HNE.out
          | succ j =>
            have HT0 := HT.out
            clear HT
            simp only [prs] at HT0
            have HT := Lib.hid HT0
            clear HT0
            have HAT := Lib.hid HB.out.at
            obtain ⟨ta, tn, tc, tk, hSB, hlk, htn⟩ := pr_blk HAT.out.pr
            have h0 := hSB.cell 0
            have h1 := hSB.cell 1
            simp at h0 h1
            have hSf := hSB.frozen
            have hSl := hSB.lt
            cases ld with
            | nil =>
              have HT0 := HT.out
              clear HT
              simp only [List.length_nil, ↓reduceIte] at HT0
              have HT := Lib.hid HT0
              clear HT0
              simp only [List.length_nil, Nat.add_zero] at hlk
              subst hlk
              clear hSB
              go_wp2_with fail
              go_quiet (fail)
              replace HB := Lib.hid (HB.out.extend ((Chg.refl _ _).drewN nq))
              generalize World.drewN _ nq = w6 at *
              clear h0 h1 hSf hSl
              obtain ⟨ra, rn, rc, hrow⟩ := HB.out.slice3
              first | subst hrow | clear hrow
              have c0 := HB.out.nd.cell 0
              have c1 := HB.out.nd.cell 1
              have c2 := HB.out.nd.cell 2
              have c3 := HB.out.nd.cell 3
              have r0 := HB.out.res.cell
              have rf := HB.out.res.frozen
              have rl := HB.out.res.lt
              unfold zeroNd at r0
              simp at c0 c1 c2 c3
              go_wp2_with fail
              refine ends_at rfl rfl rfl ((((HB.out.res.set 0 _).set 1 _).set 2 _).set 3 _) Tryz.underlying66 rfl (by kernel_rfl) ?_
              exact HB.out.ret (by have := HSZ.out; omega) (HT.out.symm) _ _ _ _
            | cons t r =>
              have HT0 := HT.out
              clear HT
              simp only [List.length_cons, Nat.add_one_ne_zero, ↓reduceIte] at HT0
              have HT := Lib.hid HT0
              clear HT0
              have hkn3 : (tk : Int) < (tn : Int) := by simp only [List.length_cons] at hlk; omega
              clear hSB
              go_wp2_with fail
              go_quiet (fail)
              replace HB := Lib.hid (HB.out.extend ((Chg.refl _ _).drewN nq))
              generalize World.drewN _ nq = w6 at *
              replace HAT := Lib.hid HB.out.at
              clear h0 h1 hSf hSl
              go_upto_region 8 with (fail)
              refine wp_region_weave [3, 4, 5, 7] (fun i v _ => v = ([.pointer (some ⟨N, 3, none⟩), row, .pointer (some ⟨S, 0, none⟩), undef, undef, undef, .pointer (some ⟨N, 3, none⟩), undef] : List Value).getD i undef) (PushF W w S E A N (t :: r) 1 s 0 row acc (prs j .decl (t :: r))) (fun _ _ => True) (frame := ?frab) (fun x => ?hfab) mixed (by kernel_rfl) (by kernel_rfl) (fun _ _ _ _ h _ => h) ?h0b ?stb ?finb
              case hfab =>
                simp only [chain.frameOf, chain.fill, chain.setOpt, chain.dstOf, List.size_toArray, List.length_cons, List.length_nil, List.getElem?_toArray, List.getElem?_cons_succ, List.getElem?_cons_zero, List.setIfInBounds_toArray, List.set_cons_succ, List.set_cons_zero]
                exact rfl
              case h0b => exact HB.out.extend (Chg.refl _ _).drew
              case stb =>
                refine AllFrom.cons (fun x vs u hF hm hb hd K' hK' => ?sb0) (AllFrom.cons (fun x vs u hF hm hb hd K' hK' => ?sb1) (AllFrom.cons (fun x vs u hF hm hb hd K' hK' => ?sb2) (AllFrom.cons (fun x vs u hF hm hb hd K' hK' => ?sb3) (AllFrom.cons (fun x vs u hF hm hb hd K' hK' => ?sb4) (AllFrom.cons (fun x vs u hF hm hb hd K' hK' => ?sb5) (AllFrom.cons (fun x vs u hF hm hb hd K' hK' => ?sb6) (AllFrom.cons (fun x vs u hF hm hb hd K' hK' => ?sb7) (AllFrom.nil))))))))
                case sb0 =>
                  have HF := Lib.hid hF
                  clear hd hm hb hF
                  go_simp
                  exact hK'.out _ _ _ rfl trivial ⟨rfl, HF.out⟩
                case sb1 =>
                  have y0 := hd 0 (by decide) (by kernel_rfl)
                  replace y0 : x 36 = .pointer (some ⟨N, 3, none⟩) := y0
                  have hc := hF.cell (by have := hb 2 _ (by decide) rfl (by kernel_rfl); omega)
                  have HF := Lib.hid hF
                  clear hd hm hb hF
                  go_simp
                  exact hK'.out _ _ _ (by simp only [y0]; rfl) trivial ⟨rfl, HF.out⟩
                case sb2 =>
                  have HF := Lib.hid hF
                  clear hd hm hb hF
                  go_simp
                  exact hK'.out _ _ _ rfl trivial ⟨rfl, HF.out⟩
                case sb6 =>
                  have HF := Lib.hid hF
                  clear hd hm hb hF
                  go_simp
                  exact hK'.out _ _ _ rfl trivial ⟨rfl, HF.out⟩
                case sb3 =>
                  have y0 := hd 2 (by decide) (by kernel_rfl)
                  replace y0 : x 38 = .pointer (some ⟨S, 0, none⟩) := y0
                  obtain rfl := List.eq_nil_of_length_eq_zero (hm 0 (by kernel_rfl))
                  have HF := Lib.hid (show Bld _ _ _ _ _ _ _ _ _ _ _ _ _ _ from hF)
                  clear hd hm hb hF
                  have HCA := Lib.hid (ih j (by omega) .decl _ _ HF.out.pr HM.out rfl trivial (Out.bind_ne HT.out HNE.out))
                  go_simp
                  refine HCA.out.mono ?_
                  rintro e u2 hr
                  obtain ⟨hC, ⟨lb, hp, rfl⟩ | ⟨xn, ln, v, hp, rfl, hv, hP⟩⟩ := hr.cases (Out.bind_ne HT.out HNE.out)
                  · have HE := Lib.hid (Out.bind_bad HT.out hp)
                    have HC := Lib.hid (HF.out.chg.then hC)
                    clear hr hp hC hK' HCA
                    go_wp2_with fail
                    exact ⟨rfl, Pst.fails HC.out HE.out⟩
                  · exact hK'.out _ _ _ (by simp only [y0]; rfl) trivial (push_call HF.out hC hp hv hP (synm.prs_lt _ _ _ _ _ hp))
                case sb4 =>
                  obtain ⟨v0, rfl⟩ : ∃ v0, vs = [v0] := by match vs, hm 1 (by kernel_rfl) with | [v0], _ => exact ⟨_, rfl⟩
                  have y0 := hd 3 (by decide) (by kernel_rfl) 39 (by kernel_rfl)
                  replace y0 : x 39 = v0 := y0
                  have hcl : ∃ a b c d, v0 = .agg #[a, b, c, d] := by obtain ⟨xn, ln, _, _, _, hx⟩ := hF; obtain ⟨a, b, c, d, h, _⟩ := nd_cells hx; exact ⟨a, b, c, d, h⟩
                  obtain ⟨a0, b0, c0, d0, rfl⟩ := hcl
                  have HF := Lib.hid hF
                  clear hd hm hb hF
                  go_simp
                  exact hK'.out _ _ _ (by simp only [y0]; rfl) trivial (push_slice HF.out rfl)
                case sb5 =>
                  obtain ⟨v0, v1, rfl⟩ : ∃ v0 v1, vs = [v0, v1] := by match vs, hm 2 (by kernel_rfl) with | [v0, v1], _ => exact ⟨_, _, rfl⟩
                  have y0 := hd 1 (by decide) (by kernel_rfl)
                  replace y0 : x 37 = row := y0
                  have y1 := hd 4 (by decide) (by kernel_rfl) 40 (by kernel_rfl)
                  replace y1 : x 40 = v1 := y1
                  have hF2 := hF
                  obtain ⟨xn, ln, hT1, hBB, hfew, hx, gg, rfl, hgb, hgr⟩ := hF2
                  obtain ⟨us, hu1, ho, hu3⟩ := hBB.grow.ex
                  have hlt := hBB.lt
                  obtain ⟨i0_, hi_, hz0, hz1, hz2⟩ := info_split info_node
                  refine wp_append_lies _ _ _ 35 rfl (N + 1) 66 i0_ (.agg #[.int .i64 0, .string ⟨#[]⟩, .int .i64 0, .slice none 0 0]) 4 56 Tryz.underlying35 hi_ hz0 hz1 hz2 rfl (by decide) row acc.length (us.flatMap fun u => u.cells.toList) y0 ho ⟨gg, 0, none⟩ 1 1 v0.cells.toList y1 (by rw [Array.length_toList, nd_size hx]) ?_ (by obtain ⟨a, b, c, d, e, e2, p1, p2, p3, p4⟩ := nd_cells hx; rw [e2]; intro q hq; simp at hq; rcases hq with rfl | rfl | rfl | rfl <;> assumption) (by decide) (by unfold maxLen; omega) (by omega) (by omega) u.heap.size rfl ?_
                  · intro j q hj; have e : (⟨gg, 0, none⟩ : Addr).add j = ⟨gg, j, none⟩ := (by unfold Addr.add; split <;> simp_all); rw [e, hgb.cell]; simpa using hj
                  · intro g9 c9 w9 ho9 hg9 ha9 hl9
                    exact hK'.out _ _ _ rfl trivial (push_append hF hu1 hu3 ho9 hg9 ha9)
                case sb7 =>
                  obtain ⟨v0, v1, v2, rfl⟩ : ∃ v0 v1 v2, vs = [v0, v1, v2] := by match vs, hm 3 (by kernel_rfl) with | [v0, v1, v2], _ => exact ⟨_, _, _, rfl⟩
                  have y0 := hd 6 (by decide) (by kernel_rfl)
                  replace y0 : x 42 = .pointer (some ⟨N, 3, none⟩) := y0
                  have y1 := hd 5 (by decide) (by kernel_rfl) 41 (by kernel_rfl)
                  replace y1 : x 41 = v2 := y1
                  have hF2 := hF
                  obtain ⟨xn, ln, hT1, hBB, gg, cc, rfl⟩ := hF2
                  have hc := hBB.nd.cell 3
                  have hf := hBB.nd.frozen 3
                  have hl := hBB.lt
                  simp at hc
                  have HF := Lib.hid hF
                  clear hd hm hb hF hBB hT1
                  go_simp
                  exact hK'.out _ _ undef (by simp only [y0, y1]; rfl) trivial (push_store HF.out)
              case finb =>
                intro x vs w9 hl hF hk
                obtain ⟨v0, v1, v2, v3, rfl⟩ : ∃ v0 v1 v2 v3, vs = [v0, v1, v2, v3] := by match vs, hl with | [v0, v1, v2, v3], _ => exact ⟨_, _, _, _, rfl⟩
                obtain ⟨xn, ln, hT1, hB9⟩ := hF
                clear hk hl
                replace HT := Lib.hid (Out.bind_got HT.out hT1.out)
                replace HB := Lib.hid hB9
                clear hT1 hB9
                go_wp2_with fail
                go_roundg j
                case rel => exact ⟨ln, acc ++ [xn], v2, by omega, HT, HB⟩
                case measure => omega
      | true =>
        replace hP : PrAt W u5 S E lr.tail := by simpa using hP
        have HT0 := HT.out
        clear HT
        simp only [↓reduceIte] at HT0
        have HT := Lib.hid HT0
        clear HT0
        replace HB := Lib.hid (HB.out.call hC hP (by have := HLE.out rfl; omega))
        replace HAT := Lib.hid HB.out.at
        clear hC hP HH HLE
        go_upto_region 5 with (fail)
        refine wp_region_weave [3, 4, 5, 6, 8] (fun i v _ => v = ([.pointer (some ⟨N, 3, none⟩), row, .pointer (some ⟨S, 0, none⟩), undef, undef, undef, undef, .pointer (some ⟨N, 3, none⟩), undef] : List Value).getD i undef) (PushN W w S E A N lr.tail 1 s 0 row acc 2 0) (fun _ _ => True) (frame := ?fraa) (fun x => ?hfaa) mixed (by kernel_rfl) (by kernel_rfl) (fun _ _ _ _ h _ => h) ?h0a ?sta ?fina
        case hfaa =>
          simp only [chain.frameOf, chain.fill, chain.setOpt, chain.dstOf, List.size_toArray, List.length_cons, List.length_nil, List.getElem?_toArray, List.getElem?_cons_succ, List.getElem?_cons_zero, List.setIfInBounds_toArray, List.set_cons_succ, List.set_cons_zero]
          exact rfl
        case h0a => exact HB.out.extend (Chg.refl _ _).drew
        case sta =>
          refine AllFrom.cons (fun x vs u hF hm hb hd K' hK' => ?sa0) (AllFrom.cons (fun x vs u hF hm hb hd K' hK' => ?sa1) (AllFrom.cons (fun x vs u hF hm hb hd K' hK' => ?sa2) (AllFrom.cons (fun x vs u hF hm hb hd K' hK' => ?sa3) (AllFrom.cons (fun x vs u hF hm hb hd K' hK' => ?sa4) (AllFrom.cons (fun x vs u hF hm hb hd K' hK' => ?sa5) (AllFrom.cons (fun x vs u hF hm hb hd K' hK' => ?sa6) (AllFrom.cons (fun x vs u hF hm hb hd K' hK' => ?sa7) (AllFrom.cons (fun x vs u hF hm hb hd K' hK' => ?sa8) (AllFrom.nil)))))))))
          case sa0 =>
            have HF := Lib.hid hF
            clear hd hm hb hF
            go_simp
            exact hK'.out _ _ _ rfl trivial ⟨rfl, HF.out⟩
          case sa2 =>
            have HF := Lib.hid hF
            clear hd hm hb hF
            go_simp
            exact hK'.out _ _ _ rfl trivial ⟨rfl, HF.out⟩
          case sa7 =>
            have HF := Lib.hid hF
            clear hd hm hb hF
            go_simp
            exact hK'.out _ _ _ rfl trivial ⟨rfl, HF.out⟩
          case sa1 =>
            have y0 := hd 0 (by decide) (by kernel_rfl)
            replace y0 : x 15 = .pointer (some ⟨N, 3, none⟩) := y0
            have hc := hF.cell (by have := hb 3 _ (by decide) rfl (by kernel_rfl); omega)
            have HF := Lib.hid hF
            clear hd hm hb hF
            go_simp
            exact hK'.out _ _ _ (by simp only [y0]; rfl) trivial ⟨rfl, HF.out⟩
          case sa3 =>
            have y0 := hd 2 (by decide) (by kernel_rfl)
            replace y0 : x 17 = .pointer (some ⟨S, 0, none⟩) := y0
            obtain rfl := List.eq_nil_of_length_eq_zero (hm 0 (by kernel_rfl))
            have HF := Lib.hid (show Bld _ _ _ _ _ _ _ _ _ _ _ _ _ _ from hF)
            clear hd hm hb hF
            have HCA := Lib.hid (name_any HF.out.pr HM.out)
            go_simp
            refine HCA.out.mono ?_
            rintro e u2 hr
            obtain ⟨hC, ⟨lb, hp, rfl⟩ | ⟨sn, lx, v, hp, rfl, ⟨rfl, hsz⟩, hP⟩⟩ := hr.cases (pName_ne _)
            · have HE := Lib.hid (Out.bind_bad HT.out hp)
              have HC := Lib.hid (HF.out.chg.then hC)
              clear hr hp hC hK' HCA
              go_wp2_with fail
              exact ⟨rfl, Pst.fails HC.out HE.out⟩
            · exact hK'.out _ _ _ (by simp only [y0]; rfl) trivial (pushn_name HF.out hC hp hsz hP)
          case sa4 =>
            obtain ⟨v0, rfl⟩ : ∃ v0, vs = [v0] := by match vs, hm 1 (by kernel_rfl) with | [v0], _ => exact ⟨_, rfl⟩
            have y0 := hd 3 (by decide) (by kernel_rfl) 18 (by kernel_rfl)
            replace y0 : x 18 = v0 := y0
            have hcl : ∃ s, v0 = .string s := by obtain ⟨s, ln, _, e, _⟩ := hF; exact ⟨s, e⟩
            obtain ⟨sn, rfl⟩ := hcl
            have HF := Lib.hid hF
            clear hd hm hb hF
            go_simp
            refine (node_any _ _ _ _ _ _ _).mono ?_
            rintro e u2 ⟨rfl, hE⟩
            exact hK'.out _ _ _ (by simp only [y0]; rfl) trivial (pushn_node HF.out hE)
          case sa5 =>
            obtain ⟨vz, v0, rfl⟩ : ∃ vz v0, vs = [vz, v0] := by match vs, hm 2 (by kernel_rfl) with | [vz, v0], _ => exact ⟨_, _, rfl⟩
            have y0 := hd 4 (by decide) (by kernel_rfl) 19 (by kernel_rfl)
            replace y0 : x 19 = v0 := y0
            replace hF : PushF W w S E A N lr.tail 1 s 0 row acc (pLeaf 2 0 lr.tail) [v0] u := hF
            have hcl : ∃ a b c d, v0 = .agg #[a, b, c, d] := by obtain ⟨xn, ln, _, _, _, hx⟩ := hF; obtain ⟨a, b, c, d, h, _⟩ := nd_cells hx; exact ⟨a, b, c, d, h⟩
            obtain ⟨a0, b0, c0, d0, rfl⟩ := hcl
            have HF := Lib.hid hF
            clear hd hm hb hF
            go_simp
            exact hK'.out _ _ _ (by simp only [y0]; rfl) trivial (push_slice HF.out rfl)
          case sa6 =>
            obtain ⟨vz, v0, v1, rfl⟩ : ∃ vz v0 v1, vs = [vz, v0, v1] := by match vs, hm 3 (by kernel_rfl) with | [vz, v0, v1], _ => exact ⟨_, _, _, rfl⟩
            have y0 := hd 1 (by decide) (by kernel_rfl)
            replace y0 : x 16 = row := y0
            have y1 := hd 5 (by decide) (by kernel_rfl) 20 (by kernel_rfl)
            replace y1 : x 20 = v1 := y1
            replace hF : PushF W w S E A N lr.tail 1 s 0 row acc (pLeaf 2 0 lr.tail) [v0, v1] u := hF
            have hF2 := hF
            obtain ⟨xn, ln, hT1, hBB, hfew, hx, gg, rfl, hgb, hgr⟩ := hF2
            obtain ⟨us, hu1, ho, hu3⟩ := hBB.grow.ex
            have hlt := hBB.lt
            obtain ⟨i0_, hi_, hz0, hz1, hz2⟩ := info_split info_node
            refine wp_append_lies _ _ _ 35 rfl (N + 1) 66 i0_ (.agg #[.int .i64 0, .string ⟨#[]⟩, .int .i64 0, .slice none 0 0]) 4 56 Tryz.underlying35 hi_ hz0 hz1 hz2 rfl (by decide) row acc.length (us.flatMap fun u => u.cells.toList) y0 ho ⟨gg, 0, none⟩ 1 1 v0.cells.toList y1 (by rw [Array.length_toList, nd_size hx]) ?_ (by obtain ⟨a, b, c, d, e, e2, p1, p2, p3, p4⟩ := nd_cells hx; rw [e2]; intro q hq; simp at hq; rcases hq with rfl | rfl | rfl | rfl <;> assumption) (by decide) (by unfold maxLen; omega) (by omega) (by omega) u.heap.size rfl ?_
            · intro j q hj; have e : (⟨gg, 0, none⟩ : Addr).add j = ⟨gg, j, none⟩ := (by unfold Addr.add; split <;> simp_all); rw [e, hgb.cell]; simpa using hj
            · intro g9 c9 w9 ho9 hg9 ha9 hl9
              exact hK'.out _ _ _ rfl trivial (push_append hF hu1 hu3 ho9 hg9 ha9)
          case sa8 =>
            obtain ⟨vz, v0, v1, v2, rfl⟩ : ∃ vz v0 v1 v2, vs = [vz, v0, v1, v2] := by match vs, hm 4 (by kernel_rfl) with | [vz, v0, v1, v2], _ => exact ⟨_, _, _, _, rfl⟩
            have y0 := hd 7 (by decide) (by kernel_rfl)
            replace y0 : x 22 = .pointer (some ⟨N, 3, none⟩) := y0
            have y1 := hd 6 (by decide) (by kernel_rfl) 21 (by kernel_rfl)
            replace y1 : x 21 = v2 := y1
            replace hF : PushF W w S E A N lr.tail 1 s 0 row acc (pLeaf 2 0 lr.tail) [v0, v1, v2] u := hF
            have hF2 := hF
            obtain ⟨xn, ln, hT1, hBB, gg, cc, rfl⟩ := hF2
            have hc := hBB.nd.cell 3
            have hf := hBB.nd.frozen 3
            have hl := hBB.lt
            simp at hc
            have HF := Lib.hid hF
            clear hd hm hb hF hBB hT1
            go_simp
            exact hK'.out _ _ undef (by simp only [y0, y1]; rfl) trivial (push_store (z := undef) HF.out)
        case fina =>
          intro x vs w9 hl hF hk
          obtain ⟨vz, v0, v1, v2, v3, rfl⟩ : ∃ vz v0 v1 v2 v3, vs = [vz, v0, v1, v2, v3] := by match vs, hl with | [vz, v0, v1, v2, v3], _ => exact ⟨_, _, _, _, _, rfl⟩
          obtain ⟨xn, ln, hT1, hB9⟩ := hF
          clear hk hl
          have hT2 := hT1.out
          unfold pLeaf at hT2
          obtain ⟨sn, lz, hq1, hq2⟩ := synm.got_bind hT2
          injection hq2 with hq3 hq4
          subst hq3 hq4
          replace HT := Lib.hid (Out.bind_got HT.out hq1)
          replace HB := Lib.hid hB9
          replace HAT := Lib.hid HB.out.at
          clear hT1 hB9 hT2 hq1
          have HN := Lib.hid (need_any (HAT.out.pr.alloc (.cells #[.string sSemi] 9)) w9.heap.size 1 sSemi ((Blk.made w9 #[.string sSemi] 9).cell 0))
          have hEx := (Chg.refl (fun _ => False) w9).alloc (.cells #[.string sSemi] 9)
          replace HB := Lib.hid (HB.out.extend hEx)
          replace HAT := Lib.hid HB.out.at
          clear hEx
          go_wp2_with fail
          refine HN.out.mono ?_
          rintro e u7 hr
          obtain ⟨hC, ⟨lb, hp, rfl⟩ | ⟨_, l7, _, hp, rfl, rfl, hP⟩⟩ := hr.cases (pNeed_ne _ _)
          · have HF := Lib.hid (Out.bind_bad HT.out hp)
            have HC := Lib.hid (HAT.out.chg.then hC)
            clear hr hp hC
            go_wp2_with fail
            exact ⟨rfl, Pst.fails HC.out HF.out⟩
          replace HT := Lib.hid (Out.bind_got HT.out hp)
          replace HB := Lib.hid (HB.out.call hC hP (by have := synm.need_lt hp; omega))
          replace HAT := Lib.hid HB.out.at
          clear hr hp hC hP HN
          go_wp2_with fail
          go_roundg m
          case rel => exact ⟨l7, acc ++ [.mk 2 sn 0 []], v2, by omega, HT, HB⟩
          case measure => omega
/-- every function reads what plain Lean says -/
theorem good_all : ∀ n, Good n := by
  intro n
  induction n using Nat.strongRecOn with
  | _ n IH =>
    cases n with
    | zero => intro W w S E l X f a _ _ _ _ hne; exact absurd (by cases X <;> rfl) hne
    | succ n =>
      have ih : ∀ m, m ≤ n → Good m := fun m hm => IH m (by omega)
      intro W w S E l X f a h hm ha hk hne
      cases X with
      | expr => cases ha; exact expr_any ih h hm hne
      | bound k => cases ha; exact bound_any ih h hm hk hne
      | unary => cases ha; exact unary_any ih h hm hne
      | asked => cases ha; exact asked_any ih h hm hne
      | place s => cases ha; exact place_any ih h hm hk hne
      | call s => cases ha; exact call_any ih h hm hk hne
      | block => cases ha; exact block_any ih h hm hne
      | stat => cases ha; exact stat_any ih h hm hne
      | decl => cases ha; exact decl_any ih h hm hne
      | proc pub => cases ha; exact proc_any ih h hm hk hne
      | module => cases ha; exact module_any ih h hm hne
      | loop k x => cases ha
      | args s acc => cases ha
      | stats acc => cases ha
      | params s pub acc => cases ha
      | imports s acc => cases ha
      | decls s acc => cases ha
end synw
end Go.Proofs.YtpcihajmcejliabGreatDoor
