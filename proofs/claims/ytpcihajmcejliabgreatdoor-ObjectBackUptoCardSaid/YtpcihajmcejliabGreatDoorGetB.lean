/- The walk of the program's reader: its lists. A region that draws its order whose operations that turn the world wait for one another: it is as if they were done in the text's order. The walk of the program's reader: one place, one variable, one procedure, one order, one reloc, a face. -/
import Derived.Test.YtpcihajmcejliabGreatDoorGetA
import Derived.Deep.AppendLies
import Derived.OwnWalk
import Derived.Test.YtpcihajmcejliabGreatDoorSpecs
import Derived.Deep.CutBlock
import Derived.Deep.DeepCutAuto
namespace Go.Proofs.YtpcihajmcejliabGreatDoor
open Go.RowKit
/-- what has been read, ahead of what is read on -/
def rdPre {α : Type} (xs : List α) : Option (List α × List UInt8) → Option (List α × List UInt8)
  | none => none
  | some (ys, r) => some (xs ++ ys, r)
namespace getm
theorem pre_nil {α : Type} (o : Option (List α × List UInt8)) : rdPre [] o = o := by
  cases o <;> rfl
theorem pre_none {α : Type} {xs : List α} {o : Option (List α × List UInt8)} (h : o = none) : rdPre xs o = none := by subst h; rfl
theorem many_none {α : Type} {p : Prs α} {q : Nat} {r : List UInt8} (h : p r = none) : rdMany p (q + 1) r = none := by unfold rdMany; rw [h]
theorem pre_some {α : Type} {p : Prs α} {q : Nat} {r r2 : List UInt8} {xs : List α} {x : α} (h : p r = some (x, r2)) : rdPre xs (rdMany p (q + 1) r) = rdPre (xs ++ [x]) (rdMany p q r2) := by
  have e : rdMany p (q + 1) r = match rdMany p q r2 with
      | none => none
      | some (xs, r2) => some (x :: xs, r2) := by
    conv => lhs; unfold rdMany
    rw [h]
    rfl
  rw [e]
  cases rdMany p q r2 with
  | none => rfl
  | some o => obtain ⟨ys, r3⟩ := o; simp [rdPre]
theorem pre_end {α : Type} {p : Prs α} (xs : List α) (r : List UInt8) : rdPre xs (rdMany p 0 r) = some (xs, r) := by simp [rdPre, rdMany]
end getm
namespace getw
theorem news_at {w : World} {cs : List Value} {c : Array Value} {t : TypeId} {k : Nat} (hs : w.heap.size = k) (hc : c = cs.toArray) : ∀ j u, cs[j]? = some u → (w.alloc (.cells c t)).cell? ((⟨k, 0, none⟩ : Addr).add j) = some u := by
  subst hs hc
  intro j u hj
  have e : (⟨w.heap.size, 0, none⟩ : Addr).add j = ⟨w.heap.size, j, none⟩ := by unfold Addr.add; split <;> simp_all
  rw [e, (Blk.made w cs.toArray t).cell]
  simpa using hj
theorem grow_step {α : Type} {k m : Nat} {E : TypeId} {V : α → Value → World → Prop} {W w w2 w3 : World} {S : Nat} {r : List UInt8} {s6 : Value} {xs : List α} {x : α} {u : Value} {us : List Value} {news : List Value} {g cap' : Nat} {o : Obj}
    (hSB : S < w.heap.size) (hC : Chg (fun i => i = S) w w2) (hR : RdAt W w2 S r) (h1 : us.length = xs.length)
    (h3 : ∀ j (h : j < xs.length) (h' : j < us.length), V xs[j] us[j] (hide (rowHid w.heap.size s6) w2) ∧ us[j].cells.size = k) (hxs : xs.length = m)
    (hown : w3.ownsRow w.heap.size E k (.slice (some ⟨g, 0, none⟩) (m + 1) cap') (m + 1) (us.flatMap (fun u => u.cells.toList) ++ news)) (hgrow : (w2.alloc o).grownBy w3 s6.ownBlock)
    (hat : s6.ownBlock = some g ∨ g = w2.heap.size + 1) (hB : ∀ i, s6.ownBlock = some i → w.heap.size ≤ i) (hWS : W.heap.size ≤ w.heap.size) (hu : V x u (hide (rowHid w.heap.size s6) w2)) (huk : u.cells.size = k) (hnews : news = u.cells.toList)
    (hV : ∀ x u w w', Keeps w w' → V x u w → V x u w') :
    Grow k E V w.heap.size w3 (.slice (some ⟨g, 0, none⟩) (m + 1) cap') (xs ++ [x]) ∧ Chg (fun i => i = S) w w3 ∧ RdAt W w3 S r := by
  have hb : Chg (fun i => s6.ownBlock = some i) w2 w3 := ((Chg.refl _ w2).alloc o).then ⟨hgrow.os, hgrow.tape, hgrow.output, hgrow.size, fun i hi hn => hgrow.block i hi (by first | exact hn | exact fun e => hn e.symm)⟩
  refine ⟨?_, hC.trans hb (fun i hi e => by have := hB i e; omega), hR.chg hb (fun e => by have := hB S e; omega) (fun i e => by have := hB i e; omega)⟩
  subst hxs hnews
  exact Grow.push hV h1 h3 hu huk hown hb.size (fun i hi hn => hb.block i hi hn) (fun i hi => by
    have hgi : g = i := by simpa [Value.ownBlock] using hi
    subst hgi
    rcases hat with h1 | h1
    · exact .inl h1
    · exact .inr (by omega))
theorem grow_base {α : Type} {k : Nat} {E : TypeId} {V : α → Value → World → Prop} {B : Nat} {w : World} {v : Value} {l : List α} (h : Grow k E V B w v l) : ∀ i, v.ownBlock = some i → B ≤ i ∧ i < w.heap.size := by
  obtain ⟨xs, hx⟩ := h.own
  exact hx.lt
/-- what is new is no part of a row that was there -/
theorem new_apart {B B2 : Nat} {w : World} {v : Value} (h : ∀ i, v.ownBlock = some i → B ≤ i ∧ i < B2) (hB : B ≤ B2) : Keeps (hide (below B2) w) (hide (rowHid B v) w) := keeps_hide (Nat.le_refl _) fun i hi hm => by
  simp only [rowHid, below, Bool.or_eq_false_iff, decide_eq_false_iff_not] at hm ⊢
  exact ⟨⟨by omega, fun e => by have := (h i e).2; omega⟩, trivial⟩
theorem info_int : (Tryz.prog.info? 3).map (fun i => (i.zero, i.size, i.bytes)) = some (some (.int .i64 0), 1, 8) := by kernel_rfl
set_option maxRecDepth 100000 in
set_option maxHeartbeats 4000000 in
theorem items_int {W w : World} {S : Nat} {l : List UInt8} (h : RdAt W w S l) (hs : l.length ≤ 100000000) (p : Prs Int) (hp : ∀ l x r, p l = some (x, r) → r.length + 8 ≤ l.length)
    (hone : ∀ u r, RdAt W u S r → r.length ≤ l.length → Chg (fun i => i = S) w u → Calls Tryz.prog 76 #[.pointer (some ⟨S, 0, none⟩)] u (Rds (fun x v w' => VInt x v (hide (below u.heap.size) w')) W u S (p r))) :
    Calls Tryz.prog 144 #[.pointer (some ⟨S, 0, none⟩), .func (.func 76) #[.pointer (some ⟨S, 0, none⟩)] #[]] w (Rds (fun x v w' => RowAt 1 IntIn x v (hide (below w.heap.size) w')) W w S (rdItems p l)) := by
  have HC := Lib.hid (num_any h)
  have HT1 := Lib.hid (show rdNum l = none → rdItems p l = none from fun h => by unfold rdItems; rw [h])
  have HT2 := Lib.hid (show ∀ n r, rdNum l = some (n, r) → (rdItems p l = if 0 ≤ n ∧ n ≤ ((r.length / 8 : Nat) : Int) then rdMany p n.toNat r else none) from fun n r h => by unfold rdItems; rw [h])
  have HTL := Lib.hid (show ∀ n r, rdNum l = some (n, r) → r.length ≤ l.length from fun n r h => by
    unfold rdNum at h
    split at h
    · cases h
    · cases h; rw [List.length_drop]; omega)
  have HONE := Lib.hid hone
  have HP := Lib.hid hp
  generalize rdItems p l = T at *
  generalize rdNum l = R at *
  obtain ⟨L, hL⟩ : ∃ L, l.length = L := ⟨_, rfl⟩
  rw [hL] at HTL HONE hs
  clear hone hp hL
  go_enter Tryz.func144, Tryz.ntmps144
  go_wp2_with fail
  refine HC.out.mono ?_
  rintro e w1 hr
  rcases hr.cases with ⟨hC1, ⟨rfl, rfl⟩ | ⟨x, l1, v, rfl, rfl, rfl, hR1⟩⟩
  · have HT3 := Lib.hid (HT1.out rfl)
    clear hr HT1 HT2 HTL
    go_wp2_with fail
    exact ⟨rfl, Rds.fails hC1 HT3.out⟩
  · have hTL := HTL.out x l1 rfl
    have HT3 := Lib.hid (HT2.out x l1 rfl)
    clear hr HT1 HT2 HTL
    obtain ⟨v1, hb1, hv1⟩ := hR1.ex
    obtain ⟨a1, c1, rfl, -, -, -⟩ := hv1.ex
    have hc := hb1.cell 0
    simp only [List.getElem?_toArray, List.getElem?_cons_zero] at hc
    obtain ⟨L1, hL1⟩ : ∃ L, l1.length = L := ⟨_, rfl⟩
    rw [hL1] at hc hTL HT3
    have HL1 := Lib.hid hL1
    clear hL1 hb1 hv1
    by_cases hx0 : x < 0
    · have HT4 := Lib.hid (show T = none by rw [HT3.out, if_neg (by omega)])
      clear HT3
      go_wp2_with fail
      exact ⟨rfl, Rds.fails hC1 HT4.out⟩
    · by_cases hx : ((L1 / 8 : Nat) : Int) < x
      · have HT4 := Lib.hid (show T = none by rw [HT3.out, if_neg (by omega)])
        clear HT3
        go_wp2_with fail
        exact ⟨rfl, Rds.fails hC1 HT4.out⟩
      · obtain ⟨n, rfl⟩ := Int.eq_ofNat_of_zero_le (by omega : 0 ≤ x)
        have HT4 := Lib.hid (show T = rdMany p n l1 by rw [HT3.out, if_pos (by omega)]; rfl)
        have hq : (n : Int) ≤ (L1 : Int) / 8 := by omega
        have hn8 : 8 * n ≤ L1 := by omega
        have hSl := h.lt
        have HSB := Lib.hid hSl
        have HWS := Lib.hid h.ext.size
        clear HT3 hx0 hx HC h hSl
        go_wp2_with fail
        clear hc hq
        go_loopw [6, 24] (fun s6 s24 wr => ∃ (k : Nat) (xs : List Int) (r : List UInt8), k ≤ n ∧ s24 = .int .i64 k ∧ xs.length = k ∧ Grow 1 3 VInt w.heap.size wr s6 xs ∧ RdAt W wr S r ∧ r.length + 8 * k ≤ L1 ∧ Chg (fun i => i = S) w wr ∧ Hid (T = rdPre xs (rdMany p (n - k) r))) (fun _ s24 _ => n - (intOf s24).toNat)
        case atStart => exact ⟨0, [], l1, Nat.zero_le _, rfl, rfl, Grow.nil _ _ _ _ _, hR1, by have := HL1.out; omega, hC1, by rw [Nat.sub_zero, getm.pre_nil]; exact HT4⟩
        case round =>
          obtain ⟨k, xs, r, hk, rfl, hxs, hG, hR, hrl, hC, hT⟩ := hrel
          clear HT4 hR1 hC1 HL1
          by_cases hlt : k < n
          · have hki : (k : Int) < (n : Int) := by omega
            obtain ⟨q, hq⟩ : ∃ q, n - k = q + 1 := ⟨n - k - 1, by omega⟩
            have hq2 : n - (k + 1) = q := by omega
            rw [hq] at hT
            have HQ := Lib.hid hq2
            have HXS := Lib.hid hxs
            clear hq hq2 hxs
            have HC1 := Lib.hid (HONE.out wr r hR (by omega) hC)
            go_wp2_with fail
            refine HC1.out.mono ?_
            rintro e w2 hr
            rcases hr.cases with ⟨hC2, ⟨hp, rfl⟩ | ⟨x, r2, v, hp, rfl, hv, hR2⟩⟩
            · have HT5 := Lib.hid (show T = none by rw [hT.out]; exact getm.pre_none (getm.many_none hp))
              clear hr hp HC1
              go_wp2_with fail
              exact ⟨rfl, Rds.fails (hC.then hC2) HT5.out⟩
            · have HT5 := Lib.hid (show T = rdPre (xs ++ [x]) (rdMany p q r2) by rw [hT.out]; exact getm.pre_some hp)
              have hr8 := HP.out _ _ _ hp
              have HV := Lib.hid hv
              obtain ⟨rfl, -⟩ := hv
              clear hr hp HC1
              have hG2 := hG.chg getv.int_keeps hC2 (fun i hi => by have := HSB.out; omega)
              obtain ⟨us, hu1, hu2, hu3⟩ := hG2.ex
              rw [HXS.out] at hu2
              have HU := Lib.hid (And.intro hu1 hu3)
              have hsz : w.heap.size ≤ w2.heap.size := Nat.le_trans hC.size hC2.size
              have HGB := Lib.hid (fun i hi => (grow_base hG2 i hi).1)
              have HV2 := Lib.hid (getv.int_keeps _ _ _ _ (new_apart (w := w2) (grow_base hG) hC.size) HV.out)
              clear hG hG2 hu1 hu3
              obtain ⟨i0_, hi, hz0, hz1, hz2⟩ := info_parts info_int
              go_wp2_with (at_builtin; refine wpList_append_lies _ rfl _ _ 36 rfl w.heap.size 3 i0_ (.int .i64 0) 1 8 Tryz.underlying36 hi hz0 hz1 hz2 rfl (by decide) _ _ _ rfl (hu2.alloc _) ⟨w2.heap.size, 0, none⟩ 1 1 [.int .i64 x] rfl rfl (news_at rfl rfl) (by intro u hu; simp at hu; subst hu; rfl) (by decide) (by unfold maxLen; omega) (by omega) (by simp; omega) (w2.heap.size + 1) (by simp) ?_; intro g cap' w3 hown hgrow hat hlt1)
              have hgs := grow_step HSB.out (hC.then hC2) hR2 HU.out.1 HU.out.2 HXS.out hown hgrow hat HGB.out HWS.out HV2.out rfl rfl getv.int_keeps
              go_roundw
              case rel => exact ⟨k + 1, xs ++ [x], r2, by omega, by go_num, by simp [HXS.out], hgs.1, hgs.2.2, by omega, hgs.2.1, by rw [HQ.out]; exact HT5⟩
              case measure => simp [intOf]; omega
          · obtain rfl : k = n := by omega
            rw [Nat.sub_self] at hT
            have HT6 := Lib.hid (show T = some (xs, r) by rw [hT.out]; exact getm.pre_end xs r)
            clear hT
            go_wp2_with fail
            go_ret
            exact Rds.reads hC HT6.out (hG.row getv.int_keeps getv.int_lies) hR
theorem info_var : (Tryz.prog.info? 82).map (fun i => (i.zero, i.size, i.bytes)) = some (some (.agg #[.string ⟨#[]⟩, .bool false, .int .i64 0, .int .i64 0]), 4, 40) := by kernel_rfl
set_option maxRecDepth 100000 in
set_option maxHeartbeats 4000000 in
theorem items_var {W w : World} {S : Nat} {l : List UInt8} (h : RdAt W w S l) (hs : l.length ≤ 100000000) (K : Nat) (p : Prs FVar) (hp : ∀ l x r, p l = some (x, r) → r.length + 8 ≤ l.length)
    (hone : ∀ u r, RdAt W u S r → r.length ≤ l.length → Chg (fun i => i = S) w u → Calls Tryz.prog 140 #[.pointer (some ⟨K, 0, none⟩)] u (Rds (fun x v w' => VVar x v (hide (below u.heap.size) w')) W u S (p r))) :
    Calls Tryz.prog 139 #[.pointer (some ⟨S, 0, none⟩), .func (.func 140) #[] #[.pointer (some ⟨K, 0, none⟩)]] w (Rds (fun x v w' => RowAt 4 VarIn x v (hide (below w.heap.size) w')) W w S (rdItems p l)) := by
  have HC := Lib.hid (num_any h)
  have HT1 := Lib.hid (show rdNum l = none → rdItems p l = none from fun h => by unfold rdItems; rw [h])
  have HT2 := Lib.hid (show ∀ n r, rdNum l = some (n, r) → (rdItems p l = if 0 ≤ n ∧ n ≤ ((r.length / 8 : Nat) : Int) then rdMany p n.toNat r else none) from fun n r h => by unfold rdItems; rw [h])
  have HTL := Lib.hid (show ∀ n r, rdNum l = some (n, r) → r.length ≤ l.length from fun n r h => by
    unfold rdNum at h
    split at h
    · cases h
    · cases h; rw [List.length_drop]; omega)
  have HONE := Lib.hid hone
  have HP := Lib.hid hp
  generalize rdItems p l = T at *
  generalize rdNum l = R at *
  obtain ⟨L, hL⟩ : ∃ L, l.length = L := ⟨_, rfl⟩
  rw [hL] at HTL HONE hs
  clear hone hp hL
  go_enter Tryz.func139, Tryz.ntmps139
  go_wp2_with fail
  refine HC.out.mono ?_
  rintro e w1 hr
  rcases hr.cases with ⟨hC1, ⟨rfl, rfl⟩ | ⟨x, l1, v, rfl, rfl, rfl, hR1⟩⟩
  · have HT3 := Lib.hid (HT1.out rfl)
    clear hr HT1 HT2 HTL
    go_wp2_with fail
    exact ⟨rfl, Rds.fails hC1 HT3.out⟩
  · have hTL := HTL.out x l1 rfl
    have HT3 := Lib.hid (HT2.out x l1 rfl)
    clear hr HT1 HT2 HTL
    obtain ⟨v1, hb1, hv1⟩ := hR1.ex
    obtain ⟨a1, c1, rfl, -, -, -⟩ := hv1.ex
    have hc := hb1.cell 0
    simp only [List.getElem?_toArray, List.getElem?_cons_zero] at hc
    obtain ⟨L1, hL1⟩ : ∃ L, l1.length = L := ⟨_, rfl⟩
    rw [hL1] at hc hTL HT3
    have HL1 := Lib.hid hL1
    clear hL1 hb1 hv1
    by_cases hx0 : x < 0
    · have HT4 := Lib.hid (show T = none by rw [HT3.out, if_neg (by omega)])
      clear HT3
      go_wp2_with fail
      exact ⟨rfl, Rds.fails hC1 HT4.out⟩
    · by_cases hx : ((L1 / 8 : Nat) : Int) < x
      · have HT4 := Lib.hid (show T = none by rw [HT3.out, if_neg (by omega)])
        clear HT3
        go_wp2_with fail
        exact ⟨rfl, Rds.fails hC1 HT4.out⟩
      · obtain ⟨n, rfl⟩ := Int.eq_ofNat_of_zero_le (by omega : 0 ≤ x)
        have HT4 := Lib.hid (show T = rdMany p n l1 by rw [HT3.out, if_pos (by omega)]; rfl)
        have hq : (n : Int) ≤ (L1 : Int) / 8 := by omega
        have hn8 : 8 * n ≤ L1 := by omega
        have hSl := h.lt
        have HSB := Lib.hid hSl
        have HWS := Lib.hid h.ext.size
        clear HT3 hx0 hx HC h hSl
        go_wp2_with fail
        clear hc hq
        go_loopw [6, 24] (fun s6 s24 wr => ∃ (k : Nat) (xs : List FVar) (r : List UInt8), k ≤ n ∧ s24 = .int .i64 k ∧ xs.length = k ∧ Grow 4 82 VVar w.heap.size wr s6 xs ∧ RdAt W wr S r ∧ r.length + 8 * k ≤ L1 ∧ Chg (fun i => i = S) w wr ∧ Hid (T = rdPre xs (rdMany p (n - k) r))) (fun _ s24 _ => n - (intOf s24).toNat)
        case atStart => exact ⟨0, [], l1, Nat.zero_le _, rfl, rfl, Grow.nil _ _ _ _ _, hR1, by have := HL1.out; omega, hC1, by rw [Nat.sub_zero, getm.pre_nil]; exact HT4⟩
        case round =>
          obtain ⟨k, xs, r, hk, rfl, hxs, hG, hR, hrl, hC, hT⟩ := hrel
          clear HT4 hR1 hC1 HL1
          by_cases hlt : k < n
          · have hki : (k : Int) < (n : Int) := by omega
            obtain ⟨q, hq⟩ : ∃ q, n - k = q + 1 := ⟨n - k - 1, by omega⟩
            have hq2 : n - (k + 1) = q := by omega
            rw [hq] at hT
            have HQ := Lib.hid hq2
            have HXS := Lib.hid hxs
            clear hq hq2 hxs
            have HC1 := Lib.hid (HONE.out wr r hR (by omega) hC)
            go_wp2_with fail
            refine HC1.out.mono ?_
            rintro e w2 hr
            rcases hr.cases with ⟨hC2, ⟨hp, rfl⟩ | ⟨x, r2, v, hp, rfl, hv, hR2⟩⟩
            · have HT5 := Lib.hid (show T = none by rw [hT.out]; exact getm.pre_none (getm.many_none hp))
              clear hr hp HC1
              go_wp2_with fail
              exact ⟨rfl, Rds.fails (hC.then hC2) HT5.out⟩
            · have HT5 := Lib.hid (show T = rdPre (xs ++ [x]) (rdMany p q r2) by rw [hT.out]; exact getm.pre_some hp)
              have hr8 := HP.out _ _ _ hp
              have HV := Lib.hid hv
              obtain ⟨rfl, -⟩ := hv
              clear hr hp HC1
              have hG2 := hG.chg getv.var_keeps hC2 (fun i hi => by have := HSB.out; omega)
              obtain ⟨us, hu1, hu2, hu3⟩ := hG2.ex
              rw [HXS.out] at hu2
              have HU := Lib.hid (And.intro hu1 hu3)
              have hsz : w.heap.size ≤ w2.heap.size := Nat.le_trans hC.size hC2.size
              have HGB := Lib.hid (fun i hi => (grow_base hG2 i hi).1)
              have HV2 := Lib.hid (getv.var_keeps _ _ _ _ (new_apart (w := w2) (grow_base hG) hC.size) HV.out)
              clear hG hG2 hu1 hu3
              obtain ⟨i0_, hi, hz0, hz1, hz2⟩ := info_parts info_var
              go_wp2_with (at_builtin; refine wpList_append_lies _ rfl _ _ 49 rfl w.heap.size 82 i0_ (.agg #[.string ⟨#[]⟩, .bool false, .int .i64 0, .int .i64 0]) 4 40 Tryz.underlying49 hi hz0 hz1 hz2 rfl (by decide) _ _ _ rfl (hu2.alloc _) ⟨w2.heap.size, 0, none⟩ 1 1 [.string x.name, .bool x.pub, .int .i64 x.label, .int .i64 x.size] rfl rfl (news_at rfl rfl) (by intro u hu; simp at hu; rcases hu with rfl | rfl | rfl | rfl <;> rfl) (by decide) (by unfold maxLen; omega) (by omega) (by simp; omega) (w2.heap.size + 1) (by simp) ?_; intro g cap' w3 hown hgrow hat hlt1)
              have hgs := grow_step HSB.out (hC.then hC2) hR2 HU.out.1 HU.out.2 HXS.out hown hgrow hat HGB.out HWS.out HV2.out rfl rfl getv.var_keeps
              go_roundw
              case rel => exact ⟨k + 1, xs ++ [x], r2, by omega, by go_num, by simp [HXS.out], hgs.1, hgs.2.2, by omega, hgs.2.1, by rw [HQ.out]; exact HT5⟩
              case measure => simp [intOf]; omega
          · obtain rfl : k = n := by omega
            rw [Nat.sub_self] at hT
            have HT6 := Lib.hid (show T = some (xs, r) by rw [hT.out]; exact getm.pre_end xs r)
            clear hT
            go_wp2_with fail
            go_ret
            exact Rds.reads hC HT6.out (hG.row getv.var_keeps getv.var_lies) hR
theorem info_proc : (Tryz.prog.info? 179).map (fun i => (i.zero, i.size, i.bytes)) = some (some (.agg #[.string ⟨#[]⟩, .bool false, .slice none 0 0, .int .i64 0, .bool false, .int .i64 0]), 6, 72) := by kernel_rfl
set_option maxRecDepth 100000 in
set_option maxHeartbeats 4000000 in
theorem items_proc {W w : World} {S : Nat} {l : List UInt8} (h : RdAt W w S l) (hs : l.length ≤ 100000000) (K : Nat) (p : Prs FProc) (hp : ∀ l x r, p l = some (x, r) → r.length + 8 ≤ l.length)
    (hone : ∀ u r, RdAt W u S r → r.length ≤ l.length → Chg (fun i => i = S) w u → Calls Tryz.prog 143 #[.pointer (some ⟨K, 0, none⟩)] u (Rds (fun x v w' => VProc x v (hide (below u.heap.size) w')) W u S (p r))) :
    Calls Tryz.prog 142 #[.pointer (some ⟨S, 0, none⟩), .func (.func 143) #[] #[.pointer (some ⟨K, 0, none⟩)]] w (Rds (fun x v w' => RowAt 6 ProcIn x v (hide (below w.heap.size) w')) W w S (rdItems p l)) := by
  have HC := Lib.hid (num_any h)
  have HT1 := Lib.hid (show rdNum l = none → rdItems p l = none from fun h => by unfold rdItems; rw [h])
  have HT2 := Lib.hid (show ∀ n r, rdNum l = some (n, r) → (rdItems p l = if 0 ≤ n ∧ n ≤ ((r.length / 8 : Nat) : Int) then rdMany p n.toNat r else none) from fun n r h => by unfold rdItems; rw [h])
  have HTL := Lib.hid (show ∀ n r, rdNum l = some (n, r) → r.length ≤ l.length from fun n r h => by
    unfold rdNum at h
    split at h
    · cases h
    · cases h; rw [List.length_drop]; omega)
  have HONE := Lib.hid hone
  have HP := Lib.hid hp
  generalize rdItems p l = T at *
  generalize rdNum l = R at *
  obtain ⟨L, hL⟩ : ∃ L, l.length = L := ⟨_, rfl⟩
  rw [hL] at HTL HONE hs
  clear hone hp hL
  go_enter Tryz.func142, Tryz.ntmps142
  go_wp2_with fail
  refine HC.out.mono ?_
  rintro e w1 hr
  rcases hr.cases with ⟨hC1, ⟨rfl, rfl⟩ | ⟨x, l1, v, rfl, rfl, rfl, hR1⟩⟩
  · have HT3 := Lib.hid (HT1.out rfl)
    clear hr HT1 HT2 HTL
    go_wp2_with fail
    exact ⟨rfl, Rds.fails hC1 HT3.out⟩
  · have hTL := HTL.out x l1 rfl
    have HT3 := Lib.hid (HT2.out x l1 rfl)
    clear hr HT1 HT2 HTL
    obtain ⟨v1, hb1, hv1⟩ := hR1.ex
    obtain ⟨a1, c1, rfl, -, -, -⟩ := hv1.ex
    have hc := hb1.cell 0
    simp only [List.getElem?_toArray, List.getElem?_cons_zero] at hc
    obtain ⟨L1, hL1⟩ : ∃ L, l1.length = L := ⟨_, rfl⟩
    rw [hL1] at hc hTL HT3
    have HL1 := Lib.hid hL1
    clear hL1 hb1 hv1
    by_cases hx0 : x < 0
    · have HT4 := Lib.hid (show T = none by rw [HT3.out, if_neg (by omega)])
      clear HT3
      go_wp2_with fail
      exact ⟨rfl, Rds.fails hC1 HT4.out⟩
    · by_cases hx : ((L1 / 8 : Nat) : Int) < x
      · have HT4 := Lib.hid (show T = none by rw [HT3.out, if_neg (by omega)])
        clear HT3
        go_wp2_with fail
        exact ⟨rfl, Rds.fails hC1 HT4.out⟩
      · obtain ⟨n, rfl⟩ := Int.eq_ofNat_of_zero_le (by omega : 0 ≤ x)
        have HT4 := Lib.hid (show T = rdMany p n l1 by rw [HT3.out, if_pos (by omega)]; rfl)
        have hq : (n : Int) ≤ (L1 : Int) / 8 := by omega
        have hn8 : 8 * n ≤ L1 := by omega
        have hSl := h.lt
        have HSB := Lib.hid hSl
        have HWS := Lib.hid h.ext.size
        clear HT3 hx0 hx HC h hSl
        go_wp2_with fail
        clear hc hq
        go_loopw [6, 24] (fun s6 s24 wr => ∃ (k : Nat) (xs : List FProc) (r : List UInt8), k ≤ n ∧ s24 = .int .i64 k ∧ xs.length = k ∧ Grow 6 179 VProc w.heap.size wr s6 xs ∧ RdAt W wr S r ∧ r.length + 8 * k ≤ L1 ∧ Chg (fun i => i = S) w wr ∧ Hid (T = rdPre xs (rdMany p (n - k) r))) (fun _ s24 _ => n - (intOf s24).toNat)
        case atStart => exact ⟨0, [], l1, Nat.zero_le _, rfl, rfl, Grow.nil _ _ _ _ _, hR1, by have := HL1.out; omega, hC1, by rw [Nat.sub_zero, getm.pre_nil]; exact HT4⟩
        case round =>
          obtain ⟨k, xs, r, hk, rfl, hxs, hG, hR, hrl, hC, hT⟩ := hrel
          clear HT4 hR1 hC1 HL1
          by_cases hlt : k < n
          · have hki : (k : Int) < (n : Int) := by omega
            obtain ⟨q, hq⟩ : ∃ q, n - k = q + 1 := ⟨n - k - 1, by omega⟩
            have hq2 : n - (k + 1) = q := by omega
            rw [hq] at hT
            have HQ := Lib.hid hq2
            have HXS := Lib.hid hxs
            clear hq hq2 hxs
            have HC1 := Lib.hid (HONE.out wr r hR (by omega) hC)
            go_wp2_with fail
            refine HC1.out.mono ?_
            rintro e w2 hr
            rcases hr.cases with ⟨hC2, ⟨hp, rfl⟩ | ⟨x, r2, v, hp, rfl, hv, hR2⟩⟩
            · have HT5 := Lib.hid (show T = none by rw [hT.out]; exact getm.pre_none (getm.many_none hp))
              clear hr hp HC1
              go_wp2_with fail
              exact ⟨rfl, Rds.fails (hC.then hC2) HT5.out⟩
            · have HT5 := Lib.hid (show T = rdPre (xs ++ [x]) (rdMany p q r2) by rw [hT.out]; exact getm.pre_some hp)
              have hr8 := HP.out _ _ _ hp
              have HV := Lib.hid hv
              obtain ⟨pa, pc, rfl, -⟩ := hv
              clear hr hp HC1
              have hG2 := hG.chg getv.proc_keeps hC2 (fun i hi => by have := HSB.out; omega)
              obtain ⟨us, hu1, hu2, hu3⟩ := hG2.ex
              rw [HXS.out] at hu2
              have HU := Lib.hid (And.intro hu1 hu3)
              have hsz : w.heap.size ≤ w2.heap.size := Nat.le_trans hC.size hC2.size
              have HGB := Lib.hid (fun i hi => (grow_base hG2 i hi).1)
              have HV2 := Lib.hid (getv.proc_keeps _ _ _ _ (new_apart (w := w2) (grow_base hG) hC.size) HV.out)
              clear hG hG2 hu1 hu3
              obtain ⟨i0_, hi, hz0, hz1, hz2⟩ := info_parts info_proc
              go_wp2_with (at_builtin; refine wpList_append_lies _ rfl _ _ 50 rfl w.heap.size 179 i0_ (.agg #[.string ⟨#[]⟩, .bool false, .slice none 0 0, .int .i64 0, .bool false, .int .i64 0]) 6 72 Tryz.underlying50 hi hz0 hz1 hz2 rfl (by decide) _ _ _ rfl (hu2.alloc _) ⟨w2.heap.size, 0, none⟩ 1 1 [.string x.name, .bool x.pub, .slice pa x.params.length pc, .int .i64 x.writes, .bool x.gives, .int .i64 x.given] rfl rfl (news_at rfl rfl) (by intro u hu; simp at hu; rcases hu with rfl | rfl | rfl | rfl | rfl | rfl <;> rfl) (by decide) (by unfold maxLen; omega) (by omega) (by simp; omega) (w2.heap.size + 1) (by simp) ?_; intro g cap' w3 hown hgrow hat hlt1)
              have hgs := grow_step HSB.out (hC.then hC2) hR2 HU.out.1 HU.out.2 HXS.out hown hgrow hat HGB.out HWS.out HV2.out rfl rfl getv.proc_keeps
              go_roundw
              case rel => exact ⟨k + 1, xs ++ [x], r2, by omega, by go_num, by simp [HXS.out], hgs.1, hgs.2.2, by omega, hgs.2.1, by rw [HQ.out]; exact HT5⟩
              case measure => simp [intOf]; omega
          · obtain rfl : k = n := by omega
            rw [Nat.sub_self] at hT
            have HT6 := Lib.hid (show T = some (xs, r) by rw [hT.out]; exact getm.pre_end xs r)
            clear hT
            go_wp2_with fail
            go_ret
            exact Rds.reads hC HT6.out (hG.row getv.proc_keeps getv.proc_lies) hR
theorem info_face : (Tryz.prog.info? 52).map (fun i => (i.zero, i.size, i.bytes)) = some (some (.agg #[.string ⟨#[]⟩, .slice none 0 0, .slice none 0 0]), 3, 64) := by kernel_rfl
set_option maxRecDepth 100000 in
set_option maxHeartbeats 4000000 in
theorem items_face {W w : World} {S : Nat} {l : List UInt8} (h : RdAt W w S l) (hs : l.length ≤ 100000000) (p : Prs FFace) (hp : ∀ l x r, p l = some (x, r) → r.length + 8 ≤ l.length)
    (hone : ∀ u r, RdAt W u S r → r.length ≤ l.length → Chg (fun i => i = S) w u → Calls Tryz.prog 72 #[.pointer (some ⟨S, 0, none⟩)] u (Rds (fun x v w' => VFace x v (hide (below u.heap.size) w')) W u S (p r))) :
    Calls Tryz.prog 73 #[.pointer (some ⟨S, 0, none⟩), .func (.func 72) #[.pointer (some ⟨S, 0, none⟩)] #[]] w (Rds (fun x v w' => RowAt 3 FaceIn x v (hide (below w.heap.size) w')) W w S (rdItems p l)) := by
  have HC := Lib.hid (num_any h)
  have HT1 := Lib.hid (show rdNum l = none → rdItems p l = none from fun h => by unfold rdItems; rw [h])
  have HT2 := Lib.hid (show ∀ n r, rdNum l = some (n, r) → (rdItems p l = if 0 ≤ n ∧ n ≤ ((r.length / 8 : Nat) : Int) then rdMany p n.toNat r else none) from fun n r h => by unfold rdItems; rw [h])
  have HTL := Lib.hid (show ∀ n r, rdNum l = some (n, r) → r.length ≤ l.length from fun n r h => by
    unfold rdNum at h
    split at h
    · cases h
    · cases h; rw [List.length_drop]; omega)
  have HONE := Lib.hid hone
  have HP := Lib.hid hp
  generalize rdItems p l = T at *
  generalize rdNum l = R at *
  obtain ⟨L, hL⟩ : ∃ L, l.length = L := ⟨_, rfl⟩
  rw [hL] at HTL HONE hs
  clear hone hp hL
  go_enter Tryz.func73, Tryz.ntmps73
  go_wp2_with fail
  refine HC.out.mono ?_
  rintro e w1 hr
  rcases hr.cases with ⟨hC1, ⟨rfl, rfl⟩ | ⟨x, l1, v, rfl, rfl, rfl, hR1⟩⟩
  · have HT3 := Lib.hid (HT1.out rfl)
    clear hr HT1 HT2 HTL
    go_wp2_with fail
    exact ⟨rfl, Rds.fails hC1 HT3.out⟩
  · have hTL := HTL.out x l1 rfl
    have HT3 := Lib.hid (HT2.out x l1 rfl)
    clear hr HT1 HT2 HTL
    obtain ⟨v1, hb1, hv1⟩ := hR1.ex
    obtain ⟨a1, c1, rfl, -, -, -⟩ := hv1.ex
    have hc := hb1.cell 0
    simp only [List.getElem?_toArray, List.getElem?_cons_zero] at hc
    obtain ⟨L1, hL1⟩ : ∃ L, l1.length = L := ⟨_, rfl⟩
    rw [hL1] at hc hTL HT3
    have HL1 := Lib.hid hL1
    clear hL1 hb1 hv1
    by_cases hx0 : x < 0
    · have HT4 := Lib.hid (show T = none by rw [HT3.out, if_neg (by omega)])
      clear HT3
      go_wp2_with fail
      exact ⟨rfl, Rds.fails hC1 HT4.out⟩
    · by_cases hx : ((L1 / 8 : Nat) : Int) < x
      · have HT4 := Lib.hid (show T = none by rw [HT3.out, if_neg (by omega)])
        clear HT3
        go_wp2_with fail
        exact ⟨rfl, Rds.fails hC1 HT4.out⟩
      · obtain ⟨n, rfl⟩ := Int.eq_ofNat_of_zero_le (by omega : 0 ≤ x)
        have HT4 := Lib.hid (show T = rdMany p n l1 by rw [HT3.out, if_pos (by omega)]; rfl)
        have hq : (n : Int) ≤ (L1 : Int) / 8 := by omega
        have hn8 : 8 * n ≤ L1 := by omega
        have hSl := h.lt
        have HSB := Lib.hid hSl
        have HWS := Lib.hid h.ext.size
        clear HT3 hx0 hx HC h hSl
        go_wp2_with fail
        clear hc hq
        go_loopw [6, 24] (fun s6 s24 wr => ∃ (k : Nat) (xs : List FFace) (r : List UInt8), k ≤ n ∧ s24 = .int .i64 k ∧ xs.length = k ∧ Grow 3 52 VFace w.heap.size wr s6 xs ∧ RdAt W wr S r ∧ r.length + 8 * k ≤ L1 ∧ Chg (fun i => i = S) w wr ∧ Hid (T = rdPre xs (rdMany p (n - k) r))) (fun _ s24 _ => n - (intOf s24).toNat)
        case atStart => exact ⟨0, [], l1, Nat.zero_le _, rfl, rfl, Grow.nil _ _ _ _ _, hR1, by have := HL1.out; omega, hC1, by rw [Nat.sub_zero, getm.pre_nil]; exact HT4⟩
        case round =>
          obtain ⟨k, xs, r, hk, rfl, hxs, hG, hR, hrl, hC, hT⟩ := hrel
          clear HT4 hR1 hC1 HL1
          by_cases hlt : k < n
          · have hki : (k : Int) < (n : Int) := by omega
            obtain ⟨q, hq⟩ : ∃ q, n - k = q + 1 := ⟨n - k - 1, by omega⟩
            have hq2 : n - (k + 1) = q := by omega
            rw [hq] at hT
            have HQ := Lib.hid hq2
            have HXS := Lib.hid hxs
            clear hq hq2 hxs
            have HC1 := Lib.hid (HONE.out wr r hR (by omega) hC)
            go_wp2_with fail
            refine HC1.out.mono ?_
            rintro e w2 hr
            rcases hr.cases with ⟨hC2, ⟨hp, rfl⟩ | ⟨x, r2, v, hp, rfl, hv, hR2⟩⟩
            · have HT5 := Lib.hid (show T = none by rw [hT.out]; exact getm.pre_none (getm.many_none hp))
              clear hr hp HC1
              go_wp2_with fail
              exact ⟨rfl, Rds.fails (hC.then hC2) HT5.out⟩
            · have HT5 := Lib.hid (show T = rdPre (xs ++ [x]) (rdMany p q r2) by rw [hT.out]; exact getm.pre_some hp)
              have hr8 := HP.out _ _ _ hp
              have HV := Lib.hid hv
              obtain ⟨fa, fm, fc, fd, rfl, -⟩ := hv
              clear hr hp HC1
              have hG2 := hG.chg getv.face_keeps hC2 (fun i hi => by have := HSB.out; omega)
              obtain ⟨us, hu1, hu2, hu3⟩ := hG2.ex
              rw [HXS.out] at hu2
              have HU := Lib.hid (And.intro hu1 hu3)
              have hsz : w.heap.size ≤ w2.heap.size := Nat.le_trans hC.size hC2.size
              have HGB := Lib.hid (fun i hi => (grow_base hG2 i hi).1)
              have HV2 := Lib.hid (getv.face_keeps _ _ _ _ (new_apart (w := w2) (grow_base hG) hC.size) HV.out)
              clear hG hG2 hu1 hu3
              obtain ⟨i0_, hi, hz0, hz1, hz2⟩ := info_parts info_face
              go_wp2_with (at_builtin; refine wpList_append_lies _ rfl _ _ 53 rfl w.heap.size 52 i0_ (.agg #[.string ⟨#[]⟩, .slice none 0 0, .slice none 0 0]) 3 64 Tryz.underlying53 hi hz0 hz1 hz2 rfl (by decide) _ _ _ rfl (hu2.alloc _) ⟨w2.heap.size, 0, none⟩ 1 1 [.string x.modn, .slice fa x.vars.length fm, .slice fc x.procs.length fd] rfl rfl (news_at rfl rfl) (by intro u hu; simp at hu; rcases hu with rfl | rfl | rfl <;> rfl) (by decide) (by unfold maxLen; omega) (by omega) (by simp; omega) (w2.heap.size + 1) (by simp) ?_; intro g cap' w3 hown hgrow hat hlt1)
              have hgs := grow_step HSB.out (hC.then hC2) hR2 HU.out.1 HU.out.2 HXS.out hown hgrow hat HGB.out HWS.out HV2.out rfl rfl getv.face_keeps
              go_roundw
              case rel => exact ⟨k + 1, xs ++ [x], r2, by omega, by go_num, by simp [HXS.out], hgs.1, hgs.2.2, by omega, hgs.2.1, by rw [HQ.out]; exact HT5⟩
              case measure => simp [intOf]; omega
          · obtain rfl : k = n := by omega
            rw [Nat.sub_self] at hT
            have HT6 := Lib.hid (show T = some (xs, r) by rw [hT.out]; exact getm.pre_end xs r)
            clear hT
            go_wp2_with fail
            go_ret
            exact Rds.reads hC HT6.out (hG.row getv.face_keeps getv.face_lies) hR
theorem info_plc : (Tryz.prog.info? 129).map (fun i => (i.zero, i.size, i.bytes)) = some (some (.agg #[.string ⟨#[]⟩, .int .i64 0]), 2, 24) := by kernel_rfl
set_option maxRecDepth 100000 in
set_option maxHeartbeats 4000000 in
theorem items_plc {W w : World} {S : Nat} {l : List UInt8} (h : RdAt W w S l) (hs : l.length ≤ 100000000) (p : Prs FPlc) (hp : ∀ l x r, p l = some (x, r) → r.length + 8 ≤ l.length)
    (hone : ∀ u r, RdAt W u S r → r.length ≤ l.length → Chg (fun i => i = S) w u → Calls Tryz.prog 82 #[.pointer (some ⟨S, 0, none⟩)] u (Rds (fun x v w' => VPlc x v (hide (below u.heap.size) w')) W u S (p r))) :
    Calls Tryz.prog 81 #[.pointer (some ⟨S, 0, none⟩), .func (.func 82) #[.pointer (some ⟨S, 0, none⟩)] #[]] w (Rds (fun x v w' => RowAt 2 PlcIn x v (hide (below w.heap.size) w')) W w S (rdItems p l)) := by
  have HC := Lib.hid (num_any h)
  have HT1 := Lib.hid (show rdNum l = none → rdItems p l = none from fun h => by unfold rdItems; rw [h])
  have HT2 := Lib.hid (show ∀ n r, rdNum l = some (n, r) → (rdItems p l = if 0 ≤ n ∧ n ≤ ((r.length / 8 : Nat) : Int) then rdMany p n.toNat r else none) from fun n r h => by unfold rdItems; rw [h])
  have HTL := Lib.hid (show ∀ n r, rdNum l = some (n, r) → r.length ≤ l.length from fun n r h => by
    unfold rdNum at h
    split at h
    · cases h
    · cases h; rw [List.length_drop]; omega)
  have HONE := Lib.hid hone
  have HP := Lib.hid hp
  generalize rdItems p l = T at *
  generalize rdNum l = R at *
  obtain ⟨L, hL⟩ : ∃ L, l.length = L := ⟨_, rfl⟩
  rw [hL] at HTL HONE hs
  clear hone hp hL
  go_enter Tryz.func81, Tryz.ntmps81
  go_wp2_with fail
  refine HC.out.mono ?_
  rintro e w1 hr
  rcases hr.cases with ⟨hC1, ⟨rfl, rfl⟩ | ⟨x, l1, v, rfl, rfl, rfl, hR1⟩⟩
  · have HT3 := Lib.hid (HT1.out rfl)
    clear hr HT1 HT2 HTL
    go_wp2_with fail
    exact ⟨rfl, Rds.fails hC1 HT3.out⟩
  · have hTL := HTL.out x l1 rfl
    have HT3 := Lib.hid (HT2.out x l1 rfl)
    clear hr HT1 HT2 HTL
    obtain ⟨v1, hb1, hv1⟩ := hR1.ex
    obtain ⟨a1, c1, rfl, -, -, -⟩ := hv1.ex
    have hc := hb1.cell 0
    simp only [List.getElem?_toArray, List.getElem?_cons_zero] at hc
    obtain ⟨L1, hL1⟩ : ∃ L, l1.length = L := ⟨_, rfl⟩
    rw [hL1] at hc hTL HT3
    have HL1 := Lib.hid hL1
    clear hL1 hb1 hv1
    by_cases hx0 : x < 0
    · have HT4 := Lib.hid (show T = none by rw [HT3.out, if_neg (by omega)])
      clear HT3
      go_wp2_with fail
      exact ⟨rfl, Rds.fails hC1 HT4.out⟩
    · by_cases hx : ((L1 / 8 : Nat) : Int) < x
      · have HT4 := Lib.hid (show T = none by rw [HT3.out, if_neg (by omega)])
        clear HT3
        go_wp2_with fail
        exact ⟨rfl, Rds.fails hC1 HT4.out⟩
      · obtain ⟨n, rfl⟩ := Int.eq_ofNat_of_zero_le (by omega : 0 ≤ x)
        have HT4 := Lib.hid (show T = rdMany p n l1 by rw [HT3.out, if_pos (by omega)]; rfl)
        have hq : (n : Int) ≤ (L1 : Int) / 8 := by omega
        have hn8 : 8 * n ≤ L1 := by omega
        have hSl := h.lt
        have HSB := Lib.hid hSl
        have HWS := Lib.hid h.ext.size
        clear HT3 hx0 hx HC h hSl
        go_wp2_with fail
        clear hc hq
        go_loopw [6, 24] (fun s6 s24 wr => ∃ (k : Nat) (xs : List FPlc) (r : List UInt8), k ≤ n ∧ s24 = .int .i64 k ∧ xs.length = k ∧ Grow 2 129 VPlc w.heap.size wr s6 xs ∧ RdAt W wr S r ∧ r.length + 8 * k ≤ L1 ∧ Chg (fun i => i = S) w wr ∧ Hid (T = rdPre xs (rdMany p (n - k) r))) (fun _ s24 _ => n - (intOf s24).toNat)
        case atStart => exact ⟨0, [], l1, Nat.zero_le _, rfl, rfl, Grow.nil _ _ _ _ _, hR1, by have := HL1.out; omega, hC1, by rw [Nat.sub_zero, getm.pre_nil]; exact HT4⟩
        case round =>
          obtain ⟨k, xs, r, hk, rfl, hxs, hG, hR, hrl, hC, hT⟩ := hrel
          clear HT4 hR1 hC1 HL1
          by_cases hlt : k < n
          · have hki : (k : Int) < (n : Int) := by omega
            obtain ⟨q, hq⟩ : ∃ q, n - k = q + 1 := ⟨n - k - 1, by omega⟩
            have hq2 : n - (k + 1) = q := by omega
            rw [hq] at hT
            have HQ := Lib.hid hq2
            have HXS := Lib.hid hxs
            clear hq hq2 hxs
            have HC1 := Lib.hid (HONE.out wr r hR (by omega) hC)
            go_wp2_with fail
            refine HC1.out.mono ?_
            rintro e w2 hr
            rcases hr.cases with ⟨hC2, ⟨hp, rfl⟩ | ⟨x, r2, v, hp, rfl, hv, hR2⟩⟩
            · have HT5 := Lib.hid (show T = none by rw [hT.out]; exact getm.pre_none (getm.many_none hp))
              clear hr hp HC1
              go_wp2_with fail
              exact ⟨rfl, Rds.fails (hC.then hC2) HT5.out⟩
            · have HT5 := Lib.hid (show T = rdPre (xs ++ [x]) (rdMany p q r2) by rw [hT.out]; exact getm.pre_some hp)
              have hr8 := HP.out _ _ _ hp
              have HV := Lib.hid hv
              obtain ⟨rfl, -⟩ := hv
              clear hr hp HC1
              have hG2 := hG.chg getv.plc_keeps hC2 (fun i hi => by have := HSB.out; omega)
              obtain ⟨us, hu1, hu2, hu3⟩ := hG2.ex
              rw [HXS.out] at hu2
              have HU := Lib.hid (And.intro hu1 hu3)
              have hsz : w.heap.size ≤ w2.heap.size := Nat.le_trans hC.size hC2.size
              have HGB := Lib.hid (fun i hi => (grow_base hG2 i hi).1)
              have HV2 := Lib.hid (getv.plc_keeps _ _ _ _ (new_apart (w := w2) (grow_base hG) hC.size) HV.out)
              clear hG hG2 hu1 hu3
              obtain ⟨i0_, hi, hz0, hz1, hz2⟩ := info_parts info_plc
              go_wp2_with (at_builtin; refine wpList_append_lies _ rfl _ _ 55 rfl w.heap.size 129 i0_ (.agg #[.string ⟨#[]⟩, .int .i64 0]) 2 24 Tryz.underlying55 hi hz0 hz1 hz2 rfl (by decide) _ _ _ rfl (hu2.alloc _) ⟨w2.heap.size, 0, none⟩ 1 1 [.string x.name, .int .i64 x.at_] rfl rfl (news_at rfl rfl) (by intro u hu; simp at hu; rcases hu with rfl | rfl <;> rfl) (by decide) (by unfold maxLen; omega) (by omega) (by simp; omega) (w2.heap.size + 1) (by simp) ?_; intro g cap' w3 hown hgrow hat hlt1)
              have hgs := grow_step HSB.out (hC.then hC2) hR2 HU.out.1 HU.out.2 HXS.out hown hgrow hat HGB.out HWS.out HV2.out rfl rfl getv.plc_keeps
              go_roundw
              case rel => exact ⟨k + 1, xs ++ [x], r2, by omega, by go_num, by simp [HXS.out], hgs.1, hgs.2.2, by omega, hgs.2.1, by rw [HQ.out]; exact HT5⟩
              case measure => simp [intOf]; omega
          · obtain rfl : k = n := by omega
            rw [Nat.sub_self] at hT
            have HT6 := Lib.hid (show T = some (xs, r) by rw [hT.out]; exact getm.pre_end xs r)
            clear hT
            go_wp2_with fail
            go_ret
            exact Rds.reads hC HT6.out (hG.row getv.plc_keeps getv.plc_lies) hR
theorem info_ins : (Tryz.prog.info? 98).map (fun i => (i.zero, i.size, i.bytes)) = some (some (.agg #[.int .i64 0, .int .i64 0, .int .i64 0, .int .i64 0, .int .i64 0]), 5, 40) := by kernel_rfl
set_option maxRecDepth 100000 in
set_option maxHeartbeats 4000000 in
theorem items_ins {W w : World} {S : Nat} {l : List UInt8} (h : RdAt W w S l) (hs : l.length ≤ 100000000) (K : Nat) (p : Prs Ins) (hp : ∀ l x r, p l = some (x, r) → r.length + 8 ≤ l.length)
    (hone : ∀ u r, RdAt W u S r → r.length ≤ l.length → Chg (fun i => i = S) w u → Calls Tryz.prog 75 #[.pointer (some ⟨K, 0, none⟩)] u (Rds (fun x v w' => VIns x v (hide (below u.heap.size) w')) W u S (p r))) :
    Calls Tryz.prog 74 #[.pointer (some ⟨S, 0, none⟩), .func (.func 75) #[] #[.pointer (some ⟨K, 0, none⟩)]] w (Rds (fun x v w' => RowAt 5 InsIn5 x v (hide (below w.heap.size) w')) W w S (rdItems p l)) := by
  have HC := Lib.hid (num_any h)
  have HT1 := Lib.hid (show rdNum l = none → rdItems p l = none from fun h => by unfold rdItems; rw [h])
  have HT2 := Lib.hid (show ∀ n r, rdNum l = some (n, r) → (rdItems p l = if 0 ≤ n ∧ n ≤ ((r.length / 8 : Nat) : Int) then rdMany p n.toNat r else none) from fun n r h => by unfold rdItems; rw [h])
  have HTL := Lib.hid (show ∀ n r, rdNum l = some (n, r) → r.length ≤ l.length from fun n r h => by
    unfold rdNum at h
    split at h
    · cases h
    · cases h; rw [List.length_drop]; omega)
  have HONE := Lib.hid hone
  have HP := Lib.hid hp
  generalize rdItems p l = T at *
  generalize rdNum l = R at *
  obtain ⟨L, hL⟩ : ∃ L, l.length = L := ⟨_, rfl⟩
  rw [hL] at HTL HONE hs
  clear hone hp hL
  go_enter Tryz.func74, Tryz.ntmps74
  go_wp2_with fail
  refine HC.out.mono ?_
  rintro e w1 hr
  rcases hr.cases with ⟨hC1, ⟨rfl, rfl⟩ | ⟨x, l1, v, rfl, rfl, rfl, hR1⟩⟩
  · have HT3 := Lib.hid (HT1.out rfl)
    clear hr HT1 HT2 HTL
    go_wp2_with fail
    exact ⟨rfl, Rds.fails hC1 HT3.out⟩
  · have hTL := HTL.out x l1 rfl
    have HT3 := Lib.hid (HT2.out x l1 rfl)
    clear hr HT1 HT2 HTL
    obtain ⟨v1, hb1, hv1⟩ := hR1.ex
    obtain ⟨a1, c1, rfl, -, -, -⟩ := hv1.ex
    have hc := hb1.cell 0
    simp only [List.getElem?_toArray, List.getElem?_cons_zero] at hc
    obtain ⟨L1, hL1⟩ : ∃ L, l1.length = L := ⟨_, rfl⟩
    rw [hL1] at hc hTL HT3
    have HL1 := Lib.hid hL1
    clear hL1 hb1 hv1
    by_cases hx0 : x < 0
    · have HT4 := Lib.hid (show T = none by rw [HT3.out, if_neg (by omega)])
      clear HT3
      go_wp2_with fail
      exact ⟨rfl, Rds.fails hC1 HT4.out⟩
    · by_cases hx : ((L1 / 8 : Nat) : Int) < x
      · have HT4 := Lib.hid (show T = none by rw [HT3.out, if_neg (by omega)])
        clear HT3
        go_wp2_with fail
        exact ⟨rfl, Rds.fails hC1 HT4.out⟩
      · obtain ⟨n, rfl⟩ := Int.eq_ofNat_of_zero_le (by omega : 0 ≤ x)
        have HT4 := Lib.hid (show T = rdMany p n l1 by rw [HT3.out, if_pos (by omega)]; rfl)
        have hq : (n : Int) ≤ (L1 : Int) / 8 := by omega
        have hn8 : 8 * n ≤ L1 := by omega
        have hSl := h.lt
        have HSB := Lib.hid hSl
        have HWS := Lib.hid h.ext.size
        clear HT3 hx0 hx HC h hSl
        go_wp2_with fail
        clear hc hq
        go_loopw [6, 24] (fun s6 s24 wr => ∃ (k : Nat) (xs : List Ins) (r : List UInt8), k ≤ n ∧ s24 = .int .i64 k ∧ xs.length = k ∧ Grow 5 98 VIns w.heap.size wr s6 xs ∧ RdAt W wr S r ∧ r.length + 8 * k ≤ L1 ∧ Chg (fun i => i = S) w wr ∧ Hid (T = rdPre xs (rdMany p (n - k) r))) (fun _ s24 _ => n - (intOf s24).toNat)
        case atStart => exact ⟨0, [], l1, Nat.zero_le _, rfl, rfl, Grow.nil _ _ _ _ _, hR1, by have := HL1.out; omega, hC1, by rw [Nat.sub_zero, getm.pre_nil]; exact HT4⟩
        case round =>
          obtain ⟨k, xs, r, hk, rfl, hxs, hG, hR, hrl, hC, hT⟩ := hrel
          clear HT4 hR1 hC1 HL1
          by_cases hlt : k < n
          · have hki : (k : Int) < (n : Int) := by omega
            obtain ⟨q, hq⟩ : ∃ q, n - k = q + 1 := ⟨n - k - 1, by omega⟩
            have hq2 : n - (k + 1) = q := by omega
            rw [hq] at hT
            have HQ := Lib.hid hq2
            have HXS := Lib.hid hxs
            clear hq hq2 hxs
            have HC1 := Lib.hid (HONE.out wr r hR (by omega) hC)
            go_wp2_with fail
            refine HC1.out.mono ?_
            rintro e w2 hr
            rcases hr.cases with ⟨hC2, ⟨hp, rfl⟩ | ⟨x, r2, v, hp, rfl, hv, hR2⟩⟩
            · have HT5 := Lib.hid (show T = none by rw [hT.out]; exact getm.pre_none (getm.many_none hp))
              clear hr hp HC1
              go_wp2_with fail
              exact ⟨rfl, Rds.fails (hC.then hC2) HT5.out⟩
            · have HT5 := Lib.hid (show T = rdPre (xs ++ [x]) (rdMany p q r2) by rw [hT.out]; exact getm.pre_some hp)
              have hr8 := HP.out _ _ _ hp
              have HV := Lib.hid hv
              obtain rfl := hv
              clear hr hp HC1
              have hG2 := hG.chg getv.ins_keeps hC2 (fun i hi => by have := HSB.out; omega)
              obtain ⟨us, hu1, hu2, hu3⟩ := hG2.ex
              rw [HXS.out] at hu2
              have HU := Lib.hid (And.intro hu1 hu3)
              have hsz : w.heap.size ≤ w2.heap.size := Nat.le_trans hC.size hC2.size
              have HGB := Lib.hid (fun i hi => (grow_base hG2 i hi).1)
              have HV2 := Lib.hid (getv.ins_keeps _ _ _ _ (new_apart (w := w2) (grow_base hG) hC.size) HV.out)
              clear hG hG2 hu1 hu3
              obtain ⟨i0_, hi, hz0, hz1, hz2⟩ := info_parts info_ins
              go_wp2_with (at_builtin; refine wpList_append_lies _ rfl _ _ 23 rfl w.heap.size 98 i0_ (.agg #[.int .i64 0, .int .i64 0, .int .i64 0, .int .i64 0, .int .i64 0]) 5 40 Tryz.underlying23 hi hz0 hz1 hz2 rfl (by decide) _ _ _ rfl (hu2.alloc _) ⟨w2.heap.size, 0, none⟩ 1 1 [.int .i64 x.op, .int .i64 x.a, .int .i64 x.b, .int .i64 x.c, .int .i64 x.n] rfl rfl (news_at rfl rfl) (by intro u hu; simp at hu; rcases hu with rfl | rfl | rfl | rfl | rfl <;> rfl) (by decide) (by unfold maxLen; omega) (by omega) (by simp; omega) (w2.heap.size + 1) (by simp) ?_; intro g cap' w3 hown hgrow hat hlt1)
              have hgs := grow_step HSB.out (hC.then hC2) hR2 HU.out.1 HU.out.2 HXS.out hown hgrow hat HGB.out HWS.out HV2.out rfl rfl getv.ins_keeps
              go_roundw
              case rel => exact ⟨k + 1, xs ++ [x], r2, by omega, by go_num, by simp [HXS.out], hgs.1, hgs.2.2, by omega, hgs.2.1, by rw [HQ.out]; exact HT5⟩
              case measure => simp [intOf]; omega
          · obtain rfl : k = n := by omega
            rw [Nat.sub_self] at hT
            have HT6 := Lib.hid (show T = some (xs, r) by rw [hT.out]; exact getm.pre_end xs r)
            clear hT
            go_wp2_with fail
            go_ret
            exact Rds.reads hC HT6.out (hG.row getv.ins_keeps getv.ins_lies) hR
theorem info_rel : (Tryz.prog.info? 100).map (fun i => (i.zero, i.size, i.bytes)) = some (some (.agg #[.int .i64 0, .int .i64 0, .string ⟨#[]⟩, .string ⟨#[]⟩]), 4, 48) := by kernel_rfl
set_option maxRecDepth 100000 in
set_option maxHeartbeats 4000000 in
theorem items_rel {W w : World} {S : Nat} {l : List UInt8} (h : RdAt W w S l) (hs : l.length ≤ 100000000) (K : Nat) (p : Prs FRel) (hp : ∀ l x r, p l = some (x, r) → r.length + 8 ≤ l.length)
    (hone : ∀ u r, RdAt W u S r → r.length ≤ l.length → Chg (fun i => i = S) w u → Calls Tryz.prog 79 #[.pointer (some ⟨K, 0, none⟩)] u (Rds (fun x v w' => VRel x v (hide (below u.heap.size) w')) W u S (p r))) :
    Calls Tryz.prog 78 #[.pointer (some ⟨S, 0, none⟩), .func (.func 79) #[] #[.pointer (some ⟨K, 0, none⟩)]] w (Rds (fun x v w' => RowAt 4 RelIn x v (hide (below w.heap.size) w')) W w S (rdItems p l)) := by
  have HC := Lib.hid (num_any h)
  have HT1 := Lib.hid (show rdNum l = none → rdItems p l = none from fun h => by unfold rdItems; rw [h])
  have HT2 := Lib.hid (show ∀ n r, rdNum l = some (n, r) → (rdItems p l = if 0 ≤ n ∧ n ≤ ((r.length / 8 : Nat) : Int) then rdMany p n.toNat r else none) from fun n r h => by unfold rdItems; rw [h])
  have HTL := Lib.hid (show ∀ n r, rdNum l = some (n, r) → r.length ≤ l.length from fun n r h => by
    unfold rdNum at h
    split at h
    · cases h
    · cases h; rw [List.length_drop]; omega)
  have HONE := Lib.hid hone
  have HP := Lib.hid hp
  generalize rdItems p l = T at *
  generalize rdNum l = R at *
  obtain ⟨L, hL⟩ : ∃ L, l.length = L := ⟨_, rfl⟩
  rw [hL] at HTL HONE hs
  clear hone hp hL
  go_enter Tryz.func78, Tryz.ntmps78
  go_wp2_with fail
  refine HC.out.mono ?_
  rintro e w1 hr
  rcases hr.cases with ⟨hC1, ⟨rfl, rfl⟩ | ⟨x, l1, v, rfl, rfl, rfl, hR1⟩⟩
  · have HT3 := Lib.hid (HT1.out rfl)
    clear hr HT1 HT2 HTL
    go_wp2_with fail
    exact ⟨rfl, Rds.fails hC1 HT3.out⟩
  · have hTL := HTL.out x l1 rfl
    have HT3 := Lib.hid (HT2.out x l1 rfl)
    clear hr HT1 HT2 HTL
    obtain ⟨v1, hb1, hv1⟩ := hR1.ex
    obtain ⟨a1, c1, rfl, -, -, -⟩ := hv1.ex
    have hc := hb1.cell 0
    simp only [List.getElem?_toArray, List.getElem?_cons_zero] at hc
    obtain ⟨L1, hL1⟩ : ∃ L, l1.length = L := ⟨_, rfl⟩
    rw [hL1] at hc hTL HT3
    have HL1 := Lib.hid hL1
    clear hL1 hb1 hv1
    by_cases hx0 : x < 0
    · have HT4 := Lib.hid (show T = none by rw [HT3.out, if_neg (by omega)])
      clear HT3
      go_wp2_with fail
      exact ⟨rfl, Rds.fails hC1 HT4.out⟩
    · by_cases hx : ((L1 / 8 : Nat) : Int) < x
      · have HT4 := Lib.hid (show T = none by rw [HT3.out, if_neg (by omega)])
        clear HT3
        go_wp2_with fail
        exact ⟨rfl, Rds.fails hC1 HT4.out⟩
      · obtain ⟨n, rfl⟩ := Int.eq_ofNat_of_zero_le (by omega : 0 ≤ x)
        have HT4 := Lib.hid (show T = rdMany p n l1 by rw [HT3.out, if_pos (by omega)]; rfl)
        have hq : (n : Int) ≤ (L1 : Int) / 8 := by omega
        have hn8 : 8 * n ≤ L1 := by omega
        have hSl := h.lt
        have HSB := Lib.hid hSl
        have HWS := Lib.hid h.ext.size
        clear HT3 hx0 hx HC h hSl
        go_wp2_with fail
        clear hc hq
        go_loopw [6, 24] (fun s6 s24 wr => ∃ (k : Nat) (xs : List FRel) (r : List UInt8), k ≤ n ∧ s24 = .int .i64 k ∧ xs.length = k ∧ Grow 4 100 VRel w.heap.size wr s6 xs ∧ RdAt W wr S r ∧ r.length + 8 * k ≤ L1 ∧ Chg (fun i => i = S) w wr ∧ Hid (T = rdPre xs (rdMany p (n - k) r))) (fun _ s24 _ => n - (intOf s24).toNat)
        case atStart => exact ⟨0, [], l1, Nat.zero_le _, rfl, rfl, Grow.nil _ _ _ _ _, hR1, by have := HL1.out; omega, hC1, by rw [Nat.sub_zero, getm.pre_nil]; exact HT4⟩
        case round =>
          obtain ⟨k, xs, r, hk, rfl, hxs, hG, hR, hrl, hC, hT⟩ := hrel
          clear HT4 hR1 hC1 HL1
          by_cases hlt : k < n
          · have hki : (k : Int) < (n : Int) := by omega
            obtain ⟨q, hq⟩ : ∃ q, n - k = q + 1 := ⟨n - k - 1, by omega⟩
            have hq2 : n - (k + 1) = q := by omega
            rw [hq] at hT
            have HQ := Lib.hid hq2
            have HXS := Lib.hid hxs
            clear hq hq2 hxs
            have HC1 := Lib.hid (HONE.out wr r hR (by omega) hC)
            go_wp2_with fail
            refine HC1.out.mono ?_
            rintro e w2 hr
            rcases hr.cases with ⟨hC2, ⟨hp, rfl⟩ | ⟨x, r2, v, hp, rfl, hv, hR2⟩⟩
            · have HT5 := Lib.hid (show T = none by rw [hT.out]; exact getm.pre_none (getm.many_none hp))
              clear hr hp HC1
              go_wp2_with fail
              exact ⟨rfl, Rds.fails (hC.then hC2) HT5.out⟩
            · have HT5 := Lib.hid (show T = rdPre (xs ++ [x]) (rdMany p q r2) by rw [hT.out]; exact getm.pre_some hp)
              have hr8 := HP.out _ _ _ hp
              have HV := Lib.hid hv
              obtain rfl := hv
              clear hr hp HC1
              have hG2 := hG.chg getv.rel_keeps hC2 (fun i hi => by have := HSB.out; omega)
              obtain ⟨us, hu1, hu2, hu3⟩ := hG2.ex
              rw [HXS.out] at hu2
              have HU := Lib.hid (And.intro hu1 hu3)
              have hsz : w.heap.size ≤ w2.heap.size := Nat.le_trans hC.size hC2.size
              have HGB := Lib.hid (fun i hi => (grow_base hG2 i hi).1)
              have HV2 := Lib.hid (getv.rel_keeps _ _ _ _ (new_apart (w := w2) (grow_base hG) hC.size) HV.out)
              clear hG hG2 hu1 hu3
              obtain ⟨i0_, hi, hz0, hz1, hz2⟩ := info_parts info_rel
              go_wp2_with (at_builtin; refine wpList_append_lies _ rfl _ _ 54 rfl w.heap.size 100 i0_ (.agg #[.int .i64 0, .int .i64 0, .string ⟨#[]⟩, .string ⟨#[]⟩]) 4 48 Tryz.underlying54 hi hz0 hz1 hz2 rfl (by decide) _ _ _ rfl (hu2.alloc _) ⟨w2.heap.size, 0, none⟩ 1 1 [.int .i64 x.at_, .int .i64 x.kind, .string x.modn, .string x.name] rfl rfl (news_at rfl rfl) (by intro u hu; simp at hu; rcases hu with rfl | rfl | rfl | rfl <;> rfl) (by decide) (by unfold maxLen; omega) (by omega) (by simp; omega) (w2.heap.size + 1) (by simp) ?_; intro g cap' w3 hown hgrow hat hlt1)
              have hgs := grow_step HSB.out (hC.then hC2) hR2 HU.out.1 HU.out.2 HXS.out hown hgrow hat HGB.out HWS.out HV2.out rfl rfl getv.rel_keeps
              go_roundw
              case rel => exact ⟨k + 1, xs ++ [x], r2, by omega, by go_num, by simp [HXS.out], hgs.1, hgs.2.2, by omega, hgs.2.1, by rw [HQ.out]; exact HT5⟩
              case measure => simp [intOf]; omega
          · obtain rfl : k = n := by omega
            rw [Nat.sub_self] at hT
            have HT6 := Lib.hid (show T = some (xs, r) by rw [hT.out]; exact getm.pre_end xs r)
            clear hT
            go_wp2_with fail
            go_ret
            exact Rds.reads hC HT6.out (hG.row getv.rel_keeps getv.rel_lies) hR
end getw
end Go.Proofs.YtpcihajmcejliabGreatDoor
namespace Go.Proofs.YtpcihajmcejliabGreatDoor
open Go.RowKit
namespace chain
open specs (waitsB upTo unl unl_set unl_zero unl_all)
def dstOf (ops : Array Oper) (i : Nat) : Option Nat := match ops[i]? with | some o => o.dst | none => none
def dstAt (ops : Array Oper) (i : Nat) : Nat := (dstOf ops i).getD 0
/-- the place of an operation among those that turn the world -/
def at_ (c : List Nat) (i : Nat) : Option Nat := c.findIdx? (· == i)
def okB (ops : Array Oper) (c : List Nat) : Bool :=
  ((List.range ops.size).all fun i => (match ops[i]? with | some o => o.guard.isNone && o.after.all (fun e => decide (e.on < i)) | none => false) && (List.range i).all fun j => (dstOf ops i).isNone || dstOf ops i != dstOf ops j) &&
  (List.range c.length).all fun m => decide (c.getD m 0 < ops.size) && (m == 0 || (match ops[c.getD m 0]? with | some o => waitsB o (c.getD (m - 1) 0) | none => false)) && at_ c (c.getD m 0) == some m
def setOpt (T : Array Value) (t : Option Nat) (x : Nat → Value) : Array Value := match t with | some t => T.setIfInBounds t (x t) | none => T
def fill (ops : Array Oper) (T : Array Value) (x : Nat → Value) : Nat → Array Value
  | 0 => T
  | n + 1 => setOpt (fill ops T x n) (dstOf ops n) x
theorem setOpt_size (T : Array Value) (t : Option Nat) (x : Nat → Value) : (setOpt T t x).size = T.size := by
  cases t <;> simp [setOpt]
theorem fill_size (ops : Array Oper) (T : Array Value) (x : Nat → Value) (n : Nat) : (fill ops T x n).size = T.size := by
  induction n with
  | zero => rfl
  | succ n ih => rw [fill, setOpt_size, ih]
theorem fill_at (ops : Array Oper) (T : Array Value) (x : Nat → Value) (n k : Nat) : (fill ops T x n)[k]? = if (∃ i, i < n ∧ dstOf ops i = some k) ∧ k < T.size then some (x k) else T[k]? := by
  induction n with
  | zero => rw [fill, if_neg (by rintro ⟨⟨i, hi, _⟩, _⟩; omega)]
  | succ n ih =>
    rw [fill]
    cases hd : dstOf ops n with
    | none =>
      rw [setOpt, ih]
      by_cases hc : (∃ i, i < n ∧ dstOf ops i = some k) ∧ k < T.size
      · rw [if_pos hc]
        obtain ⟨⟨i, hi, e'⟩, hk⟩ := hc
        rw [if_pos ⟨⟨i, by omega, e'⟩, hk⟩]
      · rw [if_neg hc, if_neg]
        rintro ⟨⟨i, hi, e'⟩, hk⟩
        rcases Nat.lt_or_ge i n with h | h
        · exact hc ⟨⟨i, h, e'⟩, hk⟩
        · obtain rfl : i = n := by omega
          rw [hd] at e'; cases e'
    | some t =>
      rw [setOpt, Array.getElem?_setIfInBounds, ih, fill_size]
      by_cases e : t = k
      · rw [if_pos e]
        by_cases hk : k < T.size
        · rw [if_pos (by omega), if_pos ⟨⟨n, by omega, by rw [hd, e]⟩, hk⟩, e]
        · rw [if_neg (by omega), if_neg (fun h => hk h.2), Array.getElem?_eq_none (by omega)]
      · rw [if_neg e]
        by_cases hc : (∃ i, i < n ∧ dstOf ops i = some k) ∧ k < T.size
        · rw [if_pos hc]
          obtain ⟨⟨i, hi, e'⟩, hk⟩ := hc
          rw [if_pos ⟨⟨i, by omega, e'⟩, hk⟩]
        · rw [if_neg hc, if_neg]
          rintro ⟨⟨i, hi, e'⟩, hk⟩
          rcases Nat.lt_or_ge i n with h | h
          · exact hc ⟨⟨i, h, e'⟩, hk⟩
          · obtain rfl : i = n := by omega
            rw [hd] at e'; cases e'; exact e rfl
theorem fill_put (ops : Array Oper) (T : Array Value) (x : Nat → Value) (n i t : Nat) (hi : i < n) (ht : dstOf ops i = some t) (v : Value) : (fill ops T x n).setIfInBounds t v = fill ops T (upTo x t v) n := by
  refine Array.ext_getElem? fun k => ?_
  rw [Array.getElem?_setIfInBounds, fill_at, fill_at, fill_size]
  by_cases e : t = k
  · subst e
    rw [if_pos rfl]
    by_cases hk : t < T.size
    · rw [if_pos hk, if_pos ⟨⟨i, hi, ht⟩, hk⟩]
      unfold upTo
      rw [if_pos rfl]
    · rw [if_neg hk, if_neg (fun h => hk h.2), Array.getElem?_eq_none (by omega)]
  · rw [if_neg e]
    have : upTo x t v k = x k := by unfold upTo; rw [if_neg (fun h => e h.symm)]
    rw [this]
theorem fill_self (ops : Array Oper) (T : Array Value) (n : Nat) : fill ops T (fun k => T.getD k undef) n = T := by
  refine Array.ext_getElem? fun k => ?_
  rw [fill_at]
  split
  · rename_i h
    rw [Array.getElem?_eq_getElem h.2]
    simp [h.2]
  · rfl
def frameOf (ops : Array Oper) (a : Act) (x : Nat → Value) : Act := { a with tmps := fill ops a.tmps x ops.size }
/-- the slots behind an operation -/
def slots (ops : Array Oper) (i : Nat) (x : Nat → Value) (v : Value) : Nat → Value := match dstOf ops i with | some t => upTo x t v | none => x
theorem ok_at {ops : Array Oper} {c : List Nat} (h : okB ops c = true) {i : Nat} {o : Oper} (ho : ops[i]? = some o) : o.guard = none ∧ (∀ e ∈ o.after, e.on < i) ∧ ∀ j t, j < i → dstOf ops i = some t → dstOf ops j ≠ some t := by
  have hi := (Array.getElem?_eq_some_iff.1 ho).1
  have h1 := List.all_eq_true.1 (Bool.and_eq_true_iff.1 h).1 i (List.mem_range.2 hi)
  rw [ho] at h1
  simp only [Bool.and_eq_true, List.all_eq_true, List.mem_range, Bool.or_eq_true, bne_iff_ne, Array.all_eq_true_iff_forall_mem, decide_eq_true_eq, Option.isNone_iff_eq_none] at h1
  refine ⟨h1.1.1, h1.1.2, fun j t hj ht e => ?_⟩
  rcases h1.2 j hj with h2 | h2
  · rw [h2] at ht; cases ht
  · exact h2 (ht.trans e.symm)
theorem ok_chain {ops : Array Oper} {c : List Nat} (h : okB ops c = true) {m : Nat} (hm : m < c.length) : c.getD m 0 < ops.size ∧ (m = 0 ∨ ∃ o, ops[c.getD m 0]? = some o ∧ waitsB o (c.getD (m - 1) 0) = true) ∧ at_ c (c.getD m 0) = some m := by
  have h1 := List.all_eq_true.1 (Bool.and_eq_true_iff.1 h).2 m (List.mem_range.2 hm)
  simp only [Bool.and_eq_true, Bool.or_eq_true, beq_iff_eq, decide_eq_true_eq] at h1
  refine ⟨h1.1.1, ?_, h1.2⟩
  rcases h1.1.2 with h2 | h2
  · exact .inl h2
  · cases ho : ops[c.getD m 0]? with
    | none => rw [ho] at h2; cases h2
    | some o => rw [ho] at h2; exact .inr ⟨o, rfl, h2⟩
theorem at_some {c : List Nat} {i m : Nat} (h : at_ c i = some m) : m < c.length ∧ c.getD m 0 = i := by
  unfold at_ at h
  rw [List.findIdx?_eq_some_iff_getElem] at h
  obtain ⟨h1, h2, -⟩ := h
  refine ⟨h1, ?_⟩
  simp only [beq_iff_eq] at h2
  simp [h1, h2]
theorem dst_ne {ops : Array Oper} {c : List Nat} (h : okB ops c = true) {i j t : Nat} (hi : i < ops.size) (hj : j < ops.size) (hne : i ≠ j) (ht : dstOf ops i = some t) : dstOf ops j ≠ some t := by
  rcases Nat.lt_or_gt_of_ne hne with h' | h'
  · intro e
    exact (ok_at h (Array.getElem?_eq_getElem hj)).2.2 i t h' e ht
  · exact (ok_at h (Array.getElem?_eq_getElem hi)).2.2 j t h' ht
theorem frame_put {ops : Array Oper} (a : Act) (x : Nat → Value) {i : Nat} {o : Oper} (ho : ops[i]? = some o) (v : Value) : (frameOf ops a x).put o.dst v = frameOf ops a (slots ops i x v) := by
  have hd : dstOf ops i = o.dst := by unfold dstOf; rw [ho]
  unfold frameOf Act.put slots
  rw [hd]
  cases hod : o.dst with
  | none => rfl
  | some t =>
    simp only
    rw [fill_put _ _ _ _ i t (Array.getElem?_eq_some_iff.1 ho).1 (by rw [hd, hod])]
/-- what an operation's slot holds: what is told, or what those that turn the world have given -/
def val (c : List Nat) (f : Nat → Value) (vs : List Value) (i : Nat) : Value := match at_ c i with | some m => vs.getD m undef | none => f i
structure Inv (ops : Array Oper) (c : List Nat) (f : Nat → Value) (F : List Value → World → Prop) (l : Array Bool) (x : Nat → Value) (w : World) (vs : List Value) : Prop where
  size : l.size = ops.size
  holds : F vs w
  len : vs.length ≤ c.length
  closed : ∀ j o, ops[j]? = some o → l.getD j false = true → ∀ e ∈ o.after, Region.binds .any e = true → l.getD e.on false = true
  done : ∀ m, m < c.length → (l.getD (c.getD m 0) false = true ↔ m < vs.length)
  yes : ∀ i t, i < ops.size → l.getD i false = true → dstOf ops i = some t → x t = val c f vs i
theorem any_ready {ops : Array Oper} {c : List Nat} {l : Array Bool} (hB : okB ops c = true) (hs : l.size = ops.size) : ∀ d i, i = d → i < ops.size → l.getD i false = false → ∃ j, j ∈ Region.ready .any ops l := by
  intro d
  induction d using Nat.strongRecOn with
  | _ d ih =>
    intro i hd hi hun
    have ho := Array.getElem?_eq_getElem hi
    by_cases hall : ∀ e ∈ ops[i].after, Region.binds .any e = true → l.getD e.on false = true
    · have hil : i < l.size := by omega
      have hun2 : l.getD i true = false := by simp [hil] at hun ⊢; exact hun
      exact ⟨i, mem_ready.2 ⟨hun2, ops[i], ho, hall⟩⟩
    · simp only [Classical.not_forall] at hall
      obtain ⟨e, he, -, hl⟩ := hall
      have hlt := (ok_at hB ho).2.1 e he
      exact ih e.on (by omega) e.on rfl (by omega) (by simpa using hl)
/-- what each operation must be shown to come to -/
def Step (P : Program) (ops : Array Oper) (n : Nat) (c : List Nat) (f : Nat → Value) (F : List Value → World → Prop) (frame : (Nat → Value) → Act) (Q : Exit → Act → World → Prop) (i : Nat) (o : Oper) : Prop :=
  ∀ x vs w, F vs w → (∀ m, at_ c i = some m → vs.length = m) → (∀ j t, j < n → waitsB o j = true → dstOf ops j = some t → x t = val c f vs j) →
    ∀ K : Act → World → Prop, Shut (∀ a' w' v, a' = (frame x).put o.dst v → (match at_ c i with | some _ => F (vs ++ [v]) w' | none => v = f i ∧ w' = w) → K a' w') → Oper.wp P o (frame x) w K Q
theorem run {P : Program} {ops : Array Oper} {Q : Exit → Act → World → Prop} {a : Act} (c : List Nat) (f : Nat → Value) (F : List Value → World → Prop) (hB : okB ops c = true)
    (step : ∀ i o, ops[i]? = some o → ∀ x vs w, F vs w → (∀ m, at_ c i = some m → vs.length = m) → (∀ j t, j < ops.size → waitsB o j = true → dstOf ops j = some t → x t = val c f vs j) →
      ∀ K : Act → World → Prop, Shut (∀ a' w' v, a' = (frameOf ops a x).put o.dst v → (match at_ c i with | some _ => F (vs ++ [v]) w' | none => v = f i ∧ w' = w) → K a' w') → Oper.wp P o (frameOf ops a x) w K Q)
    (fin : ∀ x vs w, vs.length = c.length → F vs w → (∀ i t, i < ops.size → dstOf ops i = some t → x t = val c f vs i) → Q .normal (frameOf ops a x) w) :
    ∀ (fuel : Nat) (l : Array Bool) (x : Nat → Value) (w : World) (vs : List Value), unl l ops.size = fuel → Inv ops c f F l x w vs → wpAny P .any ops Q fuel l (frameOf ops a x) w := by
  intro fuel
  induction fuel with
  | zero =>
    intro l x w vs hu hI
    have hall := unl_zero _ hu
    refine ⟨?_, fin x vs w ?_ hI.holds fun i t hi ht => hI.yes i t hi (hall i hi) ht⟩
    · rw [List.eq_nil_iff_forall_not_mem]
      intro j hj
      obtain ⟨h1, o, ho, -⟩ := mem_ready.1 hj
      have hj' := (Array.getElem?_eq_some_iff.1 ho).1
      have h2 := hall j hj'
      have hjl : j < l.size := by rw [hI.size]; exact hj'
      simp [hjl] at h1 h2
      rw [h1] at h2
      cases h2
    · rcases Nat.lt_or_ge vs.length c.length with h | h
      · have := (hI.done _ h).1 (hall _ (ok_chain hB h).1)
        omega
      · have := hI.len; omega
  | succ fuel ih =>
    intro l x w vs hu hI
    refine ⟨fun h0 => ?_, fun i hi => ?_⟩
    · exfalso
      have : ∃ i, i < ops.size ∧ l.getD i false = false := by
        by_cases hc : ∃ i, i < ops.size ∧ l.getD i false = false
        · exact hc
        · exfalso
          have hz : ∀ n, n ≤ ops.size → unl l n = 0 := by
            intro n
            induction n with
            | zero => intro _; rfl
            | succ n ihn =>
              intro hn
              rw [unl, ihn (by omega), if_pos]
              cases hb : l.getD n false
              · exact absurd ⟨n, by omega, hb⟩ hc
              · rfl
          rw [hz _ (Nat.le_refl _)] at hu
          omega
      obtain ⟨i, hi, hb⟩ := this
      obtain ⟨j, hj⟩ := any_ready hB hI.size i i rfl hi hb
      rw [h0] at hj
      cases hj
    · obtain ⟨h1, o, ho, hall⟩ := mem_ready.1 hi
      have hio := (Array.getElem?_eq_some_iff.1 ho).1
      have hil : i < l.size := by rw [hI.size]; exact hio
      have h1' : l.getD i false = false := by simp [hil] at h1 ⊢; exact h1
      have hdep : ∀ j, waitsB o j = true → l.getD j false = true := fun j hw => by
        obtain ⟨e, he, hb⟩ := Array.any_eq_true'.1 hw
        simp only [Bool.and_eq_true, beq_iff_eq] at hb
        rw [← hb.2]; exact hall e he hb.1
      have hlen : ∀ m, at_ c i = some m → vs.length = m := fun m hm => by
        obtain ⟨hmc, hmi⟩ := at_some hm
        have hno : ¬ m < vs.length := fun h => by
          have := (hI.done m hmc).2 h
          rw [hmi, h1'] at this; cases this
        rcases (ok_chain hB hmc).2.1 with h | ⟨o', ho', hw⟩
        · omega
        · rw [hmi] at ho'
          obtain rfl : o' = o := Option.some.inj (ho'.symm.trans ho)
          rcases Nat.eq_zero_or_pos m with h0 | h0
          · omega
          · have := (hI.done (m - 1) (by omega)).1 (hdep _ hw)
            omega
      refine wpOp_step ho fun K hK => ?_
      have hwd : Region.wanted o (yielded ops (frameOf ops a x).tmps) = true := by simp [Region.wanted, (ok_at hB ho).1]
      rw [if_pos hwd]
      refine step i o ho x vs w hI.holds hlen (fun j t hj hw ht => hI.yes j t hj (hdep j hw) ht) K (fun a' w' v ha' hv => hK a' w' ?_)
      subst ha'
      rw [frame_put a x ho]
      have hne : ∀ j t u, j < ops.size → j ≠ i → dstOf ops j = some t → slots ops i x u t = x t := fun j t u hj hne ht => by
        unfold slots
        cases hd : dstOf ops i with
        | none => rfl
        | some t' =>
          simp only [upTo]
          rw [if_neg]
          rintro rfl
          exact dst_ne hB hio hj (Ne.symm hne) hd ht
      have heq : ∀ t u, dstOf ops i = some t → slots ops i x u t = u := fun t u ht => by
        unfold slots
        rw [ht]
        simp [upTo]
      cases hc : at_ c i with
      | none =>
        rw [hc] at hv
        obtain ⟨rfl, rfl⟩ := hv
        refine ih _ _ _ vs (by have := unl_set hil h1' ops.size hio; omega) ⟨by simp [hI.size], hI.holds, hI.len, fun j oj hoj hl e he hb => ?_, fun m hm => ?_, fun j t hj hl ht => ?_⟩
        · by_cases e' : i = j
          · subst e'
            obtain rfl : oj = o := Option.some.inj (hoj.symm.trans ho)
            exact getD_set_true (hall e he hb)
          · rw [getD_set_ne false e'] at hl
            exact getD_set_true (hI.closed j oj hoj hl e he hb)
        · have hmi : c.getD m 0 ≠ i := fun e => by
            have := (ok_chain hB hm).2.2
            rw [e, hc] at this; cases this
          rw [getD_set_ne false (Ne.symm hmi)]
          exact hI.done m hm
        · by_cases e' : j = i
          · subst e'
            rw [heq t _ ht]
            unfold val
            rw [hc]
          · rw [hne j t _ hj e' ht]
            rw [getD_set_ne false (Ne.symm e')] at hl
            exact hI.yes j t hj hl ht
      | some m =>
        rw [hc] at hv
        have hvl := hlen m hc
        obtain ⟨hmc, hmi⟩ := at_some hc
        refine ih _ _ _ (vs ++ [v]) (by have := unl_set hil h1' ops.size hio; omega) ⟨by simp [hI.size], hv, by simp; omega, fun j oj hoj hl e he hb => ?_, fun m' hm' => ?_, fun j t hj hl ht => ?_⟩
        · by_cases e' : i = j
          · subst e'
            obtain rfl : oj = o := Option.some.inj (hoj.symm.trans ho)
            exact getD_set_true (hall e he hb)
          · rw [getD_set_ne false e'] at hl
            exact getD_set_true (hI.closed j oj hoj hl e he hb)
        · rw [List.length_append, List.length_singleton, hvl]
          by_cases e' : m' = m
          · subst e'
            rw [hmi]
            simp [hil]
          · have hmi' : c.getD m' 0 ≠ i := fun e => by
              have := (ok_chain hB hm').2.2
              rw [e, hc] at this; cases this; exact e' rfl
            rw [getD_set_ne false (Ne.symm hmi'), hI.done m' hm', hvl]
            omega
        · by_cases e' : j = i
          · subst e'
            rw [heq t _ ht]
            unfold val
            rw [hc]
            simp [← hvl]
          · rw [hne j t _ hj e' ht]
            rw [getD_set_ne false (Ne.symm e')] at hl
            rw [hI.yes j t hj hl ht]
            unfold val
            cases hcj : at_ c j with
            | none => rfl
            | some mj =>
              obtain ⟨hmjc, hmjj⟩ := at_some hcj
              have : mj < vs.length := (hI.done mj hmjc).1 (by rw [hmjj]; exact hl)
              simp [List.getElem?_append_left this]
end chain
open specs chain in
/-- a region that draws, its operations that turn the world in the text's order -/
theorem wp_region_chain {P : Program} {id : Nat} {l : List Oper} {Q : Exit → Act → World → Prop} {a : Act} {w : World} (c : List Nat) (f : List Value) (F : List Value → World → Prop) {frame : (Nat → Value) → Act} (hf : ∀ x, chain.frameOf l.toArray a x = frame x) (hm : P.follows .mixedOrders = true) (hB : chain.okB l.toArray c = true)
    (h0 : F [] w.drew)
    (step : AllFrom (fun i o => Step P l.toArray l.length c (f.getD · undef) F frame Q i o) 0 l)
    (fin : ∀ x vs w1, vs.length = c.length → F vs w1 → (∀ i t, i < l.length → dstOf l.toArray i = some t → x t = val c (f.getD · undef) vs i) → Q .normal (frame x) w1) : (Code.region id l.toArray true).wp P Q a w := by
  have ha : chain.frameOf l.toArray a (fun k => a.tmps.getD k undef) = a := by unfold chain.frameOf; rw [chain.fill_self]
  refine wp_region_any hm ?_
  have h := chain.run (P := P) (ops := l.toArray) (Q := Q) (a := a) c (f.getD · undef) F hB (fun i o ho x vs w1 hF hm hd K hK => by
      have h := step.get i o (by simpa using ho)
      rw [Nat.zero_add] at h
      rw [hf] at hK ⊢
      exact h x vs w1 hF hm (fun j t hj hw ht => hd j t (by simpa using hj) hw ht) K hK) (fun x vs w1 hl hF hs => by rw [hf]; exact fin x vs w1 hl hF fun i t hi ht => hs i t (by simpa using hi) ht) l.toArray.size (Array.replicate l.toArray.size false) (fun k => a.tmps.getD k undef) w.drew [] (unl_all _ _ (Nat.le_refl _))
    ⟨by simp, h0, by simp, fun j o ho hl => (by rw [getD_replicate_false] at hl; cases hl), fun m hm => (by rw [getD_replicate_false]; simp), fun i t hi hl => (by rw [getD_replicate_false] at hl; cases hl)⟩
  rw [ha] at h
  exact h
end Go.Proofs.YtpcihajmcejliabGreatDoor
namespace Go.Proofs.YtpcihajmcejliabGreatDoor
open Go.RowKit
theorem RdAt.setFar {W w : World} {S : Nat} {l : List UInt8} (h : RdAt W w S l) {p : Addr} (hp : p.block ≠ S) (hW : W.heap.size ≤ p.block) (u : Value) : RdAt W (w.setCell p u) S l :=
  h.chg ((Chg.refl (fun i => i = p.block) w).setCell (fun _ => rfl) _) (fun e => hp e.symm) (fun i hi => by omega)
theorem ends_cell {P : Program} {fn : Func} {p : Tmp} {ty : TypeId} {Q : Ending → World → Prop} {a : Act} {w : World} {A : Nat} {T : TypeId} {cs : Array Value} {d : TypeDesc} (h : fn.results = #[.cell p ty]) (hd : a.defers = []) (hp : a.tmps[p]?.getD undef = .pointer (some ⟨A, 0, none⟩)) (hA : Blk w A cs T)
    (hu : P.underlying ty = some d) (hd2 : (match d with | .struct _ | .array _ _ => true | _ => false) = true) (hi : (P.info? ty).map (·.size) = some cs.size) (hq : Q (.returned (.agg cs)) w) : bodyPost P fn Q .ret a w := by
  refine bodyPost_ret (v := .agg cs) ?_ hd hq
  simp [results, h, hp, asAddr, run_loadVar_row w A T ty cs (0, 0) d hA hu hd2 hi]
theorem allin_chg {α : Type} {k : Nat} {In : World → Nat → Nat → α → Prop} {w w' : World} {B : Nat} {a : Option Addr} {l : List α} (hIn : ∀ {w w' : World}, Keeps w w' → ∀ b o x, In w b o x → In w' b o x) (h : AllIn k In (hide (below B) w) a l)
    {S : Nat → Prop} (hC : Chg S w w') (hS : ∀ i, S i → i < B) : AllIn k In (hide (below B) w') a l := h.keeps (keeps_chg hC fun i _ hs => by simp [below, hS i hs]) (hIn (keeps_chg hC fun i _ hs => by simp [below, hS i hs]))
theorem allin_set {α : Type} {k : Nat} {In : World → Nat → Nat → α → Prop} {w : World} {B : Nat} {a : Option Addr} {l : List α} {p : Addr} (hIn : ∀ {w w' : World}, Keeps w w' → ∀ b o x, In w b o x → In w' b o x) (h : AllIn k In (hide (below B) w) a l) (hp : p.block < B) (u : Value) :
    AllIn k In (hide (below B) (w.setCell p u)) a l := allin_chg hIn h ((Chg.refl (fun i => i = p.block) w).setCell (fun _ => rfl) u) (fun i hi => by omega)
theorem keeps_low {w : World} {B B2 : Nat} (hB : B2 ≤ B) : Keeps (hide (below B) w) (hide (below B2) w) := keeps_hide (Nat.le_refl _) fun i hi hm => by
  simp only [below, decide_eq_false_iff_not] at hm ⊢
  exact ⟨by omega, trivial⟩
theorem allin_low {α : Type} {k : Nat} {In : World → Nat → Nat → α → Prop} {w : World} {B B2 : Nat} {a : Option Addr} {l : List α} (hIn : ∀ {w w' : World}, Keeps w w' → ∀ b o x, In w b o x → In w' b o x) (h : AllIn k In (hide (below B) w) a l) (hB : B2 ≤ B) :
    AllIn k In (hide (below B2) w) a l := h.keeps (keeps_low hB) (hIn (keeps_low hB))
namespace getw
theorem num_le (l : List UInt8) (x : Int) (r : List UInt8) (h : rdNum l = some (x, r)) : r.length + 8 ≤ l.length := by
  unfold rdNum at h
  split at h
  · cases h
  · cases h; rw [List.length_drop]; omega
theorem truth_le (l : List UInt8) (x : Bool) (r : List UInt8) (h : rdTruth l = some (x, r)) : r.length + 8 ≤ l.length := by
  unfold rdTruth at h
  split at h
  · cases h
  · rename_i n r2 hn
    have := num_le _ _ _ hn
    split at h
    · cases h; exact this
    · split at h
      · cases h; exact this
      · cases h
theorem text_le (l : List UInt8) (x : ByteArray) (r : List UInt8) (h : rdText l = some (x, r)) : r.length + 8 ≤ l.length := by
  unfold rdText at h
  split at h
  · cases h
  · rename_i n r2 hn
    have := num_le _ _ _ hn
    split at h
    · cases h; rw [List.length_drop]; omega
    · cases h
theorem many_le {α : Type} {p : Prs α} (hp : ∀ l x r, p l = some (x, r) → r.length + 8 ≤ l.length) (n : Nat) : ∀ (l : List UInt8) (x : List α) (r : List UInt8), rdMany p n l = some (x, r) → r.length ≤ l.length := by
  induction n with
  | zero => intro l x r h; cases h; exact Nat.le_refl _
  | succ n ih =>
    intro l x r h
    unfold rdMany at h
    split at h
    · cases h
    · rename_i y r2 hy
      have := hp _ _ _ hy
      split at h
      · cases h
      · rename_i ys r3 hys
        cases h
        have := ih _ _ _ hys
        omega
theorem items_le {α : Type} {p : Prs α} (hp : ∀ l x r, p l = some (x, r) → r.length + 8 ≤ l.length) (l : List UInt8) (x : List α) (r : List UInt8) (h : rdItems p l = some (x, r)) : r.length + 8 ≤ l.length := by
  unfold rdItems at h
  split at h
  · cases h
  · rename_i n r2 hn
    have := num_le _ _ _ hn
    split at h
    · have := many_le hp _ _ _ _ h
      omega
    · cases h
theorem map_le {α β : Type} {p : Prs α} {f : α → Prs β} (hp : ∀ l x r, p l = some (x, r) → r.length + 8 ≤ l.length) (hf : ∀ x l y r, f x l = some (y, r) → r.length ≤ l.length) (l : List UInt8) (y : β) (r : List UInt8) (h : rdMap p f l = some (y, r)) : r.length + 8 ≤ l.length := by
  unfold rdMap at h
  split at h
  · cases h
  · rename_i x r2 hx
    have := hp _ _ _ hx
    have := hf _ _ _ _ h
    omega
theorem map_le' {α β : Type} {p : Prs α} {f : α → Prs β} (hp : ∀ l x r, p l = some (x, r) → r.length + 8 ≤ l.length) (hf : ∀ x l y r, f x l = some (y, r) → r.length ≤ l.length) (l : List UInt8) (y : β) (r : List UInt8) (h : rdMap p f l = some (y, r)) : r.length ≤ l.length := by
  have := map_le hp hf l y r h; omega
theorem end_le {β : Type} (y : β) (l : List UInt8) (z : β) (r : List UInt8) (h : some (y, l) = some (z, r)) : r.length ≤ l.length := by cases h; exact Nat.le_refl _
theorem var_le : ∀ l x r, rdVar l = some (x, r) → r.length + 8 ≤ l.length := map_le text_le fun _ => map_le' truth_le fun _ => map_le' num_le fun _ => map_le' num_le fun _ => end_le _
theorem proc_le : ∀ l x r, rdProc l = some (x, r) → r.length + 8 ≤ l.length := map_le text_le fun _ => map_le' truth_le fun _ => map_le' (items_le num_le) fun _ => map_le' num_le fun _ => map_le' truth_le fun _ => map_le' num_le fun _ => end_le _
theorem face_le : ∀ l x r, rdFace l = some (x, r) → r.length + 8 ≤ l.length := map_le text_le fun _ => map_le' (items_le var_le) fun _ => map_le' (items_le proc_le) fun _ => end_le _
theorem plc_le : ∀ l x r, rdPlc l = some (x, r) → r.length + 8 ≤ l.length := map_le text_le fun _ => map_le' num_le fun _ => end_le _
theorem ins_le : ∀ l x r, rdIns l = some (x, r) → r.length + 8 ≤ l.length := map_le num_le fun _ => map_le' num_le fun _ => map_le' num_le fun _ => map_le' num_le fun _ => map_le' num_le fun _ => end_le _
theorem rel_le : ∀ l x r, rdRel l = some (x, r) → r.length + 8 ≤ l.length := map_le num_le fun _ => map_le' num_le fun _ => map_le' text_le fun _ => map_le' text_le fun _ => end_le _
theorem num_in {l r : List UInt8} {x : Int} (h : rdNum l = some (x, r)) : inI x := by
  unfold rdNum at h
  split at h
  · cases h
  · cases h; exact getm.get8_in _
theorem num_int {W w : World} {S : Nat} {l : List UInt8} (h : RdAt W w S l) :
    Calls Tryz.prog 76 #[.pointer (some ⟨S, 0, none⟩)] w (Rds (fun x v w' => VInt x v (hide (below w.heap.size) w')) W w S (rdNum l)) := by
  refine (num_any h).mono fun e w' hr => ?_
  obtain ⟨hC, hm⟩ := hr
  refine ⟨hC, ?_⟩
  revert hm
  cases hp : rdNum l with
  | none => exact id
  | some q => rintro ⟨v, e, hv, hR⟩; exact ⟨v, e, ⟨hv, num_in hp⟩, hR⟩
set_option maxRecDepth 100000 in
set_option maxHeartbeats 4000000 in
theorem place_any {W w : World} {S : Nat} {l : List UInt8} (h : RdAt W w S l) (hs : l.length ≤ 100000000) :
    Calls Tryz.prog 82 #[.pointer (some ⟨S, 0, none⟩)] w (Rds (fun x v w' => VPlc x v (hide (below w.heap.size) w')) W w S (rdPlc l)) := by
  have hSl := h.lt
  have HWl := Lib.hid (show W.heap.size ≤ w.heap.size from h.ext.size)
  obtain ⟨T, hT⟩ : ∃ T, rdPlc l = T := ⟨_, rfl⟩
  have HT := Lib.hid hT
  rw [hT]
  have HC1 := Lib.hid (text_any (h.alloc (.cells #[.string ⟨#[]⟩, .int .i64 0] 129)))
  have hA0 := Blk.made w #[.string ⟨#[]⟩, .int .i64 0] 129
  have hC0 : Chg (fun i => i = S) w (w.alloc (.cells #[.string ⟨#[]⟩, .int .i64 0] 129)) := (Chg.refl _ _).alloc _
  clear h hT
  go_enter Tryz.func82, Tryz.ntmps82
  go_wp2_with fail
  refine HC1.out.mono ?_
  rintro e w1 hr
  rcases hr.cases with ⟨hC1, ⟨hp, rfl⟩ | ⟨x1, l1, v, hp, rfl, ⟨rfl, hx⟩, hR1⟩⟩
  · have HF := Lib.hid (show T = none by rw [← HT.out]; simp only [rdPlc, rdMap, hp])
    clear hr hp HC1
    go_wp2_with fail
    exact ⟨rfl, Rds.fails (hC0.then hC1) HF.out⟩
  have HP1 := Lib.hid hp
  have HX1 := Lib.hid hx
  have hA1 := hA0.chg hC1 (by omega)
  have hCC1 := hC0.then hC1
  clear hr hp HC1 hA0 hC0 hC1 hx
  have hV1 := Blk.made w1 #[.string x1, .int .i64 0] 129
  have hA1l := hA1.lt
  have hA2 := hA1.alloc (.cells #[.string x1, .int .i64 0] 129)
  have hR1 := hR1.alloc (.cells #[.string x1, .int .i64 0] 129)
  have hCC1 := hCC1.alloc (.cells #[.string x1, .int .i64 0] 129)
  obtain ⟨V, hVe⟩ : ∃ V, w1.heap.size = V := ⟨_, rfl⟩
  rw [hVe] at hV1 hA1l
  clear hA1
  have HC2 := Lib.hid (num_any hR1)
  go_wp2_with fail
  refine HC2.out.mono ?_
  rintro e w2 hr
  rcases hr.cases with ⟨hC2, ⟨hp, rfl⟩ | ⟨x2, l2, v, hp, rfl, rfl, hR2⟩⟩
  · have HF := Lib.hid (show T = none by rw [← HT.out]; simp only [rdPlc, rdMap, HP1.out, hp])
    clear hr hp HC2
    go_wp2_with fail
    exact ⟨rfl, Rds.fails (hCC1.then hC2) HF.out⟩
  have HP2 := Lib.hid hp
  have hV2 := hV1.chg hC2 (by omega)
  have hA3 := hA2.chg hC2 (by omega)
  have hCC2 := hCC1.then hC2
  have hVc := hV2.cell
  have hVf := hV2.frozen
  have hVl := hV2.lt
  clear hr hp HC2
  clear hC2
  have hAc := hA3.cell
  have hAf := hA3.frozen
  have hAl := hA3.lt
  go_wp2_with fail
  refine ends_cell rfl rfl rfl ((((hA3.setOther (p := ⟨V, 1, none⟩) (by show _ ≠ V; omega) _).set 0 _).set 1 _)) Tryz.underlying129 rfl (by kernel_rfl) ?_
  refine Rds.reads (((hCC2.setNew (p := ⟨V, 1, none⟩) (by simp; omega) _).setNew (p := ⟨w.heap.size, 0, none⟩) (by simp) _).setNew (p := ⟨w.heap.size, 1, none⟩) (by simp) _) (x := ⟨x1, x2⟩) (l := l2) (by rw [← HT.out]; simp only [rdPlc, rdMap, HP1.out, HP2.out]) ⟨rfl, Nat.le_trans HX1.out (by unfold maxLen; omega), num_in HP2.out⟩ (((hR2.setFar (p := ⟨V, 1, none⟩) (by simp; omega) (by have := HWl.out; simp; omega) _).setFar (p := ⟨w.heap.size, 0, none⟩) (by simp; omega) (by have := HWl.out; simp; omega) _).setFar (p := ⟨w.heap.size, 1, none⟩) (by simp; omega) (by have := HWl.out; simp; omega) _)
set_option maxRecDepth 100000 in
set_option maxHeartbeats 4000000 in
theorem rel_any {W w : World} {S : Nat} {l : List UInt8} (h : RdAt W w S l) (_hs : l.length ≤ 100000000) {K : Nat} (hK : Blk w K #[.pointer (some ⟨S, 0, none⟩)] 134) (hKS : K ≠ S) :
    Calls Tryz.prog 79 #[.pointer (some ⟨K, 0, none⟩)] w (Rds (fun x v w' => VRel x v (hide (below w.heap.size) w')) W w S (rdRel l)) := by
  have hSl := h.lt
  have HWl := Lib.hid (show W.heap.size ≤ w.heap.size from h.ext.size)
  obtain ⟨T, hT⟩ : ∃ T, rdRel l = T := ⟨_, rfl⟩
  have HT := Lib.hid hT
  rw [hT]
  have HC1 := Lib.hid (num_any (h.alloc (.cells #[.int .i64 0, .int .i64 0, .string ⟨#[]⟩, .string ⟨#[]⟩] 100)))
  have hA0 := Blk.made w #[.int .i64 0, .int .i64 0, .string ⟨#[]⟩, .string ⟨#[]⟩] 100
  have hC0 : Chg (fun i => i = S) w (w.alloc (.cells #[.int .i64 0, .int .i64 0, .string ⟨#[]⟩, .string ⟨#[]⟩] 100)) := (Chg.refl _ _).alloc _
  have hK0 := hK.alloc (.cells #[.int .i64 0, .int .i64 0, .string ⟨#[]⟩, .string ⟨#[]⟩] 100)
  have hKl := hK.lt
  have hKc := hK0.cell
  clear hK
  clear h hT
  go_enter Tryz.func79, Tryz.ntmps79
  go_wp2_with fail
  refine HC1.out.mono ?_
  rintro e w1 hr
  rcases hr.cases with ⟨hC1, ⟨hp, rfl⟩ | ⟨x1, l1, v, hp, rfl, rfl, hR1⟩⟩
  · have HF := Lib.hid (show T = none by rw [← HT.out]; simp only [rdRel, rdMap, hp])
    clear hr hp HC1
    go_wp2_with fail
    exact ⟨rfl, Rds.fails (hC0.then hC1) HF.out⟩
  have HP1 := Lib.hid hp
  have hA1 := hA0.chg hC1 (by omega)
  have hCC1 := hC0.then hC1
  have hK1 := hK0.chg hC1 (by omega)
  clear hr hp HC1 hA0 hC0 hC1 hK0 hKc
  have hV1 := Blk.made w1 #[.int .i64 x1, .int .i64 0, .string ⟨#[]⟩, .string ⟨#[]⟩] 100
  have hA1l := hA1.lt
  have hA2 := hA1.alloc (.cells #[.int .i64 x1, .int .i64 0, .string ⟨#[]⟩, .string ⟨#[]⟩] 100)
  have hR1 := hR1.alloc (.cells #[.int .i64 x1, .int .i64 0, .string ⟨#[]⟩, .string ⟨#[]⟩] 100)
  have hCC1 := hCC1.alloc (.cells #[.int .i64 x1, .int .i64 0, .string ⟨#[]⟩, .string ⟨#[]⟩] 100)
  have hK2 := hK1.alloc (.cells #[.int .i64 x1, .int .i64 0, .string ⟨#[]⟩, .string ⟨#[]⟩] 100)
  obtain ⟨V, hVe⟩ : ∃ V, w1.heap.size = V := ⟨_, rfl⟩
  rw [hVe] at hV1 hA1l
  clear hA1 hK1
  have HC2 := Lib.hid (num_any hR1)
  have hKc := hK2.cell
  go_wp2_with fail
  refine HC2.out.mono ?_
  rintro e w2 hr
  rcases hr.cases with ⟨hC2, ⟨hp, rfl⟩ | ⟨x2, l2, v, hp, rfl, rfl, hR2⟩⟩
  · have HF := Lib.hid (show T = none by rw [← HT.out]; simp only [rdRel, rdMap, HP1.out, hp])
    clear hr hp HC2
    go_wp2_with fail
    exact ⟨rfl, Rds.fails (hCC1.then hC2) HF.out⟩
  have HP2 := Lib.hid hp
  have hV2 := hV1.chg hC2 (by omega)
  have hA3 := hA2.chg hC2 (by omega)
  have hCC2 := hCC1.then hC2
  have hK3 := hK2.chg hC2 (by omega)
  clear hKc
  have hKc := hK3.cell
  have hVc := hV2.cell
  have hVf := hV2.frozen
  have hVl := hV2.lt
  clear hr hp HC2
  clear hC2
  have hV2s : Blk (w2.setCell ⟨V, 1, none⟩ (.int .i64 x2)) V #[.int .i64 x1, .int .i64 x2, .string ⟨#[]⟩, .string ⟨#[]⟩] 100 := hV2.set 1 _
  have hA3s := hA3.setOther (p := ⟨V, 1, none⟩) (by first | omega | (simp; omega)) (.int .i64 x2)
  have hR2s : RdAt W (w2.setCell ⟨V, 1, none⟩ (.int .i64 x2)) S l2 := hR2.chg ((Chg.refl (fun i => i = V) w2).setCell (p := ⟨V, 1, none⟩) (fun _ => rfl) _) (by omega) (fun i hi => by have := HWl.out; omega)
  have hCC2s := hCC2.setNew (p := ⟨V, 1, none⟩) (by first | omega | (simp; omega)) (.int .i64 x2)
  have hK3s := hK3.setOther (p := ⟨V, 1, none⟩) (by first | omega | (simp; omega)) (.int .i64 x2)
  have HC3 := Lib.hid (text_any hR2s)
  have hKc := hK3s.cell
  go_wp2_with fail
  refine HC3.out.mono ?_
  rintro e w3 hr
  rcases hr.cases with ⟨hC3, ⟨hp, rfl⟩ | ⟨x3, l3, v, hp, rfl, ⟨rfl, hx⟩, hR3⟩⟩
  · have HF := Lib.hid (show T = none by rw [← HT.out]; simp only [rdRel, rdMap, HP1.out, HP2.out, hp])
    clear hr hp HC3
    go_wp2_with fail
    exact ⟨rfl, Rds.fails (hCC2s.then hC3) HF.out⟩
  have HP3 := Lib.hid hp
  have HX3 := Lib.hid hx
  have hV3 := hV2s.chg hC3 (by omega)
  have hA4 := hA3s.chg hC3 (by omega)
  have hCC3 := hCC2s.then hC3
  have hK4 := hK3s.chg hC3 (by omega)
  clear hKc
  have hKc := hK4.cell
  have hVc := hV3.cell
  have hVf := hV3.frozen
  have hVl := hV3.lt
  clear hr hp HC3 hx
  clear hC3
  have hV3s : Blk (w3.setCell ⟨V, 2, none⟩ (.string x3)) V #[.int .i64 x1, .int .i64 x2, .string x3, .string ⟨#[]⟩] 100 := hV3.set 2 _
  have hA4s := hA4.setOther (p := ⟨V, 2, none⟩) (by first | omega | (simp; omega)) (.string x3)
  have hR3s : RdAt W (w3.setCell ⟨V, 2, none⟩ (.string x3)) S l3 := hR3.chg ((Chg.refl (fun i => i = V) w3).setCell (p := ⟨V, 2, none⟩) (fun _ => rfl) _) (by omega) (fun i hi => by have := HWl.out; omega)
  have hCC3s := hCC3.setNew (p := ⟨V, 2, none⟩) (by first | omega | (simp; omega)) (.string x3)
  have hK4s := hK4.setOther (p := ⟨V, 2, none⟩) (by first | omega | (simp; omega)) (.string x3)
  have HC4 := Lib.hid (text_any hR3s)
  have hKc := hK4s.cell
  go_wp2_with fail
  refine HC4.out.mono ?_
  rintro e w4 hr
  rcases hr.cases with ⟨hC4, ⟨hp, rfl⟩ | ⟨x4, l4, v, hp, rfl, ⟨rfl, hx⟩, hR4⟩⟩
  · have HF := Lib.hid (show T = none by rw [← HT.out]; simp only [rdRel, rdMap, HP1.out, HP2.out, HP3.out, hp])
    clear hr hp HC4
    go_wp2_with fail
    exact ⟨rfl, Rds.fails (hCC3s.then hC4) HF.out⟩
  have HP4 := Lib.hid hp
  have HX4 := Lib.hid hx
  have hV4 := hV3s.chg hC4 (by omega)
  have hA5 := hA4s.chg hC4 (by omega)
  have hCC4 := hCC3s.then hC4
  have hK5 := hK4s.chg hC4 (by omega)
  clear hKc
  have hKc := hK5.cell
  have hVc := hV4.cell
  have hVf := hV4.frozen
  have hVl := hV4.lt
  clear hr hp HC4 hx
  clear hC4
  have hAc := hA5.cell
  have hAf := hA5.frozen
  have hAl := hA5.lt
  go_wp2_with fail
  refine ends_cell rfl rfl rfl ((((((hA5.setOther (p := ⟨V, 3, none⟩) (by show _ ≠ V; omega) _).set 0 _).set 1 _).set 2 _).set 3 _)) Tryz.underlying100 rfl (by kernel_rfl) ?_
  refine Rds.reads (((((hCC4.setNew (p := ⟨V, 3, none⟩) (by simp; omega) _).setNew (p := ⟨w.heap.size, 0, none⟩) (by simp) _).setNew (p := ⟨w.heap.size, 1, none⟩) (by simp) _).setNew (p := ⟨w.heap.size, 2, none⟩) (by simp) _).setNew (p := ⟨w.heap.size, 3, none⟩) (by simp) _) (x := ⟨x1, x2, x3, x4⟩) (l := l4) (by rw [← HT.out]; simp only [rdRel, rdMap, HP1.out, HP2.out, HP3.out, HP4.out]) (by unfold VRel; rfl) (((((hR4.setFar (p := ⟨V, 3, none⟩) (by simp; omega) (by have := HWl.out; simp; omega) _).setFar (p := ⟨w.heap.size, 0, none⟩) (by simp; omega) (by have := HWl.out; simp; omega) _).setFar (p := ⟨w.heap.size, 1, none⟩) (by simp; omega) (by have := HWl.out; simp; omega) _).setFar (p := ⟨w.heap.size, 2, none⟩) (by simp; omega) (by have := HWl.out; simp; omega) _).setFar (p := ⟨w.heap.size, 3, none⟩) (by simp; omega) (by have := HWl.out; simp; omega) _)
set_option maxRecDepth 100000 in
set_option maxHeartbeats 4000000 in
theorem var_any {W w : World} {S : Nat} {l : List UInt8} (h : RdAt W w S l) (hs : l.length ≤ 100000000) {K : Nat} (hK : Blk w K #[.pointer (some ⟨S, 0, none⟩)] 134) (hKS : K ≠ S) :
    Calls Tryz.prog 140 #[.pointer (some ⟨K, 0, none⟩)] w (Rds (fun x v w' => VVar x v (hide (below w.heap.size) w')) W w S (rdVar l)) := by
  have hSl := h.lt
  have HWl := Lib.hid (show W.heap.size ≤ w.heap.size from h.ext.size)
  obtain ⟨T, hT⟩ : ∃ T, rdVar l = T := ⟨_, rfl⟩
  have HT := Lib.hid hT
  rw [hT]
  have HC1 := Lib.hid (text_any (h.alloc (.cells #[.string ⟨#[]⟩, .bool false, .int .i64 0, .int .i64 0] 82)))
  have hA0 := Blk.made w #[.string ⟨#[]⟩, .bool false, .int .i64 0, .int .i64 0] 82
  have hC0 : Chg (fun i => i = S) w (w.alloc (.cells #[.string ⟨#[]⟩, .bool false, .int .i64 0, .int .i64 0] 82)) := (Chg.refl _ _).alloc _
  have hK0 := hK.alloc (.cells #[.string ⟨#[]⟩, .bool false, .int .i64 0, .int .i64 0] 82)
  have hKl := hK.lt
  have hKc := hK0.cell
  clear hK
  clear h hT
  go_enter Tryz.func140, Tryz.ntmps140
  go_wp2_with fail
  refine HC1.out.mono ?_
  rintro e w1 hr
  rcases hr.cases with ⟨hC1, ⟨hp, rfl⟩ | ⟨x1, l1, v, hp, rfl, ⟨rfl, hx⟩, hR1⟩⟩
  · have HF := Lib.hid (show T = none by rw [← HT.out]; simp only [rdVar, rdMap, hp])
    clear hr hp HC1
    go_wp2_with fail
    exact ⟨rfl, Rds.fails (hC0.then hC1) HF.out⟩
  have HP1 := Lib.hid hp
  have HX1 := Lib.hid hx
  have hA1 := hA0.chg hC1 (by omega)
  have hCC1 := hC0.then hC1
  have hK1 := hK0.chg hC1 (by omega)
  clear hr hp HC1 hA0 hC0 hC1 hx hK0 hKc
  have hV1 := Blk.made w1 #[.string x1, .bool false, .int .i64 0, .int .i64 0] 82
  have hA1l := hA1.lt
  have hA2 := hA1.alloc (.cells #[.string x1, .bool false, .int .i64 0, .int .i64 0] 82)
  have hR1 := hR1.alloc (.cells #[.string x1, .bool false, .int .i64 0, .int .i64 0] 82)
  have hCC1 := hCC1.alloc (.cells #[.string x1, .bool false, .int .i64 0, .int .i64 0] 82)
  have hK2 := hK1.alloc (.cells #[.string x1, .bool false, .int .i64 0, .int .i64 0] 82)
  obtain ⟨V, hVe⟩ : ∃ V, w1.heap.size = V := ⟨_, rfl⟩
  rw [hVe] at hV1 hA1l
  clear hA1 hK1
  go_upto_region 2 with (fail)
  generalize w1.alloc (.cells #[.string x1, .bool false, .int .i64 0, .int .i64 0] 82) = u0 at *
  refine wp_region_chain [1, 3, 5, 7, 9, 11] [.pointer (some ⟨S, 0, none⟩), undef, .pointer (some ⟨S, 0, none⟩), undef, .pointer (some ⟨S, 0, none⟩), undef, .pointer (some ⟨V, 1, none⟩), undef, .pointer (some ⟨V, 2, none⟩), undef, .pointer (some ⟨V, 3, none⟩), undef] (fun vs u => Chg (fun i => i = S) w u ∧ Blk u w.heap.size #[.string ⟨#[]⟩, .bool false, .int .i64 0, .int .i64 0] 82 ∧ Blk u K #[.pointer (some ⟨S, 0, none⟩)] 134 ∧ (match vs with
    | [] => RdAt W u S l1 ∧ Blk u V #[.string x1, .bool false, .int .i64 0, .int .i64 0] 82
    | [v0] => ∃ (x2 : Bool) (l2 : List UInt8) , Hid (rdTruth l1 = some (x2, l2)) ∧ v0 = .bool x2 ∧ RdAt W u S l2 ∧ Blk u V #[.string x1, .bool false, .int .i64 0, .int .i64 0] 82
    | [v0, v1] => ∃ (x2 : Bool) (l2 : List UInt8) (x3 : Int) (l3 : List UInt8) , Hid (rdTruth l1 = some (x2, l2)) ∧ v0 = .bool x2 ∧ Hid (rdNum l2 = some (x3, l3)) ∧ v1 = .int .i64 x3 ∧ RdAt W u S l3 ∧ Blk u V #[.string x1, .bool false, .int .i64 0, .int .i64 0] 82
    | [v0, v1, v2] => ∃ (x2 : Bool) (l2 : List UInt8) (x3 : Int) (l3 : List UInt8) (x4 : Int) (l4 : List UInt8) , Hid (rdTruth l1 = some (x2, l2)) ∧ v0 = .bool x2 ∧ Hid (rdNum l2 = some (x3, l3)) ∧ v1 = .int .i64 x3 ∧ Hid (rdNum l3 = some (x4, l4)) ∧ v2 = .int .i64 x4 ∧ RdAt W u S l4 ∧ Blk u V #[.string x1, .bool false, .int .i64 0, .int .i64 0] 82
    | [v0, v1, v2, _] => ∃ (x2 : Bool) (l2 : List UInt8) (x3 : Int) (l3 : List UInt8) (x4 : Int) (l4 : List UInt8) , Hid (rdTruth l1 = some (x2, l2)) ∧ v0 = .bool x2 ∧ Hid (rdNum l2 = some (x3, l3)) ∧ v1 = .int .i64 x3 ∧ Hid (rdNum l3 = some (x4, l4)) ∧ v2 = .int .i64 x4 ∧ RdAt W u S l4 ∧ Blk u V #[.string x1, .bool x2, .int .i64 0, .int .i64 0] 82
    | [v0, v1, v2, _, _] => ∃ (x2 : Bool) (l2 : List UInt8) (x3 : Int) (l3 : List UInt8) (x4 : Int) (l4 : List UInt8) , Hid (rdTruth l1 = some (x2, l2)) ∧ v0 = .bool x2 ∧ Hid (rdNum l2 = some (x3, l3)) ∧ v1 = .int .i64 x3 ∧ Hid (rdNum l3 = some (x4, l4)) ∧ v2 = .int .i64 x4 ∧ RdAt W u S l4 ∧ Blk u V #[.string x1, .bool x2, .int .i64 x3, .int .i64 0] 82
    | [v0, v1, v2, _, _, _] => ∃ (x2 : Bool) (l2 : List UInt8) (x3 : Int) (l3 : List UInt8) (x4 : Int) (l4 : List UInt8) , Hid (rdTruth l1 = some (x2, l2)) ∧ v0 = .bool x2 ∧ Hid (rdNum l2 = some (x3, l3)) ∧ v1 = .int .i64 x3 ∧ Hid (rdNum l3 = some (x4, l4)) ∧ v2 = .int .i64 x4 ∧ RdAt W u S l4 ∧ Blk u V #[.string x1, .bool x2, .int .i64 x3, .int .i64 x4] 82
    | _ => False
    )) (frame := ?fraa) (fun x => ?hfaa) mixed (by kernel_rfl) ?h0a ?staa ?fina
  case hfaa =>
    simp only [chain.frameOf, chain.fill, chain.setOpt, chain.dstOf, List.size_toArray, List.length_cons, List.length_nil, List.getElem?_toArray, List.getElem?_cons_succ, List.getElem?_cons_zero, List.setIfInBounds_toArray, List.set_cons_succ, List.set_cons_zero]
    exact rfl
  case h0a => exact ⟨hCC1.drew, hA2.drew, hK2.drew, hR1.drew, hV1.drew⟩
  case staa =>
    refine AllFrom.cons (fun x vs u hF hm hd K' hK' => ?sa0) (AllFrom.cons (fun x vs u hF hm hd K' hK' => ?sa1) (AllFrom.cons (fun x vs u hF hm hd K' hK' => ?sa2) (AllFrom.cons (fun x vs u hF hm hd K' hK' => ?sa3) (AllFrom.cons (fun x vs u hF hm hd K' hK' => ?sa4) (AllFrom.cons (fun x vs u hF hm hd K' hK' => ?sa5) (AllFrom.cons (fun x vs u hF hm hd K' hK' => ?sa6) (AllFrom.cons (fun x vs u hF hm hd K' hK' => ?sa7) (AllFrom.cons (fun x vs u hF hm hd K' hK' => ?sa8) (AllFrom.cons (fun x vs u hF hm hd K' hK' => ?sa9) (AllFrom.cons (fun x vs u hF hm hd K' hK' => ?sa10) (AllFrom.cons (fun x vs u hF hm hd K' hK' => ?sa11) AllFrom.nil)))))))))))
    case sa0 =>
      have hKc := hF.2.2.1.cell
      clear hd hm hF
      go_simp
      exact hK'.out _ _ _ rfl ⟨rfl, rfl⟩
    case sa1 =>
      have y : x 6 = .pointer (some ⟨S, 0, none⟩) := hd 0 _ (by decide) (by kernel_rfl) (by kernel_rfl)
      obtain rfl := List.eq_nil_of_length_eq_zero (hm 0 (by kernel_rfl))
      obtain ⟨f1, f2, f3, fR, fV⟩ := hF
      clear hd hm
      go_simp
      refine (truth_any fR).mono ?_
      rintro e u2 hr
      rcases hr.cases with ⟨hC, ⟨hp, rfl⟩ | ⟨x2, l2, v, hp, rfl, rfl, hR⟩⟩
      · have HF := Lib.hid (show T = none by rw [← HT.out]; simp only [rdVar, rdMap, HP1.out, hp])
        clear hr hp hK'
        have hCP := f1.then hC
        clear f1 f2 f3 fR fV hC
        go_wp2_with fail
        exact ⟨rfl, Rds.fails hCP HF.out⟩
      · exact hK'.out _ _ _ (by simp only [y]; rfl) ⟨f1.then hC, f2.chg hC (by omega), f3.chg hC (by omega), x2, l2, Lib.hid hp, rfl, hR, fV.chg hC (by omega)⟩
    case sa2 =>
      have hKc := hF.2.2.1.cell
      clear hd hm hF
      go_simp
      exact hK'.out _ _ _ rfl ⟨rfl, rfl⟩
    case sa3 =>
      have y : x 8 = .pointer (some ⟨S, 0, none⟩) := hd 2 _ (by decide) (by kernel_rfl) (by kernel_rfl)
      obtain ⟨v0, rfl⟩ : ∃ v0, vs = [v0] := by match vs, hm 1 (by kernel_rfl) with | [v0], _ => exact ⟨_, rfl⟩
      obtain ⟨f1, f2, f3, x2, l2, HQ2, rfl, fR, fV⟩ := hF
      clear hd hm
      go_simp
      refine (num_any fR).mono ?_
      rintro e u2 hr
      rcases hr.cases with ⟨hC, ⟨hp, rfl⟩ | ⟨x3, l3, v, hp, rfl, rfl, hR⟩⟩
      · have HF := Lib.hid (show T = none by rw [← HT.out]; simp only [rdVar, rdMap, HP1.out, HQ2.out, hp])
        clear hr hp hK'
        have hCP := f1.then hC
        clear f1 f2 f3 fR fV hC
        go_wp2_with fail
        exact ⟨rfl, Rds.fails hCP HF.out⟩
      · exact hK'.out _ _ _ (by simp only [y]; rfl) ⟨f1.then hC, f2.chg hC (by omega), f3.chg hC (by omega), x2, l2, x3, l3, HQ2, rfl, Lib.hid hp, rfl, hR, fV.chg hC (by omega)⟩
    case sa4 =>
      have hKc := hF.2.2.1.cell
      clear hd hm hF
      go_simp
      exact hK'.out _ _ _ rfl ⟨rfl, rfl⟩
    case sa5 =>
      have y : x 10 = .pointer (some ⟨S, 0, none⟩) := hd 4 _ (by decide) (by kernel_rfl) (by kernel_rfl)
      obtain ⟨v0, v1, rfl⟩ : ∃ v0 v1, vs = [v0, v1] := by match vs, hm 2 (by kernel_rfl) with | [v0, v1], _ => exact ⟨_, _, rfl⟩
      obtain ⟨f1, f2, f3, x2, l2, x3, l3, HQ2, rfl, HQ3, rfl, fR, fV⟩ := hF
      clear hd hm
      go_simp
      refine (num_any fR).mono ?_
      rintro e u2 hr
      rcases hr.cases with ⟨hC, ⟨hp, rfl⟩ | ⟨x4, l4, v, hp, rfl, rfl, hR⟩⟩
      · have HF := Lib.hid (show T = none by rw [← HT.out]; simp only [rdVar, rdMap, HP1.out, HQ2.out, HQ3.out, hp])
        clear hr hp hK'
        have hCP := f1.then hC
        clear f1 f2 f3 fR fV hC
        go_wp2_with fail
        exact ⟨rfl, Rds.fails hCP HF.out⟩
      · exact hK'.out _ _ _ (by simp only [y]; rfl) ⟨f1.then hC, f2.chg hC (by omega), f3.chg hC (by omega), x2, l2, x3, l3, x4, l4, HQ2, rfl, HQ3, rfl, Lib.hid hp, rfl, hR, fV.chg hC (by omega)⟩
    case sa6 =>
      clear hd hm hF
      go_simp
      exact hK'.out _ _ _ rfl ⟨rfl, rfl⟩
    case sa7 =>
      have y : x 12 = .pointer (some ⟨V, 1, none⟩) := hd 6 _ (by decide) (by kernel_rfl) (by kernel_rfl)
      have z := hd 1 7 (by decide) (by kernel_rfl) (by kernel_rfl)
      obtain ⟨v0, v1, v2, rfl⟩ : ∃ v0 v1 v2, vs = [v0, v1, v2] := by match vs, hm 3 (by kernel_rfl) with | [v0, v1, v2], _ => exact ⟨_, _, _, rfl⟩
      obtain ⟨f1, f2, f3, x2, l2, x3, l3, x4, l4, HQ2, rfl, HQ3, rfl, HQ4, rfl, fR, fV⟩ := hF
      replace z : x 7 = .bool x2 := z
      have hVc := fV.cell
      have hVf := fV.frozen
      have hVl := fV.lt
      clear hd hm
      go_simp
      exact hK'.out _ _ undef (by simp only [y, z]; rfl) ⟨f1.setNew (p := ⟨V, 1, none⟩) (by simp; omega) _, f2.setOther (p := ⟨V, 1, none⟩) (by show _ ≠ V; omega) _, f3.setOther (p := ⟨V, 1, none⟩) (by show _ ≠ V; omega) _, x2, l2, x3, l3, x4, l4, HQ2, rfl, HQ3, rfl, HQ4, rfl, fR.setFar (p := ⟨V, 1, none⟩) (by show V ≠ _; omega) (by have := HWl.out; simp; omega) _, fV.set 1 _⟩
    case sa8 =>
      clear hd hm hF
      go_simp
      exact hK'.out _ _ _ rfl ⟨rfl, rfl⟩
    case sa9 =>
      have y : x 13 = .pointer (some ⟨V, 2, none⟩) := hd 8 _ (by decide) (by kernel_rfl) (by kernel_rfl)
      have z := hd 3 9 (by decide) (by kernel_rfl) (by kernel_rfl)
      obtain ⟨v0, v1, v2, v3, rfl⟩ : ∃ v0 v1 v2 v3, vs = [v0, v1, v2, v3] := by match vs, hm 4 (by kernel_rfl) with | [v0, v1, v2, v3], _ => exact ⟨_, _, _, _, rfl⟩
      obtain ⟨f1, f2, f3, x2, l2, x3, l3, x4, l4, HQ2, rfl, HQ3, rfl, HQ4, rfl, fR, fV⟩ := hF
      replace z : x 9 = .int .i64 x3 := z
      have hVc := fV.cell
      have hVf := fV.frozen
      have hVl := fV.lt
      clear hd hm
      go_simp
      exact hK'.out _ _ undef (by simp only [y, z]; rfl) ⟨f1.setNew (p := ⟨V, 2, none⟩) (by simp; omega) _, f2.setOther (p := ⟨V, 2, none⟩) (by show _ ≠ V; omega) _, f3.setOther (p := ⟨V, 2, none⟩) (by show _ ≠ V; omega) _, x2, l2, x3, l3, x4, l4, HQ2, rfl, HQ3, rfl, HQ4, rfl, fR.setFar (p := ⟨V, 2, none⟩) (by show V ≠ _; omega) (by have := HWl.out; simp; omega) _, fV.set 2 _⟩
    case sa10 =>
      clear hd hm hF
      go_simp
      exact hK'.out _ _ _ rfl ⟨rfl, rfl⟩
    case sa11 =>
      have y : x 14 = .pointer (some ⟨V, 3, none⟩) := hd 10 _ (by decide) (by kernel_rfl) (by kernel_rfl)
      have z := hd 5 11 (by decide) (by kernel_rfl) (by kernel_rfl)
      obtain ⟨v0, v1, v2, v3, v4, rfl⟩ : ∃ v0 v1 v2 v3 v4, vs = [v0, v1, v2, v3, v4] := by match vs, hm 5 (by kernel_rfl) with | [v0, v1, v2, v3, v4], _ => exact ⟨_, _, _, _, _, rfl⟩
      obtain ⟨f1, f2, f3, x2, l2, x3, l3, x4, l4, HQ2, rfl, HQ3, rfl, HQ4, rfl, fR, fV⟩ := hF
      replace z : x 11 = .int .i64 x4 := z
      have hVc := fV.cell
      have hVf := fV.frozen
      have hVl := fV.lt
      clear hd hm
      go_simp
      exact hK'.out _ _ undef (by simp only [y, z]; rfl) ⟨f1.setNew (p := ⟨V, 3, none⟩) (by simp; omega) _, f2.setOther (p := ⟨V, 3, none⟩) (by show _ ≠ V; omega) _, f3.setOther (p := ⟨V, 3, none⟩) (by show _ ≠ V; omega) _, x2, l2, x3, l3, x4, l4, HQ2, rfl, HQ3, rfl, HQ4, rfl, fR.setFar (p := ⟨V, 3, none⟩) (by show V ≠ _; omega) (by have := HWl.out; simp; omega) _, fV.set 3 _⟩
  case fina =>
    intro x vs u4 hl hF hs
    obtain ⟨v0, v1, v2, v3, v4, v5, rfl⟩ : ∃ v0 v1 v2 v3 v4 v5, vs = [v0, v1, v2, v3, v4, v5] := by match vs, hl with | [v0, v1, v2, v3, v4, v5], _ => exact ⟨_, _, _, _, _, _, rfl⟩
    obtain ⟨f1, f2, f3, x2, l2, x3, l3, x4, l4, HQ2, rfl, HQ3, rfl, HQ4, rfl, fR, fV⟩ := hF
    clear hs hl hV1 hA2 hR1 hCC1 hK2
    have hAc := f2.cell
    have hAf := f2.frozen
    have hAl := f2.lt
    have hVc := fV.cell
    have hVl := fV.lt
    go_wp2_with fail
    refine ends_cell rfl rfl rfl ((((((f2).set 0 _).set 1 _).set 2 _).set 3 _)) Tryz.underlying82 rfl (by kernel_rfl) ?_
    refine Rds.reads (((((f1).setNew (p := ⟨w.heap.size, 0, none⟩) (by simp) _).setNew (p := ⟨w.heap.size, 1, none⟩) (by simp) _).setNew (p := ⟨w.heap.size, 2, none⟩) (by simp) _).setNew (p := ⟨w.heap.size, 3, none⟩) (by simp) _) (x := ⟨x1, x2, x3, x4⟩) (l := l4) (by rw [← HT.out]; simp only [rdVar, rdMap, HP1.out, HQ2.out, HQ3.out, HQ4.out]) ⟨rfl, Nat.le_trans HX1.out (by unfold maxLen; omega)⟩ (((((fR).setFar (p := ⟨w.heap.size, 0, none⟩) (by simp; omega) (by have := HWl.out; simp; omega) _).setFar (p := ⟨w.heap.size, 1, none⟩) (by simp; omega) (by have := HWl.out; simp; omega) _).setFar (p := ⟨w.heap.size, 2, none⟩) (by simp; omega) (by have := HWl.out; simp; omega) _).setFar (p := ⟨w.heap.size, 3, none⟩) (by simp; omega) (by have := HWl.out; simp; omega) _)
set_option maxRecDepth 100000 in
set_option maxHeartbeats 4000000 in
theorem ins_any {W w : World} {S : Nat} {l : List UInt8} (h : RdAt W w S l) (_hs : l.length ≤ 100000000) {K : Nat} (hK : Blk w K #[.pointer (some ⟨S, 0, none⟩)] 134) (hKS : K ≠ S) :
    Calls Tryz.prog 75 #[.pointer (some ⟨K, 0, none⟩)] w (Rds (fun x v w' => VIns x v (hide (below w.heap.size) w')) W w S (rdIns l)) := by
  have hSl := h.lt
  have HWl := Lib.hid (show W.heap.size ≤ w.heap.size from h.ext.size)
  obtain ⟨T, hT⟩ : ∃ T, rdIns l = T := ⟨_, rfl⟩
  have HT := Lib.hid hT
  rw [hT]
  have HC1 := Lib.hid (num_any (h.alloc (.cells #[.int .i64 0, .int .i64 0, .int .i64 0, .int .i64 0, .int .i64 0] 98)))
  have hA0 := Blk.made w #[.int .i64 0, .int .i64 0, .int .i64 0, .int .i64 0, .int .i64 0] 98
  have hC0 : Chg (fun i => i = S) w (w.alloc (.cells #[.int .i64 0, .int .i64 0, .int .i64 0, .int .i64 0, .int .i64 0] 98)) := (Chg.refl _ _).alloc _
  have hK0 := hK.alloc (.cells #[.int .i64 0, .int .i64 0, .int .i64 0, .int .i64 0, .int .i64 0] 98)
  have hKl := hK.lt
  have hKc := hK0.cell
  clear hK
  clear h hT
  go_enter Tryz.func75, Tryz.ntmps75
  go_wp2_with fail
  refine HC1.out.mono ?_
  rintro e w1 hr
  rcases hr.cases with ⟨hC1, ⟨hp, rfl⟩ | ⟨x1, l1, v, hp, rfl, rfl, hR1⟩⟩
  · have HF := Lib.hid (show T = none by rw [← HT.out]; simp only [rdIns, rdMap, hp])
    clear hr hp HC1
    go_wp2_with fail
    exact ⟨rfl, Rds.fails (hC0.then hC1) HF.out⟩
  have HP1 := Lib.hid hp
  have hA1 := hA0.chg hC1 (by omega)
  have hCC1 := hC0.then hC1
  have hK1 := hK0.chg hC1 (by omega)
  clear hr hp HC1 hA0 hC0 hC1 hK0 hKc
  have hV1 := Blk.made w1 #[.int .i64 x1, .int .i64 0, .int .i64 0, .int .i64 0, .int .i64 0] 98
  have hA1l := hA1.lt
  have hA2 := hA1.alloc (.cells #[.int .i64 x1, .int .i64 0, .int .i64 0, .int .i64 0, .int .i64 0] 98)
  have hR1 := hR1.alloc (.cells #[.int .i64 x1, .int .i64 0, .int .i64 0, .int .i64 0, .int .i64 0] 98)
  have hCC1 := hCC1.alloc (.cells #[.int .i64 x1, .int .i64 0, .int .i64 0, .int .i64 0, .int .i64 0] 98)
  have hK2 := hK1.alloc (.cells #[.int .i64 x1, .int .i64 0, .int .i64 0, .int .i64 0, .int .i64 0] 98)
  obtain ⟨V, hVe⟩ : ∃ V, w1.heap.size = V := ⟨_, rfl⟩
  rw [hVe] at hV1 hA1l
  clear hA1 hK1
  go_upto_region 2 with (fail)
  generalize w1.alloc (.cells #[.int .i64 x1, .int .i64 0, .int .i64 0, .int .i64 0, .int .i64 0] 98) = u0 at *
  refine wp_region_chain [1, 3, 5, 7, 9, 11] [.pointer (some ⟨S, 0, none⟩), undef, .pointer (some ⟨S, 0, none⟩), undef, .pointer (some ⟨S, 0, none⟩), undef, .pointer (some ⟨V, 1, none⟩), undef, .pointer (some ⟨V, 2, none⟩), undef, .pointer (some ⟨V, 3, none⟩), undef] (fun vs u => Chg (fun i => i = S) w u ∧ Blk u w.heap.size #[.int .i64 0, .int .i64 0, .int .i64 0, .int .i64 0, .int .i64 0] 98 ∧ Blk u K #[.pointer (some ⟨S, 0, none⟩)] 134 ∧ (match vs with
    | [] => RdAt W u S l1 ∧ Blk u V #[.int .i64 x1, .int .i64 0, .int .i64 0, .int .i64 0, .int .i64 0] 98
    | [v0] => ∃ (x2 : Int) (l2 : List UInt8) , Hid (rdNum l1 = some (x2, l2)) ∧ v0 = .int .i64 x2 ∧ RdAt W u S l2 ∧ Blk u V #[.int .i64 x1, .int .i64 0, .int .i64 0, .int .i64 0, .int .i64 0] 98
    | [v0, v1] => ∃ (x2 : Int) (l2 : List UInt8) (x3 : Int) (l3 : List UInt8) , Hid (rdNum l1 = some (x2, l2)) ∧ v0 = .int .i64 x2 ∧ Hid (rdNum l2 = some (x3, l3)) ∧ v1 = .int .i64 x3 ∧ RdAt W u S l3 ∧ Blk u V #[.int .i64 x1, .int .i64 0, .int .i64 0, .int .i64 0, .int .i64 0] 98
    | [v0, v1, v2] => ∃ (x2 : Int) (l2 : List UInt8) (x3 : Int) (l3 : List UInt8) (x4 : Int) (l4 : List UInt8) , Hid (rdNum l1 = some (x2, l2)) ∧ v0 = .int .i64 x2 ∧ Hid (rdNum l2 = some (x3, l3)) ∧ v1 = .int .i64 x3 ∧ Hid (rdNum l3 = some (x4, l4)) ∧ v2 = .int .i64 x4 ∧ RdAt W u S l4 ∧ Blk u V #[.int .i64 x1, .int .i64 0, .int .i64 0, .int .i64 0, .int .i64 0] 98
    | [v0, v1, v2, _] => ∃ (x2 : Int) (l2 : List UInt8) (x3 : Int) (l3 : List UInt8) (x4 : Int) (l4 : List UInt8) , Hid (rdNum l1 = some (x2, l2)) ∧ v0 = .int .i64 x2 ∧ Hid (rdNum l2 = some (x3, l3)) ∧ v1 = .int .i64 x3 ∧ Hid (rdNum l3 = some (x4, l4)) ∧ v2 = .int .i64 x4 ∧ RdAt W u S l4 ∧ Blk u V #[.int .i64 x1, .int .i64 x2, .int .i64 0, .int .i64 0, .int .i64 0] 98
    | [v0, v1, v2, _, _] => ∃ (x2 : Int) (l2 : List UInt8) (x3 : Int) (l3 : List UInt8) (x4 : Int) (l4 : List UInt8) , Hid (rdNum l1 = some (x2, l2)) ∧ v0 = .int .i64 x2 ∧ Hid (rdNum l2 = some (x3, l3)) ∧ v1 = .int .i64 x3 ∧ Hid (rdNum l3 = some (x4, l4)) ∧ v2 = .int .i64 x4 ∧ RdAt W u S l4 ∧ Blk u V #[.int .i64 x1, .int .i64 x2, .int .i64 x3, .int .i64 0, .int .i64 0] 98
    | [v0, v1, v2, _, _, _] => ∃ (x2 : Int) (l2 : List UInt8) (x3 : Int) (l3 : List UInt8) (x4 : Int) (l4 : List UInt8) , Hid (rdNum l1 = some (x2, l2)) ∧ v0 = .int .i64 x2 ∧ Hid (rdNum l2 = some (x3, l3)) ∧ v1 = .int .i64 x3 ∧ Hid (rdNum l3 = some (x4, l4)) ∧ v2 = .int .i64 x4 ∧ RdAt W u S l4 ∧ Blk u V #[.int .i64 x1, .int .i64 x2, .int .i64 x3, .int .i64 x4, .int .i64 0] 98
    | _ => False
    )) (frame := ?fraa) (fun x => ?hfaa) mixed (by kernel_rfl) ?h0a ?staa ?fina
  case hfaa =>
    simp only [chain.frameOf, chain.fill, chain.setOpt, chain.dstOf, List.size_toArray, List.length_cons, List.length_nil, List.getElem?_toArray, List.getElem?_cons_succ, List.getElem?_cons_zero, List.setIfInBounds_toArray, List.set_cons_succ, List.set_cons_zero]
    exact rfl
  case h0a => exact ⟨hCC1.drew, hA2.drew, hK2.drew, hR1.drew, hV1.drew⟩
  case staa =>
    refine AllFrom.cons (fun x vs u hF hm hd K' hK' => ?sa0) (AllFrom.cons (fun x vs u hF hm hd K' hK' => ?sa1) (AllFrom.cons (fun x vs u hF hm hd K' hK' => ?sa2) (AllFrom.cons (fun x vs u hF hm hd K' hK' => ?sa3) (AllFrom.cons (fun x vs u hF hm hd K' hK' => ?sa4) (AllFrom.cons (fun x vs u hF hm hd K' hK' => ?sa5) (AllFrom.cons (fun x vs u hF hm hd K' hK' => ?sa6) (AllFrom.cons (fun x vs u hF hm hd K' hK' => ?sa7) (AllFrom.cons (fun x vs u hF hm hd K' hK' => ?sa8) (AllFrom.cons (fun x vs u hF hm hd K' hK' => ?sa9) (AllFrom.cons (fun x vs u hF hm hd K' hK' => ?sa10) (AllFrom.cons (fun x vs u hF hm hd K' hK' => ?sa11) AllFrom.nil)))))))))))
    case sa0 =>
      have hKc := hF.2.2.1.cell
      clear hd hm hF
      go_simp
      exact hK'.out _ _ _ rfl ⟨rfl, rfl⟩
    case sa1 =>
      have y : x 6 = .pointer (some ⟨S, 0, none⟩) := hd 0 _ (by decide) (by kernel_rfl) (by kernel_rfl)
      obtain rfl := List.eq_nil_of_length_eq_zero (hm 0 (by kernel_rfl))
      obtain ⟨f1, f2, f3, fR, fV⟩ := hF
      clear hd hm
      go_simp
      refine (num_any fR).mono ?_
      rintro e u2 hr
      rcases hr.cases with ⟨hC, ⟨hp, rfl⟩ | ⟨x2, l2, v, hp, rfl, rfl, hR⟩⟩
      · have HF := Lib.hid (show T = none by rw [← HT.out]; simp only [rdIns, rdMap, HP1.out, hp])
        clear hr hp hK'
        have hCP := f1.then hC
        clear f1 f2 f3 fR fV hC
        go_wp2_with fail
        exact ⟨rfl, Rds.fails hCP HF.out⟩
      · exact hK'.out _ _ _ (by simp only [y]; rfl) ⟨f1.then hC, f2.chg hC (by omega), f3.chg hC (by omega), x2, l2, Lib.hid hp, rfl, hR, fV.chg hC (by omega)⟩
    case sa2 =>
      have hKc := hF.2.2.1.cell
      clear hd hm hF
      go_simp
      exact hK'.out _ _ _ rfl ⟨rfl, rfl⟩
    case sa3 =>
      have y : x 8 = .pointer (some ⟨S, 0, none⟩) := hd 2 _ (by decide) (by kernel_rfl) (by kernel_rfl)
      obtain ⟨v0, rfl⟩ : ∃ v0, vs = [v0] := by match vs, hm 1 (by kernel_rfl) with | [v0], _ => exact ⟨_, rfl⟩
      obtain ⟨f1, f2, f3, x2, l2, HQ2, rfl, fR, fV⟩ := hF
      clear hd hm
      go_simp
      refine (num_any fR).mono ?_
      rintro e u2 hr
      rcases hr.cases with ⟨hC, ⟨hp, rfl⟩ | ⟨x3, l3, v, hp, rfl, rfl, hR⟩⟩
      · have HF := Lib.hid (show T = none by rw [← HT.out]; simp only [rdIns, rdMap, HP1.out, HQ2.out, hp])
        clear hr hp hK'
        have hCP := f1.then hC
        clear f1 f2 f3 fR fV hC
        go_wp2_with fail
        exact ⟨rfl, Rds.fails hCP HF.out⟩
      · exact hK'.out _ _ _ (by simp only [y]; rfl) ⟨f1.then hC, f2.chg hC (by omega), f3.chg hC (by omega), x2, l2, x3, l3, HQ2, rfl, Lib.hid hp, rfl, hR, fV.chg hC (by omega)⟩
    case sa4 =>
      have hKc := hF.2.2.1.cell
      clear hd hm hF
      go_simp
      exact hK'.out _ _ _ rfl ⟨rfl, rfl⟩
    case sa5 =>
      have y : x 10 = .pointer (some ⟨S, 0, none⟩) := hd 4 _ (by decide) (by kernel_rfl) (by kernel_rfl)
      obtain ⟨v0, v1, rfl⟩ : ∃ v0 v1, vs = [v0, v1] := by match vs, hm 2 (by kernel_rfl) with | [v0, v1], _ => exact ⟨_, _, rfl⟩
      obtain ⟨f1, f2, f3, x2, l2, x3, l3, HQ2, rfl, HQ3, rfl, fR, fV⟩ := hF
      clear hd hm
      go_simp
      refine (num_any fR).mono ?_
      rintro e u2 hr
      rcases hr.cases with ⟨hC, ⟨hp, rfl⟩ | ⟨x4, l4, v, hp, rfl, rfl, hR⟩⟩
      · have HF := Lib.hid (show T = none by rw [← HT.out]; simp only [rdIns, rdMap, HP1.out, HQ2.out, HQ3.out, hp])
        clear hr hp hK'
        have hCP := f1.then hC
        clear f1 f2 f3 fR fV hC
        go_wp2_with fail
        exact ⟨rfl, Rds.fails hCP HF.out⟩
      · exact hK'.out _ _ _ (by simp only [y]; rfl) ⟨f1.then hC, f2.chg hC (by omega), f3.chg hC (by omega), x2, l2, x3, l3, x4, l4, HQ2, rfl, HQ3, rfl, Lib.hid hp, rfl, hR, fV.chg hC (by omega)⟩
    case sa6 =>
      clear hd hm hF
      go_simp
      exact hK'.out _ _ _ rfl ⟨rfl, rfl⟩
    case sa7 =>
      have y : x 12 = .pointer (some ⟨V, 1, none⟩) := hd 6 _ (by decide) (by kernel_rfl) (by kernel_rfl)
      have z := hd 1 7 (by decide) (by kernel_rfl) (by kernel_rfl)
      obtain ⟨v0, v1, v2, rfl⟩ : ∃ v0 v1 v2, vs = [v0, v1, v2] := by match vs, hm 3 (by kernel_rfl) with | [v0, v1, v2], _ => exact ⟨_, _, _, rfl⟩
      obtain ⟨f1, f2, f3, x2, l2, x3, l3, x4, l4, HQ2, rfl, HQ3, rfl, HQ4, rfl, fR, fV⟩ := hF
      replace z : x 7 = .int .i64 x2 := z
      have hVc := fV.cell
      have hVf := fV.frozen
      have hVl := fV.lt
      clear hd hm
      go_simp
      exact hK'.out _ _ undef (by simp only [y, z]; rfl) ⟨f1.setNew (p := ⟨V, 1, none⟩) (by simp; omega) _, f2.setOther (p := ⟨V, 1, none⟩) (by show _ ≠ V; omega) _, f3.setOther (p := ⟨V, 1, none⟩) (by show _ ≠ V; omega) _, x2, l2, x3, l3, x4, l4, HQ2, rfl, HQ3, rfl, HQ4, rfl, fR.setFar (p := ⟨V, 1, none⟩) (by show V ≠ _; omega) (by have := HWl.out; simp; omega) _, fV.set 1 _⟩
    case sa8 =>
      clear hd hm hF
      go_simp
      exact hK'.out _ _ _ rfl ⟨rfl, rfl⟩
    case sa9 =>
      have y : x 13 = .pointer (some ⟨V, 2, none⟩) := hd 8 _ (by decide) (by kernel_rfl) (by kernel_rfl)
      have z := hd 3 9 (by decide) (by kernel_rfl) (by kernel_rfl)
      obtain ⟨v0, v1, v2, v3, rfl⟩ : ∃ v0 v1 v2 v3, vs = [v0, v1, v2, v3] := by match vs, hm 4 (by kernel_rfl) with | [v0, v1, v2, v3], _ => exact ⟨_, _, _, _, rfl⟩
      obtain ⟨f1, f2, f3, x2, l2, x3, l3, x4, l4, HQ2, rfl, HQ3, rfl, HQ4, rfl, fR, fV⟩ := hF
      replace z : x 9 = .int .i64 x3 := z
      have hVc := fV.cell
      have hVf := fV.frozen
      have hVl := fV.lt
      clear hd hm
      go_simp
      exact hK'.out _ _ undef (by simp only [y, z]; rfl) ⟨f1.setNew (p := ⟨V, 2, none⟩) (by simp; omega) _, f2.setOther (p := ⟨V, 2, none⟩) (by show _ ≠ V; omega) _, f3.setOther (p := ⟨V, 2, none⟩) (by show _ ≠ V; omega) _, x2, l2, x3, l3, x4, l4, HQ2, rfl, HQ3, rfl, HQ4, rfl, fR.setFar (p := ⟨V, 2, none⟩) (by show V ≠ _; omega) (by have := HWl.out; simp; omega) _, fV.set 2 _⟩
    case sa10 =>
      clear hd hm hF
      go_simp
      exact hK'.out _ _ _ rfl ⟨rfl, rfl⟩
    case sa11 =>
      have y : x 14 = .pointer (some ⟨V, 3, none⟩) := hd 10 _ (by decide) (by kernel_rfl) (by kernel_rfl)
      have z := hd 5 11 (by decide) (by kernel_rfl) (by kernel_rfl)
      obtain ⟨v0, v1, v2, v3, v4, rfl⟩ : ∃ v0 v1 v2 v3 v4, vs = [v0, v1, v2, v3, v4] := by match vs, hm 5 (by kernel_rfl) with | [v0, v1, v2, v3, v4], _ => exact ⟨_, _, _, _, _, rfl⟩
      obtain ⟨f1, f2, f3, x2, l2, x3, l3, x4, l4, HQ2, rfl, HQ3, rfl, HQ4, rfl, fR, fV⟩ := hF
      replace z : x 11 = .int .i64 x4 := z
      have hVc := fV.cell
      have hVf := fV.frozen
      have hVl := fV.lt
      clear hd hm
      go_simp
      exact hK'.out _ _ undef (by simp only [y, z]; rfl) ⟨f1.setNew (p := ⟨V, 3, none⟩) (by simp; omega) _, f2.setOther (p := ⟨V, 3, none⟩) (by show _ ≠ V; omega) _, f3.setOther (p := ⟨V, 3, none⟩) (by show _ ≠ V; omega) _, x2, l2, x3, l3, x4, l4, HQ2, rfl, HQ3, rfl, HQ4, rfl, fR.setFar (p := ⟨V, 3, none⟩) (by show V ≠ _; omega) (by have := HWl.out; simp; omega) _, fV.set 3 _⟩
  case fina =>
    intro x vs u4 hl hF hs
    obtain ⟨v0, v1, v2, v3, v4, v5, rfl⟩ : ∃ v0 v1 v2 v3 v4 v5, vs = [v0, v1, v2, v3, v4, v5] := by match vs, hl with | [v0, v1, v2, v3, v4, v5], _ => exact ⟨_, _, _, _, _, _, rfl⟩
    obtain ⟨f1, f2, f3, x2, l2, x3, l3, x4, l4, HQ2, rfl, HQ3, rfl, HQ4, rfl, fR, fV⟩ := hF
    clear hs hl hV1 hA2 hR1 hCC1 hK2
    have HP2 := HQ2
    have HP3 := HQ3
    have HP4 := HQ4
    clear HQ2 HQ3 HQ4
    have HC5 := Lib.hid (wide_any fR)
    have hKc := f3.cell
    go_wp2_with fail
    refine HC5.out.mono ?_
    rintro e w5 hr
    rcases hr.cases with ⟨hC5, ⟨hp, rfl⟩ | ⟨x5, l5, v, hp, rfl, rfl, hR5⟩⟩
    · have HF := Lib.hid (show T = none by rw [← HT.out]; simp only [rdIns, rdMap, HP1.out, HP2.out, HP3.out, HP4.out, hp])
      clear hr hp HC5
      go_wp2_with fail
      exact ⟨rfl, Rds.fails (f1.then hC5) HF.out⟩
    have HP5 := Lib.hid hp
    have hV5 := fV.chg hC5 (by omega)
    have hA6 := f2.chg hC5 (by omega)
    have hCC5 := f1.then hC5
    have hK6 := f3.chg hC5 (by omega)
    clear hKc
    have hKc := hK6.cell
    have hVc := hV5.cell
    have hVf := hV5.frozen
    have hVl := hV5.lt
    clear hr hp HC5
    clear hC5
    have hAc := hA6.cell
    have hAf := hA6.frozen
    have hAl := hA6.lt
    go_wp2_with fail
    refine ends_cell rfl rfl rfl (((((((hA6.setOther (p := ⟨V, 4, none⟩) (by show _ ≠ V; omega) _).set 0 _).set 1 _).set 2 _).set 3 _).set 4 _)) Tryz.underlying98 rfl (by kernel_rfl) ?_
    refine Rds.reads ((((((hCC5.setNew (p := ⟨V, 4, none⟩) (by simp; omega) _).setNew (p := ⟨w.heap.size, 0, none⟩) (by simp) _).setNew (p := ⟨w.heap.size, 1, none⟩) (by simp) _).setNew (p := ⟨w.heap.size, 2, none⟩) (by simp) _).setNew (p := ⟨w.heap.size, 3, none⟩) (by simp) _).setNew (p := ⟨w.heap.size, 4, none⟩) (by simp) _) (x := ⟨x1, x2, x3, x4, x5⟩) (l := l5) (by rw [← HT.out]; simp only [rdIns, rdMap, HP1.out, HP2.out, HP3.out, HP4.out, HP5.out]) (by unfold VIns; rfl) ((((((hR5.setFar (p := ⟨V, 4, none⟩) (by simp; omega) (by have := HWl.out; simp; omega) _).setFar (p := ⟨w.heap.size, 0, none⟩) (by simp; omega) (by have := HWl.out; simp; omega) _).setFar (p := ⟨w.heap.size, 1, none⟩) (by simp; omega) (by have := HWl.out; simp; omega) _).setFar (p := ⟨w.heap.size, 2, none⟩) (by simp; omega) (by have := HWl.out; simp; omega) _).setFar (p := ⟨w.heap.size, 3, none⟩) (by simp; omega) (by have := HWl.out; simp; omega) _).setFar (p := ⟨w.heap.size, 4, none⟩) (by simp; omega) (by have := HWl.out; simp; omega) _)
set_option maxRecDepth 100000 in
set_option maxHeartbeats 4000000 in
theorem proc_any {W w : World} {S : Nat} {l : List UInt8} (h : RdAt W w S l) (hs : l.length ≤ 100000000) {K : Nat} (hK : Blk w K #[.pointer (some ⟨S, 0, none⟩)] 134) (hKS : K ≠ S) :
    Calls Tryz.prog 143 #[.pointer (some ⟨K, 0, none⟩)] w (Rds (fun x v w' => VProc x v (hide (below w.heap.size) w')) W w S (rdProc l)) := by
  have hSl := h.lt
  have HWl := Lib.hid (show W.heap.size ≤ w.heap.size from h.ext.size)
  obtain ⟨T, hT⟩ : ∃ T, rdProc l = T := ⟨_, rfl⟩
  have HT := Lib.hid hT
  rw [hT]
  have HC1 := Lib.hid (text_any (h.alloc (.cells #[.string ⟨#[]⟩, .bool false, .slice none 0 0, .int .i64 0, .bool false, .int .i64 0] 179)))
  have hA0 := Blk.made w #[.string ⟨#[]⟩, .bool false, .slice none 0 0, .int .i64 0, .bool false, .int .i64 0] 179
  have hC0 : Chg (fun i => i = S) w (w.alloc (.cells #[.string ⟨#[]⟩, .bool false, .slice none 0 0, .int .i64 0, .bool false, .int .i64 0] 179)) := (Chg.refl _ _).alloc _
  have hK0 := hK.alloc (.cells #[.string ⟨#[]⟩, .bool false, .slice none 0 0, .int .i64 0, .bool false, .int .i64 0] 179)
  have hKl := hK.lt
  have hKc := hK0.cell
  clear hK
  clear h hT
  go_enter Tryz.func143, Tryz.ntmps143
  go_wp2_with fail
  refine HC1.out.mono ?_
  rintro e w1 hr
  rcases hr.cases with ⟨hC1, ⟨hp, rfl⟩ | ⟨x1, l1, v, hp, rfl, ⟨rfl, hx⟩, hR1⟩⟩
  · have HF := Lib.hid (show T = none by rw [← HT.out]; simp only [rdProc, rdMap, hp])
    clear hr hp HC1
    go_wp2_with fail
    exact ⟨rfl, Rds.fails (hC0.then hC1) HF.out⟩
  have HP1 := Lib.hid hp
  have hln1 := text_le _ _ _ hp
  have HX1 := Lib.hid hx
  have hA1 := hA0.chg hC1 (by omega)
  have hCC1 := hC0.then hC1
  have hK1 := hK0.chg hC1 (by omega)
  clear hr hp HC1 hA0 hC0 hC1 hx hK0 hKc
  have hV1 := Blk.made w1 #[.string x1, .bool false, .slice none 0 0, .int .i64 0, .bool false, .int .i64 0] 179
  have hA1l := hA1.lt
  have hA2 := hA1.alloc (.cells #[.string x1, .bool false, .slice none 0 0, .int .i64 0, .bool false, .int .i64 0] 179)
  have hR1 := hR1.alloc (.cells #[.string x1, .bool false, .slice none 0 0, .int .i64 0, .bool false, .int .i64 0] 179)
  have hCC1 := hCC1.alloc (.cells #[.string x1, .bool false, .slice none 0 0, .int .i64 0, .bool false, .int .i64 0] 179)
  have hK2 := hK1.alloc (.cells #[.string x1, .bool false, .slice none 0 0, .int .i64 0, .bool false, .int .i64 0] 179)
  obtain ⟨V, hVe⟩ : ∃ V, w1.heap.size = V := ⟨_, rfl⟩
  rw [hVe] at hV1 hA1l
  clear hA1 hK1
  have HC2 := Lib.hid (truth_any hR1)
  have hKc := hK2.cell
  go_wp2_with fail
  refine HC2.out.mono ?_
  rintro e w2 hr
  rcases hr.cases with ⟨hC2, ⟨hp, rfl⟩ | ⟨x2, l2, v, hp, rfl, rfl, hR2⟩⟩
  · have HF := Lib.hid (show T = none by rw [← HT.out]; simp only [rdProc, rdMap, HP1.out, hp])
    clear hr hp HC2
    go_wp2_with fail
    exact ⟨rfl, Rds.fails (hCC1.then hC2) HF.out⟩
  have HP2 := Lib.hid hp
  have hln2 := truth_le _ _ _ hp
  have hV2 := hV1.chg hC2 (by omega)
  have hA3 := hA2.chg hC2 (by omega)
  have hCC2 := hCC1.then hC2
  have hK3 := hK2.chg hC2 (by omega)
  clear hKc
  have hKc := hK3.cell
  have hVc := hV2.cell
  have hVf := hV2.frozen
  have hVl := hV2.lt
  clear hr hp HC2
  clear hC2
  have hV2s : Blk (w2.setCell ⟨V, 1, none⟩ (.bool x2)) V #[.string x1, .bool x2, .slice none 0 0, .int .i64 0, .bool false, .int .i64 0] 179 := hV2.set 1 _
  have hA3s := hA3.setOther (p := ⟨V, 1, none⟩) (by first | omega | (simp; omega)) (.bool x2)
  have hR2s : RdAt W (w2.setCell ⟨V, 1, none⟩ (.bool x2)) S l2 := hR2.chg ((Chg.refl (fun i => i = V) w2).setCell (p := ⟨V, 1, none⟩) (fun _ => rfl) _) (by omega) (fun i hi => by have := HWl.out; omega)
  have hCC2s := hCC2.setNew (p := ⟨V, 1, none⟩) (by first | omega | (simp; omega)) (.bool x2)
  have hK3s := hK3.setOther (p := ⟨V, 1, none⟩) (by first | omega | (simp; omega)) (.bool x2)
  have HC3 := Lib.hid (items_int hR2s (by omega) rdNum num_le (fun u r hu _ _ => num_int hu))
  have hKc := hK3s.cell
  go_wp2_with fail
  refine HC3.out.mono ?_
  rintro e w3 hr
  rcases hr.cases with ⟨hC3, ⟨hp, rfl⟩ | ⟨x3, l3, v, hp, rfl, ⟨a3, c3, rfl, hle3, hcm3, hall3⟩, hR3⟩⟩
  · have HF := Lib.hid (show T = none by rw [← HT.out]; simp only [rdProc, rdMap, HP1.out, HP2.out, hp])
    clear hr hp HC3
    go_wp2_with fail
    exact ⟨rfl, Rds.fails (hCC2s.then hC3) HF.out⟩
  have HP3 := Lib.hid hp
  have hln3 := items_le num_le _ _ _ hp
  have hV3 := hV2s.chg hC3 (by omega)
  have hA4 := hA3s.chg hC3 (by omega)
  have hCC3 := hCC2s.then hC3
  have hK4 := hK3s.chg hC3 (by omega)
  clear hKc
  have hKc := hK4.cell
  have hVc := hV3.cell
  have hVf := hV3.frozen
  have hVl := hV3.lt
  clear hr hp HC3
  have hI3_3 : AllIn 1 IntIn (hide (below (V + 1)) w3) a3 x3 := allin_low (In := IntIn) (fun hk _ _ _ => IntIn.keeps hk) hall3 (by have := hV2s.lt; omega)
  clear hC3 hall3
  have hV3s : Blk (w3.setCell ⟨V, 2, none⟩ (.slice a3 x3.length c3)) V #[.string x1, .bool x2, .slice a3 x3.length c3, .int .i64 0, .bool false, .int .i64 0] 179 := hV3.set 2 _
  have hA4s := hA4.setOther (p := ⟨V, 2, none⟩) (by first | omega | (simp; omega)) (.slice a3 x3.length c3)
  have hR3s : RdAt W (w3.setCell ⟨V, 2, none⟩ (.slice a3 x3.length c3)) S l3 := hR3.chg ((Chg.refl (fun i => i = V) w3).setCell (p := ⟨V, 2, none⟩) (fun _ => rfl) _) (by omega) (fun i hi => by have := HWl.out; omega)
  have hCC3s := hCC3.setNew (p := ⟨V, 2, none⟩) (by first | omega | (simp; omega)) (.slice a3 x3.length c3)
  have hK4s := hK4.setOther (p := ⟨V, 2, none⟩) (by first | omega | (simp; omega)) (.slice a3 x3.length c3)
  have hI3_3s := allin_set (In := IntIn) (B := V + 1) (p := ⟨V, 2, none⟩) (fun hk _ _ _ => IntIn.keeps hk) hI3_3 (by simp) (.slice a3 x3.length c3)
  have HC4 := Lib.hid (num_any hR3s)
  have hKc := hK4s.cell
  go_wp2_with fail
  refine HC4.out.mono ?_
  rintro e w4 hr
  rcases hr.cases with ⟨hC4, ⟨hp, rfl⟩ | ⟨x4, l4, v, hp, rfl, rfl, hR4⟩⟩
  · have HF := Lib.hid (show T = none by rw [← HT.out]; simp only [rdProc, rdMap, HP1.out, HP2.out, HP3.out, hp])
    clear hr hp HC4
    go_wp2_with fail
    exact ⟨rfl, Rds.fails (hCC3s.then hC4) HF.out⟩
  have HP4 := Lib.hid hp
  have hln4 := num_le _ _ _ hp
  have hV4 := hV3s.chg hC4 (by omega)
  have hA5 := hA4s.chg hC4 (by omega)
  have hCC4 := hCC3s.then hC4
  have hK5 := hK4s.chg hC4 (by omega)
  clear hKc
  have hKc := hK5.cell
  have hVc := hV4.cell
  have hVf := hV4.frozen
  have hVl := hV4.lt
  clear hr hp HC4
  have hI3_4 := allin_chg (In := IntIn) (fun hk _ _ _ => IntIn.keeps hk) hI3_3s hC4 (fun i hi => by omega)
  clear hC4
  have hV4s : Blk (w4.setCell ⟨V, 3, none⟩ (.int .i64 x4)) V #[.string x1, .bool x2, .slice a3 x3.length c3, .int .i64 x4, .bool false, .int .i64 0] 179 := hV4.set 3 _
  have hA5s := hA5.setOther (p := ⟨V, 3, none⟩) (by first | omega | (simp; omega)) (.int .i64 x4)
  have hR4s : RdAt W (w4.setCell ⟨V, 3, none⟩ (.int .i64 x4)) S l4 := hR4.chg ((Chg.refl (fun i => i = V) w4).setCell (p := ⟨V, 3, none⟩) (fun _ => rfl) _) (by omega) (fun i hi => by have := HWl.out; omega)
  have hCC4s := hCC4.setNew (p := ⟨V, 3, none⟩) (by first | omega | (simp; omega)) (.int .i64 x4)
  have hK5s := hK5.setOther (p := ⟨V, 3, none⟩) (by first | omega | (simp; omega)) (.int .i64 x4)
  have hI3_4s := allin_set (In := IntIn) (B := V + 1) (p := ⟨V, 3, none⟩) (fun hk _ _ _ => IntIn.keeps hk) hI3_4 (by simp) (.int .i64 x4)
  have HC5 := Lib.hid (truth_any hR4s)
  have hKc := hK5s.cell
  go_wp2_with fail
  refine HC5.out.mono ?_
  rintro e w5 hr
  rcases hr.cases with ⟨hC5, ⟨hp, rfl⟩ | ⟨x5, l5, v, hp, rfl, rfl, hR5⟩⟩
  · have HF := Lib.hid (show T = none by rw [← HT.out]; simp only [rdProc, rdMap, HP1.out, HP2.out, HP3.out, HP4.out, hp])
    clear hr hp HC5
    go_wp2_with fail
    exact ⟨rfl, Rds.fails (hCC4s.then hC5) HF.out⟩
  have HP5 := Lib.hid hp
  have hln5 := truth_le _ _ _ hp
  have hV5 := hV4s.chg hC5 (by omega)
  have hA6 := hA5s.chg hC5 (by omega)
  have hCC5 := hCC4s.then hC5
  have hK6 := hK5s.chg hC5 (by omega)
  clear hKc
  have hKc := hK6.cell
  have hVc := hV5.cell
  have hVf := hV5.frozen
  have hVl := hV5.lt
  clear hr hp HC5
  have hI3_5 := allin_chg (In := IntIn) (fun hk _ _ _ => IntIn.keeps hk) hI3_4s hC5 (fun i hi => by omega)
  clear hC5
  have hV5s : Blk (w5.setCell ⟨V, 4, none⟩ (.bool x5)) V #[.string x1, .bool x2, .slice a3 x3.length c3, .int .i64 x4, .bool x5, .int .i64 0] 179 := hV5.set 4 _
  have hA6s := hA6.setOther (p := ⟨V, 4, none⟩) (by first | omega | (simp; omega)) (.bool x5)
  have hR5s : RdAt W (w5.setCell ⟨V, 4, none⟩ (.bool x5)) S l5 := hR5.chg ((Chg.refl (fun i => i = V) w5).setCell (p := ⟨V, 4, none⟩) (fun _ => rfl) _) (by omega) (fun i hi => by have := HWl.out; omega)
  have hCC5s := hCC5.setNew (p := ⟨V, 4, none⟩) (by first | omega | (simp; omega)) (.bool x5)
  have hK6s := hK6.setOther (p := ⟨V, 4, none⟩) (by first | omega | (simp; omega)) (.bool x5)
  have hI3_5s := allin_set (In := IntIn) (B := V + 1) (p := ⟨V, 4, none⟩) (fun hk _ _ _ => IntIn.keeps hk) hI3_5 (by simp) (.bool x5)
  have HC6 := Lib.hid (num_any hR5s)
  have hKc := hK6s.cell
  go_wp2_with fail
  refine HC6.out.mono ?_
  rintro e w6 hr
  rcases hr.cases with ⟨hC6, ⟨hp, rfl⟩ | ⟨x6, l6, v, hp, rfl, rfl, hR6⟩⟩
  · have HF := Lib.hid (show T = none by rw [← HT.out]; simp only [rdProc, rdMap, HP1.out, HP2.out, HP3.out, HP4.out, HP5.out, hp])
    clear hr hp HC6
    go_wp2_with fail
    exact ⟨rfl, Rds.fails (hCC5s.then hC6) HF.out⟩
  have HP6 := Lib.hid hp
  have hln6 := num_le _ _ _ hp
  have hV6 := hV5s.chg hC6 (by omega)
  have hA7 := hA6s.chg hC6 (by omega)
  have hCC6 := hCC5s.then hC6
  have hK7 := hK6s.chg hC6 (by omega)
  clear hKc
  have hKc := hK7.cell
  have hVc := hV6.cell
  have hVf := hV6.frozen
  have hVl := hV6.lt
  clear hr hp HC6
  have hI3_6 := allin_chg (In := IntIn) (fun hk _ _ _ => IntIn.keeps hk) hI3_5s hC6 (fun i hi => by omega)
  clear hC6
  have hAc := hA7.cell
  have hAf := hA7.frozen
  have hAl := hA7.lt
  go_wp2_with fail
  refine ends_cell rfl rfl rfl ((((((((hA7.setOther (p := ⟨V, 5, none⟩) (by show _ ≠ V; omega) _).set 0 _).set 1 _).set 2 _).set 3 _).set 4 _).set 5 _)) Tryz.underlying179 rfl (by kernel_rfl) ?_
  refine Rds.reads (((((((hCC6.setNew (p := ⟨V, 5, none⟩) (by simp; omega) _).setNew (p := ⟨w.heap.size, 0, none⟩) (by simp) _).setNew (p := ⟨w.heap.size, 1, none⟩) (by simp) _).setNew (p := ⟨w.heap.size, 2, none⟩) (by simp) _).setNew (p := ⟨w.heap.size, 3, none⟩) (by simp) _).setNew (p := ⟨w.heap.size, 4, none⟩) (by simp) _).setNew (p := ⟨w.heap.size, 5, none⟩) (by simp) _) (x := ⟨x1, x2, x3, x4, x5, x6⟩) (l := l6) (by rw [← HT.out]; simp only [rdProc, rdMap, HP1.out, HP2.out, HP3.out, HP4.out, HP5.out, HP6.out]) ⟨a3, c3, rfl, allin_low (In := IntIn) (fun hk _ _ _ => IntIn.keeps hk) (allin_set (In := IntIn) (B := V + 1) (p := ⟨w.heap.size, 5, none⟩) (fun hk _ _ _ => IntIn.keeps hk) (allin_set (In := IntIn) (B := V + 1) (p := ⟨w.heap.size, 4, none⟩) (fun hk _ _ _ => IntIn.keeps hk) (allin_set (In := IntIn) (B := V + 1) (p := ⟨w.heap.size, 3, none⟩) (fun hk _ _ _ => IntIn.keeps hk) (allin_set (In := IntIn) (B := V + 1) (p := ⟨w.heap.size, 2, none⟩) (fun hk _ _ _ => IntIn.keeps hk) (allin_set (In := IntIn) (B := V + 1) (p := ⟨w.heap.size, 1, none⟩) (fun hk _ _ _ => IntIn.keeps hk) (allin_set (In := IntIn) (B := V + 1) (p := ⟨w.heap.size, 0, none⟩) (fun hk _ _ _ => IntIn.keeps hk) (allin_set (In := IntIn) (B := V + 1) (p := ⟨V, 5, none⟩) (fun hk _ _ _ => IntIn.keeps hk) hI3_6 (by simp) _) (by simp; omega) _) (by simp; omega) _) (by simp; omega) _) (by simp; omega) _) (by simp; omega) _) (by simp; omega) _) (by omega), hle3, hcm3, Nat.le_trans HX1.out (by unfold maxLen; omega)⟩ (((((((hR6.setFar (p := ⟨V, 5, none⟩) (by simp; omega) (by have := HWl.out; simp; omega) _).setFar (p := ⟨w.heap.size, 0, none⟩) (by simp; omega) (by have := HWl.out; simp; omega) _).setFar (p := ⟨w.heap.size, 1, none⟩) (by simp; omega) (by have := HWl.out; simp; omega) _).setFar (p := ⟨w.heap.size, 2, none⟩) (by simp; omega) (by have := HWl.out; simp; omega) _).setFar (p := ⟨w.heap.size, 3, none⟩) (by simp; omega) (by have := HWl.out; simp; omega) _).setFar (p := ⟨w.heap.size, 4, none⟩) (by simp; omega) (by have := HWl.out; simp; omega) _).setFar (p := ⟨w.heap.size, 5, none⟩) (by simp; omega) (by have := HWl.out; simp; omega) _)
set_option maxRecDepth 100000 in
set_option maxHeartbeats 4000000 in
theorem face_any {W w : World} {S : Nat} {l : List UInt8} (h : RdAt W w S l) (hs : l.length ≤ 100000000) :
    Calls Tryz.prog 72 #[.pointer (some ⟨S, 0, none⟩)] w (Rds (fun x v w' => VFace x v (hide (below w.heap.size) w')) W w S (rdFace l)) := by
  have hSl := h.lt
  have HWl := Lib.hid (show W.heap.size ≤ w.heap.size from h.ext.size)
  obtain ⟨T, hT⟩ : ∃ T, rdFace l = T := ⟨_, rfl⟩
  have HT := Lib.hid hT
  rw [hT]
  have HC1 := Lib.hid (text_any ((h.alloc (.cells #[.pointer (some ⟨S, 0, none⟩)] 134)).alloc (.cells #[.string ⟨#[]⟩, .slice none 0 0, .slice none 0 0] 52)))
  have hA0 := Blk.made2 w (.cells #[.pointer (some ⟨S, 0, none⟩)] 134) #[.string ⟨#[]⟩, .slice none 0 0, .slice none 0 0] 52
  have hC0 : Chg (fun i => i = S) w ((w.alloc (.cells #[.pointer (some ⟨S, 0, none⟩)] 134)).alloc (.cells #[.string ⟨#[]⟩, .slice none 0 0, .slice none 0 0] 52)) := ((Chg.refl _ _).alloc _).alloc _
  have hK0 := (Blk.made w #[.pointer (some ⟨S, 0, none⟩)] 134).alloc (.cells #[.string ⟨#[]⟩, .slice none 0 0, .slice none 0 0] 52)
  have hKc := hK0.cell
  clear h hT
  go_enter Tryz.func72, Tryz.ntmps72
  go_wp2_with fail
  refine HC1.out.mono ?_
  rintro e w1 hr
  rcases hr.cases with ⟨hC1, ⟨hp, rfl⟩ | ⟨x1, l1, v, hp, rfl, ⟨rfl, hx⟩, hR1⟩⟩
  · have HF := Lib.hid (show T = none by rw [← HT.out]; simp only [rdFace, rdMap, hp])
    clear hr hp HC1
    go_wp2_with fail
    exact ⟨rfl, Rds.fails (hC0.then hC1) HF.out⟩
  have HP1 := Lib.hid hp
  have hln1 := text_le _ _ _ hp
  have HX1 := Lib.hid hx
  have hA1 := hA0.chg hC1 (by omega)
  have hCC1 := hC0.then hC1
  have hK1 := hK0.chg hC1 (by omega)
  clear hr hp HC1 hA0 hC0 hC1 hx hK0 hKc
  have hV1 := Blk.made w1 #[.string x1, .slice none 0 0, .slice none 0 0] 52
  have hA1l := hA1.lt
  have hA2 := hA1.alloc (.cells #[.string x1, .slice none 0 0, .slice none 0 0] 52)
  have hR1 := hR1.alloc (.cells #[.string x1, .slice none 0 0, .slice none 0 0] 52)
  have hCC1 := hCC1.alloc (.cells #[.string x1, .slice none 0 0, .slice none 0 0] 52)
  have hK2 := hK1.alloc (.cells #[.string x1, .slice none 0 0, .slice none 0 0] 52)
  obtain ⟨V, hVe⟩ : ∃ V, w1.heap.size = V := ⟨_, rfl⟩
  rw [hVe] at hV1 hA1l
  clear hA1 hK1
  obtain ⟨K, hKe⟩ : ∃ K, w.heap.size = K := ⟨_, rfl⟩
  obtain ⟨A, hAe⟩ : ∃ A, K + 1 = A := ⟨_, rfl⟩
  rw [hKe, hAe] at hA1l hA2
  rw [hKe] at hK2
  have hKS : K ≠ S := by omega
  have HC2 := Lib.hid (items_var hR1 (by omega) K rdVar var_le (fun u r hu hr hc => var_any hu (by omega) (hK2.chg hc (by omega)) hKS))
  have hKc := hK2.cell
  go_wp2_with fail
  refine HC2.out.mono ?_
  rintro e w2 hr
  rcases hr.cases with ⟨hC2, ⟨hp, rfl⟩ | ⟨x2, l2, v, hp, rfl, ⟨a2, c2, rfl, hle2, hcm2, hall2⟩, hR2⟩⟩
  · have HF := Lib.hid (show T = none by rw [← HT.out]; simp only [rdFace, rdMap, HP1.out, hp])
    clear hr hp HC2
    go_wp2_with fail
    exact ⟨rfl, Rds.fails (hCC1.then hC2) HF.out⟩
  have HP2 := Lib.hid hp
  have hln2 := items_le var_le _ _ _ hp
  have hV2 := hV1.chg hC2 (by omega)
  have hA3 := hA2.chg hC2 (by omega)
  have hCC2 := hCC1.then hC2
  have hK3 := hK2.chg hC2 (by omega)
  clear hKc
  have hKc := hK3.cell
  have hVc := hV2.cell
  have hVf := hV2.frozen
  have hVl := hV2.lt
  clear hr hp HC2
  have hI2_2 : AllIn 4 VarIn (hide (below (V + 1)) w2) a2 x2 := allin_low (In := VarIn) (fun hk _ _ _ => VarIn.keeps hk) hall2 (by have := hV1.lt; omega)
  clear hC2 hall2
  have hV2s : Blk (w2.setCell ⟨V, 1, none⟩ (.slice a2 x2.length c2)) V #[.string x1, .slice a2 x2.length c2, .slice none 0 0] 52 := hV2.set 1 _
  have hA3s := hA3.setOther (p := ⟨V, 1, none⟩) (by first | omega | (simp; omega)) (.slice a2 x2.length c2)
  have hR2s : RdAt W (w2.setCell ⟨V, 1, none⟩ (.slice a2 x2.length c2)) S l2 := hR2.chg ((Chg.refl (fun i => i = V) w2).setCell (p := ⟨V, 1, none⟩) (fun _ => rfl) _) (by omega) (fun i hi => by have := HWl.out; omega)
  have hCC2s := hCC2.setNew (p := ⟨V, 1, none⟩) (by first | omega | (simp; omega)) (.slice a2 x2.length c2)
  have hK3s := hK3.setOther (p := ⟨V, 1, none⟩) (by first | omega | (simp; omega)) (.slice a2 x2.length c2)
  have hI2_2s := allin_set (In := VarIn) (B := V + 1) (p := ⟨V, 1, none⟩) (fun hk _ _ _ => VarIn.keeps hk) hI2_2 (by simp) (.slice a2 x2.length c2)
  have HC3 := Lib.hid (items_proc hR2s (by omega) K rdProc proc_le (fun u r hu hr hc => proc_any hu (by omega) (hK3s.chg hc (by omega)) hKS))
  have hKc := hK3s.cell
  go_wp2_with fail
  refine HC3.out.mono ?_
  rintro e w3 hr
  rcases hr.cases with ⟨hC3, ⟨hp, rfl⟩ | ⟨x3, l3, v, hp, rfl, ⟨a3, c3, rfl, hle3, hcm3, hall3⟩, hR3⟩⟩
  · have HF := Lib.hid (show T = none by rw [← HT.out]; simp only [rdFace, rdMap, HP1.out, HP2.out, hp])
    clear hr hp HC3
    go_wp2_with fail
    exact ⟨rfl, Rds.fails (hCC2s.then hC3) HF.out⟩
  have HP3 := Lib.hid hp
  have hln3 := items_le proc_le _ _ _ hp
  have hV3 := hV2s.chg hC3 (by omega)
  have hA4 := hA3s.chg hC3 (by omega)
  have hCC3 := hCC2s.then hC3
  have hK4 := hK3s.chg hC3 (by omega)
  clear hKc
  have hKc := hK4.cell
  have hVc := hV3.cell
  have hVf := hV3.frozen
  have hVl := hV3.lt
  clear hr hp HC3
  have hI2_3 := allin_chg (In := VarIn) (fun hk _ _ _ => VarIn.keeps hk) hI2_2s hC3 (fun i hi => by omega)
  have hI3_3 : AllIn 6 ProcIn (hide (below (V + 1)) w3) a3 x3 := allin_low (In := ProcIn) (fun hk _ _ _ => ProcIn.keeps hk) hall3 (by have := hV2s.lt; omega)
  clear hC3 hall3
  have hAc := hA4.cell
  have hAf := hA4.frozen
  have hAl := hA4.lt
  go_wp2_with fail
  refine ends_cell rfl rfl rfl (((((hA4.setOther (p := ⟨V, 2, none⟩) (by show _ ≠ V; omega) _).set 0 _).set 1 _).set 2 _)) Tryz.underlying52 rfl (by kernel_rfl) ?_
  refine Rds.reads ((((hCC3.setNew (p := ⟨V, 2, none⟩) (by simp; omega) _).setNew (p := ⟨A, 0, none⟩) (by simp; omega) _).setNew (p := ⟨A, 1, none⟩) (by simp; omega) _).setNew (p := ⟨A, 2, none⟩) (by simp; omega) _) (x := ⟨x1, x2, x3⟩) (l := l3) (by rw [← HT.out]; simp only [rdFace, rdMap, HP1.out, HP2.out, HP3.out]) ⟨a2, c2, a3, c3, rfl, allin_low (In := VarIn) (fun hk _ _ _ => VarIn.keeps hk) (allin_set (In := VarIn) (B := V + 1) (p := ⟨A, 2, none⟩) (fun hk _ _ _ => VarIn.keeps hk) (allin_set (In := VarIn) (B := V + 1) (p := ⟨A, 1, none⟩) (fun hk _ _ _ => VarIn.keeps hk) (allin_set (In := VarIn) (B := V + 1) (p := ⟨A, 0, none⟩) (fun hk _ _ _ => VarIn.keeps hk) (allin_set (In := VarIn) (B := V + 1) (p := ⟨V, 2, none⟩) (fun hk _ _ _ => VarIn.keeps hk) hI2_3 (by simp) _) (by simp; omega) _) (by simp; omega) _) (by simp; omega) _) (by omega), allin_low (In := ProcIn) (fun hk _ _ _ => ProcIn.keeps hk) (allin_set (In := ProcIn) (B := V + 1) (p := ⟨A, 2, none⟩) (fun hk _ _ _ => ProcIn.keeps hk) (allin_set (In := ProcIn) (B := V + 1) (p := ⟨A, 1, none⟩) (fun hk _ _ _ => ProcIn.keeps hk) (allin_set (In := ProcIn) (B := V + 1) (p := ⟨A, 0, none⟩) (fun hk _ _ _ => ProcIn.keeps hk) (allin_set (In := ProcIn) (B := V + 1) (p := ⟨V, 2, none⟩) (fun hk _ _ _ => ProcIn.keeps hk) hI3_3 (by simp) _) (by simp; omega) _) (by simp; omega) _) (by simp; omega) _) (by omega), Nat.le_trans HX1.out (by unfold maxLen; omega), hle2, hcm2, hle3, hcm3⟩ ((((hR3.setFar (p := ⟨V, 2, none⟩) (by simp; omega) (by have := HWl.out; simp; omega) _).setFar (p := ⟨A, 0, none⟩) (by simp; omega) (by have := HWl.out; simp; omega) _).setFar (p := ⟨A, 1, none⟩) (by simp; omega) (by have := HWl.out; simp; omega) _).setFar (p := ⟨A, 2, none⟩) (by simp; omega) (by have := HWl.out; simp; omega) _)
end getw
end Go.Proofs.YtpcihajmcejliabGreatDoor
