/- The walk of the program's reader: its lists. -/
import Derived.Test.YtpcihajmcejliabGreatDoorGetA
import Derived.Deep.AppendLies
import Derived.OwnWalk
namespace Go.Proofs.YtpcihajmcejliabGreatDoor
open Go.RowKit
/-- what has been read, ahead of what is read on -/
def rdPre {α : Type} (xs : List α) : Option (List α × List UInt8) → Option (List α × List UInt8)
  | none => none
  | some (ys, r) => some (xs ++ ys, r)
namespace getm
theorem pre_nil {α : Type} (o : Option (List α × List UInt8)) : rdPre [] o = o := by
  cases o <;> rfl
theorem pre_none {α : Type} {xs : List α} {o : Option (List α × List UInt8)} (h : o = none) : rdPre xs o = none := by subst h; rfl
theorem many_none {α : Type} {p : Prs α} {q : Nat} {r : List UInt8} (h : p r = none) : rdMany p (q + 1) r = none := by unfold rdMany; rw [h]
theorem pre_some {α : Type} {p : Prs α} {q : Nat} {r r2 : List UInt8} {xs : List α} {x : α} (h : p r = some (x, r2)) : rdPre xs (rdMany p (q + 1) r) = rdPre (xs ++ [x]) (rdMany p q r2) := by
  have e : rdMany p (q + 1) r = match rdMany p q r2 with
      | none => none
      | some (xs, r2) => some (x :: xs, r2) := by
    conv => lhs; unfold rdMany
    rw [h]
    rfl
  rw [e]
  cases rdMany p q r2 with
  | none => rfl
  | some o => obtain ⟨ys, r3⟩ := o; simp [rdPre]
theorem pre_end {α : Type} {p : Prs α} (xs : List α) (r : List UInt8) : rdPre xs (rdMany p 0 r) = some (xs, r) := by simp [rdPre, rdMany]
end getm
namespace getw
theorem news_at {w : World} {cs : List Value} {c : Array Value} {t : TypeId} {k : Nat} (hs : w.heap.size = k) (hc : c = cs.toArray) : ∀ j u, cs[j]? = some u → (w.alloc (.cells c t)).cell? ((⟨k, 0, none⟩ : Addr).add j) = some u := by
  subst hs hc
  intro j u hj
  have e : (⟨w.heap.size, 0, none⟩ : Addr).add j = ⟨w.heap.size, j, none⟩ := by unfold Addr.add; split <;> simp_all
  rw [e, (Blk.made w cs.toArray t).cell]
  simpa using hj
theorem grow_step {α : Type} {k m : Nat} {E : TypeId} {V : α → Value → World → Prop} {W w w2 w3 : World} {S : Nat} {r : List UInt8} {s6 : Value} {xs : List α} {x : α} {u : Value} {us : List Value} {news : List Value} {g cap' : Nat} {o : Obj}
    (hSB : S < w.heap.size) (hC : Chg (fun i => i = S) w w2) (hR : RdAt W w2 S r) (h1 : us.length = xs.length)
    (h3 : ∀ j (h : j < xs.length) (h' : j < us.length), V xs[j] us[j] (hide (rowHid w.heap.size s6) w2) ∧ us[j].cells.size = k) (hxs : xs.length = m)
    (hown : w3.ownsRow w.heap.size E k (.slice (some ⟨g, 0, none⟩) (m + 1) cap') (m + 1) (us.flatMap (fun u => u.cells.toList) ++ news)) (hgrow : (w2.alloc o).grownBy w3 s6.ownBlock)
    (hat : s6.ownBlock = some g ∨ g = w2.heap.size + 1) (hB : ∀ i, s6.ownBlock = some i → w.heap.size ≤ i) (hWS : W.heap.size ≤ w.heap.size) (hu : V x u (hide (rowHid w.heap.size s6) w2)) (huk : u.cells.size = k) (hnews : news = u.cells.toList)
    (hV : ∀ x u w w', Keeps w w' → V x u w → V x u w') :
    Grow k E V w.heap.size w3 (.slice (some ⟨g, 0, none⟩) (m + 1) cap') (xs ++ [x]) ∧ Chg (fun i => i = S) w w3 ∧ RdAt W w3 S r := by
  have hb : Chg (fun i => s6.ownBlock = some i) w2 w3 := ((Chg.refl _ w2).alloc o).then ⟨hgrow.os, hgrow.tape, hgrow.output, hgrow.size, fun i hi hn => hgrow.block i hi (by first | exact hn | exact fun e => hn e.symm)⟩
  refine ⟨?_, hC.trans hb (fun i hi e => by have := hB i e; omega), hR.chg hb (fun e => by have := hB S e; omega) (fun i e => by have := hB i e; omega)⟩
  subst hxs hnews
  exact Grow.push hV h1 h3 hu huk hown hb.size (fun i hi hn => hb.block i hi hn) (fun i hi => by
    have hgi : g = i := by simpa [Value.ownBlock] using hi
    subst hgi
    rcases hat with h1 | h1
    · exact .inl h1
    · exact .inr (by omega))
theorem grow_base {α : Type} {k : Nat} {E : TypeId} {V : α → Value → World → Prop} {B : Nat} {w : World} {v : Value} {l : List α} (h : Grow k E V B w v l) : ∀ i, v.ownBlock = some i → B ≤ i ∧ i < w.heap.size := by
  obtain ⟨xs, hx⟩ := h.own
  exact hx.lt
/-- what is new is no part of a row that was there -/
theorem new_apart {B B2 : Nat} {w : World} {v : Value} (h : ∀ i, v.ownBlock = some i → B ≤ i ∧ i < B2) (hB : B ≤ B2) : Keeps (hide (below B2) w) (hide (rowHid B v) w) := keeps_hide (Nat.le_refl _) fun i hi hm => by
  simp only [rowHid, below, Bool.or_eq_false_iff, decide_eq_false_iff_not] at hm ⊢
  exact ⟨⟨by omega, fun e => by have := (h i e).2; omega⟩, trivial⟩
theorem info_int : (Tryz.prog.info? 3).map (fun i => (i.zero, i.size, i.bytes)) = some (some (.int .i64 0), 1, 8) := by kernel_rfl
set_option maxRecDepth 100000 in
set_option maxHeartbeats 4000000 in
theorem items_int {W w : World} {S : Nat} {l : List UInt8} (h : RdAt W w S l) (hs : l.length ≤ 100000000) (p : Prs Int) (hp : ∀ l x r, p l = some (x, r) → r.length + 8 ≤ l.length)
    (hone : ∀ u r, RdAt W u S r → r.length ≤ l.length → Chg (fun i => i = S) w u → Calls Tryz.prog 76 #[.pointer (some ⟨S, 0, none⟩)] u (Rds (fun x v w' => VInt x v (hide (below u.heap.size) w')) W u S (p r))) :
    Calls Tryz.prog 144 #[.pointer (some ⟨S, 0, none⟩), .func (.func 76) #[.pointer (some ⟨S, 0, none⟩)] #[]] w (Rds (fun x v w' => RowAt 1 IntIn x v (hide (below w.heap.size) w')) W w S (rdItems p l)) := by
  have HC := Lib.hid (num_any h)
  have HT1 := Lib.hid (show rdNum l = none → rdItems p l = none from fun h => by unfold rdItems; rw [h])
  have HT2 := Lib.hid (show ∀ n r, rdNum l = some (n, r) → (rdItems p l = if 0 ≤ n ∧ n ≤ ((r.length / 8 : Nat) : Int) then rdMany p n.toNat r else none) from fun n r h => by unfold rdItems; rw [h])
  have HTL := Lib.hid (show ∀ n r, rdNum l = some (n, r) → r.length ≤ l.length from fun n r h => by
    unfold rdNum at h
    split at h
    · cases h
    · cases h; rw [List.length_drop]; omega)
  have HONE := Lib.hid hone
  have HP := Lib.hid hp
  generalize rdItems p l = T at *
  generalize rdNum l = R at *
  obtain ⟨L, hL⟩ : ∃ L, l.length = L := ⟨_, rfl⟩
  rw [hL] at HTL HONE hs
  clear hone hp hL
  go_enter Tryz.func144, Tryz.ntmps144
  go_wp2_with fail
  refine HC.out.mono ?_
  rintro e w1 hr
  rcases hr.cases with ⟨hC1, ⟨rfl, rfl⟩ | ⟨x, l1, v, rfl, rfl, rfl, hR1⟩⟩
  · have HT3 := Lib.hid (HT1.out rfl)
    clear hr HT1 HT2 HTL
    go_wp2_with fail
    exact ⟨rfl, Rds.fails hC1 HT3.out⟩
  · have hTL := HTL.out x l1 rfl
    have HT3 := Lib.hid (HT2.out x l1 rfl)
    clear hr HT1 HT2 HTL
    obtain ⟨v1, hb1, hv1⟩ := hR1.ex
    obtain ⟨a1, c1, rfl, -, -, -⟩ := hv1.ex
    have hc := hb1.cell 0
    simp only [List.getElem?_toArray, List.getElem?_cons_zero] at hc
    obtain ⟨L1, hL1⟩ : ∃ L, l1.length = L := ⟨_, rfl⟩
    rw [hL1] at hc hTL HT3
    have HL1 := Lib.hid hL1
    clear hL1 hb1 hv1
    by_cases hx0 : x < 0
    · have HT4 := Lib.hid (show T = none by rw [HT3.out, if_neg (by omega)])
      clear HT3
      go_wp2_with fail
      exact ⟨rfl, Rds.fails hC1 HT4.out⟩
    · by_cases hx : ((L1 / 8 : Nat) : Int) < x
      · have HT4 := Lib.hid (show T = none by rw [HT3.out, if_neg (by omega)])
        clear HT3
        go_wp2_with fail
        exact ⟨rfl, Rds.fails hC1 HT4.out⟩
      · obtain ⟨n, rfl⟩ := Int.eq_ofNat_of_zero_le (by omega : 0 ≤ x)
        have HT4 := Lib.hid (show T = rdMany p n l1 by rw [HT3.out, if_pos (by omega)]; rfl)
        have hq : (n : Int) ≤ (L1 : Int) / 8 := by omega
        have hn8 : 8 * n ≤ L1 := by omega
        have hSl := h.lt
        have HSB := Lib.hid hSl
        have HWS := Lib.hid h.ext.size
        clear HT3 hx0 hx HC h hSl
        go_wp2_with fail
        clear hc hq
        go_loopw [6, 24] (fun s6 s24 wr => ∃ (k : Nat) (xs : List Int) (r : List UInt8), k ≤ n ∧ s24 = .int .i64 k ∧ xs.length = k ∧ Grow 1 3 VInt w.heap.size wr s6 xs ∧ RdAt W wr S r ∧ r.length + 8 * k ≤ L1 ∧ Chg (fun i => i = S) w wr ∧ Hid (T = rdPre xs (rdMany p (n - k) r))) (fun _ s24 _ => n - (intOf s24).toNat)
        case atStart => exact ⟨0, [], l1, Nat.zero_le _, rfl, rfl, Grow.nil _ _ _ _ _, hR1, by have := HL1.out; omega, hC1, by rw [Nat.sub_zero, getm.pre_nil]; exact HT4⟩
        case round =>
          obtain ⟨k, xs, r, hk, rfl, hxs, hG, hR, hrl, hC, hT⟩ := hrel
          clear HT4 hR1 hC1 HL1
          by_cases hlt : k < n
          · have hki : (k : Int) < (n : Int) := by omega
            obtain ⟨q, hq⟩ : ∃ q, n - k = q + 1 := ⟨n - k - 1, by omega⟩
            have hq2 : n - (k + 1) = q := by omega
            rw [hq] at hT
            have HQ := Lib.hid hq2
            have HXS := Lib.hid hxs
            clear hq hq2 hxs
            have HC1 := Lib.hid (HONE.out wr r hR (by omega) hC)
            go_wp2_with fail
            refine HC1.out.mono ?_
            rintro e w2 hr
            rcases hr.cases with ⟨hC2, ⟨hp, rfl⟩ | ⟨x, r2, v, hp, rfl, hv, hR2⟩⟩
            · have HT5 := Lib.hid (show T = none by rw [hT.out]; exact getm.pre_none (getm.many_none hp))
              clear hr hp HC1
              go_wp2_with fail
              exact ⟨rfl, Rds.fails (hC.then hC2) HT5.out⟩
            · have HT5 := Lib.hid (show T = rdPre (xs ++ [x]) (rdMany p q r2) by rw [hT.out]; exact getm.pre_some hp)
              have hr8 := HP.out _ _ _ hp
              have HV := Lib.hid hv
              obtain ⟨rfl, -⟩ := hv
              clear hr hp HC1
              have hG2 := hG.chg getv.int_keeps hC2 (fun i hi => by have := HSB.out; omega)
              obtain ⟨us, hu1, hu2, hu3⟩ := hG2.ex
              rw [HXS.out] at hu2
              have HU := Lib.hid (And.intro hu1 hu3)
              have hsz : w.heap.size ≤ w2.heap.size := Nat.le_trans hC.size hC2.size
              have HGB := Lib.hid (fun i hi => (grow_base hG2 i hi).1)
              have HV2 := Lib.hid (getv.int_keeps _ _ _ _ (new_apart (w := w2) (grow_base hG) hC.size) HV.out)
              clear hG hG2 hu1 hu3
              obtain ⟨i0_, hi, hz0, hz1, hz2⟩ := info_parts info_int
              go_wp2_with (at_builtin; refine wpList_append_lies _ rfl _ _ 36 rfl w.heap.size 3 i0_ (.int .i64 0) 1 8 Tryz.underlying36 hi hz0 hz1 hz2 rfl (by decide) _ _ _ rfl (hu2.alloc _) ⟨w2.heap.size, 0, none⟩ 1 1 [.int .i64 x] rfl rfl (news_at rfl rfl) (by intro u hu; simp at hu; subst hu; rfl) (by decide) (by unfold maxLen; omega) (by omega) (by simp; omega) (w2.heap.size + 1) (by simp) ?_; intro g cap' w3 hown hgrow hat hlt1)
              have hgs := grow_step HSB.out (hC.then hC2) hR2 HU.out.1 HU.out.2 HXS.out hown hgrow hat HGB.out HWS.out HV2.out rfl rfl getv.int_keeps
              go_roundw
              case rel => exact ⟨k + 1, xs ++ [x], r2, by omega, by go_num, by simp [HXS.out], hgs.1, hgs.2.2, by omega, hgs.2.1, by rw [HQ.out]; exact HT5⟩
              case measure => simp [intOf]; omega
          · obtain rfl : k = n := by omega
            rw [Nat.sub_self] at hT
            have HT6 := Lib.hid (show T = some (xs, r) by rw [hT.out]; exact getm.pre_end xs r)
            clear hT
            go_wp2_with fail
            go_ret
            exact Rds.reads hC HT6.out (hG.row getv.int_keeps getv.int_lies) hR
theorem info_var : (Tryz.prog.info? 82).map (fun i => (i.zero, i.size, i.bytes)) = some (some (.agg #[.string ⟨#[]⟩, .bool false, .int .i64 0, .int .i64 0]), 4, 40) := by kernel_rfl
set_option maxRecDepth 100000 in
set_option maxHeartbeats 4000000 in
theorem items_var {W w : World} {S : Nat} {l : List UInt8} (h : RdAt W w S l) (hs : l.length ≤ 100000000) (K : Nat) (p : Prs FVar) (hp : ∀ l x r, p l = some (x, r) → r.length + 8 ≤ l.length)
    (hone : ∀ u r, RdAt W u S r → r.length ≤ l.length → Chg (fun i => i = S) w u → Calls Tryz.prog 140 #[.pointer (some ⟨K, 0, none⟩)] u (Rds (fun x v w' => VVar x v (hide (below u.heap.size) w')) W u S (p r))) :
    Calls Tryz.prog 139 #[.pointer (some ⟨S, 0, none⟩), .func (.func 140) #[] #[.pointer (some ⟨K, 0, none⟩)]] w (Rds (fun x v w' => RowAt 4 VarIn x v (hide (below w.heap.size) w')) W w S (rdItems p l)) := by
  have HC := Lib.hid (num_any h)
  have HT1 := Lib.hid (show rdNum l = none → rdItems p l = none from fun h => by unfold rdItems; rw [h])
  have HT2 := Lib.hid (show ∀ n r, rdNum l = some (n, r) → (rdItems p l = if 0 ≤ n ∧ n ≤ ((r.length / 8 : Nat) : Int) then rdMany p n.toNat r else none) from fun n r h => by unfold rdItems; rw [h])
  have HTL := Lib.hid (show ∀ n r, rdNum l = some (n, r) → r.length ≤ l.length from fun n r h => by
    unfold rdNum at h
    split at h
    · cases h
    · cases h; rw [List.length_drop]; omega)
  have HONE := Lib.hid hone
  have HP := Lib.hid hp
  generalize rdItems p l = T at *
  generalize rdNum l = R at *
  obtain ⟨L, hL⟩ : ∃ L, l.length = L := ⟨_, rfl⟩
  rw [hL] at HTL HONE hs
  clear hone hp hL
  go_enter Tryz.func139, Tryz.ntmps139
  go_wp2_with fail
  refine HC.out.mono ?_
  rintro e w1 hr
  rcases hr.cases with ⟨hC1, ⟨rfl, rfl⟩ | ⟨x, l1, v, rfl, rfl, rfl, hR1⟩⟩
  · have HT3 := Lib.hid (HT1.out rfl)
    clear hr HT1 HT2 HTL
    go_wp2_with fail
    exact ⟨rfl, Rds.fails hC1 HT3.out⟩
  · have hTL := HTL.out x l1 rfl
    have HT3 := Lib.hid (HT2.out x l1 rfl)
    clear hr HT1 HT2 HTL
    obtain ⟨v1, hb1, hv1⟩ := hR1.ex
    obtain ⟨a1, c1, rfl, -, -, -⟩ := hv1.ex
    have hc := hb1.cell 0
    simp only [List.getElem?_toArray, List.getElem?_cons_zero] at hc
    obtain ⟨L1, hL1⟩ : ∃ L, l1.length = L := ⟨_, rfl⟩
    rw [hL1] at hc hTL HT3
    have HL1 := Lib.hid hL1
    clear hL1 hb1 hv1
    by_cases hx0 : x < 0
    · have HT4 := Lib.hid (show T = none by rw [HT3.out, if_neg (by omega)])
      clear HT3
      go_wp2_with fail
      exact ⟨rfl, Rds.fails hC1 HT4.out⟩
    · by_cases hx : ((L1 / 8 : Nat) : Int) < x
      · have HT4 := Lib.hid (show T = none by rw [HT3.out, if_neg (by omega)])
        clear HT3
        go_wp2_with fail
        exact ⟨rfl, Rds.fails hC1 HT4.out⟩
      · obtain ⟨n, rfl⟩ := Int.eq_ofNat_of_zero_le (by omega : 0 ≤ x)
        have HT4 := Lib.hid (show T = rdMany p n l1 by rw [HT3.out, if_pos (by omega)]; rfl)
        have hq : (n : Int) ≤ (L1 : Int) / 8 := by omega
        have hn8 : 8 * n ≤ L1 := by omega
        have hSl := h.lt
        have HSB := Lib.hid hSl
        have HWS := Lib.hid h.ext.size
        clear HT3 hx0 hx HC h hSl
        go_wp2_with fail
        clear hc hq
        go_loopw [6, 24] (fun s6 s24 wr => ∃ (k : Nat) (xs : List FVar) (r : List UInt8), k ≤ n ∧ s24 = .int .i64 k ∧ xs.length = k ∧ Grow 4 82 VVar w.heap.size wr s6 xs ∧ RdAt W wr S r ∧ r.length + 8 * k ≤ L1 ∧ Chg (fun i => i = S) w wr ∧ Hid (T = rdPre xs (rdMany p (n - k) r))) (fun _ s24 _ => n - (intOf s24).toNat)
        case atStart => exact ⟨0, [], l1, Nat.zero_le _, rfl, rfl, Grow.nil _ _ _ _ _, hR1, by have := HL1.out; omega, hC1, by rw [Nat.sub_zero, getm.pre_nil]; exact HT4⟩
        case round =>
          obtain ⟨k, xs, r, hk, rfl, hxs, hG, hR, hrl, hC, hT⟩ := hrel
          clear HT4 hR1 hC1 HL1
          by_cases hlt : k < n
          · have hki : (k : Int) < (n : Int) := by omega
            obtain ⟨q, hq⟩ : ∃ q, n - k = q + 1 := ⟨n - k - 1, by omega⟩
            have hq2 : n - (k + 1) = q := by omega
            rw [hq] at hT
            have HQ := Lib.hid hq2
            have HXS := Lib.hid hxs
            clear hq hq2 hxs
            have HC1 := Lib.hid (HONE.out wr r hR (by omega) hC)
            go_wp2_with fail
            refine HC1.out.mono ?_
            rintro e w2 hr
            rcases hr.cases with ⟨hC2, ⟨hp, rfl⟩ | ⟨x, r2, v, hp, rfl, hv, hR2⟩⟩
            · have HT5 := Lib.hid (show T = none by rw [hT.out]; exact getm.pre_none (getm.many_none hp))
              clear hr hp HC1
              go_wp2_with fail
              exact ⟨rfl, Rds.fails (hC.then hC2) HT5.out⟩
            · have HT5 := Lib.hid (show T = rdPre (xs ++ [x]) (rdMany p q r2) by rw [hT.out]; exact getm.pre_some hp)
              have hr8 := HP.out _ _ _ hp
              have HV := Lib.hid hv
              obtain ⟨rfl, -⟩ := hv
              clear hr hp HC1
              have hG2 := hG.chg getv.var_keeps hC2 (fun i hi => by have := HSB.out; omega)
              obtain ⟨us, hu1, hu2, hu3⟩ := hG2.ex
              rw [HXS.out] at hu2
              have HU := Lib.hid (And.intro hu1 hu3)
              have hsz : w.heap.size ≤ w2.heap.size := Nat.le_trans hC.size hC2.size
              have HGB := Lib.hid (fun i hi => (grow_base hG2 i hi).1)
              have HV2 := Lib.hid (getv.var_keeps _ _ _ _ (new_apart (w := w2) (grow_base hG) hC.size) HV.out)
              clear hG hG2 hu1 hu3
              obtain ⟨i0_, hi, hz0, hz1, hz2⟩ := info_parts info_var
              go_wp2_with (at_builtin; refine wpList_append_lies _ rfl _ _ 49 rfl w.heap.size 82 i0_ (.agg #[.string ⟨#[]⟩, .bool false, .int .i64 0, .int .i64 0]) 4 40 Tryz.underlying49 hi hz0 hz1 hz2 rfl (by decide) _ _ _ rfl (hu2.alloc _) ⟨w2.heap.size, 0, none⟩ 1 1 [.string x.name, .bool x.pub, .int .i64 x.label, .int .i64 x.size] rfl rfl (news_at rfl rfl) (by intro u hu; simp at hu; rcases hu with rfl | rfl | rfl | rfl <;> rfl) (by decide) (by unfold maxLen; omega) (by omega) (by simp; omega) (w2.heap.size + 1) (by simp) ?_; intro g cap' w3 hown hgrow hat hlt1)
              have hgs := grow_step HSB.out (hC.then hC2) hR2 HU.out.1 HU.out.2 HXS.out hown hgrow hat HGB.out HWS.out HV2.out rfl rfl getv.var_keeps
              go_roundw
              case rel => exact ⟨k + 1, xs ++ [x], r2, by omega, by go_num, by simp [HXS.out], hgs.1, hgs.2.2, by omega, hgs.2.1, by rw [HQ.out]; exact HT5⟩
              case measure => simp [intOf]; omega
          · obtain rfl : k = n := by omega
            rw [Nat.sub_self] at hT
            have HT6 := Lib.hid (show T = some (xs, r) by rw [hT.out]; exact getm.pre_end xs r)
            clear hT
            go_wp2_with fail
            go_ret
            exact Rds.reads hC HT6.out (hG.row getv.var_keeps getv.var_lies) hR
theorem info_proc : (Tryz.prog.info? 179).map (fun i => (i.zero, i.size, i.bytes)) = some (some (.agg #[.string ⟨#[]⟩, .bool false, .slice none 0 0, .int .i64 0, .bool false, .int .i64 0]), 6, 72) := by kernel_rfl
set_option maxRecDepth 100000 in
set_option maxHeartbeats 4000000 in
theorem items_proc {W w : World} {S : Nat} {l : List UInt8} (h : RdAt W w S l) (hs : l.length ≤ 100000000) (K : Nat) (p : Prs FProc) (hp : ∀ l x r, p l = some (x, r) → r.length + 8 ≤ l.length)
    (hone : ∀ u r, RdAt W u S r → r.length ≤ l.length → Chg (fun i => i = S) w u → Calls Tryz.prog 143 #[.pointer (some ⟨K, 0, none⟩)] u (Rds (fun x v w' => VProc x v (hide (below u.heap.size) w')) W u S (p r))) :
    Calls Tryz.prog 142 #[.pointer (some ⟨S, 0, none⟩), .func (.func 143) #[] #[.pointer (some ⟨K, 0, none⟩)]] w (Rds (fun x v w' => RowAt 6 ProcIn x v (hide (below w.heap.size) w')) W w S (rdItems p l)) := by
  have HC := Lib.hid (num_any h)
  have HT1 := Lib.hid (show rdNum l = none → rdItems p l = none from fun h => by unfold rdItems; rw [h])
  have HT2 := Lib.hid (show ∀ n r, rdNum l = some (n, r) → (rdItems p l = if 0 ≤ n ∧ n ≤ ((r.length / 8 : Nat) : Int) then rdMany p n.toNat r else none) from fun n r h => by unfold rdItems; rw [h])
  have HTL := Lib.hid (show ∀ n r, rdNum l = some (n, r) → r.length ≤ l.length from fun n r h => by
    unfold rdNum at h
    split at h
    · cases h
    · cases h; rw [List.length_drop]; omega)
  have HONE := Lib.hid hone
  have HP := Lib.hid hp
  generalize rdItems p l = T at *
  generalize rdNum l = R at *
  obtain ⟨L, hL⟩ : ∃ L, l.length = L := ⟨_, rfl⟩
  rw [hL] at HTL HONE hs
  clear hone hp hL
  go_enter Tryz.func142, Tryz.ntmps142
  go_wp2_with fail
  refine HC.out.mono ?_
  rintro e w1 hr
  rcases hr.cases with ⟨hC1, ⟨rfl, rfl⟩ | ⟨x, l1, v, rfl, rfl, rfl, hR1⟩⟩
  · have HT3 := Lib.hid (HT1.out rfl)
    clear hr HT1 HT2 HTL
    go_wp2_with fail
    exact ⟨rfl, Rds.fails hC1 HT3.out⟩
  · have hTL := HTL.out x l1 rfl
    have HT3 := Lib.hid (HT2.out x l1 rfl)
    clear hr HT1 HT2 HTL
    obtain ⟨v1, hb1, hv1⟩ := hR1.ex
    obtain ⟨a1, c1, rfl, -, -, -⟩ := hv1.ex
    have hc := hb1.cell 0
    simp only [List.getElem?_toArray, List.getElem?_cons_zero] at hc
    obtain ⟨L1, hL1⟩ : ∃ L, l1.length = L := ⟨_, rfl⟩
    rw [hL1] at hc hTL HT3
    have HL1 := Lib.hid hL1
    clear hL1 hb1 hv1
    by_cases hx0 : x < 0
    · have HT4 := Lib.hid (show T = none by rw [HT3.out, if_neg (by omega)])
      clear HT3
      go_wp2_with fail
      exact ⟨rfl, Rds.fails hC1 HT4.out⟩
    · by_cases hx : ((L1 / 8 : Nat) : Int) < x
      · have HT4 := Lib.hid (show T = none by rw [HT3.out, if_neg (by omega)])
        clear HT3
        go_wp2_with fail
        exact ⟨rfl, Rds.fails hC1 HT4.out⟩
      · obtain ⟨n, rfl⟩ := Int.eq_ofNat_of_zero_le (by omega : 0 ≤ x)
        have HT4 := Lib.hid (show T = rdMany p n l1 by rw [HT3.out, if_pos (by omega)]; rfl)
        have hq : (n : Int) ≤ (L1 : Int) / 8 := by omega
        have hn8 : 8 * n ≤ L1 := by omega
        have hSl := h.lt
        have HSB := Lib.hid hSl
        have HWS := Lib.hid h.ext.size
        clear HT3 hx0 hx HC h hSl
        go_wp2_with fail
        clear hc hq
        go_loopw [6, 24] (fun s6 s24 wr => ∃ (k : Nat) (xs : List FProc) (r : List UInt8), k ≤ n ∧ s24 = .int .i64 k ∧ xs.length = k ∧ Grow 6 179 VProc w.heap.size wr s6 xs ∧ RdAt W wr S r ∧ r.length + 8 * k ≤ L1 ∧ Chg (fun i => i = S) w wr ∧ Hid (T = rdPre xs (rdMany p (n - k) r))) (fun _ s24 _ => n - (intOf s24).toNat)
        case atStart => exact ⟨0, [], l1, Nat.zero_le _, rfl, rfl, Grow.nil _ _ _ _ _, hR1, by have := HL1.out; omega, hC1, by rw [Nat.sub_zero, getm.pre_nil]; exact HT4⟩
        case round =>
          obtain ⟨k, xs, r, hk, rfl, hxs, hG, hR, hrl, hC, hT⟩ := hrel
          clear HT4 hR1 hC1 HL1
          by_cases hlt : k < n
          · have hki : (k : Int) < (n : Int) := by omega
            obtain ⟨q, hq⟩ : ∃ q, n - k = q + 1 := ⟨n - k - 1, by omega⟩
            have hq2 : n - (k + 1) = q := by omega
            rw [hq] at hT
            have HQ := Lib.hid hq2
            have HXS := Lib.hid hxs
            clear hq hq2 hxs
            have HC1 := Lib.hid (HONE.out wr r hR (by omega) hC)
            go_wp2_with fail
            refine HC1.out.mono ?_
            rintro e w2 hr
            rcases hr.cases with ⟨hC2, ⟨hp, rfl⟩ | ⟨x, r2, v, hp, rfl, hv, hR2⟩⟩
            · have HT5 := Lib.hid (show T = none by rw [hT.out]; exact getm.pre_none (getm.many_none hp))
              clear hr hp HC1
              go_wp2_with fail
              exact ⟨rfl, Rds.fails (hC.then hC2) HT5.out⟩
            · have HT5 := Lib.hid (show T = rdPre (xs ++ [x]) (rdMany p q r2) by rw [hT.out]; exact getm.pre_some hp)
              have hr8 := HP.out _ _ _ hp
              have HV := Lib.hid hv
              obtain ⟨pa, pc, rfl, -⟩ := hv
              clear hr hp HC1
              have hG2 := hG.chg getv.proc_keeps hC2 (fun i hi => by have := HSB.out; omega)
              obtain ⟨us, hu1, hu2, hu3⟩ := hG2.ex
              rw [HXS.out] at hu2
              have HU := Lib.hid (And.intro hu1 hu3)
              have hsz : w.heap.size ≤ w2.heap.size := Nat.le_trans hC.size hC2.size
              have HGB := Lib.hid (fun i hi => (grow_base hG2 i hi).1)
              have HV2 := Lib.hid (getv.proc_keeps _ _ _ _ (new_apart (w := w2) (grow_base hG) hC.size) HV.out)
              clear hG hG2 hu1 hu3
              obtain ⟨i0_, hi, hz0, hz1, hz2⟩ := info_parts info_proc
              go_wp2_with (at_builtin; refine wpList_append_lies _ rfl _ _ 50 rfl w.heap.size 179 i0_ (.agg #[.string ⟨#[]⟩, .bool false, .slice none 0 0, .int .i64 0, .bool false, .int .i64 0]) 6 72 Tryz.underlying50 hi hz0 hz1 hz2 rfl (by decide) _ _ _ rfl (hu2.alloc _) ⟨w2.heap.size, 0, none⟩ 1 1 [.string x.name, .bool x.pub, .slice pa x.params.length pc, .int .i64 x.writes, .bool x.gives, .int .i64 x.given] rfl rfl (news_at rfl rfl) (by intro u hu; simp at hu; rcases hu with rfl | rfl | rfl | rfl | rfl | rfl <;> rfl) (by decide) (by unfold maxLen; omega) (by omega) (by simp; omega) (w2.heap.size + 1) (by simp) ?_; intro g cap' w3 hown hgrow hat hlt1)
              have hgs := grow_step HSB.out (hC.then hC2) hR2 HU.out.1 HU.out.2 HXS.out hown hgrow hat HGB.out HWS.out HV2.out rfl rfl getv.proc_keeps
              go_roundw
              case rel => exact ⟨k + 1, xs ++ [x], r2, by omega, by go_num, by simp [HXS.out], hgs.1, hgs.2.2, by omega, hgs.2.1, by rw [HQ.out]; exact HT5⟩
              case measure => simp [intOf]; omega
          · obtain rfl : k = n := by omega
            rw [Nat.sub_self] at hT
            have HT6 := Lib.hid (show T = some (xs, r) by rw [hT.out]; exact getm.pre_end xs r)
            clear hT
            go_wp2_with fail
            go_ret
            exact Rds.reads hC HT6.out (hG.row getv.proc_keeps getv.proc_lies) hR
theorem info_face : (Tryz.prog.info? 52).map (fun i => (i.zero, i.size, i.bytes)) = some (some (.agg #[.string ⟨#[]⟩, .slice none 0 0, .slice none 0 0]), 3, 64) := by kernel_rfl
set_option maxRecDepth 100000 in
set_option maxHeartbeats 4000000 in
theorem items_face {W w : World} {S : Nat} {l : List UInt8} (h : RdAt W w S l) (hs : l.length ≤ 100000000) (p : Prs FFace) (hp : ∀ l x r, p l = some (x, r) → r.length + 8 ≤ l.length)
    (hone : ∀ u r, RdAt W u S r → r.length ≤ l.length → Chg (fun i => i = S) w u → Calls Tryz.prog 72 #[.pointer (some ⟨S, 0, none⟩)] u (Rds (fun x v w' => VFace x v (hide (below u.heap.size) w')) W u S (p r))) :
    Calls Tryz.prog 73 #[.pointer (some ⟨S, 0, none⟩), .func (.func 72) #[.pointer (some ⟨S, 0, none⟩)] #[]] w (Rds (fun x v w' => RowAt 3 FaceIn x v (hide (below w.heap.size) w')) W w S (rdItems p l)) := by
  have HC := Lib.hid (num_any h)
  have HT1 := Lib.hid (show rdNum l = none → rdItems p l = none from fun h => by unfold rdItems; rw [h])
  have HT2 := Lib.hid (show ∀ n r, rdNum l = some (n, r) → (rdItems p l = if 0 ≤ n ∧ n ≤ ((r.length / 8 : Nat) : Int) then rdMany p n.toNat r else none) from fun n r h => by unfold rdItems; rw [h])
  have HTL := Lib.hid (show ∀ n r, rdNum l = some (n, r) → r.length ≤ l.length from fun n r h => by
    unfold rdNum at h
    split at h
    · cases h
    · cases h; rw [List.length_drop]; omega)
  have HONE := Lib.hid hone
  have HP := Lib.hid hp
  generalize rdItems p l = T at *
  generalize rdNum l = R at *
  obtain ⟨L, hL⟩ : ∃ L, l.length = L := ⟨_, rfl⟩
  rw [hL] at HTL HONE hs
  clear hone hp hL
  go_enter Tryz.func73, Tryz.ntmps73
  go_wp2_with fail
  refine HC.out.mono ?_
  rintro e w1 hr
  rcases hr.cases with ⟨hC1, ⟨rfl, rfl⟩ | ⟨x, l1, v, rfl, rfl, rfl, hR1⟩⟩
  · have HT3 := Lib.hid (HT1.out rfl)
    clear hr HT1 HT2 HTL
    go_wp2_with fail
    exact ⟨rfl, Rds.fails hC1 HT3.out⟩
  · have hTL := HTL.out x l1 rfl
    have HT3 := Lib.hid (HT2.out x l1 rfl)
    clear hr HT1 HT2 HTL
    obtain ⟨v1, hb1, hv1⟩ := hR1.ex
    obtain ⟨a1, c1, rfl, -, -, -⟩ := hv1.ex
    have hc := hb1.cell 0
    simp only [List.getElem?_toArray, List.getElem?_cons_zero] at hc
    obtain ⟨L1, hL1⟩ : ∃ L, l1.length = L := ⟨_, rfl⟩
    rw [hL1] at hc hTL HT3
    have HL1 := Lib.hid hL1
    clear hL1 hb1 hv1
    by_cases hx0 : x < 0
    · have HT4 := Lib.hid (show T = none by rw [HT3.out, if_neg (by omega)])
      clear HT3
      go_wp2_with fail
      exact ⟨rfl, Rds.fails hC1 HT4.out⟩
    · by_cases hx : ((L1 / 8 : Nat) : Int) < x
      · have HT4 := Lib.hid (show T = none by rw [HT3.out, if_neg (by omega)])
        clear HT3
        go_wp2_with fail
        exact ⟨rfl, Rds.fails hC1 HT4.out⟩
      · obtain ⟨n, rfl⟩ := Int.eq_ofNat_of_zero_le (by omega : 0 ≤ x)
        have HT4 := Lib.hid (show T = rdMany p n l1 by rw [HT3.out, if_pos (by omega)]; rfl)
        have hq : (n : Int) ≤ (L1 : Int) / 8 := by omega
        have hn8 : 8 * n ≤ L1 := by omega
        have hSl := h.lt
        have HSB := Lib.hid hSl
        have HWS := Lib.hid h.ext.size
        clear HT3 hx0 hx HC h hSl
        go_wp2_with fail
        clear hc hq
        go_loopw [6, 24] (fun s6 s24 wr => ∃ (k : Nat) (xs : List FFace) (r : List UInt8), k ≤ n ∧ s24 = .int .i64 k ∧ xs.length = k ∧ Grow 3 52 VFace w.heap.size wr s6 xs ∧ RdAt W wr S r ∧ r.length + 8 * k ≤ L1 ∧ Chg (fun i => i = S) w wr ∧ Hid (T = rdPre xs (rdMany p (n - k) r))) (fun _ s24 _ => n - (intOf s24).toNat)
        case atStart => exact ⟨0, [], l1, Nat.zero_le _, rfl, rfl, Grow.nil _ _ _ _ _, hR1, by have := HL1.out; omega, hC1, by rw [Nat.sub_zero, getm.pre_nil]; exact HT4⟩
        case round =>
          obtain ⟨k, xs, r, hk, rfl, hxs, hG, hR, hrl, hC, hT⟩ := hrel
          clear HT4 hR1 hC1 HL1
          by_cases hlt : k < n
          · have hki : (k : Int) < (n : Int) := by omega
            obtain ⟨q, hq⟩ : ∃ q, n - k = q + 1 := ⟨n - k - 1, by omega⟩
            have hq2 : n - (k + 1) = q := by omega
            rw [hq] at hT
            have HQ := Lib.hid hq2
            have HXS := Lib.hid hxs
            clear hq hq2 hxs
            have HC1 := Lib.hid (HONE.out wr r hR (by omega) hC)
            go_wp2_with fail
            refine HC1.out.mono ?_
            rintro e w2 hr
            rcases hr.cases with ⟨hC2, ⟨hp, rfl⟩ | ⟨x, r2, v, hp, rfl, hv, hR2⟩⟩
            · have HT5 := Lib.hid (show T = none by rw [hT.out]; exact getm.pre_none (getm.many_none hp))
              clear hr hp HC1
              go_wp2_with fail
              exact ⟨rfl, Rds.fails (hC.then hC2) HT5.out⟩
            · have HT5 := Lib.hid (show T = rdPre (xs ++ [x]) (rdMany p q r2) by rw [hT.out]; exact getm.pre_some hp)
              have hr8 := HP.out _ _ _ hp
              have HV := Lib.hid hv
              obtain ⟨fa, fm, fc, fd, rfl, -⟩ := hv
              clear hr hp HC1
              have hG2 := hG.chg getv.face_keeps hC2 (fun i hi => by have := HSB.out; omega)
              obtain ⟨us, hu1, hu2, hu3⟩ := hG2.ex
              rw [HXS.out] at hu2
              have HU := Lib.hid (And.intro hu1 hu3)
              have hsz : w.heap.size ≤ w2.heap.size := Nat.le_trans hC.size hC2.size
              have HGB := Lib.hid (fun i hi => (grow_base hG2 i hi).1)
              have HV2 := Lib.hid (getv.face_keeps _ _ _ _ (new_apart (w := w2) (grow_base hG) hC.size) HV.out)
              clear hG hG2 hu1 hu3
              obtain ⟨i0_, hi, hz0, hz1, hz2⟩ := info_parts info_face
              go_wp2_with (at_builtin; refine wpList_append_lies _ rfl _ _ 53 rfl w.heap.size 52 i0_ (.agg #[.string ⟨#[]⟩, .slice none 0 0, .slice none 0 0]) 3 64 Tryz.underlying53 hi hz0 hz1 hz2 rfl (by decide) _ _ _ rfl (hu2.alloc _) ⟨w2.heap.size, 0, none⟩ 1 1 [.string x.modn, .slice fa x.vars.length fm, .slice fc x.procs.length fd] rfl rfl (news_at rfl rfl) (by intro u hu; simp at hu; rcases hu with rfl | rfl | rfl <;> rfl) (by decide) (by unfold maxLen; omega) (by omega) (by simp; omega) (w2.heap.size + 1) (by simp) ?_; intro g cap' w3 hown hgrow hat hlt1)
              have hgs := grow_step HSB.out (hC.then hC2) hR2 HU.out.1 HU.out.2 HXS.out hown hgrow hat HGB.out HWS.out HV2.out rfl rfl getv.face_keeps
              go_roundw
              case rel => exact ⟨k + 1, xs ++ [x], r2, by omega, by go_num, by simp [HXS.out], hgs.1, hgs.2.2, by omega, hgs.2.1, by rw [HQ.out]; exact HT5⟩
              case measure => simp [intOf]; omega
          · obtain rfl : k = n := by omega
            rw [Nat.sub_self] at hT
            have HT6 := Lib.hid (show T = some (xs, r) by rw [hT.out]; exact getm.pre_end xs r)
            clear hT
            go_wp2_with fail
            go_ret
            exact Rds.reads hC HT6.out (hG.row getv.face_keeps getv.face_lies) hR
theorem info_plc : (Tryz.prog.info? 129).map (fun i => (i.zero, i.size, i.bytes)) = some (some (.agg #[.string ⟨#[]⟩, .int .i64 0]), 2, 24) := by kernel_rfl
set_option maxRecDepth 100000 in
set_option maxHeartbeats 4000000 in
theorem items_plc {W w : World} {S : Nat} {l : List UInt8} (h : RdAt W w S l) (hs : l.length ≤ 100000000) (p : Prs FPlc) (hp : ∀ l x r, p l = some (x, r) → r.length + 8 ≤ l.length)
    (hone : ∀ u r, RdAt W u S r → r.length ≤ l.length → Chg (fun i => i = S) w u → Calls Tryz.prog 82 #[.pointer (some ⟨S, 0, none⟩)] u (Rds (fun x v w' => VPlc x v (hide (below u.heap.size) w')) W u S (p r))) :
    Calls Tryz.prog 81 #[.pointer (some ⟨S, 0, none⟩), .func (.func 82) #[.pointer (some ⟨S, 0, none⟩)] #[]] w (Rds (fun x v w' => RowAt 2 PlcIn x v (hide (below w.heap.size) w')) W w S (rdItems p l)) := by
  have HC := Lib.hid (num_any h)
  have HT1 := Lib.hid (show rdNum l = none → rdItems p l = none from fun h => by unfold rdItems; rw [h])
  have HT2 := Lib.hid (show ∀ n r, rdNum l = some (n, r) → (rdItems p l = if 0 ≤ n ∧ n ≤ ((r.length / 8 : Nat) : Int) then rdMany p n.toNat r else none) from fun n r h => by unfold rdItems; rw [h])
  have HTL := Lib.hid (show ∀ n r, rdNum l = some (n, r) → r.length ≤ l.length from fun n r h => by
    unfold rdNum at h
    split at h
    · cases h
    · cases h; rw [List.length_drop]; omega)
  have HONE := Lib.hid hone
  have HP := Lib.hid hp
  generalize rdItems p l = T at *
  generalize rdNum l = R at *
  obtain ⟨L, hL⟩ : ∃ L, l.length = L := ⟨_, rfl⟩
  rw [hL] at HTL HONE hs
  clear hone hp hL
  go_enter Tryz.func81, Tryz.ntmps81
  go_wp2_with fail
  refine HC.out.mono ?_
  rintro e w1 hr
  rcases hr.cases with ⟨hC1, ⟨rfl, rfl⟩ | ⟨x, l1, v, rfl, rfl, rfl, hR1⟩⟩
  · have HT3 := Lib.hid (HT1.out rfl)
    clear hr HT1 HT2 HTL
    go_wp2_with fail
    exact ⟨rfl, Rds.fails hC1 HT3.out⟩
  · have hTL := HTL.out x l1 rfl
    have HT3 := Lib.hid (HT2.out x l1 rfl)
    clear hr HT1 HT2 HTL
    obtain ⟨v1, hb1, hv1⟩ := hR1.ex
    obtain ⟨a1, c1, rfl, -, -, -⟩ := hv1.ex
    have hc := hb1.cell 0
    simp only [List.getElem?_toArray, List.getElem?_cons_zero] at hc
    obtain ⟨L1, hL1⟩ : ∃ L, l1.length = L := ⟨_, rfl⟩
    rw [hL1] at hc hTL HT3
    have HL1 := Lib.hid hL1
    clear hL1 hb1 hv1
    by_cases hx0 : x < 0
    · have HT4 := Lib.hid (show T = none by rw [HT3.out, if_neg (by omega)])
      clear HT3
      go_wp2_with fail
      exact ⟨rfl, Rds.fails hC1 HT4.out⟩
    · by_cases hx : ((L1 / 8 : Nat) : Int) < x
      · have HT4 := Lib.hid (show T = none by rw [HT3.out, if_neg (by omega)])
        clear HT3
        go_wp2_with fail
        exact ⟨rfl, Rds.fails hC1 HT4.out⟩
      · obtain ⟨n, rfl⟩ := Int.eq_ofNat_of_zero_le (by omega : 0 ≤ x)
        have HT4 := Lib.hid (show T = rdMany p n l1 by rw [HT3.out, if_pos (by omega)]; rfl)
        have hq : (n : Int) ≤ (L1 : Int) / 8 := by omega
        have hn8 : 8 * n ≤ L1 := by omega
        have hSl := h.lt
        have HSB := Lib.hid hSl
        have HWS := Lib.hid h.ext.size
        clear HT3 hx0 hx HC h hSl
        go_wp2_with fail
        clear hc hq
        go_loopw [6, 24] (fun s6 s24 wr => ∃ (k : Nat) (xs : List FPlc) (r : List UInt8), k ≤ n ∧ s24 = .int .i64 k ∧ xs.length = k ∧ Grow 2 129 VPlc w.heap.size wr s6 xs ∧ RdAt W wr S r ∧ r.length + 8 * k ≤ L1 ∧ Chg (fun i => i = S) w wr ∧ Hid (T = rdPre xs (rdMany p (n - k) r))) (fun _ s24 _ => n - (intOf s24).toNat)
        case atStart => exact ⟨0, [], l1, Nat.zero_le _, rfl, rfl, Grow.nil _ _ _ _ _, hR1, by have := HL1.out; omega, hC1, by rw [Nat.sub_zero, getm.pre_nil]; exact HT4⟩
        case round =>
          obtain ⟨k, xs, r, hk, rfl, hxs, hG, hR, hrl, hC, hT⟩ := hrel
          clear HT4 hR1 hC1 HL1
          by_cases hlt : k < n
          · have hki : (k : Int) < (n : Int) := by omega
            obtain ⟨q, hq⟩ : ∃ q, n - k = q + 1 := ⟨n - k - 1, by omega⟩
            have hq2 : n - (k + 1) = q := by omega
            rw [hq] at hT
            have HQ := Lib.hid hq2
            have HXS := Lib.hid hxs
            clear hq hq2 hxs
            have HC1 := Lib.hid (HONE.out wr r hR (by omega) hC)
            go_wp2_with fail
            refine HC1.out.mono ?_
            rintro e w2 hr
            rcases hr.cases with ⟨hC2, ⟨hp, rfl⟩ | ⟨x, r2, v, hp, rfl, hv, hR2⟩⟩
            · have HT5 := Lib.hid (show T = none by rw [hT.out]; exact getm.pre_none (getm.many_none hp))
              clear hr hp HC1
              go_wp2_with fail
              exact ⟨rfl, Rds.fails (hC.then hC2) HT5.out⟩
            · have HT5 := Lib.hid (show T = rdPre (xs ++ [x]) (rdMany p q r2) by rw [hT.out]; exact getm.pre_some hp)
              have hr8 := HP.out _ _ _ hp
              have HV := Lib.hid hv
              obtain ⟨rfl, -⟩ := hv
              clear hr hp HC1
              have hG2 := hG.chg getv.plc_keeps hC2 (fun i hi => by have := HSB.out; omega)
              obtain ⟨us, hu1, hu2, hu3⟩ := hG2.ex
              rw [HXS.out] at hu2
              have HU := Lib.hid (And.intro hu1 hu3)
              have hsz : w.heap.size ≤ w2.heap.size := Nat.le_trans hC.size hC2.size
              have HGB := Lib.hid (fun i hi => (grow_base hG2 i hi).1)
              have HV2 := Lib.hid (getv.plc_keeps _ _ _ _ (new_apart (w := w2) (grow_base hG) hC.size) HV.out)
              clear hG hG2 hu1 hu3
              obtain ⟨i0_, hi, hz0, hz1, hz2⟩ := info_parts info_plc
              go_wp2_with (at_builtin; refine wpList_append_lies _ rfl _ _ 55 rfl w.heap.size 129 i0_ (.agg #[.string ⟨#[]⟩, .int .i64 0]) 2 24 Tryz.underlying55 hi hz0 hz1 hz2 rfl (by decide) _ _ _ rfl (hu2.alloc _) ⟨w2.heap.size, 0, none⟩ 1 1 [.string x.name, .int .i64 x.at_] rfl rfl (news_at rfl rfl) (by intro u hu; simp at hu; rcases hu with rfl | rfl <;> rfl) (by decide) (by unfold maxLen; omega) (by omega) (by simp; omega) (w2.heap.size + 1) (by simp) ?_; intro g cap' w3 hown hgrow hat hlt1)
              have hgs := grow_step HSB.out (hC.then hC2) hR2 HU.out.1 HU.out.2 HXS.out hown hgrow hat HGB.out HWS.out HV2.out rfl rfl getv.plc_keeps
              go_roundw
              case rel => exact ⟨k + 1, xs ++ [x], r2, by omega, by go_num, by simp [HXS.out], hgs.1, hgs.2.2, by omega, hgs.2.1, by rw [HQ.out]; exact HT5⟩
              case measure => simp [intOf]; omega
          · obtain rfl : k = n := by omega
            rw [Nat.sub_self] at hT
            have HT6 := Lib.hid (show T = some (xs, r) by rw [hT.out]; exact getm.pre_end xs r)
            clear hT
            go_wp2_with fail
            go_ret
            exact Rds.reads hC HT6.out (hG.row getv.plc_keeps getv.plc_lies) hR
theorem info_ins : (Tryz.prog.info? 98).map (fun i => (i.zero, i.size, i.bytes)) = some (some (.agg #[.int .i64 0, .int .i64 0, .int .i64 0, .int .i64 0, .int .i64 0]), 5, 40) := by kernel_rfl
set_option maxRecDepth 100000 in
set_option maxHeartbeats 4000000 in
theorem items_ins {W w : World} {S : Nat} {l : List UInt8} (h : RdAt W w S l) (hs : l.length ≤ 100000000) (K : Nat) (p : Prs Ins) (hp : ∀ l x r, p l = some (x, r) → r.length + 8 ≤ l.length)
    (hone : ∀ u r, RdAt W u S r → r.length ≤ l.length → Chg (fun i => i = S) w u → Calls Tryz.prog 75 #[.pointer (some ⟨K, 0, none⟩)] u (Rds (fun x v w' => VIns x v (hide (below u.heap.size) w')) W u S (p r))) :
    Calls Tryz.prog 74 #[.pointer (some ⟨S, 0, none⟩), .func (.func 75) #[] #[.pointer (some ⟨K, 0, none⟩)]] w (Rds (fun x v w' => RowAt 5 InsIn5 x v (hide (below w.heap.size) w')) W w S (rdItems p l)) := by
  have HC := Lib.hid (num_any h)
  have HT1 := Lib.hid (show rdNum l = none → rdItems p l = none from fun h => by unfold rdItems; rw [h])
  have HT2 := Lib.hid (show ∀ n r, rdNum l = some (n, r) → (rdItems p l = if 0 ≤ n ∧ n ≤ ((r.length / 8 : Nat) : Int) then rdMany p n.toNat r else none) from fun n r h => by unfold rdItems; rw [h])
  have HTL := Lib.hid (show ∀ n r, rdNum l = some (n, r) → r.length ≤ l.length from fun n r h => by
    unfold rdNum at h
    split at h
    · cases h
    · cases h; rw [List.length_drop]; omega)
  have HONE := Lib.hid hone
  have HP := Lib.hid hp
  generalize rdItems p l = T at *
  generalize rdNum l = R at *
  obtain ⟨L, hL⟩ : ∃ L, l.length = L := ⟨_, rfl⟩
  rw [hL] at HTL HONE hs
  clear hone hp hL
  go_enter Tryz.func74, Tryz.ntmps74
  go_wp2_with fail
  refine HC.out.mono ?_
  rintro e w1 hr
  rcases hr.cases with ⟨hC1, ⟨rfl, rfl⟩ | ⟨x, l1, v, rfl, rfl, rfl, hR1⟩⟩
  · have HT3 := Lib.hid (HT1.out rfl)
    clear hr HT1 HT2 HTL
    go_wp2_with fail
    exact ⟨rfl, Rds.fails hC1 HT3.out⟩
  · have hTL := HTL.out x l1 rfl
    have HT3 := Lib.hid (HT2.out x l1 rfl)
    clear hr HT1 HT2 HTL
    obtain ⟨v1, hb1, hv1⟩ := hR1.ex
    obtain ⟨a1, c1, rfl, -, -, -⟩ := hv1.ex
    have hc := hb1.cell 0
    simp only [List.getElem?_toArray, List.getElem?_cons_zero] at hc
    obtain ⟨L1, hL1⟩ : ∃ L, l1.length = L := ⟨_, rfl⟩
    rw [hL1] at hc hTL HT3
    have HL1 := Lib.hid hL1
    clear hL1 hb1 hv1
    by_cases hx0 : x < 0
    · have HT4 := Lib.hid (show T = none by rw [HT3.out, if_neg (by omega)])
      clear HT3
      go_wp2_with fail
      exact ⟨rfl, Rds.fails hC1 HT4.out⟩
    · by_cases hx : ((L1 / 8 : Nat) : Int) < x
      · have HT4 := Lib.hid (show T = none by rw [HT3.out, if_neg (by omega)])
        clear HT3
        go_wp2_with fail
        exact ⟨rfl, Rds.fails hC1 HT4.out⟩
      · obtain ⟨n, rfl⟩ := Int.eq_ofNat_of_zero_le (by omega : 0 ≤ x)
        have HT4 := Lib.hid (show T = rdMany p n l1 by rw [HT3.out, if_pos (by omega)]; rfl)
        have hq : (n : Int) ≤ (L1 : Int) / 8 := by omega
        have hn8 : 8 * n ≤ L1 := by omega
        have hSl := h.lt
        have HSB := Lib.hid hSl
        have HWS := Lib.hid h.ext.size
        clear HT3 hx0 hx HC h hSl
        go_wp2_with fail
        clear hc hq
        go_loopw [6, 24] (fun s6 s24 wr => ∃ (k : Nat) (xs : List Ins) (r : List UInt8), k ≤ n ∧ s24 = .int .i64 k ∧ xs.length = k ∧ Grow 5 98 VIns w.heap.size wr s6 xs ∧ RdAt W wr S r ∧ r.length + 8 * k ≤ L1 ∧ Chg (fun i => i = S) w wr ∧ Hid (T = rdPre xs (rdMany p (n - k) r))) (fun _ s24 _ => n - (intOf s24).toNat)
        case atStart => exact ⟨0, [], l1, Nat.zero_le _, rfl, rfl, Grow.nil _ _ _ _ _, hR1, by have := HL1.out; omega, hC1, by rw [Nat.sub_zero, getm.pre_nil]; exact HT4⟩
        case round =>
          obtain ⟨k, xs, r, hk, rfl, hxs, hG, hR, hrl, hC, hT⟩ := hrel
          clear HT4 hR1 hC1 HL1
          by_cases hlt : k < n
          · have hki : (k : Int) < (n : Int) := by omega
            obtain ⟨q, hq⟩ : ∃ q, n - k = q + 1 := ⟨n - k - 1, by omega⟩
            have hq2 : n - (k + 1) = q := by omega
            rw [hq] at hT
            have HQ := Lib.hid hq2
            have HXS := Lib.hid hxs
            clear hq hq2 hxs
            have HC1 := Lib.hid (HONE.out wr r hR (by omega) hC)
            go_wp2_with fail
            refine HC1.out.mono ?_
            rintro e w2 hr
            rcases hr.cases with ⟨hC2, ⟨hp, rfl⟩ | ⟨x, r2, v, hp, rfl, hv, hR2⟩⟩
            · have HT5 := Lib.hid (show T = none by rw [hT.out]; exact getm.pre_none (getm.many_none hp))
              clear hr hp HC1
              go_wp2_with fail
              exact ⟨rfl, Rds.fails (hC.then hC2) HT5.out⟩
            · have HT5 := Lib.hid (show T = rdPre (xs ++ [x]) (rdMany p q r2) by rw [hT.out]; exact getm.pre_some hp)
              have hr8 := HP.out _ _ _ hp
              have HV := Lib.hid hv
              obtain rfl := hv
              clear hr hp HC1
              have hG2 := hG.chg getv.ins_keeps hC2 (fun i hi => by have := HSB.out; omega)
              obtain ⟨us, hu1, hu2, hu3⟩ := hG2.ex
              rw [HXS.out] at hu2
              have HU := Lib.hid (And.intro hu1 hu3)
              have hsz : w.heap.size ≤ w2.heap.size := Nat.le_trans hC.size hC2.size
              have HGB := Lib.hid (fun i hi => (grow_base hG2 i hi).1)
              have HV2 := Lib.hid (getv.ins_keeps _ _ _ _ (new_apart (w := w2) (grow_base hG) hC.size) HV.out)
              clear hG hG2 hu1 hu3
              obtain ⟨i0_, hi, hz0, hz1, hz2⟩ := info_parts info_ins
              go_wp2_with (at_builtin; refine wpList_append_lies _ rfl _ _ 23 rfl w.heap.size 98 i0_ (.agg #[.int .i64 0, .int .i64 0, .int .i64 0, .int .i64 0, .int .i64 0]) 5 40 Tryz.underlying23 hi hz0 hz1 hz2 rfl (by decide) _ _ _ rfl (hu2.alloc _) ⟨w2.heap.size, 0, none⟩ 1 1 [.int .i64 x.op, .int .i64 x.a, .int .i64 x.b, .int .i64 x.c, .int .i64 x.n] rfl rfl (news_at rfl rfl) (by intro u hu; simp at hu; rcases hu with rfl | rfl | rfl | rfl | rfl <;> rfl) (by decide) (by unfold maxLen; omega) (by omega) (by simp; omega) (w2.heap.size + 1) (by simp) ?_; intro g cap' w3 hown hgrow hat hlt1)
              have hgs := grow_step HSB.out (hC.then hC2) hR2 HU.out.1 HU.out.2 HXS.out hown hgrow hat HGB.out HWS.out HV2.out rfl rfl getv.ins_keeps
              go_roundw
              case rel => exact ⟨k + 1, xs ++ [x], r2, by omega, by go_num, by simp [HXS.out], hgs.1, hgs.2.2, by omega, hgs.2.1, by rw [HQ.out]; exact HT5⟩
              case measure => simp [intOf]; omega
          · obtain rfl : k = n := by omega
            rw [Nat.sub_self] at hT
            have HT6 := Lib.hid (show T = some (xs, r) by rw [hT.out]; exact getm.pre_end xs r)
            clear hT
            go_wp2_with fail
            go_ret
            exact Rds.reads hC HT6.out (hG.row getv.ins_keeps getv.ins_lies) hR
theorem info_rel : (Tryz.prog.info? 100).map (fun i => (i.zero, i.size, i.bytes)) = some (some (.agg #[.int .i64 0, .int .i64 0, .string ⟨#[]⟩, .string ⟨#[]⟩]), 4, 48) := by kernel_rfl
set_option maxRecDepth 100000 in
set_option maxHeartbeats 4000000 in
theorem items_rel {W w : World} {S : Nat} {l : List UInt8} (h : RdAt W w S l) (hs : l.length ≤ 100000000) (K : Nat) (p : Prs FRel) (hp : ∀ l x r, p l = some (x, r) → r.length + 8 ≤ l.length)
    (hone : ∀ u r, RdAt W u S r → r.length ≤ l.length → Chg (fun i => i = S) w u → Calls Tryz.prog 79 #[.pointer (some ⟨K, 0, none⟩)] u (Rds (fun x v w' => VRel x v (hide (below u.heap.size) w')) W u S (p r))) :
    Calls Tryz.prog 78 #[.pointer (some ⟨S, 0, none⟩), .func (.func 79) #[] #[.pointer (some ⟨K, 0, none⟩)]] w (Rds (fun x v w' => RowAt 4 RelIn x v (hide (below w.heap.size) w')) W w S (rdItems p l)) := by
  have HC := Lib.hid (num_any h)
  have HT1 := Lib.hid (show rdNum l = none → rdItems p l = none from fun h => by unfold rdItems; rw [h])
  have HT2 := Lib.hid (show ∀ n r, rdNum l = some (n, r) → (rdItems p l = if 0 ≤ n ∧ n ≤ ((r.length / 8 : Nat) : Int) then rdMany p n.toNat r else none) from fun n r h => by unfold rdItems; rw [h])
  have HTL := Lib.hid (show ∀ n r, rdNum l = some (n, r) → r.length ≤ l.length from fun n r h => by
    unfold rdNum at h
    split at h
    · cases h
    · cases h; rw [List.length_drop]; omega)
  have HONE := Lib.hid hone
  have HP := Lib.hid hp
  generalize rdItems p l = T at *
  generalize rdNum l = R at *
  obtain ⟨L, hL⟩ : ∃ L, l.length = L := ⟨_, rfl⟩
  rw [hL] at HTL HONE hs
  clear hone hp hL
  go_enter Tryz.func78, Tryz.ntmps78
  go_wp2_with fail
  refine HC.out.mono ?_
  rintro e w1 hr
  rcases hr.cases with ⟨hC1, ⟨rfl, rfl⟩ | ⟨x, l1, v, rfl, rfl, rfl, hR1⟩⟩
  · have HT3 := Lib.hid (HT1.out rfl)
    clear hr HT1 HT2 HTL
    go_wp2_with fail
    exact ⟨rfl, Rds.fails hC1 HT3.out⟩
  · have hTL := HTL.out x l1 rfl
    have HT3 := Lib.hid (HT2.out x l1 rfl)
    clear hr HT1 HT2 HTL
    obtain ⟨v1, hb1, hv1⟩ := hR1.ex
    obtain ⟨a1, c1, rfl, -, -, -⟩ := hv1.ex
    have hc := hb1.cell 0
    simp only [List.getElem?_toArray, List.getElem?_cons_zero] at hc
    obtain ⟨L1, hL1⟩ : ∃ L, l1.length = L := ⟨_, rfl⟩
    rw [hL1] at hc hTL HT3
    have HL1 := Lib.hid hL1
    clear hL1 hb1 hv1
    by_cases hx0 : x < 0
    · have HT4 := Lib.hid (show T = none by rw [HT3.out, if_neg (by omega)])
      clear HT3
      go_wp2_with fail
      exact ⟨rfl, Rds.fails hC1 HT4.out⟩
    · by_cases hx : ((L1 / 8 : Nat) : Int) < x
      · have HT4 := Lib.hid (show T = none by rw [HT3.out, if_neg (by omega)])
        clear HT3
        go_wp2_with fail
        exact ⟨rfl, Rds.fails hC1 HT4.out⟩
      · obtain ⟨n, rfl⟩ := Int.eq_ofNat_of_zero_le (by omega : 0 ≤ x)
        have HT4 := Lib.hid (show T = rdMany p n l1 by rw [HT3.out, if_pos (by omega)]; rfl)
        have hq : (n : Int) ≤ (L1 : Int) / 8 := by omega
        have hn8 : 8 * n ≤ L1 := by omega
        have hSl := h.lt
        have HSB := Lib.hid hSl
        have HWS := Lib.hid h.ext.size
        clear HT3 hx0 hx HC h hSl
        go_wp2_with fail
        clear hc hq
        go_loopw [6, 24] (fun s6 s24 wr => ∃ (k : Nat) (xs : List FRel) (r : List UInt8), k ≤ n ∧ s24 = .int .i64 k ∧ xs.length = k ∧ Grow 4 100 VRel w.heap.size wr s6 xs ∧ RdAt W wr S r ∧ r.length + 8 * k ≤ L1 ∧ Chg (fun i => i = S) w wr ∧ Hid (T = rdPre xs (rdMany p (n - k) r))) (fun _ s24 _ => n - (intOf s24).toNat)
        case atStart => exact ⟨0, [], l1, Nat.zero_le _, rfl, rfl, Grow.nil _ _ _ _ _, hR1, by have := HL1.out; omega, hC1, by rw [Nat.sub_zero, getm.pre_nil]; exact HT4⟩
        case round =>
          obtain ⟨k, xs, r, hk, rfl, hxs, hG, hR, hrl, hC, hT⟩ := hrel
          clear HT4 hR1 hC1 HL1
          by_cases hlt : k < n
          · have hki : (k : Int) < (n : Int) := by omega
            obtain ⟨q, hq⟩ : ∃ q, n - k = q + 1 := ⟨n - k - 1, by omega⟩
            have hq2 : n - (k + 1) = q := by omega
            rw [hq] at hT
            have HQ := Lib.hid hq2
            have HXS := Lib.hid hxs
            clear hq hq2 hxs
            have HC1 := Lib.hid (HONE.out wr r hR (by omega) hC)
            go_wp2_with fail
            refine HC1.out.mono ?_
            rintro e w2 hr
            rcases hr.cases with ⟨hC2, ⟨hp, rfl⟩ | ⟨x, r2, v, hp, rfl, hv, hR2⟩⟩
            · have HT5 := Lib.hid (show T = none by rw [hT.out]; exact getm.pre_none (getm.many_none hp))
              clear hr hp HC1
              go_wp2_with fail
              exact ⟨rfl, Rds.fails (hC.then hC2) HT5.out⟩
            · have HT5 := Lib.hid (show T = rdPre (xs ++ [x]) (rdMany p q r2) by rw [hT.out]; exact getm.pre_some hp)
              have hr8 := HP.out _ _ _ hp
              have HV := Lib.hid hv
              obtain rfl := hv
              clear hr hp HC1
              have hG2 := hG.chg getv.rel_keeps hC2 (fun i hi => by have := HSB.out; omega)
              obtain ⟨us, hu1, hu2, hu3⟩ := hG2.ex
              rw [HXS.out] at hu2
              have HU := Lib.hid (And.intro hu1 hu3)
              have hsz : w.heap.size ≤ w2.heap.size := Nat.le_trans hC.size hC2.size
              have HGB := Lib.hid (fun i hi => (grow_base hG2 i hi).1)
              have HV2 := Lib.hid (getv.rel_keeps _ _ _ _ (new_apart (w := w2) (grow_base hG) hC.size) HV.out)
              clear hG hG2 hu1 hu3
              obtain ⟨i0_, hi, hz0, hz1, hz2⟩ := info_parts info_rel
              go_wp2_with (at_builtin; refine wpList_append_lies _ rfl _ _ 54 rfl w.heap.size 100 i0_ (.agg #[.int .i64 0, .int .i64 0, .string ⟨#[]⟩, .string ⟨#[]⟩]) 4 48 Tryz.underlying54 hi hz0 hz1 hz2 rfl (by decide) _ _ _ rfl (hu2.alloc _) ⟨w2.heap.size, 0, none⟩ 1 1 [.int .i64 x.at_, .int .i64 x.kind, .string x.modn, .string x.name] rfl rfl (news_at rfl rfl) (by intro u hu; simp at hu; rcases hu with rfl | rfl | rfl | rfl <;> rfl) (by decide) (by unfold maxLen; omega) (by omega) (by simp; omega) (w2.heap.size + 1) (by simp) ?_; intro g cap' w3 hown hgrow hat hlt1)
              have hgs := grow_step HSB.out (hC.then hC2) hR2 HU.out.1 HU.out.2 HXS.out hown hgrow hat HGB.out HWS.out HV2.out rfl rfl getv.rel_keeps
              go_roundw
              case rel => exact ⟨k + 1, xs ++ [x], r2, by omega, by go_num, by simp [HXS.out], hgs.1, hgs.2.2, by omega, hgs.2.1, by rw [HQ.out]; exact HT5⟩
              case measure => simp [intOf]; omega
          · obtain rfl : k = n := by omega
            rw [Nat.sub_self] at hT
            have HT6 := Lib.hid (show T = some (xs, r) by rw [hT.out]; exact getm.pre_end xs r)
            clear hT
            go_wp2_with fail
            go_ret
            exact Rds.reads hC HT6.out (hG.row getv.rel_keeps getv.rel_lies) hR
end getw
end Go.Proofs.YtpcihajmcejliabGreatDoor
