/- Many cells of one block stored one behind the other. The walk of the program's Get. -/
import Derived.Test.YtpcihajmcejliabGreatDoorFrame
import Derived.Test.YtpcihajmcejliabGreatDoorGetB
import Derived.Test.YtpcihajmcejliabGreatDoorObjMayA
import Derived.Defers
import Derived.Recover
namespace Go.Proofs.YtpcihajmcejliabGreatDoor
open Go.RowKit
/-- cells stored from a place on -/
def sets (w : World) (b : Nat) (o : Nat) : List Value → World
  | [] => w
  | v :: r => sets (w.setCell ⟨b, o, none⟩ v) b (o + 1) r
/-- the cells behind it -/
def put (c : Array Value) (o : Nat) : List Value → Array Value
  | [] => c
  | v :: r => put (c.setIfInBounds o v) (o + 1) r
theorem sets_chg (w : World) (b : Nat) (l : List Value) : ∀ o, Chg (fun i => i = b) w (sets w b o l) := by
  induction l generalizing w with
  | nil => exact fun _ => Chg.refl _ _
  | cons v r ih => exact fun o => ((Chg.refl (fun i => i = b) w).setCell (p := ⟨b, o, none⟩) (fun _ => rfl) v).then (ih _ (o + 1))
theorem Blk.sets {w : World} {b : Nat} {c : Array Value} {T : TypeId} (l : List Value) : ∀ (o : Nat) (_ : Blk w b c T), Blk (sets w b o l) b (put c o l) T := by
  induction l generalizing w c with
  | nil => exact fun _ h => h
  | cons v r ih => exact fun o h => ih (o + 1) (h.set o v)
theorem put_list (l : List Value) : ∀ (a b : List Value), b.length = l.length → put (a ++ b).toArray a.length l = (a ++ l).toArray := by
  induction l with
  | nil => intro a b h; rw [List.eq_nil_of_length_eq_zero h]; rfl
  | cons v r ih =>
    intro a b h
    cases b with
    | nil => simp at h
    | cons c b =>
      have e : (a ++ c :: b).toArray.setIfInBounds a.length v = ((a ++ [v]) ++ b).toArray := by simp
      rw [put, e]
      have := ih (a ++ [v]) b (by simpa using h)
      rw [List.length_append, List.length_singleton] at this
      rw [this]
      simp
/-- a whole block stored anew -/
theorem Blk.setsAll {w : World} {b : Nat} {c : Array Value} {T : TypeId} (h : Blk w b c T) (l : List Value) (hl : c.size = l.length) : Blk (Go.Proofs.YtpcihajmcejliabGreatDoor.sets w b 0 l) b l.toArray T := by
  have := Blk.sets l 0 h
  have e := put_list l [] c.toList (by rw [Array.length_toList]; exact hl)
  simp only [List.nil_append, List.length_nil, Array.toArray_toList] at e
  rwa [e] at this
theorem Blk.setsOther {w : World} {a b : Nat} {c : Array Value} {T : TypeId} (h : Blk w a c T) (hne : a ≠ b) (o : Nat) (l : List Value) : Blk (Go.Proofs.YtpcihajmcejliabGreatDoor.sets w b o l) a c T := h.chg (sets_chg w b l o) hne
theorem sets_size (w : World) (b o : Nat) (l : List Value) : (sets w b o l).heap.size = w.heap.size := by
  induction l generalizing w o with
  | nil => rfl
  | cons v r ih => rw [sets, ih]; simp [World.setCell]
end Go.Proofs.YtpcihajmcejliabGreatDoor
namespace Go.Proofs.YtpcihajmcejliabGreatDoor
open Go.RowKit
def zeroObj : Array Value := #[.string ⟨#[]⟩, .slice none 0 0, .slice none 0 0, .slice none 0 0, .slice none 0 0, .slice none 0 0, .slice none 0 0, .slice none 0 0, .slice none 0 0, .int .i64 0, .int .i64 0, .int .i64 0, .int .i64 0]
theorem results_cc {P : Program} {fn : Func} {p q : Tmp} {ty ty2 : TypeId} (h : fn.results = #[.cell p ty, .cell q ty2]) (tmps : Array Value) (w : World) {g g2 : Nat} {T T2 : TypeId} {cs : Array Value} {d d2 : TypeDesc} {v : Value}
    (hp : tmps.getD p undef = .pointer (some ⟨g, 0, none⟩)) (hg : Blk w g cs T) (hu : P.underlying ty = some d) (hd : (match d with | .struct _ | .array _ _ => true | _ => false) = true) (hi : (P.info? ty).map (·.size) = some cs.size)
    (hq : tmps.getD q undef = .pointer (some ⟨g2, 0, none⟩)) (hg2 : Blk w g2 #[v] T2) (hu2 : P.underlying ty2 = some d2) (hd2 : (match d2 with | .struct _ | .array _ _ => true | _ => false) = false) :
    (results fn tmps).run P w = .ok (.tuple #[.agg cs, v]) w := by
  have hp' : tmps[p]?.getD undef = .pointer (some ⟨g, 0, none⟩) := by simpa using hp
  have hq' : tmps[q]?.getD undef = .pointer (some ⟨g2, 0, none⟩) := by simpa using hq
  have hl : (loadVar ty2 ⟨g2, 0, none⟩).run P w = .ok v w := by
    have hc := hg2.cell 0
    simp only [List.getElem?_toArray, List.getElem?_cons_zero] at hc
    have hagg : (isAgg ty2).run P w = .ok false w := by
      unfold isAgg
      rw [Sem.run_bind, run_underlying hu2 w]
      cases d2 <;> simp_all
    simp [loadVar, Sem.run_bind, hagg, hc]
  simp [results, h, hp', hq', asAddr, run_loadVar_row w g T ty cs (0, 0) d hg hu hd hi, hl]
namespace getw
theorem short_is (v : Value) (w : World) : (Instr.typeAssert (.iface 132 v) 20 132 true).run Tryz.prog w = .ok (.tuple #[v, .bool true]) w := by kernel_rfl
def CatchQ (R E : Nat) (w : World) (e : Exit) (a : Act) (w' : World) : Prop := e = .normal ∧ a.defers = [] ∧ Blk w' R zeroObj 57 ∧ Blk w' E #[.int .i64 2] 26 ∧ Chg (fun i => i = R ∨ i = E) w w'
set_option maxRecDepth 100000 in
set_option maxHeartbeats 4000000 in
theorem catch_get (R E : Nat) (cs : Array Value) (z : Value) (w : World) (hR : Blk w R cs 57) (hcs : cs.size = 13) (hE : Blk w E #[z] 26) (hne : R ≠ E) :
    CallsD Tryz.prog 71 #[.pointer (some ⟨R, 0, none⟩), .pointer (some ⟨E, 0, none⟩)] (.panicking shortV) w fun e u' w' =>
      e = .returned (.tuple #[]) ∧ u' = .panicking [{ v := .iface 132 (.agg #[]), recovered := true }] ∧ Blk w' R zeroObj 57 ∧ Blk w' E #[.int .i64 2] 26 ∧ Chg (fun i => i = R ∨ i = E) w w' := by
  have hta := short_is
  have hRlt := hR.lt
  have hElt := hE.lt
  have hR0 := hR.alloc (.cells #[] 132)
  have hE0 := hE.alloc (.cells #[] 132)
  obtain ⟨c0, c1, c2, c3, c4, c5, c6, c7, c8, c9, c10, c11, c12, rfl⟩ : ∃ c0 c1 c2 c3 c4 c5 c6 c7 c8 c9 c10 c11 c12, cs = #[c0, c1, c2, c3, c4, c5, c6, c7, c8, c9, c10, c11, c12] := by
    obtain ⟨l⟩ := cs
    match l, hcs with
    | [c0, c1, c2, c3, c4, c5, c6, c7, c8, c9, c10, c11, c12], _ => exact ⟨_, _, _, _, _, _, _, _, _, _, _, _, _, rfl⟩
  clear hcs
  have hRc := hR.cell
  have hRf := hR.frozen
  have hEc := hE.cell
  have hEf := hE.frozen
  clear hR0 hE0
  refine callsD_of_wpS Tryz.func71 rfl fun c₀ cs hu => ?_
  unfold shortV at hu
  apply wpS_seq
  apply wpS_region
  simp [wpOpsS, go_sem, recoverD, hu, Tryz.ntmps71, Exit.thenS]
  simp only [Array.replicate, List.replicate, List.append_toArray, List.setIfInBounds_toArray, List.set_cons_zero, List.set_cons_succ, List.cons_append, List.nil_append]
  refine wpS_of_wp (Code.wp_mono (Q := CatchQ R E w) ?_ ?_)
  · rintro e a w1 ⟨rfl, hd, h1, h2, h3⟩
    exact ⟨hd, _, rfl, _, results_none rfl _ _ _, rfl, rfl, h1, h2, h3⟩
  clear hu
  go_wp2_with (fail)
  have hw : ((((((((((((((w.setCell ⟨R, 0, none⟩ (.string ⟨#[]⟩)).setCell ⟨R, 1, none⟩ (.slice none 0 0)).setCell ⟨R, 2, none⟩ (.slice none 0 0)).setCell ⟨R, 3, none⟩ (.slice none 0 0)).setCell ⟨R, 4, none⟩ (.slice none 0 0)).setCell ⟨R, 5, none⟩ (.slice none 0 0)).setCell ⟨R, 6, none⟩ (.slice none 0 0)).setCell ⟨R, 7, none⟩ (.slice none 0 0)).setCell ⟨R, 8, none⟩ (.slice none 0 0)).setCell ⟨R, 9, none⟩ (.int .i64 0)).setCell ⟨R, 10, none⟩ (.int .i64 0)).setCell ⟨R, 11, none⟩ (.int .i64 0)).setCell ⟨R, 12, none⟩ (.int .i64 0)).setCell ⟨E, 0, none⟩ (.int .i64 2)) = Go.Proofs.YtpcihajmcejliabGreatDoor.sets (Go.Proofs.YtpcihajmcejliabGreatDoor.sets w R 0 [.string ⟨#[]⟩, .slice none 0 0, .slice none 0 0, .slice none 0 0, .slice none 0 0, .slice none 0 0, .slice none 0 0, .slice none 0 0, .slice none 0 0, .int .i64 0, .int .i64 0, .int .i64 0, .int .i64 0]) E 0 [.int .i64 2] := rfl
  rw [hw]
  unfold CatchQ
  exact ⟨rfl, rfl, ((hR.setsAll [.string ⟨#[]⟩, .slice none 0 0, .slice none 0 0, .slice none 0 0, .slice none 0 0, .slice none 0 0, .slice none 0 0, .slice none 0 0, .slice none 0 0, .int .i64 0, .int .i64 0, .int .i64 0, .int .i64 0] rfl).setsOther hne 0 _).alloc _, ((hE.setsOther (Ne.symm hne) 0 _).setsAll [.int .i64 2] rfl).alloc _, (((sets_chg w R _ 0).weak (fun _ _ h => .inl h)).then ((sets_chg _ E _ 0).weak (fun _ _ h => .inr h))).alloc _⟩

/-- an object's rows, some of them not yet read -/
def ObjD (w : World) (f : FFace) (fa : Option Addr) (fm : Nat) (fc : Option Addr) (fd : Nat) (im : List FFace) (ia : Option Addr) (co : List Ins) (ca : Option Addr) (re : List FRel) (ra : Option Addr) (ps : List FPlc) (pa : Option Addr) (lo : List FPlc) (la : Option Addr) (hi : List FPlc) (ha : Option Addr) : Prop :=
  FaceAt w f (.agg #[.string f.modn, .slice fa f.vars.length fm, .slice fc f.procs.length fd]) ∧ AllIn 3 FaceIn w ia im ∧ AllIn 5 InsIn5 w ca co ∧ AllIn 4 RelIn w ra re ∧ AllIn 2 PlcIn w pa ps ∧ AllIn 2 PlcIn w la lo ∧ AllIn 2 PlcIn w ha hi
theorem ObjD.keeps {w w' : World} (hk : Keeps w w') {f : FFace} {fa : Option Addr} {fm : Nat} {fc : Option Addr} {fd : Nat} {im : List FFace} {ia : Option Addr} {co : List Ins} {ca : Option Addr} {re : List FRel} {ra : Option Addr} {ps : List FPlc} {pa : Option Addr} {lo : List FPlc} {la : Option Addr} {hi : List FPlc} {ha : Option Addr}
    (h : ObjD w f fa fm fc fd im ia co ca re ra ps pa lo la hi ha) : ObjD w' f fa fm fc fd im ia co ca re ra ps pa lo la hi ha := by
  obtain ⟨h0, h1, h2, h3, h4, h5, h6⟩ := h
  exact ⟨FaceAt.keeps hk h0, h1.keeps hk fun _ _ _ => FaceIn.keeps hk, h2.keeps hk fun _ _ _ => InsIn5.keeps hk, h3.keeps hk fun _ _ _ => RelIn.keeps hk, h4.keeps hk fun _ _ _ => PlcIn.keeps hk, h5.keeps hk fun _ _ _ => PlcIn.keeps hk, h6.keeps hk fun _ _ _ => PlcIn.keeps hk⟩
theorem ObjD.chg {w w' : World} {B : Nat} {S : Nat → Prop} (hC : Chg S w w') (hS : ∀ i, S i → i < B) {f : FFace} {fa : Option Addr} {fm : Nat} {fc : Option Addr} {fd : Nat} {im : List FFace} {ia : Option Addr} {co : List Ins} {ca : Option Addr} {re : List FRel} {ra : Option Addr} {ps : List FPlc} {pa : Option Addr} {lo : List FPlc} {la : Option Addr} {hi : List FPlc} {ha : Option Addr}
    (h : ObjD (hide (below B) w) f fa fm fc fd im ia co ca re ra ps pa lo la hi ha) : ObjD (hide (below B) w') f fa fm fc fd im ia co ca re ra ps pa lo la hi ha := h.keeps (keeps_chg hC fun i _ hs => by simp [below, hS i hs])
theorem ObjD.set {w : World} {B : Nat} {p : Addr} (hp : p.block < B) (u : Value) {f : FFace} {fa : Option Addr} {fm : Nat} {fc : Option Addr} {fd : Nat} {im : List FFace} {ia : Option Addr} {co : List Ins} {ca : Option Addr} {re : List FRel} {ra : Option Addr} {ps : List FPlc} {pa : Option Addr} {lo : List FPlc} {la : Option Addr} {hi : List FPlc} {ha : Option Addr}
    (h : ObjD (hide (below B) w) f fa fm fc fd im ia co ca re ra ps pa lo la hi ha) : ObjD (hide (below B) (w.setCell p u)) f fa fm fc fd im ia co ca re ra ps pa lo la hi ha := h.chg ((Chg.refl (fun i => i = p.block) w).setCell (fun _ => rfl) u) (fun i hi => by omega)
theorem ObjD.nil (w : World) : ObjD w ⟨⟨#[]⟩, [], []⟩ none 0 none 0 [] none [] none [] none [] none [] none [] none :=
  ⟨⟨none, 0, none, 0, rfl, fun j hj => by simp at hj, fun j hj => by simp at hj, by decide, by decide, by decide, by decide, by decide⟩, fun j hj => by simp at hj, fun j hj => by simp at hj, fun j hj => by simp at hj, fun j hj => by simp at hj, fun j hj => by simp at hj, fun j hj => by simp at hj⟩
/-- what Get makes of bytes -/
def GetPost (w : World) (P : Option (FObj × List UInt8)) (e : Ending) (w' : World) : Prop :=
  Ext w w' ∧ ((∃ x o, P = some (x, []) ∧ mayObjB x = true ∧ e = .returned (.tuple #[o, .int .i64 0]) ∧ ObjAt w' x o) ∨ ((∀ x, P = some (x, []) → mayObjB x = false) ∧ e = .returned (.tuple #[.agg zeroObj, .int .i64 2])))
theorem GetPost.fails {w w' : World} {P : Option (FObj × List UInt8)} (h : Ext w w') (hP : ∀ x, P = some (x, []) → mayObjB x = false) : GetPost w P (.returned (.tuple #[.agg zeroObj, .int .i64 2])) w' := ⟨h, .inr ⟨hP, rfl⟩⟩
theorem ext_rd {w u u' : World} {S : Nat} (h : Ext w u) (hS : w.heap.size ≤ S) (hC : Chg (fun i => i = S) u u') : Ext w u' := h.trans hC fun i hi e => by omega
theorem map_some {α β : Type} {p : Prs α} {f : α → Prs β} {l r : List UInt8} {y : β} (h : rdMap p f l = some (y, r)) : ∃ x r2, p l = some (x, r2) ∧ f x r2 = some (y, r) := by
  unfold rdMap at h
  split at h
  · cases h
  · exact ⟨_, _, ‹_›, h⟩
theorem many_all {α : Type} {p : Prs α} (hp : ∀ l x r, p l = some (x, r) → r.length + 8 ≤ l.length) (n : Nat) : ∀ (l : List UInt8) (xs : List α) (r : List UInt8), rdMany p n l = some (xs, r) → xs.length * 8 + r.length ≤ l.length ∧ ∀ x ∈ xs, ∃ l' r', p l' = some (x, r') ∧ l'.length ≤ l.length := by
  induction n with
  | zero => intro l x r h; cases h; simp
  | succ n ih =>
    intro l x r h
    unfold rdMany at h
    split at h
    · cases h
    · rename_i y r2 hy
      have h8 := hp _ _ _ hy
      split at h
      · cases h
      · rename_i ys r3 hys
        cases h
        obtain ⟨h1, h2⟩ := ih _ _ _ hys
        refine ⟨by rw [List.length_cons]; omega, fun z hz => ?_⟩
        rcases List.mem_cons.1 hz with rfl | hz
        · exact ⟨_, _, hy, Nat.le_refl _⟩
        · obtain ⟨l', r', h3, h4⟩ := h2 z hz
          exact ⟨l', r', h3, by omega⟩
theorem items_all {α : Type} {p : Prs α} (hp : ∀ l x r, p l = some (x, r) → r.length + 8 ≤ l.length) {l : List UInt8} {xs : List α} {r : List UInt8} (h : rdItems p l = some (xs, r)) : xs.length * 8 + r.length ≤ l.length ∧ ∀ x ∈ xs, ∃ l' r', p l' = some (x, r') ∧ l'.length ≤ l.length := by
  unfold rdItems at h
  split at h
  · cases h
  · rename_i n r2 hn
    have h8 := num_le _ _ _ hn
    split at h
    · obtain ⟨h1, h2⟩ := many_all hp _ _ _ _ h
      refine ⟨by omega, fun x hx => ?_⟩
      obtain ⟨l', r', h3, h4⟩ := h2 x hx
      exact ⟨l', r', h3, by omega⟩
    · cases h
theorem text_size {l r : List UInt8} {x : ByteArray} (h : rdText l = some (x, r)) : x.size ≤ l.length := by
  unfold rdText at h
  split at h
  · cases h
  · rename_i n r2 hn
    have := num_le _ _ _ hn
    split at h
    · cases h
      show (List.toArray _).size ≤ _
      rw [List.size_toArray, List.length_take]
      omega
    · cases h
theorem face_small {l r : List UInt8} {x : FFace} (h : rdFace l = some (x, r)) : (x.vars.length + x.procs.length) * 8 ≤ l.length := by
  obtain ⟨nm, r1, h1, h⟩ := map_some h
  obtain ⟨vs, r2, h2, h⟩ := map_some h
  obtain ⟨ps, r3, h3, h⟩ := map_some h
  cases h
  have e1 := text_le _ _ _ h1
  have e2 := (items_all var_le h2).1
  have e3 := (items_all proc_le h3).1
  show (vs.length + ps.length) * 8 ≤ _
  omega
theorem rel_small {l r : List UInt8} {x : FRel} (h : rdRel l = some (x, r)) : x.modn.size ≤ l.length ∧ x.name.size ≤ l.length := by
  obtain ⟨n, r1, h1, h⟩ := map_some h
  obtain ⟨k, r2, h2, h⟩ := map_some h
  obtain ⟨m, r3, h3, h⟩ := map_some h
  obtain ⟨s, r4, h4, h⟩ := map_some h
  cases h
  have e1 := num_le _ _ _ h1
  have e2 := num_le _ _ _ h2
  have e3 := text_le _ _ _ h3
  have s3 := text_size h3
  have s4 := text_size h4
  exact ⟨by show m.size ≤ _; omega, by show s.size ≤ _; omega⟩
theorem obj_small {l r : List UInt8} {x : FObj} (h : rdObj l = some (x, r)) (hs : l.length ≤ 1048576) : ObjSmall x := by
  obtain ⟨f, r1, h1, h⟩ := map_some h
  obtain ⟨im, r2, h2, h⟩ := map_some h
  obtain ⟨co, r3, h3, h⟩ := map_some h
  obtain ⟨re, r4, h4, h⟩ := map_some h
  obtain ⟨ps, r5, h5, h⟩ := map_some h
  obtain ⟨lo, r6, h6, h⟩ := map_some h
  obtain ⟨hi, r7, h7, h⟩ := map_some h
  obtain ⟨a, r8, h8, h⟩ := map_some h
  obtain ⟨b, r9, h9, h⟩ := map_some h
  obtain ⟨c, r10, h10, h⟩ := map_some h
  obtain ⟨d, r11, h11, h⟩ := map_some h
  cases h
  have e1 := face_le _ _ _ h1
  have e2 := items_all face_le h2
  have e3 := items_all ins_le h3
  have e4 := items_all rel_le h4
  have e5 := items_all plc_le h5
  have e6 := items_all plc_le h6
  have e7 := items_all plc_le h7
  refine ⟨?_, ?_, ?_, ?_, ?_, ?_, fun g hg => ?_, fun g hg => ?_⟩
  · show im.length ≤ _; omega
  · show co.length ≤ _; omega
  · show re.length ≤ _; omega
  · show ps.length ≤ _; omega
  · show lo.length ≤ _; omega
  · show hi.length ≤ _; omega
  · rcases List.mem_cons.1 hg with rfl | hg
    · have := face_small h1; omega
    · obtain ⟨l', r', q1, q2⟩ := e2.2 g hg
      have := face_small q1
      omega
  · obtain ⟨l', r', q1, q2⟩ := e4.2 g hg
    have := rel_small q1
    omega
theorem idle_get (R E : Nat) (w : World) :
    CallsD Tryz.prog 71 #[.pointer (some ⟨R, 0, none⟩), .pointer (some ⟨E, 0, none⟩)] .returning w fun e u' w' => e = .returned (.tuple #[]) ∧ u' = .returning ∧ w' = w := by
  refine callsD_of_wpS Tryz.func71 rfl fun c₀ cs hu => ?_
  apply wpS_seq
  apply wpS_region
  simp [wpOpsS, go_sem, recoverD, hu, Tryz.ntmps71, Exit.thenS]
  simp only [Array.replicate, List.replicate, List.append_toArray, List.setIfInBounds_toArray, List.set_cons_zero, List.set_cons_succ, List.cons_append, List.nil_append]
  refine wpS_of_wp (Code.wp_mono (Q := fun e a' w' => e = .normal ∧ a'.defers = [] ∧ w' = w) ?_ ?_)
  · rintro e a w1 ⟨rfl, hd, rfl⟩
    exact ⟨hd, .returning, by cases c₀; simp_all, _, results_none rfl _ _ _, rfl, rfl, rfl⟩
  clear hu
  go_wp2_with (fail)
set_option maxRecDepth 100000 in
set_option maxHeartbeats 16000000 in
theorem get_any (l : List UInt8) (v : Value) (w : World) (hv : BytesAt w l v) (hs : l.length ≤ 100000000) (hsm0 : ∀ x r, rdObj l = some (x, r) → ObjSmall x)
    (hM : ∀ u x v, Ext w u → ObjAt u x v → ObjSmall x → Calls Tryz.prog 59 #[v] u fun e w' => e = .returned (.bool (mayObjB x)) ∧ Ext u w') :
    Calls Tryz.prog 23 #[v] w (GetPost w (rdObj l)) := by
  obtain ⟨T, hT⟩ : ∃ T, rdObj l = T := ⟨_, rfl⟩
  have HT := Lib.hid hT
  have HSM0 := Lib.hid hsm0
  rw [hT]
  clear hsm0
  obtain ⟨a, c, rfl, h1, h2, h3⟩ := hv.ex
  obtain ⟨R, hRe⟩ : ∃ R, w.heap.size = R := ⟨_, rfl⟩
  obtain ⟨E, hEe⟩ : ∃ E, R + 1 = E := ⟨_, rfl⟩
  obtain ⟨S, hSe⟩ : ∃ S, E + 1 = S := ⟨_, rfl⟩
  obtain ⟨K, hKe⟩ : ∃ K, S + 1 = K := ⟨_, rfl⟩
  have hR0 : Blk ((((w.alloc (.cells #[.string ⟨#[]⟩, .slice none 0 0, .slice none 0 0, .slice none 0 0, .slice none 0 0, .slice none 0 0, .slice none 0 0, .slice none 0 0, .slice none 0 0, .int .i64 0, .int .i64 0, .int .i64 0, .int .i64 0] 57)).alloc (.cells #[.int .i64 0] 26)).alloc (.cells #[.slice a l.length c] 135)).alloc (.cells #[.pointer (some ⟨S, 0, none⟩)] 134)) R #[.string ⟨#[]⟩, .slice none 0 0, .slice none 0 0, .slice none 0 0, .slice none 0 0, .slice none 0 0, .slice none 0 0, .slice none 0 0, .slice none 0 0, .int .i64 0, .int .i64 0, .int .i64 0, .int .i64 0] 57 := by
    rw [← hRe]
    exact (((Blk.made w #[.string ⟨#[]⟩, .slice none 0 0, .slice none 0 0, .slice none 0 0, .slice none 0 0, .slice none 0 0, .slice none 0 0, .slice none 0 0, .slice none 0 0, .int .i64 0, .int .i64 0, .int .i64 0, .int .i64 0] 57).alloc (.cells #[.int .i64 0] 26)).alloc (.cells #[.slice a l.length c] 135)).alloc (.cells #[.pointer (some ⟨S, 0, none⟩)] 134)
  have hE0 : Blk ((((w.alloc (.cells #[.string ⟨#[]⟩, .slice none 0 0, .slice none 0 0, .slice none 0 0, .slice none 0 0, .slice none 0 0, .slice none 0 0, .slice none 0 0, .slice none 0 0, .int .i64 0, .int .i64 0, .int .i64 0, .int .i64 0] 57)).alloc (.cells #[.int .i64 0] 26)).alloc (.cells #[.slice a l.length c] 135)).alloc (.cells #[.pointer (some ⟨S, 0, none⟩)] 134)) E #[.int .i64 0] 26 := by
    rw [← hEe, ← hRe]
    exact ((Blk.made2 w (.cells #[.string ⟨#[]⟩, .slice none 0 0, .slice none 0 0, .slice none 0 0, .slice none 0 0, .slice none 0 0, .slice none 0 0, .slice none 0 0, .slice none 0 0, .int .i64 0, .int .i64 0, .int .i64 0, .int .i64 0] 57) #[.int .i64 0] 26).alloc (.cells #[.slice a l.length c] 135)).alloc (.cells #[.pointer (some ⟨S, 0, none⟩)] 134)
  have hS0 : Blk (((w.alloc (.cells #[.string ⟨#[]⟩, .slice none 0 0, .slice none 0 0, .slice none 0 0, .slice none 0 0, .slice none 0 0, .slice none 0 0, .slice none 0 0, .slice none 0 0, .int .i64 0, .int .i64 0, .int .i64 0, .int .i64 0] 57)).alloc (.cells #[.int .i64 0] 26)).alloc (.cells #[.slice a l.length c] 135)) S #[.slice a l.length c] 135 := by
    have h := Blk.made ((w.alloc (.cells #[.string ⟨#[]⟩, .slice none 0 0, .slice none 0 0, .slice none 0 0, .slice none 0 0, .slice none 0 0, .slice none 0 0, .slice none 0 0, .slice none 0 0, .int .i64 0, .int .i64 0, .int .i64 0, .int .i64 0] 57)).alloc (.cells #[.int .i64 0] 26)) #[.slice a l.length c] 135
    have e : ((w.alloc (.cells #[.string ⟨#[]⟩, .slice none 0 0, .slice none 0 0, .slice none 0 0, .slice none 0 0, .slice none 0 0, .slice none 0 0, .slice none 0 0, .slice none 0 0, .int .i64 0, .int .i64 0, .int .i64 0, .int .i64 0] 57)).alloc (.cells #[.int .i64 0] 26)).heap.size = S := by simp; omega
    rwa [e] at h
  have hK0 : Blk ((((w.alloc (.cells #[.string ⟨#[]⟩, .slice none 0 0, .slice none 0 0, .slice none 0 0, .slice none 0 0, .slice none 0 0, .slice none 0 0, .slice none 0 0, .slice none 0 0, .int .i64 0, .int .i64 0, .int .i64 0, .int .i64 0] 57)).alloc (.cells #[.int .i64 0] 26)).alloc (.cells #[.slice a l.length c] 135)).alloc (.cells #[.pointer (some ⟨S, 0, none⟩)] 134)) K #[.pointer (some ⟨S, 0, none⟩)] 134 := by
    have h := Blk.made (((w.alloc (.cells #[.string ⟨#[]⟩, .slice none 0 0, .slice none 0 0, .slice none 0 0, .slice none 0 0, .slice none 0 0, .slice none 0 0, .slice none 0 0, .slice none 0 0, .int .i64 0, .int .i64 0, .int .i64 0, .int .i64 0] 57)).alloc (.cells #[.int .i64 0] 26)).alloc (.cells #[.slice a l.length c] 135)) #[.pointer (some ⟨S, 0, none⟩)] 134
    have e : (((w.alloc (.cells #[.string ⟨#[]⟩, .slice none 0 0, .slice none 0 0, .slice none 0 0, .slice none 0 0, .slice none 0 0, .slice none 0 0, .slice none 0 0, .slice none 0 0, .int .i64 0, .int .i64 0, .int .i64 0, .int .i64 0] 57)).alloc (.cells #[.int .i64 0] 26)).alloc (.cells #[.slice a l.length c] 135)).heap.size = K := by simp; omega
    rwa [e] at h
  have hX0 : Ext w ((((w.alloc (.cells #[.string ⟨#[]⟩, .slice none 0 0, .slice none 0 0, .slice none 0 0, .slice none 0 0, .slice none 0 0, .slice none 0 0, .slice none 0 0, .slice none 0 0, .int .i64 0, .int .i64 0, .int .i64 0, .int .i64 0] 57)).alloc (.cells #[.int .i64 0] 26)).alloc (.cells #[.slice a l.length c] 135)).alloc (.cells #[.pointer (some ⟨S, 0, none⟩)] 134)) := ((((Chg.refl _ w).alloc _).alloc _).alloc _).alloc _
  have hr0 : RdAt w ((((w.alloc (.cells #[.string ⟨#[]⟩, .slice none 0 0, .slice none 0 0, .slice none 0 0, .slice none 0 0, .slice none 0 0, .slice none 0 0, .slice none 0 0, .slice none 0 0, .int .i64 0, .int .i64 0, .int .i64 0, .int .i64 0] 57)).alloc (.cells #[.int .i64 0] 26)).alloc (.cells #[.slice a l.length c] 135)).alloc (.cells #[.pointer (some ⟨S, 0, none⟩)] 134)) S l := ⟨⟨_, hS0.alloc (.cells #[.pointer (some ⟨S, 0, none⟩)] 134), hv⟩, hX0, by omega⟩
  have hz0 : K < ((((w.alloc (.cells #[.string ⟨#[]⟩, .slice none 0 0, .slice none 0 0, .slice none 0 0, .slice none 0 0, .slice none 0 0, .slice none 0 0, .slice none 0 0, .slice none 0 0, .int .i64 0, .int .i64 0, .int .i64 0, .int .i64 0] 57)).alloc (.cells #[.int .i64 0] 26)).alloc (.cells #[.slice a l.length c] 135)).alloc (.cells #[.pointer (some ⟨S, 0, none⟩)] 134)).heap.size := by simp; omega
  have HV := Lib.hid hv
  have HM := Lib.hid hM
  clear hv hM hT h3 hS0
  have hmf : ∀ (fn : Fn) (first cap : Array Value) (w : World), (Instr.makeFunc fn first cap).run Tryz.prog w = .ok (.func fn first cap) w := fun _ _ _ _ => rfl
  go_enter_defers Tryz.func23, Tryz.ntmps23
  have hKc := hK0.cell
  go_wp2_with fail
  generalize ((((w.alloc (.cells #[.string ⟨#[]⟩, .slice none 0 0, .slice none 0 0, .slice none 0 0, .slice none 0 0, .slice none 0 0, .slice none 0 0, .slice none 0 0, .slice none 0 0, .int .i64 0, .int .i64 0, .int .i64 0, .int .i64 0] 57)).alloc (.cells #[.int .i64 0] 26)).alloc (.cells #[.slice a l.length c] 135)).alloc (.cells #[.pointer (some ⟨S, 0, none⟩)] 134)) = w0 at *
  have HC1 := Lib.hid (face_any hr0 (by omega))
  refine HC1.out.mono ?_
  rintro e w1 hr
  rcases hr.cases with ⟨hC, ⟨hp, rfl⟩ | ⟨x1, l1, v, hp, he, hv, hr1⟩⟩
  · have HF := Lib.hid (show T = none by rw [← HT.out]; simp only [rdObj, rdMap, hp])
    have hX := ext_rd hX0 (by omega) hC
    have hR := hR0.chg hC (by omega)
    have hE := hE0.chg hC (by omega)
    clear hr hp HC1 hC
    go_wp2_with fail
    refine leaves_cons (f := 71) (args := #[.pointer (some ⟨R, 0, none⟩), .pointer (some ⟨E, 0, none⟩)]) (by simp) (by simp [go_sem]) ?_
    refine (catch_get R E _ _ _ hR rfl hE (by omega)).mono ?_
    rintro e u' w'' ⟨rfl, rfl, hRz, hEz, hCz⟩
    exact ⟨_, results_cc rfl _ _ rfl hRz Tryz.underlying57 rfl (by kernel_rfl) rfl hEz Tryz.underlying26 rfl, GetPost.fails (hX.trans hCz fun i hi e => by omega) fun x hx => by rw [HF.out] at hx; cases hx⟩
  · have HP1 := Lib.hid hp
    have hln1 := face_le _ _ _ hp
    have hX1 := ext_rd hX0 (by omega) hC
    have hR1 := hR0.chg hC (by omega)
    have hE1 := hE0.chg hC (by omega)
    have hK1 := hK0.chg hC (by omega)
    have hKl := hK0.lt
    subst he
    have hf : FaceAt _ _ _ := hv
    obtain ⟨fa, fm, fc, fd, rfl, -⟩ := hv
    have hD1 : ObjD (hide (below (K + 1)) w1) x1 fa fm fc fd [] none [] none [] none [] none [] none [] none := ⟨FaceAt.keeps (keeps_low (by omega)) hf, (ObjD.nil _).2⟩
    clear hr hp HC1 hC hf hKl
    have hR1s : Blk (((w1.setCell ⟨R, 0, none⟩ (.string x1.modn)).setCell ⟨R, 1, none⟩ (.slice fa x1.vars.length fm)).setCell ⟨R, 2, none⟩ (.slice fc x1.procs.length fd)) R #[.string x1.modn, .slice fa x1.vars.length fm, .slice fc x1.procs.length fd, .slice none 0 0, .slice none 0 0, .slice none 0 0, .slice none 0 0, .slice none 0 0, .slice none 0 0, .int .i64 0, .int .i64 0, .int .i64 0, .int .i64 0] 57 := (((hR1.set 0 _).set 1 _).set 2 _)
    have hE1s : Blk (((w1.setCell ⟨R, 0, none⟩ (.string x1.modn)).setCell ⟨R, 1, none⟩ (.slice fa x1.vars.length fm)).setCell ⟨R, 2, none⟩ (.slice fc x1.procs.length fd)) E #[.int .i64 0] 26 := (((hE1.setOther (p := ⟨R, 0, none⟩) (by show _ ≠ R; omega) _).setOther (p := ⟨R, 1, none⟩) (by show _ ≠ R; omega) _).setOther (p := ⟨R, 2, none⟩) (by show _ ≠ R; omega) _)
    have hK1s : Blk (((w1.setCell ⟨R, 0, none⟩ (.string x1.modn)).setCell ⟨R, 1, none⟩ (.slice fa x1.vars.length fm)).setCell ⟨R, 2, none⟩ (.slice fc x1.procs.length fd)) K #[.pointer (some ⟨S, 0, none⟩)] 134 := (((hK1.setOther (p := ⟨R, 0, none⟩) (by show _ ≠ R; omega) _).setOther (p := ⟨R, 1, none⟩) (by show _ ≠ R; omega) _).setOther (p := ⟨R, 2, none⟩) (by show _ ≠ R; omega) _)
    have hX1s : Ext w (((w1.setCell ⟨R, 0, none⟩ (.string x1.modn)).setCell ⟨R, 1, none⟩ (.slice fa x1.vars.length fm)).setCell ⟨R, 2, none⟩ (.slice fc x1.procs.length fd)) := (((hX1.setNew (p := ⟨R, 0, none⟩) (by show _ ≤ R; omega) _).setNew (p := ⟨R, 1, none⟩) (by show _ ≤ R; omega) _).setNew (p := ⟨R, 2, none⟩) (by show _ ≤ R; omega) _)
    have hr1s : RdAt w (((w1.setCell ⟨R, 0, none⟩ (.string x1.modn)).setCell ⟨R, 1, none⟩ (.slice fa x1.vars.length fm)).setCell ⟨R, 2, none⟩ (.slice fc x1.procs.length fd)) S l1 := (((hr1.setFar (p := ⟨R, 0, none⟩) (by show R ≠ _; omega) (by show _ ≤ R; omega) _).setFar (p := ⟨R, 1, none⟩) (by show R ≠ _; omega) (by show _ ≤ R; omega) _).setFar (p := ⟨R, 2, none⟩) (by show R ≠ _; omega) (by show _ ≤ R; omega) _)
    have hD1s : ObjD (hide (below (K + 1)) (((w1.setCell ⟨R, 0, none⟩ (.string x1.modn)).setCell ⟨R, 1, none⟩ (.slice fa x1.vars.length fm)).setCell ⟨R, 2, none⟩ (.slice fc x1.procs.length fd))) x1 fa fm fc fd [] none [] none [] none [] none [] none [] none := (((hD1.set (p := ⟨R, 0, none⟩) (by show R < _; omega) _).set (p := ⟨R, 1, none⟩) (by show R < _; omega) _).set (p := ⟨R, 2, none⟩) (by show R < _; omega) _)
    have HC2 := Lib.hid (items_face hr1s (by omega) rdFace face_le (fun u r hu hr _ => face_any hu (by omega)))
    have hKc := hK1s.cell
    have hRc := hR1.cell
    have hRf := hR1.frozen
    have hRl := hR1.lt
    go_wp2_with fail
    refine HC2.out.mono ?_
    rintro e w2 hr
    rcases hr.cases with ⟨hC, ⟨hp, rfl⟩ | ⟨x2, l2, v, hp, rfl, ⟨a2, c2, rfl, -, -, hall⟩, hr2⟩⟩
    · have HF := Lib.hid (show T = none by rw [← HT.out]; simp only [rdObj, rdMap, HP1.out, hp])
      have hX := ext_rd hX1s (by omega) hC
      have hR := hR1s.chg hC (by omega)
      have hE := hE1s.chg hC (by omega)
      clear hr hp HC2 hC
      go_wp2_with fail
      refine leaves_cons (f := 71) (args := #[.pointer (some ⟨R, 0, none⟩), .pointer (some ⟨E, 0, none⟩)]) (by simp) (by simp [go_sem]) ?_
      refine (catch_get R E _ _ _ hR rfl hE (by omega)).mono ?_
      rintro e u' w'' ⟨rfl, rfl, hRz, hEz, hCz⟩
      exact ⟨_, results_cc rfl _ _ rfl hRz Tryz.underlying57 rfl (by kernel_rfl) rfl hEz Tryz.underlying26 rfl, GetPost.fails (hX.trans hCz fun i hi e => by omega) fun x hx => by rw [HF.out] at hx; cases hx⟩
    · have HP2 := Lib.hid hp
      have hln2 := items_le face_le _ _ _ hp
      have hX2 := ext_rd hX1s (by omega) hC
      have hR2 := hR1s.chg hC (by omega)
      have hE2 := hE1s.chg hC (by omega)
      have hK2 := hK1s.chg hC (by omega)
      have hKl := hK1s.lt
      have hDc := hD1s.chg hC (fun i hi => by omega)
      have hD2 : ObjD (hide (below (K + 1)) w2) x1 fa fm fc fd x2 a2 [] none [] none [] none [] none [] none := ⟨hDc.1, (allin_low (In := FaceIn) (fun hk _ _ _ => FaceIn.keeps hk) hall (by omega)), hDc.2.2⟩
      clear hr hp HC2 hC hDc hall hKl hKc hRc hRf hRl
      have hR2s : Blk (w2.setCell ⟨R, 3, none⟩ (.slice a2 x2.length c2)) R #[.string x1.modn, .slice fa x1.vars.length fm, .slice fc x1.procs.length fd, .slice a2 x2.length c2, .slice none 0 0, .slice none 0 0, .slice none 0 0, .slice none 0 0, .slice none 0 0, .int .i64 0, .int .i64 0, .int .i64 0, .int .i64 0] 57 := (hR2.set 3 _)
      have hE2s : Blk (w2.setCell ⟨R, 3, none⟩ (.slice a2 x2.length c2)) E #[.int .i64 0] 26 := (hE2.setOther (p := ⟨R, 3, none⟩) (by show _ ≠ R; omega) _)
      have hK2s : Blk (w2.setCell ⟨R, 3, none⟩ (.slice a2 x2.length c2)) K #[.pointer (some ⟨S, 0, none⟩)] 134 := (hK2.setOther (p := ⟨R, 3, none⟩) (by show _ ≠ R; omega) _)
      have hX2s : Ext w (w2.setCell ⟨R, 3, none⟩ (.slice a2 x2.length c2)) := (hX2.setNew (p := ⟨R, 3, none⟩) (by show _ ≤ R; omega) _)
      have hr2s : RdAt w (w2.setCell ⟨R, 3, none⟩ (.slice a2 x2.length c2)) S l2 := (hr2.setFar (p := ⟨R, 3, none⟩) (by show R ≠ _; omega) (by show _ ≤ R; omega) _)
      have hD2s : ObjD (hide (below (K + 1)) (w2.setCell ⟨R, 3, none⟩ (.slice a2 x2.length c2))) x1 fa fm fc fd x2 a2 [] none [] none [] none [] none [] none := (hD2.set (p := ⟨R, 3, none⟩) (by show R < _; omega) _)
      have HC3 := Lib.hid (items_ins hr2s (by omega) K rdIns ins_le (fun u r hu hr hc => ins_any hu (by omega) (hK2s.chg hc (by omega)) (by omega)))
      have hKc := hK2s.cell
      have hRc := hR2.cell
      have hRf := hR2.frozen
      have hRl := hR2.lt
      go_wp2_with fail
      refine HC3.out.mono ?_
      rintro e w3 hr
      rcases hr.cases with ⟨hC, ⟨hp, rfl⟩ | ⟨x3, l3, v, hp, rfl, ⟨a3, c3, rfl, -, -, hall⟩, hr3⟩⟩
      · have HF := Lib.hid (show T = none by rw [← HT.out]; simp only [rdObj, rdMap, HP1.out, HP2.out, hp])
        have hX := ext_rd hX2s (by omega) hC
        have hR := hR2s.chg hC (by omega)
        have hE := hE2s.chg hC (by omega)
        clear hr hp HC3 hC
        go_wp2_with fail
        refine leaves_cons (f := 71) (args := #[.pointer (some ⟨R, 0, none⟩), .pointer (some ⟨E, 0, none⟩)]) (by simp) (by simp [go_sem]) ?_
        refine (catch_get R E _ _ _ hR rfl hE (by omega)).mono ?_
        rintro e u' w'' ⟨rfl, rfl, hRz, hEz, hCz⟩
        exact ⟨_, results_cc rfl _ _ rfl hRz Tryz.underlying57 rfl (by kernel_rfl) rfl hEz Tryz.underlying26 rfl, GetPost.fails (hX.trans hCz fun i hi e => by omega) fun x hx => by rw [HF.out] at hx; cases hx⟩
      · have HP3 := Lib.hid hp
        have hln3 := items_le ins_le _ _ _ hp
        have hX3 := ext_rd hX2s (by omega) hC
        have hR3 := hR2s.chg hC (by omega)
        have hE3 := hE2s.chg hC (by omega)
        have hK3 := hK2s.chg hC (by omega)
        have hKl := hK2s.lt
        have hDc := hD2s.chg hC (fun i hi => by omega)
        have hD3 : ObjD (hide (below (K + 1)) w3) x1 fa fm fc fd x2 a2 x3 a3 [] none [] none [] none [] none := ⟨hDc.1, hDc.2.1, (allin_low (In := InsIn5) (fun hk _ _ _ => InsIn5.keeps hk) hall (by omega)), hDc.2.2.2⟩
        clear hr hp HC3 hC hDc hall hKl hKc hRc hRf hRl
        have hR3s : Blk (w3.setCell ⟨R, 4, none⟩ (.slice a3 x3.length c3)) R #[.string x1.modn, .slice fa x1.vars.length fm, .slice fc x1.procs.length fd, .slice a2 x2.length c2, .slice a3 x3.length c3, .slice none 0 0, .slice none 0 0, .slice none 0 0, .slice none 0 0, .int .i64 0, .int .i64 0, .int .i64 0, .int .i64 0] 57 := (hR3.set 4 _)
        have hE3s : Blk (w3.setCell ⟨R, 4, none⟩ (.slice a3 x3.length c3)) E #[.int .i64 0] 26 := (hE3.setOther (p := ⟨R, 4, none⟩) (by show _ ≠ R; omega) _)
        have hK3s : Blk (w3.setCell ⟨R, 4, none⟩ (.slice a3 x3.length c3)) K #[.pointer (some ⟨S, 0, none⟩)] 134 := (hK3.setOther (p := ⟨R, 4, none⟩) (by show _ ≠ R; omega) _)
        have hX3s : Ext w (w3.setCell ⟨R, 4, none⟩ (.slice a3 x3.length c3)) := (hX3.setNew (p := ⟨R, 4, none⟩) (by show _ ≤ R; omega) _)
        have hr3s : RdAt w (w3.setCell ⟨R, 4, none⟩ (.slice a3 x3.length c3)) S l3 := (hr3.setFar (p := ⟨R, 4, none⟩) (by show R ≠ _; omega) (by show _ ≤ R; omega) _)
        have hD3s : ObjD (hide (below (K + 1)) (w3.setCell ⟨R, 4, none⟩ (.slice a3 x3.length c3))) x1 fa fm fc fd x2 a2 x3 a3 [] none [] none [] none [] none := (hD3.set (p := ⟨R, 4, none⟩) (by show R < _; omega) _)
        have HC4 := Lib.hid (items_rel hr3s (by omega) K rdRel rel_le (fun u r hu hr hc => rel_any hu (by omega) (hK3s.chg hc (by omega)) (by omega)))
        have hKc := hK3s.cell
        have hRc := hR3.cell
        have hRf := hR3.frozen
        have hRl := hR3.lt
        go_wp2_with fail
        refine HC4.out.mono ?_
        rintro e w4 hr
        rcases hr.cases with ⟨hC, ⟨hp, rfl⟩ | ⟨x4, l4, v, hp, rfl, ⟨a4, c4, rfl, -, -, hall⟩, hr4⟩⟩
        · have HF := Lib.hid (show T = none by rw [← HT.out]; simp only [rdObj, rdMap, HP1.out, HP2.out, HP3.out, hp])
          have hX := ext_rd hX3s (by omega) hC
          have hR := hR3s.chg hC (by omega)
          have hE := hE3s.chg hC (by omega)
          clear hr hp HC4 hC
          go_wp2_with fail
          refine leaves_cons (f := 71) (args := #[.pointer (some ⟨R, 0, none⟩), .pointer (some ⟨E, 0, none⟩)]) (by simp) (by simp [go_sem]) ?_
          refine (catch_get R E _ _ _ hR rfl hE (by omega)).mono ?_
          rintro e u' w'' ⟨rfl, rfl, hRz, hEz, hCz⟩
          exact ⟨_, results_cc rfl _ _ rfl hRz Tryz.underlying57 rfl (by kernel_rfl) rfl hEz Tryz.underlying26 rfl, GetPost.fails (hX.trans hCz fun i hi e => by omega) fun x hx => by rw [HF.out] at hx; cases hx⟩
        · have HP4 := Lib.hid hp
          have hln4 := items_le rel_le _ _ _ hp
          have hX4 := ext_rd hX3s (by omega) hC
          have hR4 := hR3s.chg hC (by omega)
          have hE4 := hE3s.chg hC (by omega)
          have hK4 := hK3s.chg hC (by omega)
          have hKl := hK3s.lt
          have hDc := hD3s.chg hC (fun i hi => by omega)
          have hD4 : ObjD (hide (below (K + 1)) w4) x1 fa fm fc fd x2 a2 x3 a3 x4 a4 [] none [] none [] none := ⟨hDc.1, hDc.2.1, hDc.2.2.1, (allin_low (In := RelIn) (fun hk _ _ _ => RelIn.keeps hk) hall (by omega)), hDc.2.2.2.2⟩
          clear hr hp HC4 hC hDc hall hKl hKc hRc hRf hRl
          have hR4s : Blk (w4.setCell ⟨R, 5, none⟩ (.slice a4 x4.length c4)) R #[.string x1.modn, .slice fa x1.vars.length fm, .slice fc x1.procs.length fd, .slice a2 x2.length c2, .slice a3 x3.length c3, .slice a4 x4.length c4, .slice none 0 0, .slice none 0 0, .slice none 0 0, .int .i64 0, .int .i64 0, .int .i64 0, .int .i64 0] 57 := (hR4.set 5 _)
          have hE4s : Blk (w4.setCell ⟨R, 5, none⟩ (.slice a4 x4.length c4)) E #[.int .i64 0] 26 := (hE4.setOther (p := ⟨R, 5, none⟩) (by show _ ≠ R; omega) _)
          have hK4s : Blk (w4.setCell ⟨R, 5, none⟩ (.slice a4 x4.length c4)) K #[.pointer (some ⟨S, 0, none⟩)] 134 := (hK4.setOther (p := ⟨R, 5, none⟩) (by show _ ≠ R; omega) _)
          have hX4s : Ext w (w4.setCell ⟨R, 5, none⟩ (.slice a4 x4.length c4)) := (hX4.setNew (p := ⟨R, 5, none⟩) (by show _ ≤ R; omega) _)
          have hr4s : RdAt w (w4.setCell ⟨R, 5, none⟩ (.slice a4 x4.length c4)) S l4 := (hr4.setFar (p := ⟨R, 5, none⟩) (by show R ≠ _; omega) (by show _ ≤ R; omega) _)
          have hD4s : ObjD (hide (below (K + 1)) (w4.setCell ⟨R, 5, none⟩ (.slice a4 x4.length c4))) x1 fa fm fc fd x2 a2 x3 a3 x4 a4 [] none [] none [] none := (hD4.set (p := ⟨R, 5, none⟩) (by show R < _; omega) _)
          have hKc := hK4s.cell
          have hRc := hR4.cell
          have hRf := hR4.frozen
          have hRl := hR4.lt
          go_upto_region 7 with (fail)
          clear hR4 hE4 hK4 hX4 hr4 hD4 hKc hRc hRf hRl
          generalize w4.setCell ⟨R, 5, none⟩ (.slice a4 x4.length c4) = w5 at *
          refine wp_region_chain [3, 7, 11, 13, 15, 17] [.pointer (some ⟨S, 0, none⟩), .pointer (some ⟨S, 0, none⟩), .func (.func 82) #[.pointer (some ⟨S, 0, none⟩)] #[], undef, .pointer (some ⟨S, 0, none⟩), .pointer (some ⟨S, 0, none⟩), .func (.func 82) #[.pointer (some ⟨S, 0, none⟩)] #[], undef, .pointer (some ⟨S, 0, none⟩), .pointer (some ⟨S, 0, none⟩), .func (.func 82) #[.pointer (some ⟨S, 0, none⟩)] #[], undef, .pointer (some ⟨R, 6, none⟩), undef, .pointer (some ⟨R, 7, none⟩), undef, .pointer (some ⟨R, 8, none⟩), undef] (fun vs u => Ext w u ∧ Blk u E #[.int .i64 0] 26 ∧ Blk u K #[.pointer (some ⟨S, 0, none⟩)] 134 ∧ (match vs with
              | [] => RdAt w u S l4 ∧ Blk u R #[.string x1.modn, .slice fa x1.vars.length fm, .slice fc x1.procs.length fd, .slice a2 x2.length c2, .slice a3 x3.length c3, .slice a4 x4.length c4, .slice none 0 0, .slice none 0 0, .slice none 0 0, .int .i64 0, .int .i64 0, .int .i64 0, .int .i64 0] 57 ∧ ObjD (hide (below (K + 1)) u) x1 fa fm fc fd x2 a2 x3 a3 x4 a4 [] none [] none [] none
              | [v0] => ∃ (x5 : List FPlc) (l5 : List UInt8) (a5 : Option Addr) (c5 : Nat) , Hid (rdItems rdPlc l4 = some (x5, l5)) ∧ l5.length ≤ 100000000 ∧ v0 = .slice a5 x5.length c5 ∧ RdAt w u S l5 ∧ Blk u R #[.string x1.modn, .slice fa x1.vars.length fm, .slice fc x1.procs.length fd, .slice a2 x2.length c2, .slice a3 x3.length c3, .slice a4 x4.length c4, .slice none 0 0, .slice none 0 0, .slice none 0 0, .int .i64 0, .int .i64 0, .int .i64 0, .int .i64 0] 57 ∧ ObjD (hide (below (K + 1)) u) x1 fa fm fc fd x2 a2 x3 a3 x4 a4 x5 a5 [] none [] none
              | [v0, v1] => ∃ (x5 : List FPlc) (l5 : List UInt8) (a5 : Option Addr) (c5 : Nat) (x6 : List FPlc) (l6 : List UInt8) (a6 : Option Addr) (c6 : Nat) , Hid (rdItems rdPlc l4 = some (x5, l5)) ∧ l5.length ≤ 100000000 ∧ v0 = .slice a5 x5.length c5 ∧ Hid (rdItems rdPlc l5 = some (x6, l6)) ∧ l6.length ≤ 100000000 ∧ v1 = .slice a6 x6.length c6 ∧ RdAt w u S l6 ∧ Blk u R #[.string x1.modn, .slice fa x1.vars.length fm, .slice fc x1.procs.length fd, .slice a2 x2.length c2, .slice a3 x3.length c3, .slice a4 x4.length c4, .slice none 0 0, .slice none 0 0, .slice none 0 0, .int .i64 0, .int .i64 0, .int .i64 0, .int .i64 0] 57 ∧ ObjD (hide (below (K + 1)) u) x1 fa fm fc fd x2 a2 x3 a3 x4 a4 x5 a5 x6 a6 [] none
              | [v0, v1, v2] => ∃ (x5 : List FPlc) (l5 : List UInt8) (a5 : Option Addr) (c5 : Nat) (x6 : List FPlc) (l6 : List UInt8) (a6 : Option Addr) (c6 : Nat) (x7 : List FPlc) (l7 : List UInt8) (a7 : Option Addr) (c7 : Nat) , Hid (rdItems rdPlc l4 = some (x5, l5)) ∧ l5.length ≤ 100000000 ∧ v0 = .slice a5 x5.length c5 ∧ Hid (rdItems rdPlc l5 = some (x6, l6)) ∧ l6.length ≤ 100000000 ∧ v1 = .slice a6 x6.length c6 ∧ Hid (rdItems rdPlc l6 = some (x7, l7)) ∧ l7.length ≤ 100000000 ∧ v2 = .slice a7 x7.length c7 ∧ RdAt w u S l7 ∧ Blk u R #[.string x1.modn, .slice fa x1.vars.length fm, .slice fc x1.procs.length fd, .slice a2 x2.length c2, .slice a3 x3.length c3, .slice a4 x4.length c4, .slice none 0 0, .slice none 0 0, .slice none 0 0, .int .i64 0, .int .i64 0, .int .i64 0, .int .i64 0] 57 ∧ ObjD (hide (below (K + 1)) u) x1 fa fm fc fd x2 a2 x3 a3 x4 a4 x5 a5 x6 a6 x7 a7
              | [v0, v1, v2, _] => ∃ (x5 : List FPlc) (l5 : List UInt8) (a5 : Option Addr) (c5 : Nat) (x6 : List FPlc) (l6 : List UInt8) (a6 : Option Addr) (c6 : Nat) (x7 : List FPlc) (l7 : List UInt8) (a7 : Option Addr) (c7 : Nat) , Hid (rdItems rdPlc l4 = some (x5, l5)) ∧ l5.length ≤ 100000000 ∧ v0 = .slice a5 x5.length c5 ∧ Hid (rdItems rdPlc l5 = some (x6, l6)) ∧ l6.length ≤ 100000000 ∧ v1 = .slice a6 x6.length c6 ∧ Hid (rdItems rdPlc l6 = some (x7, l7)) ∧ l7.length ≤ 100000000 ∧ v2 = .slice a7 x7.length c7 ∧ RdAt w u S l7 ∧ Blk u R #[.string x1.modn, .slice fa x1.vars.length fm, .slice fc x1.procs.length fd, .slice a2 x2.length c2, .slice a3 x3.length c3, .slice a4 x4.length c4, .slice a5 x5.length c5, .slice none 0 0, .slice none 0 0, .int .i64 0, .int .i64 0, .int .i64 0, .int .i64 0] 57 ∧ ObjD (hide (below (K + 1)) u) x1 fa fm fc fd x2 a2 x3 a3 x4 a4 x5 a5 x6 a6 x7 a7
              | [v0, v1, v2, _, _] => ∃ (x5 : List FPlc) (l5 : List UInt8) (a5 : Option Addr) (c5 : Nat) (x6 : List FPlc) (l6 : List UInt8) (a6 : Option Addr) (c6 : Nat) (x7 : List FPlc) (l7 : List UInt8) (a7 : Option Addr) (c7 : Nat) , Hid (rdItems rdPlc l4 = some (x5, l5)) ∧ l5.length ≤ 100000000 ∧ v0 = .slice a5 x5.length c5 ∧ Hid (rdItems rdPlc l5 = some (x6, l6)) ∧ l6.length ≤ 100000000 ∧ v1 = .slice a6 x6.length c6 ∧ Hid (rdItems rdPlc l6 = some (x7, l7)) ∧ l7.length ≤ 100000000 ∧ v2 = .slice a7 x7.length c7 ∧ RdAt w u S l7 ∧ Blk u R #[.string x1.modn, .slice fa x1.vars.length fm, .slice fc x1.procs.length fd, .slice a2 x2.length c2, .slice a3 x3.length c3, .slice a4 x4.length c4, .slice a5 x5.length c5, .slice a6 x6.length c6, .slice none 0 0, .int .i64 0, .int .i64 0, .int .i64 0, .int .i64 0] 57 ∧ ObjD (hide (below (K + 1)) u) x1 fa fm fc fd x2 a2 x3 a3 x4 a4 x5 a5 x6 a6 x7 a7
              | [v0, v1, v2, _, _, _] => ∃ (x5 : List FPlc) (l5 : List UInt8) (a5 : Option Addr) (c5 : Nat) (x6 : List FPlc) (l6 : List UInt8) (a6 : Option Addr) (c6 : Nat) (x7 : List FPlc) (l7 : List UInt8) (a7 : Option Addr) (c7 : Nat) , Hid (rdItems rdPlc l4 = some (x5, l5)) ∧ l5.length ≤ 100000000 ∧ v0 = .slice a5 x5.length c5 ∧ Hid (rdItems rdPlc l5 = some (x6, l6)) ∧ l6.length ≤ 100000000 ∧ v1 = .slice a6 x6.length c6 ∧ Hid (rdItems rdPlc l6 = some (x7, l7)) ∧ l7.length ≤ 100000000 ∧ v2 = .slice a7 x7.length c7 ∧ RdAt w u S l7 ∧ Blk u R #[.string x1.modn, .slice fa x1.vars.length fm, .slice fc x1.procs.length fd, .slice a2 x2.length c2, .slice a3 x3.length c3, .slice a4 x4.length c4, .slice a5 x5.length c5, .slice a6 x6.length c6, .slice a7 x7.length c7, .int .i64 0, .int .i64 0, .int .i64 0, .int .i64 0] 57 ∧ ObjD (hide (below (K + 1)) u) x1 fa fm fc fd x2 a2 x3 a3 x4 a4 x5 a5 x6 a6 x7 a7
              | _ => False
              )) (frame := ?fraa) (fun x => ?hfaa) mixed (by kernel_rfl) ?h0a ?staa ?fina
          case hfaa =>
            simp only [chain.frameOf, chain.fill, chain.setOpt, chain.dstOf, List.size_toArray, List.length_cons, List.length_nil, List.getElem?_toArray, List.getElem?_cons_succ, List.getElem?_cons_zero, List.setIfInBounds_toArray, List.set_cons_succ, List.set_cons_zero]
            exact rfl
          case h0a => exact ⟨hX4s.drew, hE4s.drew, hK4s.drew, hr4s.drew, hR4s.drew, hD4s.chg ((Chg.refl (fun _ => False) _).drew) (fun _ h => h.elim)⟩
          case staa =>
            refine AllFrom.cons (fun x vs u hF hm hd K' hK' => ?sa0) (AllFrom.cons (fun x vs u hF hm hd K' hK' => ?sa1) (AllFrom.cons (fun x vs u hF hm hd K' hK' => ?sa2) (AllFrom.cons (fun x vs u hF hm hd K' hK' => ?sa3) (AllFrom.cons (fun x vs u hF hm hd K' hK' => ?sa4) (AllFrom.cons (fun x vs u hF hm hd K' hK' => ?sa5) (AllFrom.cons (fun x vs u hF hm hd K' hK' => ?sa6) (AllFrom.cons (fun x vs u hF hm hd K' hK' => ?sa7) (AllFrom.cons (fun x vs u hF hm hd K' hK' => ?sa8) (AllFrom.cons (fun x vs u hF hm hd K' hK' => ?sa9) (AllFrom.cons (fun x vs u hF hm hd K' hK' => ?sa10) (AllFrom.cons (fun x vs u hF hm hd K' hK' => ?sa11) (AllFrom.cons (fun x vs u hF hm hd K' hK' => ?sa12) (AllFrom.cons (fun x vs u hF hm hd K' hK' => ?sa13) (AllFrom.cons (fun x vs u hF hm hd K' hK' => ?sa14) (AllFrom.cons (fun x vs u hF hm hd K' hK' => ?sa15) (AllFrom.cons (fun x vs u hF hm hd K' hK' => ?sa16) (AllFrom.cons (fun x vs u hF hm hd K' hK' => ?sa17) AllFrom.nil)))))))))))))))))
            case sa0 =>
              have hKc := hF.2.2.1.cell
              clear hd hm hF
              go_simp
              exact hK'.out _ _ _ rfl ⟨rfl, rfl⟩
            case sa1 =>
              have hKc := hF.2.2.1.cell
              clear hd hm hF
              go_simp
              exact hK'.out _ _ _ rfl ⟨rfl, rfl⟩
            case sa2 =>
              have y := hd 1 26 (by decide) (by kernel_rfl) (by kernel_rfl)
              replace y : x 26 = .pointer (some ⟨S, 0, none⟩) := y
              clear hd hm hF
              go_simp
              exact hK'.out _ _ _ (by simp only [y]; rfl) ⟨rfl, rfl⟩
            case sa3 =>
              have y := hd 0 25 (by decide) (by kernel_rfl) (by kernel_rfl)
              replace y : x 25 = .pointer (some ⟨S, 0, none⟩) := y
              have y2 := hd 2 27 (by decide) (by kernel_rfl) (by kernel_rfl)
              replace y2 : x 27 = .func (.func 82) #[.pointer (some ⟨S, 0, none⟩)] #[] := y2
              obtain rfl := List.eq_nil_of_length_eq_zero (hm 0 (by kernel_rfl))
              obtain ⟨fX, fE, fK, fr, fR, fD⟩ := hF
              have HC := Lib.hid (items_plc fr (by omega) rdPlc plc_le (fun u r hu hr _ => place_any hu (by omega)))
              have fl := fK.lt
              clear hd hm
              go_simp
              refine HC.out.mono ?_
              rintro e u2 hr
              rcases hr.cases with ⟨hC, ⟨hp, rfl⟩ | ⟨x5, l5, v, hp, rfl, ⟨a5, c5, rfl, -, -, hall⟩, hr2⟩⟩
              · have HF := Lib.hid (show T = none by rw [← HT.out]; simp only [rdObj, rdMap, HP1.out, HP2.out, HP3.out, HP4.out, hp])
                have hX := ext_rd fX (by omega) hC
                have hR := fR.chg hC (by omega)
                have hE := fE.chg hC (by omega)
                clear hr hp HC hC hK' fX fE fK fr fR fD
                go_wp2_with fail
                refine leaves_cons (f := 71) (args := #[.pointer (some ⟨R, 0, none⟩), .pointer (some ⟨E, 0, none⟩)]) (by simp) (by simp [go_sem]) ?_
                refine (catch_get R E _ _ _ hR rfl hE (by omega)).mono ?_
                rintro e u' w'' ⟨rfl, rfl, hRz, hEz, hCz⟩
                exact ⟨_, results_cc rfl _ _ rfl hRz Tryz.underlying57 rfl (by kernel_rfl) rfl hEz Tryz.underlying26 rfl, GetPost.fails (hX.trans hCz fun i hi e => by omega) fun x hx => by rw [HF.out] at hx; cases hx⟩
              · have hDc := fD.chg hC (fun i hi => by omega)
                exact hK'.out _ _ _ (by simp only [y, y2]; rfl) ⟨ext_rd fX (by omega) hC, fE.chg hC (by omega), fK.chg hC (by omega), x5, l5, a5, c5, Lib.hid hp, (by have := items_le plc_le _ _ _ hp; omega), rfl, hr2, fR.chg hC (by omega), ⟨hDc.1, hDc.2.1, hDc.2.2.1, hDc.2.2.2.1, (allin_low (In := PlcIn) (fun hk _ _ _ => PlcIn.keeps hk) hall (by omega)), hDc.2.2.2.2.2⟩⟩
            case sa4 =>
              have hKc := hF.2.2.1.cell
              clear hd hm hF
              go_simp
              exact hK'.out _ _ _ rfl ⟨rfl, rfl⟩
            case sa5 =>
              have hKc := hF.2.2.1.cell
              clear hd hm hF
              go_simp
              exact hK'.out _ _ _ rfl ⟨rfl, rfl⟩
            case sa6 =>
              have y := hd 5 30 (by decide) (by kernel_rfl) (by kernel_rfl)
              replace y : x 30 = .pointer (some ⟨S, 0, none⟩) := y
              clear hd hm hF
              go_simp
              exact hK'.out _ _ _ (by simp only [y]; rfl) ⟨rfl, rfl⟩
            case sa7 =>
              have y := hd 4 29 (by decide) (by kernel_rfl) (by kernel_rfl)
              replace y : x 29 = .pointer (some ⟨S, 0, none⟩) := y
              have y2 := hd 6 31 (by decide) (by kernel_rfl) (by kernel_rfl)
              replace y2 : x 31 = .func (.func 82) #[.pointer (some ⟨S, 0, none⟩)] #[] := y2
              obtain ⟨v0, rfl⟩ : ∃ v0, vs = [v0] := by match vs, hm 1 (by kernel_rfl) with | [v0], _ => exact ⟨_, rfl⟩
              obtain ⟨fX, fE, fK, x5, l5, a5, c5, HQ5, hl5, rfl, fr, fR, fD⟩ := hF
              have HC := Lib.hid (items_plc fr (by omega) rdPlc plc_le (fun u r hu hr _ => place_any hu (by omega)))
              have fl := fK.lt
              clear hd hm
              go_simp
              refine HC.out.mono ?_
              rintro e u2 hr
              rcases hr.cases with ⟨hC, ⟨hp, rfl⟩ | ⟨x6, l6, v, hp, rfl, ⟨a6, c6, rfl, -, -, hall⟩, hr2⟩⟩
              · have HF := Lib.hid (show T = none by rw [← HT.out]; simp only [rdObj, rdMap, HP1.out, HP2.out, HP3.out, HP4.out, HQ5.out, hp])
                have hX := ext_rd fX (by omega) hC
                have hR := fR.chg hC (by omega)
                have hE := fE.chg hC (by omega)
                clear hr hp HC hC hK' fX fE fK fr fR fD
                go_wp2_with fail
                refine leaves_cons (f := 71) (args := #[.pointer (some ⟨R, 0, none⟩), .pointer (some ⟨E, 0, none⟩)]) (by simp) (by simp [go_sem]) ?_
                refine (catch_get R E _ _ _ hR rfl hE (by omega)).mono ?_
                rintro e u' w'' ⟨rfl, rfl, hRz, hEz, hCz⟩
                exact ⟨_, results_cc rfl _ _ rfl hRz Tryz.underlying57 rfl (by kernel_rfl) rfl hEz Tryz.underlying26 rfl, GetPost.fails (hX.trans hCz fun i hi e => by omega) fun x hx => by rw [HF.out] at hx; cases hx⟩
              · have hDc := fD.chg hC (fun i hi => by omega)
                exact hK'.out _ _ _ (by simp only [y, y2]; rfl) ⟨ext_rd fX (by omega) hC, fE.chg hC (by omega), fK.chg hC (by omega), x5, l5, a5, c5, x6, l6, a6, c6, HQ5, hl5, rfl, Lib.hid hp, (by have := items_le plc_le _ _ _ hp; omega), rfl, hr2, fR.chg hC (by omega), ⟨hDc.1, hDc.2.1, hDc.2.2.1, hDc.2.2.2.1, hDc.2.2.2.2.1, (allin_low (In := PlcIn) (fun hk _ _ _ => PlcIn.keeps hk) hall (by omega)), hDc.2.2.2.2.2.2⟩⟩
            case sa8 =>
              have hKc := hF.2.2.1.cell
              clear hd hm hF
              go_simp
              exact hK'.out _ _ _ rfl ⟨rfl, rfl⟩
            case sa9 =>
              have hKc := hF.2.2.1.cell
              clear hd hm hF
              go_simp
              exact hK'.out _ _ _ rfl ⟨rfl, rfl⟩
            case sa10 =>
              have y := hd 9 34 (by decide) (by kernel_rfl) (by kernel_rfl)
              replace y : x 34 = .pointer (some ⟨S, 0, none⟩) := y
              clear hd hm hF
              go_simp
              exact hK'.out _ _ _ (by simp only [y]; rfl) ⟨rfl, rfl⟩
            case sa11 =>
              have y := hd 8 33 (by decide) (by kernel_rfl) (by kernel_rfl)
              replace y : x 33 = .pointer (some ⟨S, 0, none⟩) := y
              have y2 := hd 10 35 (by decide) (by kernel_rfl) (by kernel_rfl)
              replace y2 : x 35 = .func (.func 82) #[.pointer (some ⟨S, 0, none⟩)] #[] := y2
              obtain ⟨v0, v1, rfl⟩ : ∃ v0 v1, vs = [v0, v1] := by match vs, hm 2 (by kernel_rfl) with | [v0, v1], _ => exact ⟨_, _, rfl⟩
              obtain ⟨fX, fE, fK, x5, l5, a5, c5, x6, l6, a6, c6, HQ5, hl5, rfl, HQ6, hl6, rfl, fr, fR, fD⟩ := hF
              have HC := Lib.hid (items_plc fr (by omega) rdPlc plc_le (fun u r hu hr _ => place_any hu (by omega)))
              have fl := fK.lt
              clear hd hm
              go_simp
              refine HC.out.mono ?_
              rintro e u2 hr
              rcases hr.cases with ⟨hC, ⟨hp, rfl⟩ | ⟨x7, l7, v, hp, rfl, ⟨a7, c7, rfl, -, -, hall⟩, hr2⟩⟩
              · have HF := Lib.hid (show T = none by rw [← HT.out]; simp only [rdObj, rdMap, HP1.out, HP2.out, HP3.out, HP4.out, HQ5.out, HQ6.out, hp])
                have hX := ext_rd fX (by omega) hC
                have hR := fR.chg hC (by omega)
                have hE := fE.chg hC (by omega)
                clear hr hp HC hC hK' fX fE fK fr fR fD
                go_wp2_with fail
                refine leaves_cons (f := 71) (args := #[.pointer (some ⟨R, 0, none⟩), .pointer (some ⟨E, 0, none⟩)]) (by simp) (by simp [go_sem]) ?_
                refine (catch_get R E _ _ _ hR rfl hE (by omega)).mono ?_
                rintro e u' w'' ⟨rfl, rfl, hRz, hEz, hCz⟩
                exact ⟨_, results_cc rfl _ _ rfl hRz Tryz.underlying57 rfl (by kernel_rfl) rfl hEz Tryz.underlying26 rfl, GetPost.fails (hX.trans hCz fun i hi e => by omega) fun x hx => by rw [HF.out] at hx; cases hx⟩
              · have hDc := fD.chg hC (fun i hi => by omega)
                exact hK'.out _ _ _ (by simp only [y, y2]; rfl) ⟨ext_rd fX (by omega) hC, fE.chg hC (by omega), fK.chg hC (by omega), x5, l5, a5, c5, x6, l6, a6, c6, x7, l7, a7, c7, HQ5, hl5, rfl, HQ6, hl6, rfl, Lib.hid hp, (by have := items_le plc_le _ _ _ hp; omega), rfl, hr2, fR.chg hC (by omega), ⟨hDc.1, hDc.2.1, hDc.2.2.1, hDc.2.2.2.1, hDc.2.2.2.2.1, hDc.2.2.2.2.2.1, (allin_low (In := PlcIn) (fun hk _ _ _ => PlcIn.keeps hk) hall (by omega))⟩⟩
            case sa12 =>
              clear hd hm hF
              go_simp
              exact hK'.out _ _ _ rfl ⟨rfl, rfl⟩
            case sa13 =>
              have y := hd 12 37 (by decide) (by kernel_rfl) (by kernel_rfl)
              replace y : x 37 = .pointer (some ⟨R, 6, none⟩) := y
              have z := hd 3 28 (by decide) (by kernel_rfl) (by kernel_rfl)
              obtain ⟨v0, v1, v2, rfl⟩ : ∃ v0 v1 v2, vs = [v0, v1, v2] := by match vs, hm 3 (by kernel_rfl) with | [v0, v1, v2], _ => exact ⟨_, _, _, rfl⟩
              obtain ⟨fX, fE, fK, x5, l5, a5, c5, x6, l6, a6, c6, x7, l7, a7, c7, HQ5, hl5, rfl, HQ6, hl6, rfl, HQ7, hl7, rfl, fr, fR, fD⟩ := hF
              replace z : x 28 = .slice a5 x5.length c5 := z
              have fc_ := fR.cell
              have ff_ := fR.frozen
              have fl_ := fR.lt
              clear hd hm
              go_simp
              exact hK'.out _ _ undef (by simp only [y, z]; rfl) ⟨fX.setNew (p := ⟨R, 6, none⟩) (by show _ ≤ R; omega) _, fE.setOther (p := ⟨R, 6, none⟩) (by show _ ≠ R; omega) _, fK.setOther (p := ⟨R, 6, none⟩) (by show _ ≠ R; omega) _, x5, l5, a5, c5, x6, l6, a6, c6, x7, l7, a7, c7, HQ5, hl5, rfl, HQ6, hl6, rfl, HQ7, hl7, rfl, fr.setFar (p := ⟨R, 6, none⟩) (by show R ≠ _; omega) (by show _ ≤ R; omega) _, fR.set 6 _, fD.set (p := ⟨R, 6, none⟩) (by show R < _; omega) _⟩
            case sa14 =>
              clear hd hm hF
              go_simp
              exact hK'.out _ _ _ rfl ⟨rfl, rfl⟩
            case sa15 =>
              have y := hd 14 38 (by decide) (by kernel_rfl) (by kernel_rfl)
              replace y : x 38 = .pointer (some ⟨R, 7, none⟩) := y
              have z := hd 7 32 (by decide) (by kernel_rfl) (by kernel_rfl)
              obtain ⟨v0, v1, v2, v3, rfl⟩ : ∃ v0 v1 v2 v3, vs = [v0, v1, v2, v3] := by match vs, hm 4 (by kernel_rfl) with | [v0, v1, v2, v3], _ => exact ⟨_, _, _, _, rfl⟩
              obtain ⟨fX, fE, fK, x5, l5, a5, c5, x6, l6, a6, c6, x7, l7, a7, c7, HQ5, hl5, rfl, HQ6, hl6, rfl, HQ7, hl7, rfl, fr, fR, fD⟩ := hF
              replace z : x 32 = .slice a6 x6.length c6 := z
              have fc_ := fR.cell
              have ff_ := fR.frozen
              have fl_ := fR.lt
              clear hd hm
              go_simp
              exact hK'.out _ _ undef (by simp only [y, z]; rfl) ⟨fX.setNew (p := ⟨R, 7, none⟩) (by show _ ≤ R; omega) _, fE.setOther (p := ⟨R, 7, none⟩) (by show _ ≠ R; omega) _, fK.setOther (p := ⟨R, 7, none⟩) (by show _ ≠ R; omega) _, x5, l5, a5, c5, x6, l6, a6, c6, x7, l7, a7, c7, HQ5, hl5, rfl, HQ6, hl6, rfl, HQ7, hl7, rfl, fr.setFar (p := ⟨R, 7, none⟩) (by show R ≠ _; omega) (by show _ ≤ R; omega) _, fR.set 7 _, fD.set (p := ⟨R, 7, none⟩) (by show R < _; omega) _⟩
            case sa16 =>
              clear hd hm hF
              go_simp
              exact hK'.out _ _ _ rfl ⟨rfl, rfl⟩
            case sa17 =>
              have y := hd 16 39 (by decide) (by kernel_rfl) (by kernel_rfl)
              replace y : x 39 = .pointer (some ⟨R, 8, none⟩) := y
              have z := hd 11 36 (by decide) (by kernel_rfl) (by kernel_rfl)
              obtain ⟨v0, v1, v2, v3, v4, rfl⟩ : ∃ v0 v1 v2 v3 v4, vs = [v0, v1, v2, v3, v4] := by match vs, hm 5 (by kernel_rfl) with | [v0, v1, v2, v3, v4], _ => exact ⟨_, _, _, _, _, rfl⟩
              obtain ⟨fX, fE, fK, x5, l5, a5, c5, x6, l6, a6, c6, x7, l7, a7, c7, HQ5, hl5, rfl, HQ6, hl6, rfl, HQ7, hl7, rfl, fr, fR, fD⟩ := hF
              replace z : x 36 = .slice a7 x7.length c7 := z
              have fc_ := fR.cell
              have ff_ := fR.frozen
              have fl_ := fR.lt
              clear hd hm
              go_simp
              exact hK'.out _ _ undef (by simp only [y, z]; rfl) ⟨fX.setNew (p := ⟨R, 8, none⟩) (by show _ ≤ R; omega) _, fE.setOther (p := ⟨R, 8, none⟩) (by show _ ≠ R; omega) _, fK.setOther (p := ⟨R, 8, none⟩) (by show _ ≠ R; omega) _, x5, l5, a5, c5, x6, l6, a6, c6, x7, l7, a7, c7, HQ5, hl5, rfl, HQ6, hl6, rfl, HQ7, hl7, rfl, fr.setFar (p := ⟨R, 8, none⟩) (by show R ≠ _; omega) (by show _ ≤ R; omega) _, fR.set 8 _, fD.set (p := ⟨R, 8, none⟩) (by show R < _; omega) _⟩
          case fina =>
            intro x vs ua hl hF hs
            obtain ⟨v0, v1, v2, v3, v4, v5, rfl⟩ : ∃ v0 v1 v2 v3 v4 v5, vs = [v0, v1, v2, v3, v4, v5] := by match vs, hl with | [v0, v1, v2, v3, v4, v5], _ => exact ⟨_, _, _, _, _, _, rfl⟩
            obtain ⟨fX, fE, fK, x5, l5, a5, c5, x6, l6, a6, c6, x7, l7, a7, c7, HQ5, hl5, rfl, HQ6, hl6, rfl, HQ7, hl7, rfl, fr, fR, fD⟩ := hF
            clear hs hl hX4s hE4s hK4s hr4s hR4s hD4s
            have HP5 := HQ5
            have HP6 := HQ6
            have HP7 := HQ7
            have hKc := fK.cell
            have hRc := fR.cell
            have hRf := fR.frozen
            have hRl := fR.lt
            go_upto_region 8 with (fail)
            clear hKc hRc hRf hRl
            have hX7 := fX
            have hE7 := fE
            have hK7 := fK
            have hr7 := fr
            have hR7 := fR
            have hD7 := fD
            clear fX fE fK fr fR fD
            refine wp_region_chain [1, 3, 5, 7, 9, 11, 13, 15] [.pointer (some ⟨S, 0, none⟩), undef, .pointer (some ⟨S, 0, none⟩), undef, .pointer (some ⟨S, 0, none⟩), undef, .pointer (some ⟨S, 0, none⟩), undef, .pointer (some ⟨R, 9, none⟩), undef, .pointer (some ⟨R, 10, none⟩), undef, .pointer (some ⟨R, 11, none⟩), undef, .pointer (some ⟨R, 12, none⟩), undef] (fun vs u => Ext w u ∧ Blk u E #[.int .i64 0] 26 ∧ Blk u K #[.pointer (some ⟨S, 0, none⟩)] 134 ∧ (match vs with
                | [] => RdAt w u S l7 ∧ Blk u R #[.string x1.modn, .slice fa x1.vars.length fm, .slice fc x1.procs.length fd, .slice a2 x2.length c2, .slice a3 x3.length c3, .slice a4 x4.length c4, .slice a5 x5.length c5, .slice a6 x6.length c6, .slice a7 x7.length c7, .int .i64 0, .int .i64 0, .int .i64 0, .int .i64 0] 57 ∧ ObjD (hide (below (K + 1)) u) x1 fa fm fc fd x2 a2 x3 a3 x4 a4 x5 a5 x6 a6 x7 a7
                | [v0] => ∃ (x8 : Int) (l8 : List UInt8) , Hid (rdNum l7 = some (x8, l8)) ∧ l8.length ≤ 100000000 ∧ v0 = .int .i64 x8 ∧ RdAt w u S l8 ∧ Blk u R #[.string x1.modn, .slice fa x1.vars.length fm, .slice fc x1.procs.length fd, .slice a2 x2.length c2, .slice a3 x3.length c3, .slice a4 x4.length c4, .slice a5 x5.length c5, .slice a6 x6.length c6, .slice a7 x7.length c7, .int .i64 0, .int .i64 0, .int .i64 0, .int .i64 0] 57 ∧ ObjD (hide (below (K + 1)) u) x1 fa fm fc fd x2 a2 x3 a3 x4 a4 x5 a5 x6 a6 x7 a7
                | [v0, v1] => ∃ (x8 : Int) (l8 : List UInt8) (x9 : Int) (l9 : List UInt8) , Hid (rdNum l7 = some (x8, l8)) ∧ l8.length ≤ 100000000 ∧ v0 = .int .i64 x8 ∧ Hid (rdNum l8 = some (x9, l9)) ∧ l9.length ≤ 100000000 ∧ v1 = .int .i64 x9 ∧ RdAt w u S l9 ∧ Blk u R #[.string x1.modn, .slice fa x1.vars.length fm, .slice fc x1.procs.length fd, .slice a2 x2.length c2, .slice a3 x3.length c3, .slice a4 x4.length c4, .slice a5 x5.length c5, .slice a6 x6.length c6, .slice a7 x7.length c7, .int .i64 0, .int .i64 0, .int .i64 0, .int .i64 0] 57 ∧ ObjD (hide (below (K + 1)) u) x1 fa fm fc fd x2 a2 x3 a3 x4 a4 x5 a5 x6 a6 x7 a7
                | [v0, v1, v2] => ∃ (x8 : Int) (l8 : List UInt8) (x9 : Int) (l9 : List UInt8) (x10 : Int) (l10 : List UInt8) , Hid (rdNum l7 = some (x8, l8)) ∧ l8.length ≤ 100000000 ∧ v0 = .int .i64 x8 ∧ Hid (rdNum l8 = some (x9, l9)) ∧ l9.length ≤ 100000000 ∧ v1 = .int .i64 x9 ∧ Hid (rdNum l9 = some (x10, l10)) ∧ l10.length ≤ 100000000 ∧ v2 = .int .i64 x10 ∧ RdAt w u S l10 ∧ Blk u R #[.string x1.modn, .slice fa x1.vars.length fm, .slice fc x1.procs.length fd, .slice a2 x2.length c2, .slice a3 x3.length c3, .slice a4 x4.length c4, .slice a5 x5.length c5, .slice a6 x6.length c6, .slice a7 x7.length c7, .int .i64 0, .int .i64 0, .int .i64 0, .int .i64 0] 57 ∧ ObjD (hide (below (K + 1)) u) x1 fa fm fc fd x2 a2 x3 a3 x4 a4 x5 a5 x6 a6 x7 a7
                | [v0, v1, v2, v3] => ∃ (x8 : Int) (l8 : List UInt8) (x9 : Int) (l9 : List UInt8) (x10 : Int) (l10 : List UInt8) (x11 : Int) (l11 : List UInt8) , Hid (rdNum l7 = some (x8, l8)) ∧ l8.length ≤ 100000000 ∧ v0 = .int .i64 x8 ∧ Hid (rdNum l8 = some (x9, l9)) ∧ l9.length ≤ 100000000 ∧ v1 = .int .i64 x9 ∧ Hid (rdNum l9 = some (x10, l10)) ∧ l10.length ≤ 100000000 ∧ v2 = .int .i64 x10 ∧ Hid (rdNum l10 = some (x11, l11)) ∧ l11.length ≤ 100000000 ∧ v3 = .int .i64 x11 ∧ RdAt w u S l11 ∧ Blk u R #[.string x1.modn, .slice fa x1.vars.length fm, .slice fc x1.procs.length fd, .slice a2 x2.length c2, .slice a3 x3.length c3, .slice a4 x4.length c4, .slice a5 x5.length c5, .slice a6 x6.length c6, .slice a7 x7.length c7, .int .i64 0, .int .i64 0, .int .i64 0, .int .i64 0] 57 ∧ ObjD (hide (below (K + 1)) u) x1 fa fm fc fd x2 a2 x3 a3 x4 a4 x5 a5 x6 a6 x7 a7
                | [v0, v1, v2, v3, _] => ∃ (x8 : Int) (l8 : List UInt8) (x9 : Int) (l9 : List UInt8) (x10 : Int) (l10 : List UInt8) (x11 : Int) (l11 : List UInt8) , Hid (rdNum l7 = some (x8, l8)) ∧ l8.length ≤ 100000000 ∧ v0 = .int .i64 x8 ∧ Hid (rdNum l8 = some (x9, l9)) ∧ l9.length ≤ 100000000 ∧ v1 = .int .i64 x9 ∧ Hid (rdNum l9 = some (x10, l10)) ∧ l10.length ≤ 100000000 ∧ v2 = .int .i64 x10 ∧ Hid (rdNum l10 = some (x11, l11)) ∧ l11.length ≤ 100000000 ∧ v3 = .int .i64 x11 ∧ RdAt w u S l11 ∧ Blk u R #[.string x1.modn, .slice fa x1.vars.length fm, .slice fc x1.procs.length fd, .slice a2 x2.length c2, .slice a3 x3.length c3, .slice a4 x4.length c4, .slice a5 x5.length c5, .slice a6 x6.length c6, .slice a7 x7.length c7, .int .i64 x8, .int .i64 0, .int .i64 0, .int .i64 0] 57 ∧ ObjD (hide (below (K + 1)) u) x1 fa fm fc fd x2 a2 x3 a3 x4 a4 x5 a5 x6 a6 x7 a7
                | [v0, v1, v2, v3, _, _] => ∃ (x8 : Int) (l8 : List UInt8) (x9 : Int) (l9 : List UInt8) (x10 : Int) (l10 : List UInt8) (x11 : Int) (l11 : List UInt8) , Hid (rdNum l7 = some (x8, l8)) ∧ l8.length ≤ 100000000 ∧ v0 = .int .i64 x8 ∧ Hid (rdNum l8 = some (x9, l9)) ∧ l9.length ≤ 100000000 ∧ v1 = .int .i64 x9 ∧ Hid (rdNum l9 = some (x10, l10)) ∧ l10.length ≤ 100000000 ∧ v2 = .int .i64 x10 ∧ Hid (rdNum l10 = some (x11, l11)) ∧ l11.length ≤ 100000000 ∧ v3 = .int .i64 x11 ∧ RdAt w u S l11 ∧ Blk u R #[.string x1.modn, .slice fa x1.vars.length fm, .slice fc x1.procs.length fd, .slice a2 x2.length c2, .slice a3 x3.length c3, .slice a4 x4.length c4, .slice a5 x5.length c5, .slice a6 x6.length c6, .slice a7 x7.length c7, .int .i64 x8, .int .i64 x9, .int .i64 0, .int .i64 0] 57 ∧ ObjD (hide (below (K + 1)) u) x1 fa fm fc fd x2 a2 x3 a3 x4 a4 x5 a5 x6 a6 x7 a7
                | [v0, v1, v2, v3, _, _, _] => ∃ (x8 : Int) (l8 : List UInt8) (x9 : Int) (l9 : List UInt8) (x10 : Int) (l10 : List UInt8) (x11 : Int) (l11 : List UInt8) , Hid (rdNum l7 = some (x8, l8)) ∧ l8.length ≤ 100000000 ∧ v0 = .int .i64 x8 ∧ Hid (rdNum l8 = some (x9, l9)) ∧ l9.length ≤ 100000000 ∧ v1 = .int .i64 x9 ∧ Hid (rdNum l9 = some (x10, l10)) ∧ l10.length ≤ 100000000 ∧ v2 = .int .i64 x10 ∧ Hid (rdNum l10 = some (x11, l11)) ∧ l11.length ≤ 100000000 ∧ v3 = .int .i64 x11 ∧ RdAt w u S l11 ∧ Blk u R #[.string x1.modn, .slice fa x1.vars.length fm, .slice fc x1.procs.length fd, .slice a2 x2.length c2, .slice a3 x3.length c3, .slice a4 x4.length c4, .slice a5 x5.length c5, .slice a6 x6.length c6, .slice a7 x7.length c7, .int .i64 x8, .int .i64 x9, .int .i64 x10, .int .i64 0] 57 ∧ ObjD (hide (below (K + 1)) u) x1 fa fm fc fd x2 a2 x3 a3 x4 a4 x5 a5 x6 a6 x7 a7
                | [v0, v1, v2, v3, _, _, _, _] => ∃ (x8 : Int) (l8 : List UInt8) (x9 : Int) (l9 : List UInt8) (x10 : Int) (l10 : List UInt8) (x11 : Int) (l11 : List UInt8) , Hid (rdNum l7 = some (x8, l8)) ∧ l8.length ≤ 100000000 ∧ v0 = .int .i64 x8 ∧ Hid (rdNum l8 = some (x9, l9)) ∧ l9.length ≤ 100000000 ∧ v1 = .int .i64 x9 ∧ Hid (rdNum l9 = some (x10, l10)) ∧ l10.length ≤ 100000000 ∧ v2 = .int .i64 x10 ∧ Hid (rdNum l10 = some (x11, l11)) ∧ l11.length ≤ 100000000 ∧ v3 = .int .i64 x11 ∧ RdAt w u S l11 ∧ Blk u R #[.string x1.modn, .slice fa x1.vars.length fm, .slice fc x1.procs.length fd, .slice a2 x2.length c2, .slice a3 x3.length c3, .slice a4 x4.length c4, .slice a5 x5.length c5, .slice a6 x6.length c6, .slice a7 x7.length c7, .int .i64 x8, .int .i64 x9, .int .i64 x10, .int .i64 x11] 57 ∧ ObjD (hide (below (K + 1)) u) x1 fa fm fc fd x2 a2 x3 a3 x4 a4 x5 a5 x6 a6 x7 a7
                | _ => False
                )) (frame := ?frab) (fun x => ?hfab) mixed (by kernel_rfl) ?h0b ?stab ?finb
            case hfab =>
              simp only [chain.frameOf, chain.fill, chain.setOpt, chain.dstOf, List.size_toArray, List.length_cons, List.length_nil, List.getElem?_toArray, List.getElem?_cons_succ, List.getElem?_cons_zero, List.setIfInBounds_toArray, List.set_cons_succ, List.set_cons_zero]
              exact rfl
            case h0b => exact ⟨hX7.drew, hE7.drew, hK7.drew, hr7.drew, hR7.drew, hD7.chg ((Chg.refl (fun _ => False) _).drew) (fun _ h => h.elim)⟩
            case stab =>
              refine AllFrom.cons (fun x vs u hF hm hd K' hK' => ?sb0) (AllFrom.cons (fun x vs u hF hm hd K' hK' => ?sb1) (AllFrom.cons (fun x vs u hF hm hd K' hK' => ?sb2) (AllFrom.cons (fun x vs u hF hm hd K' hK' => ?sb3) (AllFrom.cons (fun x vs u hF hm hd K' hK' => ?sb4) (AllFrom.cons (fun x vs u hF hm hd K' hK' => ?sb5) (AllFrom.cons (fun x vs u hF hm hd K' hK' => ?sb6) (AllFrom.cons (fun x vs u hF hm hd K' hK' => ?sb7) (AllFrom.cons (fun x vs u hF hm hd K' hK' => ?sb8) (AllFrom.cons (fun x vs u hF hm hd K' hK' => ?sb9) (AllFrom.cons (fun x vs u hF hm hd K' hK' => ?sb10) (AllFrom.cons (fun x vs u hF hm hd K' hK' => ?sb11) (AllFrom.cons (fun x vs u hF hm hd K' hK' => ?sb12) (AllFrom.cons (fun x vs u hF hm hd K' hK' => ?sb13) (AllFrom.cons (fun x vs u hF hm hd K' hK' => ?sb14) (AllFrom.cons (fun x vs u hF hm hd K' hK' => ?sb15) AllFrom.nil)))))))))))))))
              case sb0 =>
                have hKc := hF.2.2.1.cell
                clear hd hm hF
                go_simp
                exact hK'.out _ _ _ rfl ⟨rfl, rfl⟩
              case sb1 =>
                have y := hd 0 40 (by decide) (by kernel_rfl) (by kernel_rfl)
                replace y : x 40 = .pointer (some ⟨S, 0, none⟩) := y
                obtain rfl := List.eq_nil_of_length_eq_zero (hm 0 (by kernel_rfl))
                obtain ⟨fX, fE, fK, fr, fR, fD⟩ := hF
                have HC := Lib.hid (num_any fr)
                have fl := fK.lt
                clear hd hm
                go_simp
                refine HC.out.mono ?_
                rintro e u2 hr
                rcases hr.cases with ⟨hC, ⟨hp, rfl⟩ | ⟨x8, l8, v, hp, rfl, rfl, hr2⟩⟩
                · have HF := Lib.hid (show T = none by rw [← HT.out]; simp only [rdObj, rdMap, HP1.out, HP2.out, HP3.out, HP4.out, HP5.out, HP6.out, HP7.out, hp])
                  have hX := ext_rd fX (by omega) hC
                  have hR := fR.chg hC (by omega)
                  have hE := fE.chg hC (by omega)
                  clear hr hp HC hC hK' fX fE fK fr fR fD
                  go_wp2_with fail
                  refine leaves_cons (f := 71) (args := #[.pointer (some ⟨R, 0, none⟩), .pointer (some ⟨E, 0, none⟩)]) (by simp) (by simp [go_sem]) ?_
                  refine (catch_get R E _ _ _ hR rfl hE (by omega)).mono ?_
                  rintro e u' w'' ⟨rfl, rfl, hRz, hEz, hCz⟩
                  exact ⟨_, results_cc rfl _ _ rfl hRz Tryz.underlying57 rfl (by kernel_rfl) rfl hEz Tryz.underlying26 rfl, GetPost.fails (hX.trans hCz fun i hi e => by omega) fun x hx => by rw [HF.out] at hx; cases hx⟩
                · have hDc := fD.chg hC (fun i hi => by omega)
                  exact hK'.out _ _ _ (by simp only [y]; rfl) ⟨ext_rd fX (by omega) hC, fE.chg hC (by omega), fK.chg hC (by omega), x8, l8, Lib.hid hp, (by have := num_le _ _ _ hp; omega), rfl, hr2, fR.chg hC (by omega), hDc⟩
              case sb2 =>
                have hKc := hF.2.2.1.cell
                clear hd hm hF
                go_simp
                exact hK'.out _ _ _ rfl ⟨rfl, rfl⟩
              case sb3 =>
                have y := hd 2 42 (by decide) (by kernel_rfl) (by kernel_rfl)
                replace y : x 42 = .pointer (some ⟨S, 0, none⟩) := y
                obtain ⟨v0, rfl⟩ : ∃ v0, vs = [v0] := by match vs, hm 1 (by kernel_rfl) with | [v0], _ => exact ⟨_, rfl⟩
                obtain ⟨fX, fE, fK, x8, l8, HQ8, hl8, rfl, fr, fR, fD⟩ := hF
                have HC := Lib.hid (num_any fr)
                have fl := fK.lt
                clear hd hm
                go_simp
                refine HC.out.mono ?_
                rintro e u2 hr
                rcases hr.cases with ⟨hC, ⟨hp, rfl⟩ | ⟨x9, l9, v, hp, rfl, rfl, hr2⟩⟩
                · have HF := Lib.hid (show T = none by rw [← HT.out]; simp only [rdObj, rdMap, HP1.out, HP2.out, HP3.out, HP4.out, HP5.out, HP6.out, HP7.out, HQ8.out, hp])
                  have hX := ext_rd fX (by omega) hC
                  have hR := fR.chg hC (by omega)
                  have hE := fE.chg hC (by omega)
                  clear hr hp HC hC hK' fX fE fK fr fR fD
                  go_wp2_with fail
                  refine leaves_cons (f := 71) (args := #[.pointer (some ⟨R, 0, none⟩), .pointer (some ⟨E, 0, none⟩)]) (by simp) (by simp [go_sem]) ?_
                  refine (catch_get R E _ _ _ hR rfl hE (by omega)).mono ?_
                  rintro e u' w'' ⟨rfl, rfl, hRz, hEz, hCz⟩
                  exact ⟨_, results_cc rfl _ _ rfl hRz Tryz.underlying57 rfl (by kernel_rfl) rfl hEz Tryz.underlying26 rfl, GetPost.fails (hX.trans hCz fun i hi e => by omega) fun x hx => by rw [HF.out] at hx; cases hx⟩
                · have hDc := fD.chg hC (fun i hi => by omega)
                  exact hK'.out _ _ _ (by simp only [y]; rfl) ⟨ext_rd fX (by omega) hC, fE.chg hC (by omega), fK.chg hC (by omega), x8, l8, x9, l9, HQ8, hl8, rfl, Lib.hid hp, (by have := num_le _ _ _ hp; omega), rfl, hr2, fR.chg hC (by omega), hDc⟩
              case sb4 =>
                have hKc := hF.2.2.1.cell
                clear hd hm hF
                go_simp
                exact hK'.out _ _ _ rfl ⟨rfl, rfl⟩
              case sb5 =>
                have y := hd 4 44 (by decide) (by kernel_rfl) (by kernel_rfl)
                replace y : x 44 = .pointer (some ⟨S, 0, none⟩) := y
                obtain ⟨v0, v1, rfl⟩ : ∃ v0 v1, vs = [v0, v1] := by match vs, hm 2 (by kernel_rfl) with | [v0, v1], _ => exact ⟨_, _, rfl⟩
                obtain ⟨fX, fE, fK, x8, l8, x9, l9, HQ8, hl8, rfl, HQ9, hl9, rfl, fr, fR, fD⟩ := hF
                have HC := Lib.hid (num_any fr)
                have fl := fK.lt
                clear hd hm
                go_simp
                refine HC.out.mono ?_
                rintro e u2 hr
                rcases hr.cases with ⟨hC, ⟨hp, rfl⟩ | ⟨x10, l10, v, hp, rfl, rfl, hr2⟩⟩
                · have HF := Lib.hid (show T = none by rw [← HT.out]; simp only [rdObj, rdMap, HP1.out, HP2.out, HP3.out, HP4.out, HP5.out, HP6.out, HP7.out, HQ8.out, HQ9.out, hp])
                  have hX := ext_rd fX (by omega) hC
                  have hR := fR.chg hC (by omega)
                  have hE := fE.chg hC (by omega)
                  clear hr hp HC hC hK' fX fE fK fr fR fD
                  go_wp2_with fail
                  refine leaves_cons (f := 71) (args := #[.pointer (some ⟨R, 0, none⟩), .pointer (some ⟨E, 0, none⟩)]) (by simp) (by simp [go_sem]) ?_
                  refine (catch_get R E _ _ _ hR rfl hE (by omega)).mono ?_
                  rintro e u' w'' ⟨rfl, rfl, hRz, hEz, hCz⟩
                  exact ⟨_, results_cc rfl _ _ rfl hRz Tryz.underlying57 rfl (by kernel_rfl) rfl hEz Tryz.underlying26 rfl, GetPost.fails (hX.trans hCz fun i hi e => by omega) fun x hx => by rw [HF.out] at hx; cases hx⟩
                · have hDc := fD.chg hC (fun i hi => by omega)
                  exact hK'.out _ _ _ (by simp only [y]; rfl) ⟨ext_rd fX (by omega) hC, fE.chg hC (by omega), fK.chg hC (by omega), x8, l8, x9, l9, x10, l10, HQ8, hl8, rfl, HQ9, hl9, rfl, Lib.hid hp, (by have := num_le _ _ _ hp; omega), rfl, hr2, fR.chg hC (by omega), hDc⟩
              case sb6 =>
                have hKc := hF.2.2.1.cell
                clear hd hm hF
                go_simp
                exact hK'.out _ _ _ rfl ⟨rfl, rfl⟩
              case sb7 =>
                have y := hd 6 46 (by decide) (by kernel_rfl) (by kernel_rfl)
                replace y : x 46 = .pointer (some ⟨S, 0, none⟩) := y
                obtain ⟨v0, v1, v2, rfl⟩ : ∃ v0 v1 v2, vs = [v0, v1, v2] := by match vs, hm 3 (by kernel_rfl) with | [v0, v1, v2], _ => exact ⟨_, _, _, rfl⟩
                obtain ⟨fX, fE, fK, x8, l8, x9, l9, x10, l10, HQ8, hl8, rfl, HQ9, hl9, rfl, HQ10, hl10, rfl, fr, fR, fD⟩ := hF
                have HC := Lib.hid (num_any fr)
                have fl := fK.lt
                clear hd hm
                go_simp
                refine HC.out.mono ?_
                rintro e u2 hr
                rcases hr.cases with ⟨hC, ⟨hp, rfl⟩ | ⟨x11, l11, v, hp, rfl, rfl, hr2⟩⟩
                · have HF := Lib.hid (show T = none by rw [← HT.out]; simp only [rdObj, rdMap, HP1.out, HP2.out, HP3.out, HP4.out, HP5.out, HP6.out, HP7.out, HQ8.out, HQ9.out, HQ10.out, hp])
                  have hX := ext_rd fX (by omega) hC
                  have hR := fR.chg hC (by omega)
                  have hE := fE.chg hC (by omega)
                  clear hr hp HC hC hK' fX fE fK fr fR fD
                  go_wp2_with fail
                  refine leaves_cons (f := 71) (args := #[.pointer (some ⟨R, 0, none⟩), .pointer (some ⟨E, 0, none⟩)]) (by simp) (by simp [go_sem]) ?_
                  refine (catch_get R E _ _ _ hR rfl hE (by omega)).mono ?_
                  rintro e u' w'' ⟨rfl, rfl, hRz, hEz, hCz⟩
                  exact ⟨_, results_cc rfl _ _ rfl hRz Tryz.underlying57 rfl (by kernel_rfl) rfl hEz Tryz.underlying26 rfl, GetPost.fails (hX.trans hCz fun i hi e => by omega) fun x hx => by rw [HF.out] at hx; cases hx⟩
                · have hDc := fD.chg hC (fun i hi => by omega)
                  exact hK'.out _ _ _ (by simp only [y]; rfl) ⟨ext_rd fX (by omega) hC, fE.chg hC (by omega), fK.chg hC (by omega), x8, l8, x9, l9, x10, l10, x11, l11, HQ8, hl8, rfl, HQ9, hl9, rfl, HQ10, hl10, rfl, Lib.hid hp, (by have := num_le _ _ _ hp; omega), rfl, hr2, fR.chg hC (by omega), hDc⟩
              case sb8 =>
                clear hd hm hF
                go_simp
                exact hK'.out _ _ _ rfl ⟨rfl, rfl⟩
              case sb9 =>
                have y := hd 8 48 (by decide) (by kernel_rfl) (by kernel_rfl)
                replace y : x 48 = .pointer (some ⟨R, 9, none⟩) := y
                have z := hd 1 41 (by decide) (by kernel_rfl) (by kernel_rfl)
                obtain ⟨v0, v1, v2, v3, rfl⟩ : ∃ v0 v1 v2 v3, vs = [v0, v1, v2, v3] := by match vs, hm 4 (by kernel_rfl) with | [v0, v1, v2, v3], _ => exact ⟨_, _, _, _, rfl⟩
                obtain ⟨fX, fE, fK, x8, l8, x9, l9, x10, l10, x11, l11, HQ8, hl8, rfl, HQ9, hl9, rfl, HQ10, hl10, rfl, HQ11, hl11, rfl, fr, fR, fD⟩ := hF
                replace z : x 41 = .int .i64 x8 := z
                have fc_ := fR.cell
                have ff_ := fR.frozen
                have fl_ := fR.lt
                clear hd hm
                go_simp
                exact hK'.out _ _ undef (by simp only [y, z]; rfl) ⟨fX.setNew (p := ⟨R, 9, none⟩) (by show _ ≤ R; omega) _, fE.setOther (p := ⟨R, 9, none⟩) (by show _ ≠ R; omega) _, fK.setOther (p := ⟨R, 9, none⟩) (by show _ ≠ R; omega) _, x8, l8, x9, l9, x10, l10, x11, l11, HQ8, hl8, rfl, HQ9, hl9, rfl, HQ10, hl10, rfl, HQ11, hl11, rfl, fr.setFar (p := ⟨R, 9, none⟩) (by show R ≠ _; omega) (by show _ ≤ R; omega) _, fR.set 9 _, fD.set (p := ⟨R, 9, none⟩) (by show R < _; omega) _⟩
              case sb10 =>
                clear hd hm hF
                go_simp
                exact hK'.out _ _ _ rfl ⟨rfl, rfl⟩
              case sb11 =>
                have y := hd 10 49 (by decide) (by kernel_rfl) (by kernel_rfl)
                replace y : x 49 = .pointer (some ⟨R, 10, none⟩) := y
                have z := hd 3 43 (by decide) (by kernel_rfl) (by kernel_rfl)
                obtain ⟨v0, v1, v2, v3, v4, rfl⟩ : ∃ v0 v1 v2 v3 v4, vs = [v0, v1, v2, v3, v4] := by match vs, hm 5 (by kernel_rfl) with | [v0, v1, v2, v3, v4], _ => exact ⟨_, _, _, _, _, rfl⟩
                obtain ⟨fX, fE, fK, x8, l8, x9, l9, x10, l10, x11, l11, HQ8, hl8, rfl, HQ9, hl9, rfl, HQ10, hl10, rfl, HQ11, hl11, rfl, fr, fR, fD⟩ := hF
                replace z : x 43 = .int .i64 x9 := z
                have fc_ := fR.cell
                have ff_ := fR.frozen
                have fl_ := fR.lt
                clear hd hm
                go_simp
                exact hK'.out _ _ undef (by simp only [y, z]; rfl) ⟨fX.setNew (p := ⟨R, 10, none⟩) (by show _ ≤ R; omega) _, fE.setOther (p := ⟨R, 10, none⟩) (by show _ ≠ R; omega) _, fK.setOther (p := ⟨R, 10, none⟩) (by show _ ≠ R; omega) _, x8, l8, x9, l9, x10, l10, x11, l11, HQ8, hl8, rfl, HQ9, hl9, rfl, HQ10, hl10, rfl, HQ11, hl11, rfl, fr.setFar (p := ⟨R, 10, none⟩) (by show R ≠ _; omega) (by show _ ≤ R; omega) _, fR.set 10 _, fD.set (p := ⟨R, 10, none⟩) (by show R < _; omega) _⟩
              case sb12 =>
                clear hd hm hF
                go_simp
                exact hK'.out _ _ _ rfl ⟨rfl, rfl⟩
              case sb13 =>
                have y := hd 12 50 (by decide) (by kernel_rfl) (by kernel_rfl)
                replace y : x 50 = .pointer (some ⟨R, 11, none⟩) := y
                have z := hd 5 45 (by decide) (by kernel_rfl) (by kernel_rfl)
                obtain ⟨v0, v1, v2, v3, v4, v5, rfl⟩ : ∃ v0 v1 v2 v3 v4 v5, vs = [v0, v1, v2, v3, v4, v5] := by match vs, hm 6 (by kernel_rfl) with | [v0, v1, v2, v3, v4, v5], _ => exact ⟨_, _, _, _, _, _, rfl⟩
                obtain ⟨fX, fE, fK, x8, l8, x9, l9, x10, l10, x11, l11, HQ8, hl8, rfl, HQ9, hl9, rfl, HQ10, hl10, rfl, HQ11, hl11, rfl, fr, fR, fD⟩ := hF
                replace z : x 45 = .int .i64 x10 := z
                have fc_ := fR.cell
                have ff_ := fR.frozen
                have fl_ := fR.lt
                clear hd hm
                go_simp
                exact hK'.out _ _ undef (by simp only [y, z]; rfl) ⟨fX.setNew (p := ⟨R, 11, none⟩) (by show _ ≤ R; omega) _, fE.setOther (p := ⟨R, 11, none⟩) (by show _ ≠ R; omega) _, fK.setOther (p := ⟨R, 11, none⟩) (by show _ ≠ R; omega) _, x8, l8, x9, l9, x10, l10, x11, l11, HQ8, hl8, rfl, HQ9, hl9, rfl, HQ10, hl10, rfl, HQ11, hl11, rfl, fr.setFar (p := ⟨R, 11, none⟩) (by show R ≠ _; omega) (by show _ ≤ R; omega) _, fR.set 11 _, fD.set (p := ⟨R, 11, none⟩) (by show R < _; omega) _⟩
              case sb14 =>
                clear hd hm hF
                go_simp
                exact hK'.out _ _ _ rfl ⟨rfl, rfl⟩
              case sb15 =>
                have y := hd 14 51 (by decide) (by kernel_rfl) (by kernel_rfl)
                replace y : x 51 = .pointer (some ⟨R, 12, none⟩) := y
                have z := hd 7 47 (by decide) (by kernel_rfl) (by kernel_rfl)
                obtain ⟨v0, v1, v2, v3, v4, v5, v6, rfl⟩ : ∃ v0 v1 v2 v3 v4 v5 v6, vs = [v0, v1, v2, v3, v4, v5, v6] := by match vs, hm 7 (by kernel_rfl) with | [v0, v1, v2, v3, v4, v5, v6], _ => exact ⟨_, _, _, _, _, _, _, rfl⟩
                obtain ⟨fX, fE, fK, x8, l8, x9, l9, x10, l10, x11, l11, HQ8, hl8, rfl, HQ9, hl9, rfl, HQ10, hl10, rfl, HQ11, hl11, rfl, fr, fR, fD⟩ := hF
                replace z : x 47 = .int .i64 x11 := z
                have fc_ := fR.cell
                have ff_ := fR.frozen
                have fl_ := fR.lt
                clear hd hm
                go_simp
                exact hK'.out _ _ undef (by simp only [y, z]; rfl) ⟨fX.setNew (p := ⟨R, 12, none⟩) (by show _ ≤ R; omega) _, fE.setOther (p := ⟨R, 12, none⟩) (by show _ ≠ R; omega) _, fK.setOther (p := ⟨R, 12, none⟩) (by show _ ≠ R; omega) _, x8, l8, x9, l9, x10, l10, x11, l11, HQ8, hl8, rfl, HQ9, hl9, rfl, HQ10, hl10, rfl, HQ11, hl11, rfl, fr.setFar (p := ⟨R, 12, none⟩) (by show R ≠ _; omega) (by show _ ≤ R; omega) _, fR.set 12 _, fD.set (p := ⟨R, 12, none⟩) (by show R < _; omega) _⟩
            case finb =>
              intro x vs ub hl hF hs
              obtain ⟨v0, v1, v2, v3, v4, v5, v6, v7, rfl⟩ : ∃ v0 v1 v2 v3 v4 v5 v6 v7, vs = [v0, v1, v2, v3, v4, v5, v6, v7] := by match vs, hl with | [v0, v1, v2, v3, v4, v5, v6, v7], _ => exact ⟨_, _, _, _, _, _, _, _, rfl⟩
              obtain ⟨fX, fE, fK, x8, l8, x9, l9, x10, l10, x11, l11, HQ8, hl8, rfl, HQ9, hl9, rfl, HQ10, hl10, rfl, HQ11, hl11, rfl, fr, fR, fD⟩ := hF
              clear hs hl hX7 hE7 hK7 hr7 hR7 hD7
              have HP8 := HQ8
              have HP9 := HQ9
              have HP10 := HQ10
              have HP11 := HQ11
              have hobj : T = some (⟨x1, x2, x3, x4, x5, x6, x7, x8, x9, x10, x11⟩, l11) := by rw [← HT.out]; simp only [rdObj, rdMap, HP1.out, HP2.out, HP3.out, HP4.out, HP5.out, HP6.out, HP7.out, HP8.out, HP9.out, HP10.out, HP11.out]
              have HO := Lib.hid hobj
              have hat : ObjAt ub ⟨x1, x2, x3, x4, x5, x6, x7, x8, x9, x10, x11⟩ (.agg #[.string x1.modn, .slice fa x1.vars.length fm, .slice fc x1.procs.length fd, .slice a2 x2.length c2, .slice a3 x3.length c3, .slice a4 x4.length c4, .slice a5 x5.length c5, .slice a6 x6.length c6, .slice a7 x7.length c7, .int .i64 x8, .int .i64 x9, .int .i64 x10, .int .i64 x11]) := by
                obtain ⟨d0, d1, d2, d3, d4, d5, d6⟩ := fD.keeps (keeps_bare _ _)
                exact ⟨fa, fm, fc, fd, a2, c2, a3, c3, a4, c4, a5, c5, a6, c6, a7, c7, rfl, d0, d1, d2, d3, d4, d5, d6⟩
              have hsm : ObjSmall ⟨x1, x2, x3, x4, x5, x6, x7, x8, x9, x10, x11⟩ := HSM0.out _ _ (HT.out.trans hobj)
              have HD := Lib.hid fD
              clear hobj fD HP1 HP2 HP3 HP4 HP5 HP6 HP7 HP8 HP9 HP10 HP11 hl8 hl9 hl10 hl11 HQ8 HQ9 HQ10 HQ11
              have HMA := Lib.hid (HM.out ub _ _ fX hat hsm)
              have HAT := Lib.hid hat
              obtain ⟨z, hzb, hzr⟩ := fr.ex
              obtain ⟨za, zc, rfl, -, -, -⟩ := hzr.ex
              have hSc := hzb.cell
              have hKc := fK.cell
              have hRc := fR.cell
              have hRf := fR.frozen
              have hRl := fR.lt
              have hEc := fE.cell
              have hEf := fE.frozen
              have hEl := fE.lt
              obtain ⟨n, hn⟩ : ∃ n, l11.length = n := ⟨_, rfl⟩
              rw [hn] at hSc
              have HN := Lib.hid hn
              clear hat hsm hzb hzr hn fr
              have hmix : R ≠ E := by omega
              by_cases hn0 : 0 < n
              · have hn1 : (0 : Int) < (n : Int) := by omega
                have HF : ∀ x, T = some (x, []) → mayObjB x = false := fun x hx => by
                  rw [HO.out] at hx
                  have := HN.out
                  cases hx
                  simp at this
                  omega
                have HF := Lib.hid HF
                go_wp2_with fail
                have hw : ((((((((((((((ub.setCell ⟨R, 0, none⟩ (.string ⟨#[]⟩)).setCell ⟨R, 1, none⟩ (.slice none 0 0)).setCell ⟨R, 2, none⟩ (.slice none 0 0)).setCell ⟨R, 3, none⟩ (.slice none 0 0)).setCell ⟨R, 4, none⟩ (.slice none 0 0)).setCell ⟨R, 5, none⟩ (.slice none 0 0)).setCell ⟨R, 6, none⟩ (.slice none 0 0)).setCell ⟨R, 7, none⟩ (.slice none 0 0)).setCell ⟨R, 8, none⟩ (.slice none 0 0)).setCell ⟨R, 9, none⟩ (.int .i64 0)).setCell ⟨R, 10, none⟩ (.int .i64 0)).setCell ⟨R, 11, none⟩ (.int .i64 0)).setCell ⟨R, 12, none⟩ (.int .i64 0)).setCell ⟨E, 0, none⟩ (.int .i64 2)) = Go.Proofs.YtpcihajmcejliabGreatDoor.sets (Go.Proofs.YtpcihajmcejliabGreatDoor.sets ub R 0 [.string ⟨#[]⟩, .slice none 0 0, .slice none 0 0, .slice none 0 0, .slice none 0 0, .slice none 0 0, .slice none 0 0, .slice none 0 0, .slice none 0 0, .int .i64 0, .int .i64 0, .int .i64 0, .int .i64 0]) E 0 [.int .i64 2] := rfl
                rw [hw]
                clear hw hRc hRf hRl hEc hEf hEl
                refine leaves_cons (f := 71) (args := #[.pointer (some ⟨R, 0, none⟩), .pointer (some ⟨E, 0, none⟩)]) (by simp) (by simp [go_sem]) ?_
                refine (idle_get R E _).mono ?_
                rintro e u' w'' ⟨rfl, rfl, rfl⟩
                exact ⟨_, results_cc rfl _ _ rfl ((fR.setsAll [.string ⟨#[]⟩, .slice none 0 0, .slice none 0 0, .slice none 0 0, .slice none 0 0, .slice none 0 0, .slice none 0 0, .slice none 0 0, .slice none 0 0, .int .i64 0, .int .i64 0, .int .i64 0, .int .i64 0] rfl).setsOther hmix 0 _) Tryz.underlying57 rfl (by kernel_rfl) rfl ((fE.setsOther (Ne.symm hmix) 0 _).setsAll [.int .i64 2] rfl) Tryz.underlying26 rfl, GetPost.fails ((fX.trans (sets_chg ub R [.string ⟨#[]⟩, .slice none 0 0, .slice none 0 0, .slice none 0 0, .slice none 0 0, .slice none 0 0, .slice none 0 0, .slice none 0 0, .slice none 0 0, .int .i64 0, .int .i64 0, .int .i64 0, .int .i64 0] 0) (fun i hi e => by omega)).trans (sets_chg _ E [.int .i64 2] 0) (fun i hi e => by omega)) HF.out⟩
              · obtain rfl : n = 0 := by omega
                have hl0 : l11 = [] := List.eq_nil_of_length_eq_zero HN.out
                subst hl0
                obtain ⟨M, hM⟩ : ∃ M, mayObjB ⟨x1, x2, x3, x4, x5, x6, x7, x8, x9, x10, x11⟩ = M := ⟨_, rfl⟩
                have HMM := Lib.hid hM
                rw [hM] at HMA
                clear hM
                go_wp2_with fail
                refine HMA.out.mono ?_
                rintro e um ⟨rfl, hEm⟩
                have gR := fR.ext hEm
                have gE := fE.ext hEm
                have gX := fX.ext hEm
                have HDM := Lib.hid (HD.out.chg hEm (fun _ h => h.elim))
                have hRc := gR.cell
                have hRf := gR.frozen
                have hRl := gR.lt
                have hEc := gE.cell
                have hEf := gE.frozen
                have hEl := gE.lt
                clear hEm hSc hKc fR fE fX fK HMA HAT
                cases M with
                | false =>
                  have HF : ∀ x, T = some (x, []) → mayObjB x = false := fun x hx => by
                    rw [HO.out] at hx
                    cases hx
                    exact HMM.out
                  have HF := Lib.hid HF
                  go_wp2_with fail
                  have hw : ((((((((((((((um.setCell ⟨R, 0, none⟩ (.string ⟨#[]⟩)).setCell ⟨R, 1, none⟩ (.slice none 0 0)).setCell ⟨R, 2, none⟩ (.slice none 0 0)).setCell ⟨R, 3, none⟩ (.slice none 0 0)).setCell ⟨R, 4, none⟩ (.slice none 0 0)).setCell ⟨R, 5, none⟩ (.slice none 0 0)).setCell ⟨R, 6, none⟩ (.slice none 0 0)).setCell ⟨R, 7, none⟩ (.slice none 0 0)).setCell ⟨R, 8, none⟩ (.slice none 0 0)).setCell ⟨R, 9, none⟩ (.int .i64 0)).setCell ⟨R, 10, none⟩ (.int .i64 0)).setCell ⟨R, 11, none⟩ (.int .i64 0)).setCell ⟨R, 12, none⟩ (.int .i64 0)).setCell ⟨E, 0, none⟩ (.int .i64 2)) = Go.Proofs.YtpcihajmcejliabGreatDoor.sets (Go.Proofs.YtpcihajmcejliabGreatDoor.sets um R 0 [.string ⟨#[]⟩, .slice none 0 0, .slice none 0 0, .slice none 0 0, .slice none 0 0, .slice none 0 0, .slice none 0 0, .slice none 0 0, .slice none 0 0, .int .i64 0, .int .i64 0, .int .i64 0, .int .i64 0]) E 0 [.int .i64 2] := rfl
                  rw [hw]
                  clear hw hRc hRf hRl hEc hEf hEl
                  refine leaves_cons (f := 71) (args := #[.pointer (some ⟨R, 0, none⟩), .pointer (some ⟨E, 0, none⟩)]) (by simp) (by simp [go_sem]) ?_
                  refine (idle_get R E _).mono ?_
                  rintro e u' w'' ⟨rfl, rfl, rfl⟩
                  exact ⟨_, results_cc rfl _ _ rfl ((gR.setsAll [.string ⟨#[]⟩, .slice none 0 0, .slice none 0 0, .slice none 0 0, .slice none 0 0, .slice none 0 0, .slice none 0 0, .slice none 0 0, .slice none 0 0, .int .i64 0, .int .i64 0, .int .i64 0, .int .i64 0] rfl).setsOther hmix 0 _) Tryz.underlying57 rfl (by kernel_rfl) rfl ((gE.setsOther (Ne.symm hmix) 0 _).setsAll [.int .i64 2] rfl) Tryz.underlying26 rfl, GetPost.fails ((gX.trans (sets_chg um R [.string ⟨#[]⟩, .slice none 0 0, .slice none 0 0, .slice none 0 0, .slice none 0 0, .slice none 0 0, .slice none 0 0, .slice none 0 0, .slice none 0 0, .int .i64 0, .int .i64 0, .int .i64 0, .int .i64 0] 0) (fun i hi e => by omega)).trans (sets_chg _ E [.int .i64 2] 0) (fun i hi e => by omega)) HF.out⟩
                | true =>
                  go_wp2_with fail
                  have hw : ((((((((((((((um.setCell ⟨R, 0, none⟩ (.string x1.modn)).setCell ⟨R, 1, none⟩ (.slice fa x1.vars.length fm)).setCell ⟨R, 2, none⟩ (.slice fc x1.procs.length fd)).setCell ⟨R, 3, none⟩ (.slice a2 x2.length c2)).setCell ⟨R, 4, none⟩ (.slice a3 x3.length c3)).setCell ⟨R, 5, none⟩ (.slice a4 x4.length c4)).setCell ⟨R, 6, none⟩ (.slice a5 x5.length c5)).setCell ⟨R, 7, none⟩ (.slice a6 x6.length c6)).setCell ⟨R, 8, none⟩ (.slice a7 x7.length c7)).setCell ⟨R, 9, none⟩ (.int .i64 x8)).setCell ⟨R, 10, none⟩ (.int .i64 x9)).setCell ⟨R, 11, none⟩ (.int .i64 x10)).setCell ⟨R, 12, none⟩ (.int .i64 x11)).setCell ⟨E, 0, none⟩ (.int .i64 0)) = Go.Proofs.YtpcihajmcejliabGreatDoor.sets (Go.Proofs.YtpcihajmcejliabGreatDoor.sets um R 0 [.string x1.modn, .slice fa x1.vars.length fm, .slice fc x1.procs.length fd, .slice a2 x2.length c2, .slice a3 x3.length c3, .slice a4 x4.length c4, .slice a5 x5.length c5, .slice a6 x6.length c6, .slice a7 x7.length c7, .int .i64 x8, .int .i64 x9, .int .i64 x10, .int .i64 x11]) E 0 [.int .i64 0] := rfl
                  rw [hw]
                  clear hw hRc hRf hRl hEc hEf hEl
                  refine leaves_cons (f := 71) (args := #[.pointer (some ⟨R, 0, none⟩), .pointer (some ⟨E, 0, none⟩)]) (by simp) (by simp [go_sem]) ?_
                  refine (idle_get R E _).mono ?_
                  rintro e u' w'' ⟨rfl, rfl, rfl⟩
                  refine ⟨_, results_cc rfl _ _ rfl ((gR.setsAll [.string x1.modn, .slice fa x1.vars.length fm, .slice fc x1.procs.length fd, .slice a2 x2.length c2, .slice a3 x3.length c3, .slice a4 x4.length c4, .slice a5 x5.length c5, .slice a6 x6.length c6, .slice a7 x7.length c7, .int .i64 x8, .int .i64 x9, .int .i64 x10, .int .i64 x11] rfl).setsOther hmix 0 _) Tryz.underlying57 rfl (by kernel_rfl) rfl ((gE.setsOther (Ne.symm hmix) 0 _).setsAll [.int .i64 0] rfl) Tryz.underlying26 rfl, ((gX.trans (sets_chg um R [.string x1.modn, .slice fa x1.vars.length fm, .slice fc x1.procs.length fd, .slice a2 x2.length c2, .slice a3 x3.length c3, .slice a4 x4.length c4, .slice a5 x5.length c5, .slice a6 x6.length c6, .slice a7 x7.length c7, .int .i64 x8, .int .i64 x9, .int .i64 x10, .int .i64 x11] 0) (fun i hi e => by omega)).trans (sets_chg _ E [.int .i64 0] 0) (fun i hi e => by omega)), .inl ⟨⟨x1, x2, x3, x4, x5, x6, x7, x8, x9, x10, x11⟩, _, HO.out, HMM.out, rfl, ?_⟩⟩
                  obtain ⟨d0, d1, d2, d3, d4, d5, d6⟩ := ((HDM.out.chg (sets_chg um R [.string x1.modn, .slice fa x1.vars.length fm, .slice fc x1.procs.length fd, .slice a2 x2.length c2, .slice a3 x3.length c3, .slice a4 x4.length c4, .slice a5 x5.length c5, .slice a6 x6.length c6, .slice a7 x7.length c7, .int .i64 x8, .int .i64 x9, .int .i64 x10, .int .i64 x11] 0) (fun i hi => by omega)).chg (sets_chg _ E [.int .i64 0] 0) (fun i hi => by omega)).keeps (keeps_bare _ _)
                  exact ⟨fa, fm, fc, fd, a2, c2, a3, c3, a4, c4, a5, c5, a6, c6, a7, c7, rfl, d0, d1, d2, d3, d4, d5, d6⟩
end getw
end Go.Proofs.YtpcihajmcejliabGreatDoor
