/- What the linker comes to, in plain Lean. -/
import Derived.Test.YtpcihajmcejliabDoorLinkMovA
import Derived.Test.YtpcihajmcejliabDoorLinkD
namespace Go.Proofs.YtpcihajmcejliabDoor
open Go.RowKit Go.WideMaps Go.Maps
inductive LinkR where
  | bad (m : Nat) (c k : Int)
  | good (is : List Ins) (lo hi : Int)
def linkIs (l : List FObj) (m : Nat × Int) : List Ins := movesF l (basesF codeLen 4 l l.length) (basesF FObj.low 0 l l.length) (basesF FObj.high 0 l l.length) 0 (headF l l.length m) l
def linkLo (l : List FObj) : Int := baseF FObj.low 0 l l.length + 31 * mostF FObj.lowF l l.length
def linkHi (l : List FObj) : Int := baseF FObj.high 0 l l.length + 31 * mostF FObj.highF l l.length
def linkEnd (l : List FObj) (m : Nat × Int) : LinkR := match movErr (linkLo l) (linkHi l) l (linkIs l m) with
  | some t => .bad t.1 t.2.1 t.2.2
  | none => .good (linkIs l m) (linkLo l) (linkHi l)
/-- K1, K2 -/
def linkF (l : List FObj) : LinkR :=
  if 1 ≤ l.length ∧ l.length ≤ 6 then match formsF [] l with
    | some t => .bad t.1 t.2.1 t.2.2
    | none => match impF l 0 l with
      | some t => .bad t.1 t.2.1 t.2.2
      | none => match relF l 0 l with
        | some t => .bad t.1 t.2.1 t.2.2
        | none => match mainF l with
          | none => .bad 0 4 0
          | some m => linkEnd l m
  else .bad 0 1 0
/-- what Link comes to -/
def LinkPost (w : World) (T : LinkR) (e : Ending) (w' : World) : Prop :=
  Ext w w' ∧ match T with
    | .bad m c k => e = .returned (.tuple #[.agg linkw.zeroImg, .agg #[.int .i64 m, .int .i64 c, .int .i64 k]])
    | .good is lo hi => ∃ g ci, e = .returned (.tuple #[.agg #[.slice (some ⟨g, 0, none⟩) is.length ci, .int .i64 lo, .int .i64 hi], .agg #[.int .i64 0, .int .i64 0, .int .i64 0]]) ∧ AllIn 5 InsIn5 w' (some ⟨g, 0, none⟩) is
namespace linkw
theorem linkp_bad {w w' : World} {T : LinkR} {m : Nat} {c k : Int} (hE : Ext w w') (h : T = .bad m c k) : LinkPost w T (.returned (.tuple #[.agg zeroImg, .agg #[.int .i64 m, .int .i64 c, .int .i64 k]])) w' := by
  subst h; exact ⟨hE, rfl⟩
theorem linkp_good {w w' : World} {T : LinkR} {is : List Ins} {lo hi : Int} {g ci : Nat} (hE : Ext w w') (h : T = .good is lo hi) (ha : AllIn 5 InsIn5 w' (some ⟨g, 0, none⟩) is) : LinkPost w T (.returned (.tuple #[.agg #[.slice (some ⟨g, 0, none⟩) is.length ci, .int .i64 lo, .int .i64 hi], .agg #[.int .i64 0, .int .i64 0, .int .i64 0]])) w' := by
  subst h; exact ⟨hE, g, ci, rfl, ha⟩
theorem linkF_size {l : List FObj} (h : ¬(1 ≤ l.length ∧ l.length ≤ 6)) : linkF l = .bad 0 1 0 := by unfold linkF; rw [if_neg h]
theorem linkF_forms {l : List FObj} (h : 1 ≤ l.length ∧ l.length ≤ 6) {m : Nat} {c k : Int} (h1 : formsF [] l = some (m, c, k)) : linkF l = .bad m c k := by unfold linkF; rw [if_pos h, h1]
theorem linkF_imp {l : List FObj} (h : 1 ≤ l.length ∧ l.length ≤ 6) (h1 : formsF [] l = none) {m : Nat} {c k : Int} (h2 : impF l 0 l = some (m, c, k)) : linkF l = .bad m c k := by unfold linkF; rw [if_pos h, h1, h2]
theorem linkF_rel {l : List FObj} (h : 1 ≤ l.length ∧ l.length ≤ 6) (h1 : formsF [] l = none) (h2 : impF l 0 l = none) {m : Nat} {c k : Int} (h3 : relF l 0 l = some (m, c, k)) : linkF l = .bad m c k := by unfold linkF; rw [if_pos h, h1, h2, h3]
theorem linkF_main {l : List FObj} (h : 1 ≤ l.length ∧ l.length ≤ 6) (h1 : formsF [] l = none) (h2 : impF l 0 l = none) (h3 : relF l 0 l = none) (h4 : mainF l = none) : linkF l = .bad 0 4 0 := by unfold linkF; rw [if_pos h, h1, h2, h3, h4]
theorem linkF_err {l : List FObj} (h : 1 ≤ l.length ∧ l.length ≤ 6) (h1 : formsF [] l = none) (h2 : impF l 0 l = none) (h3 : relF l 0 l = none) {p : Nat × Int} (h4 : mainF l = some p) {m : Nat} {c k : Int} (h5 : movErr (linkLo l) (linkHi l) l (linkIs l p) = some (m, c, k)) : linkF l = .bad m c k := by
  unfold linkF; rw [if_pos h, h1, h2, h3, h4]; simp only [linkEnd, h5]
theorem linkF_good {l : List FObj} (h : 1 ≤ l.length ∧ l.length ≤ 6) (h1 : formsF [] l = none) (h2 : impF l 0 l = none) (h3 : relF l 0 l = none) {p : Nat × Int} (h4 : mainF l = some p) (h5 : movErr (linkLo l) (linkHi l) l (linkIs l p) = none) : linkF l = .good (linkIs l p) (linkLo l) (linkHi l) := by
  unfold linkF; rw [if_pos h, h1, h2, h3, h4]; simp only [linkEnd, h5]
theorem forms_none {l : List FObj} : ∀ {L : List ByteArray}, formsF L l = none → ∀ x ∈ l, mayObjB x = true := by
  induction l with
  | nil => intro L _ x hx; cases hx
  | cons y r ih =>
    intro L h x hx
    unfold formsF at h
    split at h
    · cases h
    · rename_i h1
      split at h
      · cases h
      · rcases List.mem_cons.1 hx with rfl | hx
        · simpa using h1
        · exact ih h x hx
theorem may_facts {x : FObj} (h : mayObjB x = true) (hs : ObjSmall x) : LnkNums x ∧ (PlcOk x.procs ∧ PlcOk x.lows ∧ PlcOk x.highs) ∧ ∀ r ∈ x.relocs, 0 ≤ r.at_ ∧ r.at_ < x.code.length := by
  simp only [mayObjB, Bool.and_eq_true, List.all_cons, List.all_nil, wordN, decide_eq_true_eq, codeB, placesB, plcB, List.all_eq_true] at h
  obtain ⟨⟨h1, h2, h3, h4, -⟩, ⟨⟨⟨-, ⟨-, h5⟩, h6⟩, h7, -⟩, h8, -⟩, h9, -⟩ := h
  refine ⟨⟨by omega, by omega, by omega, by omega, by omega, by omega, by omega, by omega, by omega⟩, ⟨⟨by have := hs.procs; omega, fun p hp => ?_⟩, ⟨by have := hs.lows; omega, fun p hp => ?_⟩, ⟨by have := hs.highs; omega, fun p hp => ?_⟩⟩, fun r hr => ?_⟩
  · have := h7 p hp; omega
  · have := h8 p hp; omega
  · have := h9 p hp; omega
  · obtain ⟨k, hk, rfl⟩ := List.getElem_of_mem hr
    unfold relsB at h5
    rw [List.all_eq_true] at h5
    have hat : ∀ j, j < k + 1 → relAt x.relocs x.code.length j = true := fun j hj => h5 j (List.mem_range.2 (by omega))
    have h10 := hat k (by omega)
    have h11 := mayo.prev_ge (l := x.relocs) (n := x.code.length) k (fun j hj => hat j (by omega))
    unfold relAt relB at h10
    simp only [Bool.and_eq_true, decide_eq_true_eq] at h10
    have e : x.relocs[k]! = x.relocs[k] := getElem!_pos x.relocs k hk
    rw [e] at h10
    omega
theorem madeCells_one (z : Value) (n : Nat) : madeCells #[z] n = (List.replicate n z).toArray := by
  apply Array.ext
  · simp [madeCells]
  · intro i h1 h2
    simp [madeCells, Nat.mod_one]
/-- a row of noughts -/
def zc (n : Nat) : Cm := .row (List.replicate n (Value.int .i64 0)) n 3
theorem zc_all {n g : Nat} {u : World} (hb : Blk u g (List.replicate n (Value.int .i64 0)).toArray 3) : AllIn 1 IntIn u (some ⟨g, 0, none⟩) (List.replicate n 0) := fun j hj => by
  refine ⟨g, 0, rfl, hb.lt, ?_⟩
  unfold IntIn
  rw [hb.cell]
  simp at hj ⊢
  simp [hj]
theorem zc_ok (n : Nat) : BasesOk n (List.replicate n 0) := ⟨by simp, fun x hx => by obtain ⟨-, rfl⟩ := List.mem_replicate.1 hx; omega⟩
/-- the linker's block while three rows of noughts are stored -/
def Z3 (w1 : World) (S N n : Nat) (c0 c1 c2 c3 c4 : Value) (k : Nat) (u : World) : Prop :=
  Chg (fun i => i = S) w1 u ∧ ∃ a5 a6 a7, Blk u S #[c0, c1, c2, c3, c4, a5, a6, a7] 51 ∧ (0 < k → (zc n).holds N a5 u) ∧ (1 < k → (zc n).holds N a6 u) ∧ (2 < k → (zc n).holds N a7 u)
theorem Z3.chg {w1 u u' : World} {S N n : Nat} {c0 c1 c2 c3 c4 : Value} {k : Nat} (h : Z3 w1 S N n c0 c1 c2 c3 c4 k u) (hc : Ext u u') : Z3 w1 S N n c0 c1 c2 c3 c4 k u' := by
  obtain ⟨h1, a5, a6, a7, h2, h3, h4, h5⟩ := h
  have hG : Chg (fun i => i < N) u u' := hc.weak fun _ _ h => h.elim
  exact ⟨h1.ext hc, a5, a6, a7, h2.ext hc, fun h => Cm.stab _ _ _ _ _ (h3 h) hG, fun h => Cm.stab _ _ _ _ _ (h4 h) hG, fun h => Cm.stab _ _ _ _ _ (h5 h) hG⟩
section
variable {w1 u : World} {S N n : Nat} {c0 c1 c2 c3 c4 v : Value}
theorem Z3.store1 (h : Z3 w1 S N n c0 c1 c2 c3 c4 0 u) (hS : S < N) (hv : (zc n).holds N v u) : Z3 w1 S N n c0 c1 c2 c3 c4 1 (u.setCell ⟨S, 5, none⟩ v) := by
  obtain ⟨h1, a5, a6, a7, h2, h3, h4, h5⟩ := h
  have hG : Chg (fun i => i < N) u (u.setCell ⟨S, 5, none⟩ v) := (Chg.refl (fun i => i < N) u).setCell (fun _ => hS) _
  exact ⟨h1.setCell (fun _ => rfl) _, v, a6, a7, h2.set 5 v, fun _ => Cm.stab _ _ _ _ _ hv hG, fun h => by omega, fun h => by omega⟩
theorem Z3.store2 (h : Z3 w1 S N n c0 c1 c2 c3 c4 1 u) (hS : S < N) (hv : (zc n).holds N v u) : Z3 w1 S N n c0 c1 c2 c3 c4 2 (u.setCell ⟨S, 6, none⟩ v) := by
  obtain ⟨h1, a5, a6, a7, h2, h3, h4, h5⟩ := h
  have hG : Chg (fun i => i < N) u (u.setCell ⟨S, 6, none⟩ v) := (Chg.refl (fun i => i < N) u).setCell (fun _ => hS) _
  exact ⟨h1.setCell (fun _ => rfl) _, a5, v, a7, h2.set 6 v, fun _ => Cm.stab _ _ _ _ _ (h3 (by decide)) hG, fun _ => Cm.stab _ _ _ _ _ hv hG, fun h => by omega⟩
theorem Z3.store3 (h : Z3 w1 S N n c0 c1 c2 c3 c4 2 u) (hS : S < N) (hv : (zc n).holds N v u) : Z3 w1 S N n c0 c1 c2 c3 c4 3 (u.setCell ⟨S, 7, none⟩ v) := by
  obtain ⟨h1, a5, a6, a7, h2, h3, h4, h5⟩ := h
  have hG : Chg (fun i => i < N) u (u.setCell ⟨S, 7, none⟩ v) := (Chg.refl (fun i => i < N) u).setCell (fun _ => hS) _
  exact ⟨h1.setCell (fun _ => rfl) _, a5, a6, v, h2.set 7 v, fun _ => Cm.stab _ _ _ _ _ (h3 (by decide)) hG, fun _ => Cm.stab _ _ _ _ _ (h4 (by decide)) hG, fun _ => Cm.stab _ _ _ _ _ hv hG⟩
end
theorem lays_cases {w w' : World} {l : List FObj} {S b : Nat} {a : Option Addr} {n cap : Nat} {e : Ending} (h : LaysPost w l S b a n cap e w') : Chg (fun i => i = S) w w' ∧ ((mainF l = none ∧ e = .panicked (troubleV 0 4 0)) ∨ ∃ m, mainF l = some m ∧ e = .returned (.tuple #[]) ∧
    LaidAt w' S (w.heap.size + 1) b (headF l n m) (baseF FObj.low 0 l n + 31 * mostF FObj.lowF l n) (baseF FObj.high 0 l n + 31 * mostF FObj.highF l n) a n cap (basesF codeLen 4 l n) (basesF FObj.low 0 l n) (basesF FObj.high 0 l n)) := by
  obtain ⟨hc, h⟩ := h
  refine ⟨hc, ?_⟩
  cases hm : mainF l with
  | none => rw [hm] at h; exact .inl ⟨rfl, h⟩
  | some m =>
    rw [hm] at h
    obtain ⟨he, m', e2, hl⟩ := h
    obtain rfl := Option.some.inj e2
    exact .inr ⟨m, rfl, he, hl⟩
theorem moves_cases {w w' : World} {S B : Nat} {lo hi : Int} {l : List FObj} {is : List Ins} {e : Ending} (h : MovesPost w S B lo hi l is e w') : Chg (fun i => i = S ∨ B ≤ i) w w' ∧ ((∃ (m : Nat) (c k : Int), movErr lo hi l is = some (m, c, k) ∧ e = .panicked (troubleV m c k)) ∨ (movErr lo hi l is = none ∧ e = .returned (.tuple #[]) ∧
    ∃ g ci r3 r4 r5 r6 r7, Blk w' S #[.slice (some ⟨g, 0, none⟩) is.length ci, .int .i64 lo, .int .i64 hi, r3, r4, r5, r6, r7] 51 ∧ InsRow w' B (.slice (some ⟨g, 0, none⟩) is.length ci) is)) := by
  obtain ⟨hc, h⟩ := h
  refine ⟨hc, ?_⟩
  cases hm : movErr lo hi l is with
  | none => rw [hm] at h; exact .inr ⟨rfl, h.1, h.2⟩
  | some t => obtain ⟨m, c, k⟩ := t; rw [hm] at h; exact .inl ⟨m, c, k, rfl, h⟩
theorem LaidAt.mov {w : World} {S B b : Nat} {is : List Ins} {lo hi : Int} {a : Option Addr} {n cap : Nat} {cs ls hs : List Int} {L : List ByteArray} (h : LaidAt w S B b is lo hi a n cap cs ls hs) (h0 : 0 < is.length) (hn : 0 < n) (h1 : cs.length = n) (h2 : ls.length = n) (h3 : hs.length = n) (hM : NumMap w b L) :
    ∃ g ci q1 c1 q2 c2 q3 c3, MovB w S B b (.slice (some ⟨g, 0, none⟩) is.length ci) g ci is lo hi a n cap q1 c1 q2 c2 q3 c3 cs ls hs L := by
  obtain ⟨vi, vc, vl, vh, hb, hi', hr, hne⟩ := h.ex
  obtain ⟨g, ci, rfl, -, -⟩ := World.ownsRow.form hi' h0
  obtain ⟨q1, c1, rfl, -, -⟩ := World.ownsRow.form (show w.ownsRow _ _ _ _ _ _ from hr.c) (by omega)
  obtain ⟨q2, c2, rfl, -, -⟩ := World.ownsRow.form (show w.ownsRow _ _ _ _ _ _ from hr.l) (by omega)
  obtain ⟨q3, c3, rfl, -, -⟩ := World.ownsRow.form (show w.ownsRow _ _ _ _ _ _ from hr.h) (by omega)
  rw [h1] at hb hr
  rw [h2] at hb hr
  rw [h3] at hb hr
  have hq := hne g rfl
  exact ⟨g, ci, q1, c1, q2, c2, q3, c3, hb, hi', hr, ⟨fun e => hq.1 (by rw [e]; rfl), fun e => hq.2.1 (by rw [e]; rfl), fun e => hq.2.2 (by rw [e]; rfl)⟩, hM⟩
theorem insRow_all {w : World} {B g ci : Nat} {is : List Ins} (h : InsRow w B (.slice (some ⟨g, 0, none⟩) is.length ci) is) : AllIn 5 InsIn5 w (some ⟨g, 0, none⟩) is := fun j hj => by
  refine ⟨g, 0, rfl, (World.ownsRow.lt h g rfl).2, ?_⟩
  have := InsRow.cells h rfl hj
  rw [List.getElem?_eq_getElem hj, Option.getD_some] at this
  rwa [Nat.zero_add]
end linkw
end Go.Proofs.YtpcihajmcejliabDoor
