/- The walk of the linker's lays. -/
import Derived.Test.YtpcihajmcejliabDoorLinkC
namespace Go.Proofs.YtpcihajmcejliabDoor
open Go.RowKit Go.WideMaps Go.Maps
/-- where something of an object begins -/
def baseF (f : FObj → Int) (a : Int) (l : List FObj) (k : Nat) : Int := a + ((l.take k).map f).sum
def codeLen (x : FObj) : Int := x.code.length
def basesF (f : FObj → Int) (a : Int) (l : List FObj) (k : Nat) : List Int := (List.range k).map (baseF f a l)
def mostF (f : FObj → Int) (l : List FObj) (k : Nat) : Int := ((l.take k).map f).foldl max 0
/-- what the linker's block holds -/
structure LkAt (w : World) (S B b : Nat) (v0 : Value) (lo hi : Int) (a : Option Addr) (n cap : Nat) (cs ls hs : List Int) : Prop where
  ex : ∃ vc vl vh, Blk w S #[v0, .int .i64 lo, .int .i64 hi, .slice a n cap, .map (some b), vc, vl, vh] 51 ∧ Rows3 w B vc vl vh cs ls hs
/-- bounds on what objects say of themselves -/
def LnkNums (x : FObj) : Prop := x.code.length ≤ 1048576 ∧ 0 ≤ x.low ∧ x.low ≤ 1000000 ∧ 0 ≤ x.high ∧ x.high ≤ 1000000 ∧ 0 ≤ x.lowF ∧ x.lowF ≤ 1000000 ∧ 0 ≤ x.highF ∧ x.highF ≤ 1000000
/-- the name 'main' -/
def mainN : ByteArray := ⟨#[109, 97, 105, 110]⟩
/-- may a program begin with it -/
def mainPB (p : FProc) : Bool := decide (p.name = mainN) && decide (p.params.length = 0) && decide (p.writes = 0) && !p.gives
/-- the module that main lies in, and where it begins there -/
def mainF (l : List FObj) : Option (Nat × Int) :=
  match modF (modsF l) mainN with
  | none => none
  | some g => match linkw.findF ((l[g]?).getD default).procs mainN with
    | none => none
    | some a => if ((l[g]?).getD default).face.procs.any mainPB then some (g, a) else none
/-- the orders ahead of all -/
def headF (l : List FObj) (n : Nat) (m : Nat × Int) : List Ins := [⟨1, 6, 0, 0, baseF FObj.low 0 l n⟩, ⟨1, 7, 0, 0, baseF FObj.high 0 l n⟩, ⟨11, 0, 0, 0, baseF codeLen 4 l m.1 + m.2⟩, ⟨17, 0, 0, 0, 0⟩]
def insCells (i : Ins) : List Value := [intV i.op, intV i.a, intV i.b, intV i.c, intV i.n]
/-- a row of orders of the call's own -/
def InsRow (w : World) (B : Nat) (v : Value) (is : List Ins) : Prop := w.ownsRow B 64 5 v is.length (is.flatMap insCells)
/-- what the linker's block holds when all is laid -/
structure LaidAt (w : World) (S B b : Nat) (is : List Ins) (lo hi : Int) (a : Option Addr) (n cap : Nat) (cs ls hs : List Int) : Prop where
  ex : ∃ vi vc vl vh, Blk w S #[vi, .int .i64 lo, .int .i64 hi, .slice a n cap, .map (some b), vc, vl, vh] 51 ∧ InsRow w B vi is ∧ Rows3 w B vc vl vh cs ls hs ∧
    ∀ g, vi.ownBlock = some g → vc.ownBlock ≠ some g ∧ vl.ownBlock ≠ some g ∧ vh.ownBlock ≠ some g
/-- what lays comes to -/
def LaysPost (w : World) (l : List FObj) (S b : Nat) (a : Option Addr) (n cap : Nat) (e : Ending) (w' : World) : Prop :=
  Chg (fun i => i = S) w w' ∧ ThrewOr (if (mainF l).isNone then some (0, 4, 0) else none) (fun w' => ∃ m, mainF l = some m ∧ LaidAt w' S (w.heap.size + 1) b (headF l n m) (baseF FObj.low 0 l n + 31 * mostF FObj.lowF l n) (baseF FObj.high 0 l n + 31 * mostF FObj.highF l n) a n cap (basesF codeLen 4 l n) (basesF FObj.low 0 l n) (basesF FObj.high 0 l n)) e w'
namespace linkw
open face
theorem main_name (n : ByteArray) : n = mainN ↔ n.toList = [109, 97, 105, 110] := by
  rw [ByteArray.toList_eq]
  constructor
  · rintro rfl; rfl
  · intro h; exact ByteArray.ext (Array.ext' h)
theorem mp1 {n : ByteArray} {b g : Bool} {ps : List Int} {w v : Int} (h : ¬n.toList = [109, 97, 105, 110]) : Value.bool false = .bool (mainPB ⟨n, b, ps, w, g, v⟩) := by
  rw [← main_name] at h; simp [mainPB, h]
theorem mp2 {n : ByteArray} {b g : Bool} {ps : List Int} {w v : Int} (h : ¬ps = []) : Value.bool false = .bool (mainPB ⟨n, b, ps, w, g, v⟩) := by
  simp [mainPB, h]
theorem mp3 {n : ByteArray} {b g : Bool} {ps : List Int} {w v : Int} (h : ¬w = 0) : Value.bool false = .bool (mainPB ⟨n, b, ps, w, g, v⟩) := by
  simp [mainPB, h]
theorem mp4 {n : ByteArray} {b g : Bool} {ps : List Int} {w v : Int} (h1 : n.toList = [109, 97, 105, 110]) (h2 : ps = []) (h3 : w = 0) : Value.bool (!g) = .bool (mainPB ⟨n, b, ps, w, g, v⟩) := by
  rw [← main_name] at h1; simp [mainPB, h1, h2, h3]
theorem allIn_of {w w' : World} {x : FFace} {v : ByteArray} {fa fc : Option Addr} {n1 n2 am cm : Nat} (h : FaceAt w x (.agg #[.string v, .slice fa n1 am, .slice fc n2 cm])) (hE : Ext w w') : AllIn 6 ProcIn w' fc x.procs := by
  obtain ⟨a, m, c, d, e, h1, h2, -⟩ := h
  simp only [Value.agg.injEq, Array.mk.injEq, List.cons.injEq, Value.slice.injEq, Value.string.injEq, and_true] at e
  obtain ⟨-, -, rfl, -, -⟩ := e
  exact h2.mono hE.size fun _ _ _ hb h => ProcIn.ext hE hb h
theorem max_if (a b : Int) : (if a < b then b else a) = max a b := by rw [Int.max_def]; split <;> split <;> omega
theorem lays_no {w w' : World} {l : List FObj} {S b : Nat} {a : Option Addr} {n cap : Nat} (h : mainF l = none) (hc : Chg (fun i => i = S) w w') : LaysPost w l S b a n cap (.panicked (troubleV 0 4 0)) w' := by
  unfold LaysPost; rw [h]; exact ⟨hc, rfl⟩
theorem lays_yes {w w' : World} {l : List FObj} {S b : Nat} {a : Option Addr} {n cap : Nat} {m : Nat × Int} (h : mainF l = some m) (hc : Chg (fun i => i = S) w w')
    (hl : LaidAt w' S (w.heap.size + 1) b (headF l n m) (baseF FObj.low 0 l n + 31 * mostF FObj.lowF l n) (baseF FObj.high 0 l n + 31 * mostF FObj.highF l n) a n cap (basesF codeLen 4 l n) (basesF FObj.low 0 l n) (basesF FObj.high 0 l n)) : LaysPost w l S b a n cap (.returned (.tuple #[])) w' := by
  unfold LaysPost; rw [h]; exact ⟨hc, rfl, m, rfl, hl⟩
theorem main_drop {l : List FProc} {k : Nat} (h : k < l.length) {B R : Bool} (hr : (B || (l.drop k).any mainPB) = R) : ((B || mainPB l[k]) || (l.drop (k + 1)).any mainPB) = R := by
  rw [List.drop_eq_getElem_cons h, List.any_cons] at hr; rw [Bool.or_assoc]; exact hr
theorem baseF_step (f : FObj → Int) (a : Int) {l : List FObj} {k : Nat} (h : k < l.length) : baseF f a l (k + 1) = baseF f a l k + f l[k] := by
  unfold baseF; rw [List.take_succ_eq_append_getElem h, List.map_append, List.sum_append]; simp; omega
theorem basesF_step (f : FObj → Int) (a : Int) (l : List FObj) (k : Nat) : basesF f a l (k + 1) = basesF f a l k ++ [baseF f a l k] := by
  simp [basesF, List.range_succ]
theorem basesF_at (f : FObj → Int) (a : Int) (l : List FObj) {g k : Nat} (h : g < k) : (basesF f a l k)[g]? = some (baseF f a l g) := by
  simp [basesF, h]
theorem mostF_step (f : FObj → Int) {l : List FObj} {k : Nat} (h : k < l.length) : mostF f l (k + 1) = max (mostF f l k) (f l[k]) := by
  unfold mostF; rw [List.take_succ_eq_append_getElem h, List.map_append, List.foldl_append]; rfl
theorem baseF_le (f : FObj → Int) (a : Int) {l : List FObj} (M : Int) (hM : ∀ x ∈ l, 0 ≤ f x ∧ f x ≤ M) : ∀ k, k ≤ l.length → a ≤ baseF f a l k ∧ baseF f a l k ≤ a + k * M := by
  intro k
  induction k with
  | zero => intro _; simp [baseF]
  | succ k ih =>
    intro hk
    have h1 := ih (by omega)
    have h2 := hM _ (List.getElem_mem (show k < l.length by omega))
    rw [baseF_step f a (by omega)]
    have e : ((k + 1 : Nat) : Int) * M = k * M + M := by rw [Int.natCast_succ, Int.add_mul, Int.one_mul]
    omega
theorem mostF_le (f : FObj → Int) {l : List FObj} (M : Int) (h0 : 0 ≤ M) (hM : ∀ x ∈ l, f x ≤ M) : ∀ k, k ≤ l.length → 0 ≤ mostF f l k ∧ mostF f l k ≤ M := by
  intro k
  induction k with
  | zero => intro _; simpa [mostF] using h0
  | succ k ih =>
    intro hk
    have h1 := ih (by omega)
    have h2 := hM _ (List.getElem_mem (show k < l.length by omega))
    rw [mostF_step f (by omega)]
    omega
theorem basesF_ok (f : FObj → Int) (a : Int) {l : List FObj} (M : Int) (h0 : 0 ≤ a) (ha : a ≤ 4) (hM0 : M ≤ 2000000) (hM : ∀ x ∈ l, 0 ≤ f x ∧ f x ≤ M) {k : Nat} (hk : k ≤ l.length) (h6 : k ≤ 1000) : BasesOk k (basesF f a l k) := by
  refine ⟨by simp [basesF], fun x hx => ?_⟩
  simp only [basesF, List.mem_map, List.mem_range] at hx
  obtain ⟨j, hj, rfl⟩ := hx
  have := baseF_le f a M hM j (by omega)
  have hMp : 0 ≤ M ∨ l = [] := by
    cases l with
    | nil => exact .inr rfl
    | cons y r => exact .inl (by have := hM y (List.mem_cons_self ..); omega)
  rcases hMp with h | h
  · have h3 : (j : Int) * M ≤ 1000 * 2000000 := Int.mul_le_mul (by omega) hM0 h (by decide)
    omega
  · subst h; simp at hk; omega
theorem numMap_chg {w w' : World} {S b : Nat} {L : List ByteArray} (h : NumMap w b L) (hc : Chg (fun i => i = S) w w') (hne : b ≠ S) : NumMap w' b L := by
  obtain ⟨D, h1, h2⟩ := h
  exact ⟨D, h1.kept (row := some S) ⟨hc.os, hc.tape, hc.output, hc.size, fun k hk hn => hc.block k hk fun e => hn (by rw [e])⟩ (by simpa using hne), h2⟩
set_option maxRecDepth 100000 in
set_option maxHeartbeats 16000000 in
theorem lays_any (W : World) (a : Option Addr) (l : List FObj) (n cap S b : Nat) (v0 : Value) (w : World) (hn : l.length = n) (hl : AllIn 13 ObjIn W a l) (hE0 : Ext W w)
    (hB : Blk w S #[v0, .int .i64 0, .int .i64 0, .slice a n cap, .map (some b), .slice none 0 0, .slice none 0 0, .slice none 0 0] 51) (hWS : W.heap.size ≤ S) (hM : NumMap w b (modsF l)) (hbS : b ≠ S) (hm : n ≤ 6) (hnum : ∀ x ∈ l, LnkNums x) (hsm : ∀ x ∈ l, ObjSmall x) (hps : ∀ x ∈ l, PlcOk x.procs ∧ PlcOk x.lows ∧ PlcOk x.highs) :
    Calls Tryd.prog 10 #[.pointer (some ⟨S, 0, none⟩)] w (LaysPost w l S b a n cap) := by
  have hxc := hB.cell
  have hxf := hB.frozen
  have hxl := hB.lt
  have HN := Lib.hid hn
  have HL := Lib.hid hl
  have HE0 := Lib.hid hE0
  have HM := Lib.hid hM
  have HNUM := Lib.hid hnum
  have HSMA := Lib.hid hsm
  have HPSA := Lib.hid hps
  have hFB := Blk.made w #[.int .i64 0, .int .i64 0] 59
  have HK0 := Lib.hid (show LkAt (w.alloc (.cells #[.int .i64 0, .int .i64 0] 59)) S (w.heap.size + 1) b v0 0 0 a n cap [] [] [] from ⟨_, _, _, hB.alloc _, Rows3.nil _ _⟩)
  clear hn hl hE0 hM hnum hsm hps
  go_enter Tryd.func10, Tryd.ntmps10
  go_wp2_with fail
  clear hxc hxf
  go_loopw [2, 19] (fun c i wr => ∃ k : Nat, k ≤ n ∧ i = .int .i64 k ∧ c = .int .i64 (baseF codeLen 4 l k) ∧ Chg (fun i => i = S) w wr ∧ Blk wr w.heap.size #[.int .i64 (mostF FObj.lowF l k), .int .i64 (mostF FObj.highF l k)] 59 ∧
    Hid (LkAt wr S (w.heap.size + 1) b v0 (baseF FObj.low 0 l k) (baseF FObj.high 0 l k) a n cap (basesF codeLen 4 l k) (basesF FObj.low 0 l k) (basesF FObj.high 0 l k))) (fun _ i _ => n - (intOf i).toNat)
  case atStart => exact ⟨0, Nat.zero_le _, rfl, rfl, (Chg.refl _ _).alloc _, hFB, HK0⟩
  case round =>
    obtain ⟨k, hk, rfl, rfl, hC, hF, HK⟩ := hrel
    clear hFB HK0
    by_cases hlt : k < n
    · have hkl : k < l.length := by rw [HN.out]; exact hlt
      have hEW : Ext W wr := HE0.out.trans hC (fun i hi e => by omega)
      obtain ⟨bo, o, rfl, hbo, hc⟩ := HL.out k hkl
      have hbo2 := Nat.lt_of_lt_of_le hbo hEW.size
      obtain ⟨fa, am, fc, cm, ia, ic, ca, cc, ra, rc, pa, pc, la, lc, ha, hcp, h0, h1, h2, h3, h4, h5, h6, h7, h8, h9, h10, h11, h12, -⟩ := ObjIn.ext hEW hbo hc
      have hnu := HNUM.out _ (List.getElem_mem hkl)
      have hCb := baseF_le codeLen 4 1048576 (fun x hx => ⟨by unfold codeLen; omega, by unfold codeLen; have := (HNUM.out x hx).1; omega⟩) k (by omega)
      have hLb := baseF_le FObj.low 0 1000000 (fun x hx => ⟨(HNUM.out x hx).2.1, (HNUM.out x hx).2.2.1⟩) k (by omega)
      have hHb := baseF_le FObj.high 0 1000000 (fun x hx => ⟨(HNUM.out x hx).2.2.2.1, (HNUM.out x hx).2.2.2.2.1⟩) k (by omega)
      have hMLb := mostF_le FObj.lowF 1000000 (by decide) (fun x hx => (HNUM.out x hx).2.2.2.2.2.2.1) k (by omega)
      have hMHb := mostF_le FObj.highF 1000000 (by decide) (fun x hx => (HNUM.out x hx).2.2.2.2.2.2.2.2) k (by omega)
      obtain ⟨hn1, hn2, hn3, hn4, hn5, hn6, hn7, hn8, hn9⟩ := hnu
      have HBC := Lib.hid (baseF_step codeLen 4 hkl)
      have HBL := Lib.hid (baseF_step FObj.low 0 hkl)
      have HBH := Lib.hid (baseF_step FObj.high 0 hkl)
      have HML := Lib.hid (mostF_step FObj.lowF hkl)
      have HMH := Lib.hid (mostF_step FObj.highF hkl)
      clear hc
      generalize l[k] = x at *
      obtain ⟨xf, xi, xc, xr, op, ol, oh, lo, hi, lf, hf⟩ := x
      obtain ⟨xn, xv, xp⟩ := xf
      simp only at h0 h1 h2 h3 h4 h5 h6 h7 h8 h9 h10 h11 h12 hn1 hn2 hn3 hn4 hn5 hn6 hn7 hn8 hn9
      have hlenk : (basesF codeLen 4 l k).length = k ∧ (basesF FObj.low 0 l k).length = k ∧ (basesF FObj.high 0 l k).length = k := by simp [basesF]
      obtain ⟨vc, vl, vh, hSB0, hR0⟩ := HK.out.ex
      have HOWN := Lib.hid (And.intro (fun i e => ((fun q => ⟨by have := q.2; simp; omega, q.1, by have := q.2; omega⟩) (hR0.c.lt i e) : i < (wr.alloc (.cells #[.string xn, .slice fa xv.length am, .slice fc xp.length cm, .slice ia xi.length ic, .slice ca xc.length cc, .slice ra xr.length rc, .slice pa op.length pc, .slice la ol.length lc, .slice ha oh.length hcp, .int .i64 lo, .int .i64 hi, .int .i64 lf, .int .i64 hf] 39)).drew.heap.size ∧ w.heap.size + 1 ≤ i ∧ i ≠ wr.heap.size))
        (And.intro (fun i e => ((fun q => ⟨by have := q.2; simp; omega, q.1, by have := q.2; omega⟩) (hR0.l.lt i e) : i < (wr.alloc (.cells #[.string xn, .slice fa xv.length am, .slice fc xp.length cm, .slice ia xi.length ic, .slice ca xc.length cc, .slice ra xr.length rc, .slice pa op.length pc, .slice la ol.length lc, .slice ha oh.length hcp, .int .i64 lo, .int .i64 hi, .int .i64 lf, .int .i64 hf] 39)).drew.heap.size ∧ w.heap.size + 1 ≤ i ∧ i ≠ wr.heap.size))
        (fun i e => ((fun q => ⟨by have := q.2; simp; omega, q.1, by have := q.2; omega⟩) (hR0.h.lt i e) : i < (wr.alloc (.cells #[.string xn, .slice fa xv.length am, .slice fc xp.length cm, .slice ia xi.length ic, .slice ca xc.length cc, .slice ra xr.length rc, .slice pa op.length pc, .slice la ol.length lc, .slice ha oh.length hcp, .int .i64 lo, .int .i64 hi, .int .i64 lf, .int .i64 hf] 39)).drew.heap.size ∧ w.heap.size + 1 ≤ i ∧ i ≠ wr.heap.size))))
      have hSko : S ≠ wr.heap.size := by have := hC.size; omega
      have hkof : wr.heap.size ≠ w.heap.size := by have := hF.lt; omega
      have hSB : S < w.heap.size + 1 := by omega
      have HSC := Lib.hid (basesF_step codeLen 4 l k)
      have HSL := Lib.hid (basesF_step FObj.low 0 l k)
      have HSH := Lib.hid (basesF_step FObj.high 0 l k)
      go_wp2_with fail
      clear h0 h1 h2 h3 h4 h5 h6 h7 h8 h9 h10 h11 h12
      have KO := Blk.made wr #[.string xn, .slice fa xv.length am, .slice fc xp.length cm, .slice ia xi.length ic, .slice ca xc.length cc, .slice ra xr.length rc, .slice pa op.length pc, .slice la ol.length lc, .slice ha oh.length hcp, .int .i64 lo, .int .i64 hi, .int .i64 lf, .int .i64 hf] 39
      have KS := hSB0.alloc (.cells #[.string xn, .slice fa xv.length am, .slice fc xp.length cm, .slice ia xi.length ic, .slice ca xc.length cc, .slice ra xr.length rc, .slice pa op.length pc, .slice la ol.length lc, .slice ha oh.length hcp, .int .i64 lo, .int .i64 hi, .int .i64 lf, .int .i64 hf] 39)
      have KR := Rows3.chg hR0 ((Chg.refl (fun _ => False) wr).alloc (.cells #[.string xn, .slice fa xv.length am, .slice fc xp.length cm, .slice ia xi.length ic, .slice ca xc.length cc, .slice ra xr.length rc, .slice pa op.length pc, .slice la ol.length lc, .slice ha oh.length hcp, .int .i64 lo, .int .i64 hi, .int .i64 lf, .int .i64 hf] 39)) (fun i h => h.elim)
      have HC1 := Lib.hid (hC.alloc (.cells #[.string xn, .slice fa xv.length am, .slice fc xp.length cm, .slice ia xi.length ic, .slice ca xc.length cc, .slice ra xr.length rc, .slice pa op.length pc, .slice la ol.length lc, .slice ha oh.length hcp, .int .i64 lo, .int .i64 hi, .int .i64 lf, .int .i64 hf] 39))
      have HF1 := Lib.hid (hF.alloc (.cells #[.string xn, .slice fa xv.length am, .slice fc xp.length cm, .slice ia xi.length ic, .slice ca xc.length cc, .slice ra xr.length rc, .slice pa op.length pc, .slice la ol.length lc, .slice ha oh.length hcp, .int .i64 lo, .int .i64 hi, .int .i64 lf, .int .i64 hf] 39))
      have hwz : w.heap.size + 1 ≤ (wr.alloc (.cells #[.string xn, .slice fa xv.length am, .slice fc xp.length cm, .slice ia xi.length ic, .slice ca xc.length cc, .slice ra xr.length rc, .slice pa op.length pc, .slice la ol.length lc, .slice ha oh.length hcp, .int .i64 lo, .int .i64 hi, .int .i64 lf, .int .i64 hf] 39)).heap.size := by have := hC.size; simp; omega
      clear hSB0 hR0 HK hF
      generalize wr.alloc (.cells #[.string xn, .slice fa xv.length am, .slice fc xp.length cm, .slice ia xi.length ic, .slice ca xc.length cc, .slice ra xr.length rc, .slice pa op.length pc, .slice la ol.length lc, .slice ha oh.length hcp, .int .i64 lo, .int .i64 hi, .int .i64 lf, .int .i64 hf] 39) = w1 at *
      obtain ⟨ko, hko⟩ : ∃ q, wr.heap.size = q := ⟨_, rfl⟩
      rw [hko] at KO HOWN hSko hkof ⊢
      obtain ⟨OB, hOB⟩ : ∃ q : Array Value, #[.string xn, .slice fa xv.length am, .slice fc xp.length cm, .slice ia xi.length ic, .slice ca xc.length cc, .slice ra xr.length rc, .slice pa op.length pc, .slice la ol.length lc, .slice ha oh.length hcp, .int .i64 lo, .int .i64 hi, .int .i64 lf, .int .i64 hf] = q := ⟨_, rfl⟩
      rw [hOB] at KO
      have HOBE := Lib.hid hOB
      clear hOB
      obtain ⟨B, hBB⟩ : ∃ q, w.heap.size + 1 = q := ⟨_, rfl⟩
      rw [hBB] at KR HOWN hSB hwz
      generalize basesF codeLen 4 l k = cs at *
      generalize basesF FObj.low 0 l k = ls at *
      generalize basesF FObj.high 0 l k = hs at *
      generalize baseF codeLen 4 l k = C at *
      generalize baseF FObj.low 0 l k = L at *
      generalize baseF FObj.high 0 l k = H at *
      obtain ⟨hlc, hll, hlh⟩ := hlenk
      refine wp_region_weave [9, 20, 31, 34, 37, 40] (fun i => (([.val (.pointer (some ⟨S, 0, none⟩)), .val (.pointer (some ⟨S, 0, none⟩)), .val (.pointer (some ⟨S, 0, none⟩)), .val (.pointer (some ⟨S, 0, none⟩)), .val (.pointer (some ⟨S, 0, none⟩)), .val (.pointer (some ⟨S, 5, none⟩)), .val (vc), .val (.int .i64 C), .row [.int .i64 C] 1 3, .any, .val (.pointer (some ⟨S, 0, none⟩)), .val (.pointer (some ⟨S, 0, none⟩)), .val (.pointer (some ⟨S, 6, none⟩)), .val (vl), .val (.pointer (some ⟨S, 0, none⟩)), .val (.pointer (some ⟨S, 0, none⟩)), .val (.pointer (some ⟨S, 0, none⟩)), .val (.pointer (some ⟨S, 1, none⟩)), .val (.int .i64 L), .row [.int .i64 L] 1 3, .any, .val (.pointer (some ⟨S, 0, none⟩)), .val (.pointer (some ⟨S, 0, none⟩)), .val (.pointer (some ⟨S, 7, none⟩)), .val (vh), .val (.pointer (some ⟨S, 0, none⟩)), .val (.pointer (some ⟨S, 0, none⟩)), .val (.pointer (some ⟨S, 0, none⟩)), .val (.pointer (some ⟨S, 2, none⟩)), .val (.int .i64 H), .row [.int .i64 H] 1 3, .any, .val (.pointer (some ⟨S, 0, none⟩)), .val (.pointer (some ⟨S, 5, none⟩)), .any, .val (.pointer (some ⟨S, 0, none⟩)), .val (.pointer (some ⟨S, 6, none⟩)), .any, .val (.pointer (some ⟨S, 0, none⟩)), .val (.pointer (some ⟨S, 7, none⟩)), .any] : List Cm).getD i .any).holds w1.heap.size) (LayF w1 S B ko OB 39 v0 (.slice (some ⟨bo, o, none⟩) n cap) (.map (some b)) vc vl vh cs ls hs C L H) (Chg (fun i => i < w1.heap.size)) (frame := ?fraa) (fun x => ?hfaa) mixed (by kernel_rfl) (by kernel_rfl) (fun i v u u' h hG => Cm.stab _ _ _ _ _ h hG) ?h0a ?sta ?fina
      case hfaa =>
        simp only [chain.frameOf, chain.fill, chain.setOpt, chain.dstOf, List.size_toArray, List.length_cons, List.length_nil, List.getElem?_toArray, List.getElem?_cons_succ, List.getElem?_cons_zero, List.setIfInBounds_toArray, List.set_cons_succ, List.set_cons_zero]
        exact rfl
      case h0a => exact ⟨(Chg.refl _ _).drew, KO, KS, Rows3.chg KR (Chg.refl (fun _ => False) w1).drew (fun i h => h.elim)⟩
      case sta =>
        refine AllFrom.cons (fun x vs u hF hm hb hd K' hK' => ?sa0) (AllFrom.cons (fun x vs u hF hm hb hd K' hK' => ?sa1) (AllFrom.cons (fun x vs u hF hm hb hd K' hK' => ?sa2) (AllFrom.cons (fun x vs u hF hm hb hd K' hK' => ?sa3) (AllFrom.cons (fun x vs u hF hm hb hd K' hK' => ?sa4) (AllFrom.cons (fun x vs u hF hm hb hd K' hK' => ?sa5) (AllFrom.cons (fun x vs u hF hm hb hd K' hK' => ?sa6) (AllFrom.cons (fun x vs u hF hm hb hd K' hK' => ?sa7) (AllFrom.cons (fun x vs u hF hm hb hd K' hK' => ?sa8) (AllFrom.cons (fun x vs u hF hm hb hd K' hK' => ?sa9) (AllFrom.cons (fun x vs u hF hm hb hd K' hK' => ?sa10) (AllFrom.cons (fun x vs u hF hm hb hd K' hK' => ?sa11) (AllFrom.cons (fun x vs u hF hm hb hd K' hK' => ?sa12) (AllFrom.cons (fun x vs u hF hm hb hd K' hK' => ?sa13) (AllFrom.cons (fun x vs u hF hm hb hd K' hK' => ?sa14) (AllFrom.cons (fun x vs u hF hm hb hd K' hK' => ?sa15) (AllFrom.cons (fun x vs u hF hm hb hd K' hK' => ?sa16) (AllFrom.cons (fun x vs u hF hm hb hd K' hK' => ?sa17) (AllFrom.cons (fun x vs u hF hm hb hd K' hK' => ?sa18) (AllFrom.cons (fun x vs u hF hm hb hd K' hK' => ?sa19) (AllFrom.cons (fun x vs u hF hm hb hd K' hK' => ?sa20) (AllFrom.cons (fun x vs u hF hm hb hd K' hK' => ?sa21) (AllFrom.cons (fun x vs u hF hm hb hd K' hK' => ?sa22) (AllFrom.cons (fun x vs u hF hm hb hd K' hK' => ?sa23) (AllFrom.cons (fun x vs u hF hm hb hd K' hK' => ?sa24) (AllFrom.cons (fun x vs u hF hm hb hd K' hK' => ?sa25) (AllFrom.cons (fun x vs u hF hm hb hd K' hK' => ?sa26) (AllFrom.cons (fun x vs u hF hm hb hd K' hK' => ?sa27) (AllFrom.cons (fun x vs u hF hm hb hd K' hK' => ?sa28) (AllFrom.cons (fun x vs u hF hm hb hd K' hK' => ?sa29) (AllFrom.cons (fun x vs u hF hm hb hd K' hK' => ?sa30) (AllFrom.cons (fun x vs u hF hm hb hd K' hK' => ?sa31) (AllFrom.cons (fun x vs u hF hm hb hd K' hK' => ?sa32) (AllFrom.cons (fun x vs u hF hm hb hd K' hK' => ?sa33) (AllFrom.cons (fun x vs u hF hm hb hd K' hK' => ?sa34) (AllFrom.cons (fun x vs u hF hm hb hd K' hK' => ?sa35) (AllFrom.cons (fun x vs u hF hm hb hd K' hK' => ?sa36) (AllFrom.cons (fun x vs u hF hm hb hd K' hK' => ?sa37) (AllFrom.cons (fun x vs u hF hm hb hd K' hK' => ?sa38) (AllFrom.cons (fun x vs u hF hm hb hd K' hK' => ?sa39) (AllFrom.cons (fun x vs u hF hm hb hd K' hK' => ?sa40) (AllFrom.nil)))))))))))))))))))))))))))))))))))))))))
        case sa0 =>
          have HF := Lib.hid hF
          clear hd hm hb hF
          go_simp
          exact hK'.out _ _ _ rfl (Chg.refl _ _) ⟨rfl, HF.out⟩
        case sa1 =>
          have HF := Lib.hid hF
          clear hd hm hb hF
          go_simp
          exact hK'.out _ _ _ rfl (Chg.refl _ _) ⟨rfl, HF.out⟩
        case sa2 =>
          have HF := Lib.hid hF
          clear hd hm hb hF
          go_simp
          exact hK'.out _ _ _ rfl (Chg.refl _ _) ⟨rfl, HF.out⟩
        case sa3 =>
          have HF := Lib.hid hF
          clear hd hm hb hF
          go_simp
          exact hK'.out _ _ _ rfl (Chg.refl _ _) ⟨rfl, HF.out⟩
        case sa4 =>
          have y0 := hd 3 (by decide) (by kernel_rfl)
          replace y0 : x 26 = .pointer (some ⟨S, 0, none⟩) := y0
          have HF := Lib.hid hF
          clear hd hm hb hF
          go_simp
          exact hK'.out _ _ _ (by simp only [y0]; rfl) (Chg.refl _ _) ⟨rfl, HF.out⟩
        case sa5 =>
          have y0 := hd 4 (by decide) (by kernel_rfl)
          replace y0 : x 27 = .pointer (some ⟨S, 0, none⟩) := y0
          have HF := Lib.hid hF
          clear hd hm hb hF
          go_simp
          exact hK'.out _ _ _ (by simp only [y0]; rfl) (Chg.refl _ _) ⟨rfl, HF.out⟩
        case sa6 =>
          have y0 := hd 5 (by decide) (by kernel_rfl)
          replace y0 : x 28 = .pointer (some ⟨S, 5, none⟩) := y0
          have hSb := hF.sb
          rw [layS_base (by have := hb 0 _ (by decide) rfl (by kernel_rfl); omega)] at hSb
          have hSc := hSb.cell
          clear hSb
          have HF := Lib.hid hF
          clear hd hm hb hF
          go_simp
          exact hK'.out _ _ _ (by simp only [y0]; rfl) (Chg.refl _ _) ⟨rfl, HF.out⟩
        case sa7 =>
          have HF := Lib.hid hF
          clear hd hm hb hF
          go_simp
          exact hK'.out _ _ _ rfl (Chg.refl _ _) ⟨rfl, HF.out⟩
        case sa8 =>
          have y0 := hd 7 (by decide) (by kernel_rfl)
          replace y0 : x 30 = .int .i64 C := y0
          have HF := Lib.hid hF
          have hNu := HF.out.chg.size
          clear hd hm hb hF
          go_simp
          exact hK'.out _ _ _ (by simp only [y0]; rfl) ((Chg.refl _ _).alloc _) ⟨⟨_, rfl, hNu, Blk.made _ _ _⟩, HF.out.ext ((Chg.refl _ _).alloc _)⟩
        case sa9 =>
          obtain rfl := List.eq_nil_of_length_eq_zero (hm 0 (by kernel_rfl))
          have y0 := hd 6 (by decide) (by kernel_rfl)
          replace y0 : x 29 = vc := y0
          have y1 := hd 8 (by decide) (by kernel_rfl)
          replace y1 : ∃ g, x 31 = .slice (some ⟨g, 0, none⟩) 1 1 ∧ w1.heap.size ≤ g ∧ Blk u g #[.int .i64 C] 3 := y1
          obtain ⟨gg, yg, hgN, hgb⟩ := y1
          have hsz := hF.chg.size
          have hrw := (show Rows3 _ _ _ _ _ _ _ _ from hF.rows).c
          obtain ⟨i0_, hi_, hz0, hz1, hz2⟩ := info_parts getw.info_int
          refine wp_append_lies _ _ _ 49 rfl B 3 i0_ (.int .i64 0) 1 8 Tryd.underlying49 hi_ hz0 hz1 hz2 rfl (by decide) vc cs.length (cs.map intV) y0 hrw ⟨gg, 0, none⟩ 1 1 [intV C] yg rfl ?_ (by intro q hq; simp at hq; subst hq; rfl) (by decide) (by unfold maxLen; omega) (by omega) (by omega) u.heap.size rfl ?_
          · intro j q hj; have e : (⟨gg, 0, none⟩ : Addr).add j = ⟨gg, j, none⟩ := (by unfold Addr.add; split <;> simp_all); rw [e, hgb.cell]; simpa [intV] using hj
          · intro g cap' w' ho hgr hat hlt'
            obtain ⟨hF2, hG2⟩ := LayF.push1 (N := w1.heap.size) hF ho hgr hat (HOWN.out.1) hSB
            exact hK'.out _ _ _ rfl hG2 hF2
        case sa10 =>
          have HF := Lib.hid hF
          clear hd hm hb hF
          go_simp
          exact hK'.out _ _ _ rfl (Chg.refl _ _) ⟨rfl, HF.out⟩
        case sa11 =>
          have y0 := hd 10 (by decide) (by kernel_rfl)
          replace y0 : x 33 = .pointer (some ⟨S, 0, none⟩) := y0
          have HF := Lib.hid hF
          clear hd hm hb hF
          go_simp
          exact hK'.out _ _ _ (by simp only [y0]; rfl) (Chg.refl _ _) ⟨rfl, HF.out⟩
        case sa12 =>
          have y0 := hd 11 (by decide) (by kernel_rfl)
          replace y0 : x 34 = .pointer (some ⟨S, 0, none⟩) := y0
          have HF := Lib.hid hF
          clear hd hm hb hF
          go_simp
          exact hK'.out _ _ _ (by simp only [y0]; rfl) (Chg.refl _ _) ⟨rfl, HF.out⟩
        case sa13 =>
          have y0 := hd 12 (by decide) (by kernel_rfl)
          replace y0 : x 35 = .pointer (some ⟨S, 6, none⟩) := y0
          have hSb := hF.sb
          rw [layS_base (by have := hb 1 _ (by decide) rfl (by kernel_rfl); omega)] at hSb
          have hSc := hSb.cell
          clear hSb
          have HF := Lib.hid hF
          clear hd hm hb hF
          go_simp
          exact hK'.out _ _ _ (by simp only [y0]; rfl) (Chg.refl _ _) ⟨rfl, HF.out⟩
        case sa14 =>
          have HF := Lib.hid hF
          clear hd hm hb hF
          go_simp
          exact hK'.out _ _ _ rfl (Chg.refl _ _) ⟨rfl, HF.out⟩
        case sa15 =>
          have y0 := hd 14 (by decide) (by kernel_rfl)
          replace y0 : x 37 = .pointer (some ⟨S, 0, none⟩) := y0
          have HF := Lib.hid hF
          clear hd hm hb hF
          go_simp
          exact hK'.out _ _ _ (by simp only [y0]; rfl) (Chg.refl _ _) ⟨rfl, HF.out⟩
        case sa16 =>
          have y0 := hd 15 (by decide) (by kernel_rfl)
          replace y0 : x 38 = .pointer (some ⟨S, 0, none⟩) := y0
          have HF := Lib.hid hF
          clear hd hm hb hF
          go_simp
          exact hK'.out _ _ _ (by simp only [y0]; rfl) (Chg.refl _ _) ⟨rfl, HF.out⟩
        case sa17 =>
          have y0 := hd 16 (by decide) (by kernel_rfl)
          replace y0 : x 39 = .pointer (some ⟨S, 0, none⟩) := y0
          have HF := Lib.hid hF
          clear hd hm hb hF
          go_simp
          exact hK'.out _ _ _ (by simp only [y0]; rfl) (Chg.refl _ _) ⟨rfl, HF.out⟩
        case sa18 =>
          have y0 := hd 17 (by decide) (by kernel_rfl)
          replace y0 : x 40 = .pointer (some ⟨S, 1, none⟩) := y0
          have hSc1 : u.cell? ⟨S, 1, none⟩ = some (.int .i64 L) := (hF.sb.cell 1).trans (layS_low _ _ _ _ _ _ _ _ _).1
          have HF := Lib.hid hF
          clear hd hm hb hF
          go_simp
          exact hK'.out _ _ _ (by simp only [y0]; rfl) (Chg.refl _ _) ⟨rfl, HF.out⟩
        case sa19 =>
          have y0 := hd 18 (by decide) (by kernel_rfl)
          replace y0 : x 41 = .int .i64 L := y0
          have HF := Lib.hid hF
          have hNu := HF.out.chg.size
          clear hd hm hb hF
          go_simp
          exact hK'.out _ _ _ (by simp only [y0]; rfl) ((Chg.refl _ _).alloc _) ⟨⟨_, rfl, hNu, Blk.made _ _ _⟩, HF.out.ext ((Chg.refl _ _).alloc _)⟩
        case sa20 =>
          obtain ⟨x1, rfl⟩ : ∃ x1, vs = [x1] := by match vs, hm 1 (by kernel_rfl) with | [x1], _ => exact ⟨_, rfl⟩
          have y0 := hd 13 (by decide) (by kernel_rfl)
          replace y0 : x 36 = vl := y0
          have y1 := hd 19 (by decide) (by kernel_rfl)
          replace y1 : ∃ g, x 42 = .slice (some ⟨g, 0, none⟩) 1 1 ∧ w1.heap.size ≤ g ∧ Blk u g #[.int .i64 L] 3 := y1
          obtain ⟨gg, yg, hgN, hgb⟩ := y1
          have hsz := hF.chg.size
          have hrw := (show Rows3 _ _ _ _ _ _ _ _ from hF.rows).l
          obtain ⟨i0_, hi_, hz0, hz1, hz2⟩ := info_parts getw.info_int
          refine wp_append_lies _ _ _ 49 rfl B 3 i0_ (.int .i64 0) 1 8 Tryd.underlying49 hi_ hz0 hz1 hz2 rfl (by decide) vl ls.length (ls.map intV) y0 hrw ⟨gg, 0, none⟩ 1 1 [intV L] yg rfl ?_ (by intro q hq; simp at hq; subst hq; rfl) (by decide) (by unfold maxLen; omega) (by omega) (by omega) u.heap.size rfl ?_
          · intro j q hj; have e : (⟨gg, 0, none⟩ : Addr).add j = ⟨gg, j, none⟩ := (by unfold Addr.add; split <;> simp_all); rw [e, hgb.cell]; simpa [intV] using hj
          · intro g cap' w' ho hgr hat hlt'
            obtain ⟨hF2, hG2⟩ := LayF.push2 (N := w1.heap.size) hF ho hgr hat (HOWN.out.2.1) hSB
            exact hK'.out _ _ _ rfl hG2 hF2
        case sa21 =>
          have HF := Lib.hid hF
          clear hd hm hb hF
          go_simp
          exact hK'.out _ _ _ rfl (Chg.refl _ _) ⟨rfl, HF.out⟩
        case sa22 =>
          have y0 := hd 21 (by decide) (by kernel_rfl)
          replace y0 : x 44 = .pointer (some ⟨S, 0, none⟩) := y0
          have HF := Lib.hid hF
          clear hd hm hb hF
          go_simp
          exact hK'.out _ _ _ (by simp only [y0]; rfl) (Chg.refl _ _) ⟨rfl, HF.out⟩
        case sa23 =>
          have y0 := hd 22 (by decide) (by kernel_rfl)
          replace y0 : x 45 = .pointer (some ⟨S, 0, none⟩) := y0
          have HF := Lib.hid hF
          clear hd hm hb hF
          go_simp
          exact hK'.out _ _ _ (by simp only [y0]; rfl) (Chg.refl _ _) ⟨rfl, HF.out⟩
        case sa24 =>
          have y0 := hd 23 (by decide) (by kernel_rfl)
          replace y0 : x 46 = .pointer (some ⟨S, 7, none⟩) := y0
          have hSb := hF.sb
          rw [layS_base (by have := hb 2 _ (by decide) rfl (by kernel_rfl); omega)] at hSb
          have hSc := hSb.cell
          clear hSb
          have HF := Lib.hid hF
          clear hd hm hb hF
          go_simp
          exact hK'.out _ _ _ (by simp only [y0]; rfl) (Chg.refl _ _) ⟨rfl, HF.out⟩
        case sa25 =>
          have HF := Lib.hid hF
          clear hd hm hb hF
          go_simp
          exact hK'.out _ _ _ rfl (Chg.refl _ _) ⟨rfl, HF.out⟩
        case sa26 =>
          have y0 := hd 25 (by decide) (by kernel_rfl)
          replace y0 : x 48 = .pointer (some ⟨S, 0, none⟩) := y0
          have HF := Lib.hid hF
          clear hd hm hb hF
          go_simp
          exact hK'.out _ _ _ (by simp only [y0]; rfl) (Chg.refl _ _) ⟨rfl, HF.out⟩
        case sa27 =>
          have y0 := hd 26 (by decide) (by kernel_rfl)
          replace y0 : x 49 = .pointer (some ⟨S, 0, none⟩) := y0
          have HF := Lib.hid hF
          clear hd hm hb hF
          go_simp
          exact hK'.out _ _ _ (by simp only [y0]; rfl) (Chg.refl _ _) ⟨rfl, HF.out⟩
        case sa28 =>
          have y0 := hd 27 (by decide) (by kernel_rfl)
          replace y0 : x 50 = .pointer (some ⟨S, 0, none⟩) := y0
          have HF := Lib.hid hF
          clear hd hm hb hF
          go_simp
          exact hK'.out _ _ _ (by simp only [y0]; rfl) (Chg.refl _ _) ⟨rfl, HF.out⟩
        case sa29 =>
          have y0 := hd 28 (by decide) (by kernel_rfl)
          replace y0 : x 51 = .pointer (some ⟨S, 2, none⟩) := y0
          have hSc1 : u.cell? ⟨S, 2, none⟩ = some (.int .i64 H) := (hF.sb.cell 2).trans (layS_low _ _ _ _ _ _ _ _ _).2
          have HF := Lib.hid hF
          clear hd hm hb hF
          go_simp
          exact hK'.out _ _ _ (by simp only [y0]; rfl) (Chg.refl _ _) ⟨rfl, HF.out⟩
        case sa30 =>
          have y0 := hd 29 (by decide) (by kernel_rfl)
          replace y0 : x 52 = .int .i64 H := y0
          have HF := Lib.hid hF
          have hNu := HF.out.chg.size
          clear hd hm hb hF
          go_simp
          exact hK'.out _ _ _ (by simp only [y0]; rfl) ((Chg.refl _ _).alloc _) ⟨⟨_, rfl, hNu, Blk.made _ _ _⟩, HF.out.ext ((Chg.refl _ _).alloc _)⟩
        case sa31 =>
          obtain ⟨x1, x2, rfl⟩ : ∃ x1 x2, vs = [x1, x2] := by match vs, hm 2 (by kernel_rfl) with | [x1, x2], _ => exact ⟨_, _, rfl⟩
          have y0 := hd 24 (by decide) (by kernel_rfl)
          replace y0 : x 47 = vh := y0
          have y1 := hd 30 (by decide) (by kernel_rfl)
          replace y1 : ∃ g, x 53 = .slice (some ⟨g, 0, none⟩) 1 1 ∧ w1.heap.size ≤ g ∧ Blk u g #[.int .i64 H] 3 := y1
          obtain ⟨gg, yg, hgN, hgb⟩ := y1
          have hsz := hF.chg.size
          have hrw := (show Rows3 _ _ _ _ _ _ _ _ from hF.rows).h
          obtain ⟨i0_, hi_, hz0, hz1, hz2⟩ := info_parts getw.info_int
          refine wp_append_lies _ _ _ 49 rfl B 3 i0_ (.int .i64 0) 1 8 Tryd.underlying49 hi_ hz0 hz1 hz2 rfl (by decide) vh hs.length (hs.map intV) y0 hrw ⟨gg, 0, none⟩ 1 1 [intV H] yg rfl ?_ (by intro q hq; simp at hq; subst hq; rfl) (by decide) (by unfold maxLen; omega) (by omega) (by omega) u.heap.size rfl ?_
          · intro j q hj; have e : (⟨gg, 0, none⟩ : Addr).add j = ⟨gg, j, none⟩ := (by unfold Addr.add; split <;> simp_all); rw [e, hgb.cell]; simpa [intV] using hj
          · intro g cap' w' ho hgr hat hlt'
            obtain ⟨hF2, hG2⟩ := LayF.push3 (N := w1.heap.size) hF ho hgr hat (HOWN.out.2.2) hSB
            exact hK'.out _ _ _ rfl hG2 hF2
        case sa32 =>
          have y0 := hd 0 (by decide) (by kernel_rfl)
          replace y0 : x 23 = .pointer (some ⟨S, 0, none⟩) := y0
          have HF := Lib.hid hF
          clear hd hm hb hF
          go_simp
          exact hK'.out _ _ _ (by simp only [y0]; rfl) (Chg.refl _ _) ⟨rfl, HF.out⟩
        case sa33 =>
          have y0 := hd 32 (by decide) (by kernel_rfl)
          replace y0 : x 55 = .pointer (some ⟨S, 0, none⟩) := y0
          have HF := Lib.hid hF
          clear hd hm hb hF
          go_simp
          exact hK'.out _ _ _ (by simp only [y0]; rfl) (Chg.refl _ _) ⟨rfl, HF.out⟩
        case sa34 =>
          obtain ⟨x1, x2, x3, rfl⟩ : ∃ x1 x2 x3, vs = [x1, x2, x3] := by match vs, hm 3 (by kernel_rfl) with | [x1, x2, x3], _ => exact ⟨_, _, _, rfl⟩
          have hrw := (show Rows3 u B x1 x2 x3 (cs ++ [C]) (ls ++ [L]) (hs ++ [H]) from hF.rows).c
          obtain ⟨q1, q2, eq1, -⟩ := World.ownsRow.form hrw (by simp)
          obtain ⟨sl, hsl⟩ : ∃ n, (cs ++ [C]).length = n := ⟨_, rfl⟩
          rw [hsl] at eq1
          clear hsl hrw
          subst eq1
          have y0 := hd 33 (by decide) (by kernel_rfl)
          replace y0 : x 56 = .pointer (some ⟨S, 5, none⟩) := y0
          have y1 := hd 9 (by decide) (by kernel_rfl) 32 (by kernel_rfl)
          replace y1 : x 32 = .slice (some ⟨q1, 0, none⟩) sl q2 := y1
          have hSb : Blk u S #[v0, intV L, intV H, .slice (some ⟨bo, o, none⟩) n cap, .map (some b), vc, vl, vh] 51 := hF.sb
          have hSl := hSb.lt
          have hSf := hSb.frozen
          have hSc := hSb.cell
          have hF2 := LayF.store1 (e := undef) hF hSB hSko
          clear hd hm hb
          go_simp
          exact hK'.out _ _ _ (by simp only [y0, y1]; rfl) ((Chg.refl _ _).setCell (fun _ => by show S < _; omega) _) hF2
        case sa35 =>
          have y0 := hd 1 (by decide) (by kernel_rfl)
          replace y0 : x 24 = .pointer (some ⟨S, 0, none⟩) := y0
          have HF := Lib.hid hF
          clear hd hm hb hF
          go_simp
          exact hK'.out _ _ _ (by simp only [y0]; rfl) (Chg.refl _ _) ⟨rfl, HF.out⟩
        case sa36 =>
          have y0 := hd 35 (by decide) (by kernel_rfl)
          replace y0 : x 57 = .pointer (some ⟨S, 0, none⟩) := y0
          have HF := Lib.hid hF
          clear hd hm hb hF
          go_simp
          exact hK'.out _ _ _ (by simp only [y0]; rfl) (Chg.refl _ _) ⟨rfl, HF.out⟩
        case sa37 =>
          obtain ⟨x1, x2, x3, d1, rfl⟩ : ∃ x1 x2 x3 d1, vs = [x1, x2, x3, d1] := by match vs, hm 4 (by kernel_rfl) with | [x1, x2, x3, d1], _ => exact ⟨_, _, _, _, rfl⟩
          have hrw := (show Rows3 u B x1 x2 x3 (cs ++ [C]) (ls ++ [L]) (hs ++ [H]) from hF.rows).l
          obtain ⟨q1, q2, eq1, -⟩ := World.ownsRow.form hrw (by simp)
          obtain ⟨sl, hsl⟩ : ∃ n, (ls ++ [L]).length = n := ⟨_, rfl⟩
          rw [hsl] at eq1
          clear hsl hrw
          subst eq1
          have y0 := hd 36 (by decide) (by kernel_rfl)
          replace y0 : x 58 = .pointer (some ⟨S, 6, none⟩) := y0
          have y1 := hd 20 (by decide) (by kernel_rfl) 43 (by kernel_rfl)
          replace y1 : x 43 = .slice (some ⟨q1, 0, none⟩) sl q2 := y1
          have hSb : Blk u S #[v0, intV L, intV H, .slice (some ⟨bo, o, none⟩) n cap, .map (some b), x1, vl, vh] 51 := hF.sb
          have hSl := hSb.lt
          have hSf := hSb.frozen
          have hSc := hSb.cell
          have hF2 := LayF.store2 (e := undef) hF hSB hSko
          clear hd hm hb
          go_simp
          exact hK'.out _ _ _ (by simp only [y0, y1]; rfl) ((Chg.refl _ _).setCell (fun _ => by show S < _; omega) _) hF2
        case sa38 =>
          have y0 := hd 2 (by decide) (by kernel_rfl)
          replace y0 : x 25 = .pointer (some ⟨S, 0, none⟩) := y0
          have HF := Lib.hid hF
          clear hd hm hb hF
          go_simp
          exact hK'.out _ _ _ (by simp only [y0]; rfl) (Chg.refl _ _) ⟨rfl, HF.out⟩
        case sa39 =>
          have y0 := hd 38 (by decide) (by kernel_rfl)
          replace y0 : x 59 = .pointer (some ⟨S, 0, none⟩) := y0
          have HF := Lib.hid hF
          clear hd hm hb hF
          go_simp
          exact hK'.out _ _ _ (by simp only [y0]; rfl) (Chg.refl _ _) ⟨rfl, HF.out⟩
        case sa40 =>
          obtain ⟨x1, x2, x3, d1, d2, rfl⟩ : ∃ x1 x2 x3 d1 d2, vs = [x1, x2, x3, d1, d2] := by match vs, hm 5 (by kernel_rfl) with | [x1, x2, x3, d1, d2], _ => exact ⟨_, _, _, _, _, rfl⟩
          have hrw := (show Rows3 u B x1 x2 x3 (cs ++ [C]) (ls ++ [L]) (hs ++ [H]) from hF.rows).h
          obtain ⟨q1, q2, eq1, -⟩ := World.ownsRow.form hrw (by simp)
          obtain ⟨sl, hsl⟩ : ∃ n, (hs ++ [H]).length = n := ⟨_, rfl⟩
          rw [hsl] at eq1
          clear hsl hrw
          subst eq1
          have y0 := hd 39 (by decide) (by kernel_rfl)
          replace y0 : x 60 = .pointer (some ⟨S, 7, none⟩) := y0
          have y1 := hd 31 (by decide) (by kernel_rfl) 54 (by kernel_rfl)
          replace y1 : x 54 = .slice (some ⟨q1, 0, none⟩) sl q2 := y1
          have hSb : Blk u S #[v0, intV L, intV H, .slice (some ⟨bo, o, none⟩) n cap, .map (some b), x1, x2, vh] 51 := hF.sb
          have hSl := hSb.lt
          have hSf := hSb.frozen
          have hSc := hSb.cell
          have hF2 := LayF.store3 (e := undef) hF hSB hSko
          clear hd hm hb
          go_simp
          exact hK'.out _ _ _ (by simp only [y0, y1]; rfl) ((Chg.refl _ _).setCell (fun _ => by show S < _; omega) _) hF2
      case fina =>
        intro x vs u hl hF hq
        clear hq
        obtain ⟨x1, x2, x3, d1, d2, d3, rfl⟩ : ∃ x1 x2 x3 d1 d2 d3, vs = [x1, x2, x3, d1, d2, d3] := by match vs, hl with | [_, _, _, _, _, _], _ => exact ⟨_, _, _, _, _, _, rfl⟩
        have KS2 : Blk u S #[v0, .int .i64 L, .int .i64 H, .slice (some ⟨bo, o, none⟩) n cap, .map (some b), x1, x2, x3] 51 := hF.sb
        have KR2 : Rows3 u B x1 x2 x3 (cs ++ [C]) (ls ++ [L]) (hs ++ [H]) := hF.rows
        have KO2 : Blk u ko OB 39 := hF.obj
        have KF2 := HF1.out.chg hF.chg (by
          rintro (e | e | e | e)
          · omega
          · have := (HOWN.out.1 _ e).2.1; omega
          · have := (HOWN.out.2.1 _ e).2.1; omega
          · have := (HOWN.out.2.2 _ e).2.1; omega)
        have HC2 := Lib.hid (HC1.out.trans hF.chg (fun i hi h => by
          rcases h with h | h | h | h
          · exact h
          · have := (HOWN.out.1 _ h).2.1; omega
          · have := (HOWN.out.2.1 _ h).2.1; omega
          · have := (HOWN.out.2.2 _ h).2.1; omega))
        rw [← HOBE.out] at KO2
        have KSl := KS2.lt
        clear hF hl KO KR KS HF1 HC1 HOWN HOBE OB hlc hll hlh hwz d1 d2 d3
        have hOc := KO2.cell
        have hC1' : 0 ≤ C + (xc.length : Int) := by omega
        have hC2' : C + (xc.length : Int) ≤ 9000000 := by omega
        go_wp2_with fail
        obtain ⟨L2, hL2⟩ : ∃ q, L + lo = q := ⟨_, rfl⟩
        obtain ⟨H2, hH2⟩ : ∃ q, H + hi = q := ⟨_, rfl⟩
        have hwL : IntKind.i64.wrap (L + lo) = L2 := by rw [← hL2]; exact IntWalk.i64_in _ (by omega)
        have HwH := Lib.hid (show IntKind.i64.wrap (H + hi) = H2 by rw [← hH2]; exact IntWalk.i64_in _ (by omega))
        have HL2 := Lib.hid hL2
        have HH2 := Lib.hid hH2
        clear hL2 hH2
        have hSc := KS2.cell
        have hSf := KS2.frozen
        go_still_tail 11, (by kernel_rfl)
        clear hSc hOc hwL hSf
        have KS3 := KS2.drew
        have KO3 := KO2.drew
        have KF3 := KF2.drew
        have KR3 := Rows3.chg KR2 (Chg.refl (fun _ => False) u).drew (fun i h => h.elim)
        have HC3 := Lib.hid HC2.out.drew
        change wpList _ _ _ _ _ u.drew
        clear KS2 KO2 KF2 KR2 HC2 KSl
        generalize u.drew = u3 at *
        have hSf := KS3.frozen
        have hSc := KS3.cell
        have KSl := KS3.lt
        go_wp2_with fail
        clear hSf hSc
        have hCs := (Chg.refl (fun i => i = S) u3).setCell (p := ⟨S, 1, none⟩) (fun _ => rfl) (.int .i64 L2)
        have KS4 : Blk (u3.setCell ⟨S, 1, none⟩ (.int .i64 L2)) S #[v0, .int .i64 L2, .int .i64 H, .slice (some ⟨bo, o, none⟩) n cap, .map (some b), x1, x2, x3] 51 := KS3.set 1 _
        have KO4 := KO3.chg hCs hSko.symm
        have KF4 := KF3.chg hCs (by omega)
        have KR4 := Rows3.chg KR3 hCs (fun i hi => by omega)
        have HC4 := Lib.hid (HC3.out.then hCs)
        clear KS3 KO3 KF3 KR3 HC3 KSl hCs
        generalize u3.setCell ⟨S, 1, none⟩ (.int .i64 L2) = u4 at *
        have hSc := KS4.cell
        have hSf := KS4.frozen
        have hOc := KO4.cell
        have hwH := HwH.out
        go_still_tail 11, (by kernel_rfl)
        clear hSc hOc hwH HwH hSf
        have KS5 := KS4.drew
        have KO5 := KO4.drew
        have KF5 := KF4.drew
        have KR5 := Rows3.chg KR4 (Chg.refl (fun _ => False) u4).drew (fun i h => h.elim)
        have HC5 := Lib.hid HC4.out.drew
        change wpList _ _ _ _ _ u4.drew
        clear KS4 KO4 KF4 KR4 HC4
        generalize u4.drew = u5 at *
        have hSf := KS5.frozen
        have hSc := KS5.cell
        have KSl := KS5.lt
        go_wp2_with fail
        clear hSf hSc
        have hCs := (Chg.refl (fun i => i = S) u5).setCell (p := ⟨S, 2, none⟩) (fun _ => rfl) (.int .i64 H2)
        have KS6 : Blk (u5.setCell ⟨S, 2, none⟩ (.int .i64 H2)) S #[v0, .int .i64 L2, .int .i64 H2, .slice (some ⟨bo, o, none⟩) n cap, .map (some b), x1, x2, x3] 51 := KS5.set 2 _
        have KO6 := KO5.chg hCs hSko.symm
        have KF6 := KF5.chg hCs (by omega)
        have KR6 := Rows3.chg KR5 hCs (fun i hi => by omega)
        have HC6 := Lib.hid (HC5.out.then hCs)
        clear KS5 KO5 KF5 KR5 HC5 KSl hCs
        generalize u5.setCell ⟨S, 2, none⟩ (.int .i64 H2) = w5 at *
        obtain ⟨kf, hkf⟩ : ∃ q, w.heap.size = q := ⟨_, rfl⟩
        have hxl9 := hxl
        rw [hkf] at KF6 hkof hxl9 hBB ⊢
        have hkk : ¬ ko = kf := hkof
        have hSkf : ¬ S = kf := by omega
        have hkl2 : kf < w5.heap.size := KF6.lt
        generalize mostF FObj.lowF l k = ML at *
        generalize mostF FObj.highF l k = MH at *
        obtain ⟨M1, hM1⟩ : ∃ q, q = max ML lf := ⟨_, rfl⟩
        obtain ⟨M2, hM2⟩ : ∃ q, q = max MH hf := ⟨_, rfl⟩
        have HM1 := Lib.hid hM1
        have HM2 := Lib.hid hM2
        clear hM1 hM2
        refine wp_region_weave [11, 13] (fun i => (([.val (.pointer (some ⟨kf, 0, none⟩)), .val (.int .i64 ML), .val (.pointer (some ⟨ko, 11, none⟩)), .val (.int .i64 lf), .val (.int .i64 M1), .val (.pointer (some ⟨kf, 1, none⟩)), .val (.int .i64 MH), .val (.pointer (some ⟨ko, 12, none⟩)), .val (.int .i64 hf), .val (.int .i64 M2), .val (.pointer (some ⟨kf, 0, none⟩)), .any, .val (.pointer (some ⟨kf, 1, none⟩)), .any] : List Cm).getD i .any).holds w5.heap.size) (fun vs u => Blk u kf (match vs with | [] => #[.int .i64 ML, .int .i64 MH] | [_] => #[.int .i64 M1, .int .i64 MH] | _ => #[.int .i64 M1, .int .i64 M2]) 59 ∧ Chg (fun i => i = kf) w5 u) (Chg (fun i => i < w5.heap.size)) (frame := ?frab) (fun x => ?hfab) mixed (by kernel_rfl) (by kernel_rfl) (fun i v u u' h hG => Cm.stab _ _ _ _ _ h hG) ?h0b ?stb ?finb
        case hfab =>
          simp only [chain.frameOf, chain.fill, chain.setOpt, chain.dstOf, List.size_toArray, List.length_cons, List.length_nil, List.getElem?_toArray, List.getElem?_cons_succ, List.getElem?_cons_zero, List.setIfInBounds_toArray, List.set_cons_succ, List.set_cons_zero]
          exact rfl
        case h0b => exact ⟨KF6.drew, (Chg.refl _ _).drew⟩
        case stb =>
          refine AllFrom.cons (fun x vs u hF hm hb hd K' hK' => ?sb0) (AllFrom.cons (fun x vs u hF hm hb hd K' hK' => ?sb1) (AllFrom.cons (fun x vs u hF hm hb hd K' hK' => ?sb2) (AllFrom.cons (fun x vs u hF hm hb hd K' hK' => ?sb3) (AllFrom.cons (fun x vs u hF hm hb hd K' hK' => ?sb4) (AllFrom.cons (fun x vs u hF hm hb hd K' hK' => ?sb5) (AllFrom.cons (fun x vs u hF hm hb hd K' hK' => ?sb6) (AllFrom.cons (fun x vs u hF hm hb hd K' hK' => ?sb7) (AllFrom.cons (fun x vs u hF hm hb hd K' hK' => ?sb8) (AllFrom.cons (fun x vs u hF hm hb hd K' hK' => ?sb9) (AllFrom.cons (fun x vs u hF hm hb hd K' hK' => ?sb10) (AllFrom.cons (fun x vs u hF hm hb hd K' hK' => ?sb11) (AllFrom.cons (fun x vs u hF hm hb hd K' hK' => ?sb12) (AllFrom.cons (fun x vs u hF hm hb hd K' hK' => ?sb13) (AllFrom.nil))))))))))))))
          case sb0 =>
            have HF := Lib.hid hF
            clear hd hm hb hF
            go_simp
            exact hK'.out _ _ _ rfl (Chg.refl _ _) ⟨rfl, HF.out⟩
          case sb1 =>
            have y0 := hd 0 (by decide) (by kernel_rfl)
            replace y0 : x 88 = .pointer (some ⟨kf, 0, none⟩) := y0
            have hsv : vs = [] := List.eq_nil_of_length_eq_zero (by have := hb 0 _ (by decide) rfl (by kernel_rfl); omega)
            subst hsv
            have hFc := hF.1.cell
            have HF := Lib.hid hF
            clear hd hm hb hF
            go_simp
            exact hK'.out _ _ _ (by simp only [y0]; rfl) (Chg.refl _ _) ⟨rfl, HF.out⟩
          case sb2 =>
            have HF := Lib.hid hF
            clear hd hm hb hF
            go_simp
            exact hK'.out _ _ _ rfl (Chg.refl _ _) ⟨rfl, HF.out⟩
          case sb3 =>
            have y0 := hd 2 (by decide) (by kernel_rfl)
            replace y0 : x 90 = .pointer (some ⟨ko, 11, none⟩) := y0
            have hOc := (KO6.chg hF.2 hkk).cell
            have HF := Lib.hid hF
            clear hd hm hb hF
            go_simp
            exact hK'.out _ _ _ (by simp only [y0]; rfl) (Chg.refl _ _) ⟨rfl, HF.out⟩
          case sb4 =>
            have y0 := hd 1 (by decide) (by kernel_rfl)
            replace y0 : x 89 = .int .i64 ML := y0
            have y1 := hd 3 (by decide) (by kernel_rfl)
            replace y1 : x 91 = .int .i64 lf := y1
            have HF := Lib.hid hF
            clear hd hm hb hF
            rcases Int.lt_or_le ML lf with hc | hc
            · have e : M1 = lf := by rw [HM1.out]; exact Int.max_eq_right (by omega)
              go_simp
              try simp only [if_pos hc]
              first | exact hK'.out _ _ _ (by simp only [y0, y1, HM1.out]; rfl) (Chg.refl _ _) ⟨rfl, HF.out⟩ | exact hK'.out _ _ _ (by simp only [y0, y1, e]; rfl) (Chg.refl _ _) ⟨rfl, HF.out⟩
            · have e : M1 = ML := by rw [HM1.out]; exact Int.max_eq_left (by omega)
              have hcn : ¬ ML < lf := by omega
              have hcd : decide (ML < lf) = false := by simpa using hcn
              clear hc
              go_simp
              try simp only [if_neg hcn]
              first | exact hK'.out _ _ _ (by simp only [y0, y1, HM1.out]; rfl) (Chg.refl _ _) ⟨rfl, HF.out⟩ | exact hK'.out _ _ _ (by simp only [y0, y1, e]; rfl) (Chg.refl _ _) ⟨rfl, HF.out⟩
          case sb5 =>
            have HF := Lib.hid hF
            clear hd hm hb hF
            go_simp
            exact hK'.out _ _ _ rfl (Chg.refl _ _) ⟨rfl, HF.out⟩
          case sb6 =>
            have y0 := hd 5 (by decide) (by kernel_rfl)
            replace y0 : x 93 = .pointer (some ⟨kf, 1, none⟩) := y0
            have hsv : vs = [] := List.eq_nil_of_length_eq_zero (by have := hb 0 _ (by decide) rfl (by kernel_rfl); omega)
            subst hsv
            have hFc := hF.1.cell
            have HF := Lib.hid hF
            clear hd hm hb hF
            go_simp
            exact hK'.out _ _ _ (by simp only [y0]; rfl) (Chg.refl _ _) ⟨rfl, HF.out⟩
          case sb7 =>
            have HF := Lib.hid hF
            clear hd hm hb hF
            go_simp
            exact hK'.out _ _ _ rfl (Chg.refl _ _) ⟨rfl, HF.out⟩
          case sb8 =>
            have y0 := hd 7 (by decide) (by kernel_rfl)
            replace y0 : x 95 = .pointer (some ⟨ko, 12, none⟩) := y0
            have hOc := (KO6.chg hF.2 hkk).cell
            have HF := Lib.hid hF
            clear hd hm hb hF
            go_simp
            exact hK'.out _ _ _ (by simp only [y0]; rfl) (Chg.refl _ _) ⟨rfl, HF.out⟩
          case sb9 =>
            have y0 := hd 6 (by decide) (by kernel_rfl)
            replace y0 : x 94 = .int .i64 MH := y0
            have y1 := hd 8 (by decide) (by kernel_rfl)
            replace y1 : x 96 = .int .i64 hf := y1
            have HF := Lib.hid hF
            clear hd hm hb hF
            rcases Int.lt_or_le MH hf with hc | hc
            · have e : M2 = hf := by rw [HM2.out]; exact Int.max_eq_right (by omega)
              go_simp
              try simp only [if_pos hc]
              first | exact hK'.out _ _ _ (by simp only [y0, y1, HM2.out]; rfl) (Chg.refl _ _) ⟨rfl, HF.out⟩ | exact hK'.out _ _ _ (by simp only [y0, y1, e]; rfl) (Chg.refl _ _) ⟨rfl, HF.out⟩
            · have e : M2 = MH := by rw [HM2.out]; exact Int.max_eq_left (by omega)
              have hcn : ¬ MH < hf := by omega
              have hcd : decide (MH < hf) = false := by simpa using hcn
              clear hc
              go_simp
              try simp only [if_neg hcn]
              first | exact hK'.out _ _ _ (by simp only [y0, y1, HM2.out]; rfl) (Chg.refl _ _) ⟨rfl, HF.out⟩ | exact hK'.out _ _ _ (by simp only [y0, y1, e]; rfl) (Chg.refl _ _) ⟨rfl, HF.out⟩
          case sb10 =>
            have HF := Lib.hid hF
            clear hd hm hb hF
            go_simp
            exact hK'.out _ _ _ rfl (Chg.refl _ _) ⟨rfl, HF.out⟩
          case sb11 =>
            obtain rfl := List.eq_nil_of_length_eq_zero (hm 0 (by kernel_rfl))
            have y0 := hd 10 (by decide) (by kernel_rfl)
            replace y0 : x 98 = .pointer (some ⟨kf, 0, none⟩) := y0
            have y1 := hd 4 (by decide) (by kernel_rfl)
            replace y1 : x 92 = .int .i64 M1 := y1
            have hFf := hF.1.frozen
            have hFc := hF.1.cell
            have hFl := hF.1.lt
            have hF2 := hF.1.set 0 (.int .i64 M1)
            have hC2 := hF.2.setCell (p := ⟨kf, 0, none⟩) (fun _ => rfl) (.int .i64 M1)
            clear hd hm hb
            go_simp
            exact hK'.out _ _ undef (by simp only [y0, y1]; rfl) ((Chg.refl _ _).setCell (fun _ => hkl2) _) ⟨hF2, hC2⟩
          case sb12 =>
            have HF := Lib.hid hF
            clear hd hm hb hF
            go_simp
            exact hK'.out _ _ _ rfl (Chg.refl _ _) ⟨rfl, HF.out⟩
          case sb13 =>
            obtain ⟨c1, rfl⟩ : ∃ c1, vs = [c1] := by match vs, hm 1 (by kernel_rfl) with | [c1], _ => exact ⟨_, rfl⟩
            have y0 := hd 12 (by decide) (by kernel_rfl)
            replace y0 : x 99 = .pointer (some ⟨kf, 1, none⟩) := y0
            have y1 := hd 9 (by decide) (by kernel_rfl)
            replace y1 : x 97 = .int .i64 M2 := y1
            have hFf := hF.1.frozen
            have hFc := hF.1.cell
            have hFl := hF.1.lt
            have hF2 := hF.1.set 1 (.int .i64 M2)
            have hC2 := hF.2.setCell (p := ⟨kf, 1, none⟩) (fun _ => rfl) (.int .i64 M2)
            clear hd hm hb
            go_simp
            exact hK'.out _ _ undef (by simp only [y0, y1]; rfl) ((Chg.refl _ _).setCell (fun _ => hkl2) _) ⟨hF2, hC2⟩
        case finb =>
          intro x vs u hl hF hq
          clear hq
          obtain ⟨d1, d2, rfl⟩ : ∃ d1 d2, vs = [d1, d2] := by match vs, hl with | [_, _], _ => exact ⟨_, _, rfl⟩
          have KF7 : Blk u kf #[.int .i64 M1, .int .i64 M2] 59 := hF.1
          have hCk := hF.2
          clear hF hl d1 d2 KF6
          have KS7 := KS6.chg hCk hSkf
          have KR7 := Rows3.chg KR6 hCk (fun i hi => by omega)
          have HC7 := Lib.hid (HC6.out.trans hCk (fun i hi h => by omega))
          have HK7 := Lib.hid (show LkAt u S B b v0 (baseF FObj.low 0 l (k + 1)) (baseF FObj.high 0 l (k + 1)) (some ⟨bo, o, none⟩) n cap (basesF codeLen 4 l (k + 1)) (basesF FObj.low 0 l (k + 1)) (basesF FObj.high 0 l (k + 1)) from ⟨x1, x2, x3, by rw [HBL.out, HBH.out, HL2.out, HH2.out]; exact KS7, by rw [HSC.out, HSL.out, HSH.out]; exact KR7⟩)
          have KF8 : Blk u w.heap.size #[.int .i64 (mostF FObj.lowF l (k + 1)), .int .i64 (mostF FObj.highF l (k + 1))] 59 := by rw [HML.out, HMH.out, ← HM1.out, ← HM2.out, hkf]; exact KF7
          rw [← hBB, ← hkf] at HK7
          clear KS6 KR6 HC6 KO6 hCk KS7 KR7 KF7
          go_wp2_with fail
          subst hkf
          go_roundw
          case rel => exact ⟨k + 1, by omega, by go_num, by rw [HBC.out]; rfl, HC7.out, KF8, HK7⟩
          case measure => simp [intOf]; omega
    · obtain rfl : k = n := by omega
      obtain ⟨vc, vl, vh, hSB0, hR0⟩ := HK.out.ex
      have hM2 := numMap_chg HM.out hC hbS
      have hEW : Ext W wr := HE0.out.trans hC (fun i hi e => by omega)
      have hLb := baseF_le FObj.low 0 1000000 (fun x hx => ⟨(HNUM.out x hx).2.1, (HNUM.out x hx).2.2.1⟩) k (by rw [HN.out]; exact Nat.le_refl _)
      have hHb := baseF_le FObj.high 0 1000000 (fun x hx => ⟨(HNUM.out x hx).2.2.2.1, (HNUM.out x hx).2.2.2.2.1⟩) k (by rw [HN.out]; exact Nat.le_refl _)
      have hMLb := mostF_le FObj.lowF 1000000 (by decide) (fun x hx => (HNUM.out x hx).2.2.2.2.2.2.1) k (by rw [HN.out]; exact Nat.le_refl _)
      have hMHb := mostF_le FObj.highF 1000000 (by decide) (fun x hx => (HNUM.out x hx).2.2.2.2.2.2.2.2) k (by rw [HN.out]; exact Nat.le_refl _)
      obtain ⟨G, hG⟩ : ∃ G, modF (modsF l) ⟨#[109, 97, 105, 110]⟩ = G := ⟨_, rfl⟩
      have hlk := (hM2.look (face.zeroInt wr) (s := ⟨#[109, 97, 105, 110]⟩) (by decide)).1
      rw [hG] at hlk
      have HG := Lib.hid hG
      have hxc := hSB0.cell
      have hxf := hSB0.frozen
      have hxl2 := hSB0.lt
      cases G with
      | none =>
        clear hG hM2 hR0 HK hEW HM hlt hk
        have HCr := Lib.hid hC
        simp only [Option.getD_none, Option.isSome_none] at hlk
        have HMN := Lib.hid (show mainF l = none by unfold mainF mainN; rw [HG.out])
        go_wp2_with fail
        refine (must_false _ _ _ _).mono ?_
        rintro e w3 ⟨rfl, rfl⟩
        go_wp2_with fail
        exact ⟨rfl, lays_no HMN.out HCr.out⟩
      | some g =>
        obtain ⟨hg, hgn⟩ := modF_some hG
        have hgl : g < l.length := by simpa [modsF] using hg
        have hgk : g < k := by rw [← HN.out]; exact hgl
        simp only [Option.getD_some, Option.isSome_some] at hlk
        have HMAIN := Lib.hid (show mainF l = (match findF l[g].procs mainN with | none => none | some a => if l[g].face.procs.any mainPB then some (g, a) else none) by
          unfold mainF; rw [show modF (modsF l) mainN = some g from HG.out]; simp only [List.getElem?_eq_getElem hgl, Option.getD_some])
        obtain ⟨bz, oz, rfl, hbz, hcz⟩ := HL.out g hgl
        obtain ⟨fa, am, fc, cm, ia, ic, ca, cc', ra, rc, pa, pc, la, lc, ha, hcp, h0, h1, h2, h3, h4, h5, h6, h7, h8, h9, h10, h11, h12, HO⟩ := ObjIn.ext hEW hbz hcz
        have hbz2 := Nat.lt_of_lt_of_le hbz hEW.size
        have HROWS := Lib.hid HO.rows
        have HPS := Lib.hid (HPSA.out _ (List.getElem_mem hgl))
        have HSM := Lib.hid (HSMA.out _ (List.getElem_mem hgl))
        have hCk := basesF_at codeLen 4 l hgk
        have hCg := baseF_le codeLen 4 1048576 (fun x hx => ⟨by unfold codeLen; omega, by unfold codeLen; have := (HNUM.out x hx).1; omega⟩) g (by omega)
        clear hG HO hcz hM2 HK hEW HM hlt hk
        generalize l[g] = z at *
        obtain ⟨xf, xi, xc, xr, op, ol, oh, lo, hi, lf, hf⟩ := z
        obtain ⟨xn, xv, xp⟩ := xf
        simp only at h0 h1 h2 h3 h4 h5 h6 h7 h8 h9 h10 h11 h12 HMAIN HROWS HPS HSM
        have hln : op.length ≤ 9223372036854775807 := by have := HPS.out.1.1; omega
        have hxp : xp.length ≤ 1048576 := by have := HSM.out.faces _ (List.mem_cons_self ..); simp only at this; omega
        go_wp2_with fail
        have hKO := Blk.made wr #[.string xn, .slice fa xv.length am, .slice fc xp.length cm, .slice ia xi.length ic, .slice ca xc.length cc', .slice ra xr.length rc, .slice pa op.length pc, .slice la ol.length lc, .slice ha oh.length hcp, .int .i64 lo, .int .i64 hi, .int .i64 lf, .int .i64 hf] 39
        have hE1 := (Chg.refl (fun _ => False) wr).alloc (.cells #[.string xn, .slice fa xv.length am, .slice fc xp.length cm, .slice ia xi.length ic, .slice ca xc.length cc', .slice ra xr.length rc, .slice pa op.length pc, .slice la ol.length lc, .slice ha oh.length hcp, .int .i64 lo, .int .i64 hi, .int .i64 lf, .int .i64 hf] 39)
        refine (find_any pa op _ pc ⟨#[109, 97, 105, 110]⟩ _ rfl (obj.plc_all HROWS.out.2.2.2.2.1 hE1) hln).mono ?_
        rintro e w6 ⟨rfl, hE6⟩
        have hKO6 := hKO.ext hE6
        have hOc := hKO6.cell
        have HE6 := Lib.hid (hE1.ext hE6)
        have HPI := Lib.hid (allIn_of HROWS.out.1 HE6.out)
        have hfl := found_le HPS.out.1 ⟨#[109, 97, 105, 110]⟩
        clear hKO hE1 hE6 h0 h1 h2 h3 h4 h5 h6 h7 h8 h9 h10 h11 h12 hlk hxc hxf
        obtain ⟨F, hF⟩ : ∃ F, findF op ⟨#[109, 97, 105, 110]⟩ = F := ⟨_, rfl⟩
        rw [hF] at hfl ⊢
        have HF := Lib.hid hF
        obtain ⟨D, hD⟩ : ∃ D, F.getD 0 = D := ⟨_, rfl⟩
        obtain ⟨IS, hIS⟩ : ∃ D, F.isSome = D := ⟨_, rfl⟩
        rw [hD] at hfl
        rw [hD, hIS]
        have HD := Lib.hid hD
        have HIS := Lib.hid hIS
        obtain ⟨m, hm'⟩ : ∃ m, xp.length = m := ⟨_, rfl⟩
        have HMM := Lib.hid hm'
        rw [hm'] at hxp hOc
        obtain ⟨R, hRR⟩ : ∃ R, xp.any mainPB = R := ⟨_, rfl⟩
        have HRR := Lib.hid hRR
        clear hF hD hIS hm' hRR
        go_wp2_with fail
        go_loopw [10, 127] (fun bg i wr => ∃ (q : Nat) (Bv : Bool), q ≤ m ∧ i = .int .i64 q ∧ bg = .bool Bv ∧ Ext w6 wr ∧ Hid ((Bv || (xp.drop q).any mainPB) = R)) (fun _ i _ => m - (intOf i).toNat)
        case atStart => exact ⟨0, false, Nat.zero_le _, rfl, rfl, Chg.refl _ _, HRR.out⟩
        case round =>
          obtain ⟨q, Bv, hq, rfl, rfl, hE7, hr⟩ := hrel
          by_cases hlt : q < m
          · have hqx : q < xp.length := by rw [HMM.out]; exact hlt
            obtain ⟨bp, bo, rfl, hbp, hcp2⟩ := HPI.out q hqx
            obtain ⟨p0, p1, ⟨pa2, pc2, p2, -⟩, p3, p4, p5, hpn⟩ := ProcIn.ext hE7 hbp hcp2
            have hbp2 := Nat.lt_of_lt_of_le hbp hE7.size
            have HT := Lib.hid (main_drop hqx hr.out)
            clear hr hcp2 hOc
            generalize xp[q] = p at *
            obtain ⟨pn, pp, ps, pw, pg, pv⟩ := p
            simp only at p0 p1 p2 p3 p4 p5 hpn
            cases Bv
            · go_wp2_with fail
              all_goals
                go_roundw
                case rel => exact ⟨q + 1, mainPB ⟨pn, pp, ps, pw, pg, pv⟩, by omega, by go_num, by first | exact mp1 (by assumption) | exact mp2 (by assumption) | exact mp3 (by assumption) | exact mp4 (by assumption) (by assumption) (by assumption), hE7.alloc _, by have := HT.out; simpa [Hid] using this⟩
                case measure => simp [intOf]; omega
            · go_wp2_with fail
              go_roundw
              case rel => exact ⟨q + 1, true, by omega, by go_num, rfl, hE7.alloc _, by have := HT.out; simpa [Hid] using this⟩
              case measure => simp [intOf]; omega
          · obtain rfl : q = m := by omega
            obtain rfl : Bv = R := by have := hr.out; rwa [List.drop_of_length_le (by rw [HMM.out]; exact Nat.le_refl _), List.any_nil, Bool.or_false] at this
            have HCr := Lib.hid (hC.ext (HE6.out.ext hE7))
            cases IS
            · have HMN := Lib.hid (show mainF l = none by
                have e : findF op mainN = none := by have h1 := HF.out; have h2 := HIS.out; rw [Option.isSome_eq_false_iff, Option.isNone_iff_eq_none] at h2; rw [h2] at h1; exact h1
                rw [HMAIN.out, e])
              clear hr hOc
              go_wp2_with fail
              refine (must_false _ _ _ _).mono ?_
              rintro e w3 ⟨rfl, rfl⟩
              go_wp2_with fail
              exact ⟨rfl, lays_no HMN.out HCr.out⟩
            · cases Bv
              · have HMN := Lib.hid (show mainF l = none by
                  rw [HMAIN.out, HRR.out]; split <;> rfl)
                clear hr hOc
                go_wp2_with fail
                refine (must_false _ _ _ _).mono ?_
                rintro e w3 ⟨rfl, rfl⟩
                go_wp2_with fail
                exact ⟨rfl, lays_no HMN.out HCr.out⟩
              · have HMY := Lib.hid (show mainF l = some (g, D) by
                  have e : findF op mainN = some D := by
                    have h1 := HF.out; have h2 := HIS.out; have h3 := HD.out
                    cases F with
                    | none => cases h2
                    | some d => simp only [Option.getD_some] at h3; subst h3; exact h1
                  rw [HMAIN.out, e, HRR.out]; rfl)
                have hE8 := HE6.out.ext hE7
                have KS8 := hSB0.ext hE8
                have KF8 := hF.ext hE8
                have KR8 := Rows3.chg hR0 hE8 (fun i h => h.elim)
                clear hr hOc hE7 hE8 HIS HF HD
                go_wp2_with fail
                refine (must_true _ _ _ _).mono ?_
                rintro e w3 ⟨rfl, rfl⟩
                go_wp2_with fail
                have hkB : ∀ q, vc.ownBlock = some q → q ≠ S := fun q e => by have := (hR0.c.lt q e).1; omega
                have hkl : (basesF codeLen 4 l k).length = k := by simp [basesF]
                have hbk := basesF_ok codeLen 4 1048576 (by decide) (by decide) (by decide) (fun x hx => ⟨by unfold codeLen; omega, by unfold codeLen; have := (HNUM.out x hx).1; omega⟩) (k := k) (by rw [HN.out]; exact Nat.le_refl _) (by omega)
                obtain ⟨q1, q2, eq1, hq1, -⟩ := World.ownsRow.form (show wr.ownsRow _ _ _ _ _ _ from KR8.c) (by omega)
                rw [hkl] at eq1
                subst eq1
                have hq1S := hkB q1 rfl
                obtain ⟨zb, zo, zx, ez, -, hzc, hzx, hz1, hz2⟩ := base_at hbk (IntRow.all KR8.c) hgk
                obtain ⟨rfl, rfl⟩ : q1 = zb ∧ 0 = zo := by simpa using ez
                rw [hCk] at hzx
                obtain rfl : baseF codeLen 4 l g = zx := hzx
                rw [Nat.zero_add] at hzc
                obtain ⟨E, hE⟩ : ∃ q, baseF codeLen 4 l g + D = q := ⟨_, rfl⟩
                have hwE : IntKind.i64.wrap (baseF codeLen 4 l g + D) = E := by rw [← hE]; exact IntWalk.i64_in _ (by omega)
                have HE := Lib.hid hE
                have KSl := KS8.lt
                have hq1l : q1 < wr.heap.size := by have := (KR8.c.lt q1 rfl).2; exact this
                clear hE ez
                obtain ⟨L, hL⟩ : ∃ q, baseF FObj.low 0 l k = q := ⟨_, rfl⟩
                obtain ⟨H, hH⟩ : ∃ q, baseF FObj.high 0 l k = q := ⟨_, rfl⟩
                rw [hL] at KS8 hLb
                rw [hH] at KS8 hHb
                have HL9 := Lib.hid hL
                have HH9 := Lib.hid hH
                obtain ⟨CG, hCG⟩ : ∃ q, baseF codeLen 4 l g = q := ⟨_, rfl⟩
                rw [hCG] at hzc hwE HE hCg
                have HCG := Lib.hid hCG
                clear hL hH hCG
                refine wp_region_weave [24, 28] (fun i => (([.val (.pointer (some ⟨S, 0, none⟩)), .val (.pointer (some ⟨S, 0, none⟩)), .val (.pointer (some ⟨S, 0, none⟩)), .val (.pointer (some ⟨S, 0, none⟩)), .val (.pointer (some ⟨S, 1, none⟩)), .val (.int .i64 L), .val (.agg #[.int .i64 1, .int .i64 6, .int .i64 0, .int .i64 0, .int .i64 L]), .val (.pointer (some ⟨S, 0, none⟩)), .val (.pointer (some ⟨S, 0, none⟩)), .val (.pointer (some ⟨S, 0, none⟩)), .val (.pointer (some ⟨S, 2, none⟩)), .val (.int .i64 H), .val (.agg #[.int .i64 1, .int .i64 7, .int .i64 0, .int .i64 0, .int .i64 H]), .val (.pointer (some ⟨S, 0, none⟩)), .val (.pointer (some ⟨S, 0, none⟩)), .val (.pointer (some ⟨S, 5, none⟩)), .val (.slice (some ⟨q1, 0, none⟩) k q2), .val (.int .i64 (g : Nat)), .val (.pointer (some ⟨q1, g, none⟩)), .val (.int .i64 CG), .val (.int .i64 D), .val (.int .i64 E), .val (.agg #[.int .i64 11, .int .i64 0, .int .i64 0, .int .i64 0, .int .i64 E]), .val (.agg #[.int .i64 17, .int .i64 0, .int .i64 0, .int .i64 0, .int .i64 0]), .any, .val (.pointer (some ⟨S, 0, none⟩)), .val (.pointer (some ⟨S, 0, none⟩)), .val (.pointer (some ⟨S, 0, none⟩)), .any] : List Cm).getD i .any).holds wr.heap.size) (fun vs u => Chg (fun i => i = S) wr u ∧ (∃ x0, Blk u S #[x0, .int .i64 L, .int .i64 H, .slice (some ⟨bz, oz, none⟩) k cap, .map (some b), .slice (some ⟨q1, 0, none⟩) k q2, vl, vh] 51 ∧ (vs.length = 2 → x0 = vs.getD 0 undef)) ∧ (0 < vs.length → ∃ gi, vs.getD 0 undef = .slice (some ⟨gi, 0, none⟩) 4 4 ∧ wr.heap.size ≤ gi ∧ Blk u gi #[.int .i64 1, .int .i64 6, .int .i64 0, .int .i64 0, .int .i64 L, .int .i64 1, .int .i64 7, .int .i64 0, .int .i64 0, .int .i64 H, .int .i64 11, .int .i64 0, .int .i64 0, .int .i64 0, .int .i64 E, .int .i64 17, .int .i64 0, .int .i64 0, .int .i64 0, .int .i64 0] 64)) (Chg (fun i => i < wr.heap.size)) (frame := ?frac) (fun x => ?hfac) mixed (by kernel_rfl) (by kernel_rfl) (fun i v u u' h hG => Cm.stab _ _ _ _ _ h hG) ?h0c ?stc ?finc
                case hfac =>
                  simp only [chain.frameOf, chain.fill, chain.setOpt, chain.dstOf, List.size_toArray, List.length_cons, List.length_nil, List.getElem?_toArray, List.getElem?_cons_succ, List.getElem?_cons_zero, List.setIfInBounds_toArray, List.set_cons_succ, List.set_cons_zero]
                  exact rfl
                case h0c => exact ⟨(Chg.refl _ _).drew, ⟨v0, KS8.drew, fun h => by simp at h⟩, fun h => by simp at h⟩
                case stc =>
                  refine AllFrom.cons (fun x vs u hF hm hb hd K' hK' => ?sc0) (AllFrom.cons (fun x vs u hF hm hb hd K' hK' => ?sc1) (AllFrom.cons (fun x vs u hF hm hb hd K' hK' => ?sc2) (AllFrom.cons (fun x vs u hF hm hb hd K' hK' => ?sc3) (AllFrom.cons (fun x vs u hF hm hb hd K' hK' => ?sc4) (AllFrom.cons (fun x vs u hF hm hb hd K' hK' => ?sc5) (AllFrom.cons (fun x vs u hF hm hb hd K' hK' => ?sc6) (AllFrom.cons (fun x vs u hF hm hb hd K' hK' => ?sc7) (AllFrom.cons (fun x vs u hF hm hb hd K' hK' => ?sc8) (AllFrom.cons (fun x vs u hF hm hb hd K' hK' => ?sc9) (AllFrom.cons (fun x vs u hF hm hb hd K' hK' => ?sc10) (AllFrom.cons (fun x vs u hF hm hb hd K' hK' => ?sc11) (AllFrom.cons (fun x vs u hF hm hb hd K' hK' => ?sc12) (AllFrom.cons (fun x vs u hF hm hb hd K' hK' => ?sc13) (AllFrom.cons (fun x vs u hF hm hb hd K' hK' => ?sc14) (AllFrom.cons (fun x vs u hF hm hb hd K' hK' => ?sc15) (AllFrom.cons (fun x vs u hF hm hb hd K' hK' => ?sc16) (AllFrom.cons (fun x vs u hF hm hb hd K' hK' => ?sc17) (AllFrom.cons (fun x vs u hF hm hb hd K' hK' => ?sc18) (AllFrom.cons (fun x vs u hF hm hb hd K' hK' => ?sc19) (AllFrom.cons (fun x vs u hF hm hb hd K' hK' => ?sc20) (AllFrom.cons (fun x vs u hF hm hb hd K' hK' => ?sc21) (AllFrom.cons (fun x vs u hF hm hb hd K' hK' => ?sc22) (AllFrom.cons (fun x vs u hF hm hb hd K' hK' => ?sc23) (AllFrom.cons (fun x vs u hF hm hb hd K' hK' => ?sc24) (AllFrom.cons (fun x vs u hF hm hb hd K' hK' => ?sc25) (AllFrom.cons (fun x vs u hF hm hb hd K' hK' => ?sc26) (AllFrom.cons (fun x vs u hF hm hb hd K' hK' => ?sc27) (AllFrom.cons (fun x vs u hF hm hb hd K' hK' => ?sc28) (AllFrom.nil)))))))))))))))))))))))))))))
                  case sc0 =>
                    have HF := Lib.hid hF
                    clear hd hm hb hF
                    go_simp
                    exact hK'.out _ _ _ rfl (Chg.refl _ _) ⟨rfl, HF.out⟩
                  case sc1 =>
                    have HF := Lib.hid hF
                    clear hd hm hb hF
                    go_simp
                    exact hK'.out _ _ _ rfl (Chg.refl _ _) ⟨rfl, HF.out⟩
                  case sc2 =>
                    have y0 := hd 1 (by decide) (by kernel_rfl)
                    replace y0 : x 161 = .pointer (some ⟨S, 0, none⟩) := y0
                    have HF := Lib.hid hF
                    clear hd hm hb hF
                    go_simp
                    exact hK'.out _ _ _ (by simp only [y0]; rfl) (Chg.refl _ _) ⟨rfl, HF.out⟩
                  case sc3 =>
                    have y0 := hd 2 (by decide) (by kernel_rfl)
                    replace y0 : x 162 = .pointer (some ⟨S, 0, none⟩) := y0
                    have HF := Lib.hid hF
                    clear hd hm hb hF
                    go_simp
                    exact hK'.out _ _ _ (by simp only [y0]; rfl) (Chg.refl _ _) ⟨rfl, HF.out⟩
                  case sc4 =>
                    have y0 := hd 3 (by decide) (by kernel_rfl)
                    replace y0 : x 163 = .pointer (some ⟨S, 0, none⟩) := y0
                    have HF := Lib.hid hF
                    clear hd hm hb hF
                    go_simp
                    exact hK'.out _ _ _ (by simp only [y0]; rfl) (Chg.refl _ _) ⟨rfl, HF.out⟩
                  case sc5 =>
                    have y0 := hd 4 (by decide) (by kernel_rfl)
                    replace y0 : x 164 = .pointer (some ⟨S, 1, none⟩) := y0
                    obtain ⟨x0, hb0, -⟩ := hF.2.1
                    have hSc := hb0.cell
                    have HF := Lib.hid hF
                    clear hd hm hb hF
                    go_simp
                    exact hK'.out _ _ _ (by simp only [y0]; rfl) (Chg.refl _ _) ⟨rfl, HF.out⟩
                  case sc6 =>
                    have y0 := hd 5 (by decide) (by kernel_rfl)
                    replace y0 : x 165 = .int .i64 L := y0
                    have HF := Lib.hid hF
                    clear hd hm hb hF
                    go_simp
                    exact hK'.out _ _ _ (by simp only [y0]; rfl) (Chg.refl _ _) ⟨rfl, HF.out⟩
                  case sc7 =>
                    have HF := Lib.hid hF
                    clear hd hm hb hF
                    go_simp
                    exact hK'.out _ _ _ rfl (Chg.refl _ _) ⟨rfl, HF.out⟩
                  case sc8 =>
                    have y0 := hd 7 (by decide) (by kernel_rfl)
                    replace y0 : x 167 = .pointer (some ⟨S, 0, none⟩) := y0
                    have HF := Lib.hid hF
                    clear hd hm hb hF
                    go_simp
                    exact hK'.out _ _ _ (by simp only [y0]; rfl) (Chg.refl _ _) ⟨rfl, HF.out⟩
                  case sc9 =>
                    have y0 := hd 8 (by decide) (by kernel_rfl)
                    replace y0 : x 168 = .pointer (some ⟨S, 0, none⟩) := y0
                    have HF := Lib.hid hF
                    clear hd hm hb hF
                    go_simp
                    exact hK'.out _ _ _ (by simp only [y0]; rfl) (Chg.refl _ _) ⟨rfl, HF.out⟩
                  case sc10 =>
                    have y0 := hd 9 (by decide) (by kernel_rfl)
                    replace y0 : x 169 = .pointer (some ⟨S, 0, none⟩) := y0
                    have HF := Lib.hid hF
                    clear hd hm hb hF
                    go_simp
                    exact hK'.out _ _ _ (by simp only [y0]; rfl) (Chg.refl _ _) ⟨rfl, HF.out⟩
                  case sc11 =>
                    have y0 := hd 10 (by decide) (by kernel_rfl)
                    replace y0 : x 170 = .pointer (some ⟨S, 2, none⟩) := y0
                    obtain ⟨x0, hb0, -⟩ := hF.2.1
                    have hSc := hb0.cell
                    have HF := Lib.hid hF
                    clear hd hm hb hF
                    go_simp
                    exact hK'.out _ _ _ (by simp only [y0]; rfl) (Chg.refl _ _) ⟨rfl, HF.out⟩
                  case sc12 =>
                    have y0 := hd 11 (by decide) (by kernel_rfl)
                    replace y0 : x 171 = .int .i64 H := y0
                    have HF := Lib.hid hF
                    clear hd hm hb hF
                    go_simp
                    exact hK'.out _ _ _ (by simp only [y0]; rfl) (Chg.refl _ _) ⟨rfl, HF.out⟩
                  case sc13 =>
                    have HF := Lib.hid hF
                    clear hd hm hb hF
                    go_simp
                    exact hK'.out _ _ _ rfl (Chg.refl _ _) ⟨rfl, HF.out⟩
                  case sc14 =>
                    have y0 := hd 13 (by decide) (by kernel_rfl)
                    replace y0 : x 173 = .pointer (some ⟨S, 0, none⟩) := y0
                    have HF := Lib.hid hF
                    clear hd hm hb hF
                    go_simp
                    exact hK'.out _ _ _ (by simp only [y0]; rfl) (Chg.refl _ _) ⟨rfl, HF.out⟩
                  case sc15 =>
                    have y0 := hd 14 (by decide) (by kernel_rfl)
                    replace y0 : x 174 = .pointer (some ⟨S, 0, none⟩) := y0
                    have HF := Lib.hid hF
                    clear hd hm hb hF
                    go_simp
                    exact hK'.out _ _ _ (by simp only [y0]; rfl) (Chg.refl _ _) ⟨rfl, HF.out⟩
                  case sc16 =>
                    have y0 := hd 15 (by decide) (by kernel_rfl)
                    replace y0 : x 175 = .pointer (some ⟨S, 5, none⟩) := y0
                    obtain ⟨x0, hb0, -⟩ := hF.2.1
                    have hSc := hb0.cell
                    have HF := Lib.hid hF
                    clear hd hm hb hF
                    go_simp
                    exact hK'.out _ _ _ (by simp only [y0]; rfl) (Chg.refl _ _) ⟨rfl, HF.out⟩
                  case sc17 =>
                    have HF := Lib.hid hF
                    clear hd hm hb hF
                    go_simp
                    exact hK'.out _ _ _ rfl (Chg.refl _ _) ⟨rfl, HF.out⟩
                  case sc18 =>
                    have y0 := hd 16 (by decide) (by kernel_rfl)
                    replace y0 : x 176 = .slice (some ⟨q1, 0, none⟩) k q2 := y0
                    have y1 := hd 17 (by decide) (by kernel_rfl)
                    replace y1 : x 177 = .int .i64 (g : Nat) := y1
                    have HF := Lib.hid hF
                    clear hd hm hb hF
                    go_simp
                    exact hK'.out _ _ _ (by simp only [y0, y1]; rfl) (Chg.refl _ _) ⟨rfl, HF.out⟩
                  case sc19 =>
                    have y0 := hd 18 (by decide) (by kernel_rfl)
                    replace y0 : x 178 = .pointer (some ⟨q1, g, none⟩) := y0
                    have hqc := (hF.1.cell (p := ⟨q1, g, none⟩) hq1l hq1S).trans hzc
                    have HF := Lib.hid hF
                    clear hd hm hb hF
                    go_simp
                    exact hK'.out _ _ _ (by simp only [y0]; rfl) (Chg.refl _ _) ⟨rfl, HF.out⟩
                  case sc20 =>
                    have HF := Lib.hid hF
                    clear hd hm hb hF
                    go_simp
                    exact hK'.out _ _ _ rfl (Chg.refl _ _) ⟨rfl, HF.out⟩
                  case sc21 =>
                    have y0 := hd 19 (by decide) (by kernel_rfl)
                    replace y0 : x 179 = .int .i64 CG := y0
                    have y1 := hd 20 (by decide) (by kernel_rfl)
                    replace y1 : x 180 = .int .i64 D := y1
                    have hwE := hwE
                    have HF := Lib.hid hF
                    clear hd hm hb hF
                    go_simp
                    exact hK'.out _ _ _ (by simp only [y0, y1]; rfl) (Chg.refl _ _) ⟨rfl, HF.out⟩
                  case sc22 =>
                    have y0 := hd 21 (by decide) (by kernel_rfl)
                    replace y0 : x 181 = .int .i64 E := y0
                    have HF := Lib.hid hF
                    clear hd hm hb hF
                    go_simp
                    exact hK'.out _ _ _ (by simp only [y0]; rfl) (Chg.refl _ _) ⟨rfl, HF.out⟩
                  case sc23 =>
                    have HF := Lib.hid hF
                    clear hd hm hb hF
                    go_simp
                    exact hK'.out _ _ _ rfl (Chg.refl _ _) ⟨rfl, HF.out⟩
                  case sc24 =>
                    obtain rfl := List.eq_nil_of_length_eq_zero (hm 0 (by kernel_rfl))
                    have y0 := hd 6 (by decide) (by kernel_rfl)
                    replace y0 : x 166 = .agg #[.int .i64 1, .int .i64 6, .int .i64 0, .int .i64 0, .int .i64 L] := y0
                    have y1 := hd 12 (by decide) (by kernel_rfl)
                    replace y1 : x 172 = .agg #[.int .i64 1, .int .i64 7, .int .i64 0, .int .i64 0, .int .i64 H] := y1
                    have y2 := hd 22 (by decide) (by kernel_rfl)
                    replace y2 : x 182 = .agg #[.int .i64 11, .int .i64 0, .int .i64 0, .int .i64 0, .int .i64 E] := y2
                    have y3 := hd 23 (by decide) (by kernel_rfl)
                    replace y3 : x 183 = .agg #[.int .i64 17, .int .i64 0, .int .i64 0, .int .i64 0, .int .i64 0] := y3
                    have hF2 := hF
                    have hsz := hF.1.size
                    clear hd hm hb hF
                    go_simp
                    exact hK'.out _ _ (.slice (some ⟨u.heap.size, 0, none⟩) 4 4) (by simp only [y0, y1, y2, y3]; rfl) ((Chg.refl _ _).alloc _) ⟨hF2.1.alloc _, (by obtain ⟨x0, h1, -⟩ := hF2.2.1; exact ⟨x0, h1.alloc _, fun h => by simp at h⟩), fun _ => ⟨u.heap.size, rfl, hsz, by first | exact Blk.made _ _ _ | (simp only [y0, y1, y2, y3]; exact Blk.made _ _ _)⟩⟩
                  case sc25 =>
                    have y0 := hd 0 (by decide) (by kernel_rfl)
                    replace y0 : x 160 = .pointer (some ⟨S, 0, none⟩) := y0
                    have HF := Lib.hid hF
                    clear hd hm hb hF
                    go_simp
                    exact hK'.out _ _ _ (by simp only [y0]; rfl) (Chg.refl _ _) ⟨rfl, HF.out⟩
                  case sc26 =>
                    have y0 := hd 25 (by decide) (by kernel_rfl)
                    replace y0 : x 185 = .pointer (some ⟨S, 0, none⟩) := y0
                    have HF := Lib.hid hF
                    clear hd hm hb hF
                    go_simp
                    exact hK'.out _ _ _ (by simp only [y0]; rfl) (Chg.refl _ _) ⟨rfl, HF.out⟩
                  case sc27 =>
                    have y0 := hd 26 (by decide) (by kernel_rfl)
                    replace y0 : x 186 = .pointer (some ⟨S, 0, none⟩) := y0
                    have HF := Lib.hid hF
                    clear hd hm hb hF
                    go_simp
                    exact hK'.out _ _ _ (by simp only [y0]; rfl) (Chg.refl _ _) ⟨rfl, HF.out⟩
                  case sc28 =>
                    obtain ⟨c1, rfl⟩ : ∃ c1, vs = [c1] := by match vs, hm 1 (by kernel_rfl) with | [c1], _ => exact ⟨_, rfl⟩
                    obtain ⟨gi, egi, hgi, hgb⟩ := hF.2.2 (by simp)
                    have egi2 : c1 = .slice (some ⟨gi, 0, none⟩) 4 4 := egi
                    subst egi2
                    have y0 := hd 27 (by decide) (by kernel_rfl)
                    replace y0 : x 187 = .pointer (some ⟨S, 0, none⟩) := y0
                    have y1 := hd 24 (by decide) (by kernel_rfl) 184 (by kernel_rfl)
                    replace y1 : x 184 = .slice (some ⟨gi, 0, none⟩) 4 4 := y1
                    obtain ⟨x0, hb0, -⟩ := hF.2.1
                    have hSf := hb0.frozen
                    have hSc := hb0.cell
                    have hSl := hb0.lt
                    have hb1 : Blk (u.setCell ⟨S, 0, none⟩ (.slice (some ⟨gi, 0, none⟩) 4 4)) S #[.slice (some ⟨gi, 0, none⟩) 4 4, .int .i64 L, .int .i64 H, .slice (some ⟨bz, oz, none⟩) k cap, .map (some b), .slice (some ⟨q1, 0, none⟩) k q2, vl, vh] 51 := hb0.set 0 _
                    have hC2 := hF.1.setCell (p := ⟨S, 0, none⟩) (fun _ => rfl) (.slice (some ⟨gi, 0, none⟩) 4 4)
                    have hgb2 := hgb.setOther (p := ⟨S, 0, none⟩) (by show gi ≠ S; omega) (.slice (some ⟨gi, 0, none⟩) 4 4)
                    clear hd hm hb
                    go_simp
                    exact hK'.out _ _ undef (by simp only [y0, y1]; rfl) ((Chg.refl _ _).setCell (fun _ => KSl) _) ⟨hC2, ⟨_, hb1, fun _ => rfl⟩, fun _ => ⟨gi, rfl, hgi, hgb2⟩⟩
                case finc =>
                  intro x vs u hl hF hq
                  clear hq
                  obtain ⟨c1, c2, rfl⟩ : ∃ c1 c2, vs = [c1, c2] := by match vs, hl with | [_, _], _ => exact ⟨_, _, rfl⟩
                  obtain ⟨gi, egi, hgi, hgb⟩ := hF.2.2 (by simp)
                  obtain ⟨x0, KS9, ex0⟩ := hF.2.1
                  have ex1 : x0 = .slice (some ⟨gi, 0, none⟩) 4 4 := (ex0 rfl).trans egi
                  subst ex1
                  have hC9 := hF.1
                  have hSgi : S ≠ gi := by omega
                  clear hF hl egi ex0 c1 c2
                  have KF9 := KF8.chg hC9 (by omega)
                  have KR9 := Rows3.chg KR8 hC9 (fun i hi => by omega)
                  have HC9 := Lib.hid (HCr.out.then hC9)
                  have hgB : w.heap.size + 1 ≤ gi := by have := HCr.out.size; have := (KR8.c.lt q1 rfl); omega
                  have hga : ∀ q, (Value.slice (some ⟨gi, 0, none⟩) 4 4).ownBlock = some q → (Value.slice (some ⟨q1, 0, none⟩) k q2).ownBlock ≠ some q ∧ vl.ownBlock ≠ some q ∧ vh.ownBlock ≠ some q := fun q e => by
                    obtain rfl : gi = q := by simpa [Value.ownBlock] using e
                    exact ⟨fun e2 => by have := (KR8.c.lt _ e2).2; omega, fun e2 => by have := (KR8.l.lt _ e2).2; omega, fun e2 => by have := (KR8.h.lt _ e2).2; omega⟩
                  have HGA := Lib.hid hga
                  clear KF8 KR8 KS8 HCr hC9 hzc hwE hga
                  obtain ⟨ML, hML⟩ : ∃ q, mostF FObj.lowF l k = q := ⟨_, rfl⟩
                  obtain ⟨MH, hMH⟩ : ∃ q, mostF FObj.highF l k = q := ⟨_, rfl⟩
                  rw [hML] at hMLb KF9
                  rw [hMH] at hMHb KF9
                  have HML := Lib.hid hML
                  have HMH := Lib.hid hMH
                  obtain ⟨M1, hM1⟩ : ∃ q, 31 * ML = q := ⟨_, rfl⟩
                  obtain ⟨M2, hM2⟩ : ∃ q, 31 * MH = q := ⟨_, rfl⟩
                  obtain ⟨L2, hL2⟩ : ∃ q, L + M1 = q := ⟨_, rfl⟩
                  obtain ⟨H2, hH2⟩ : ∃ q, H + M2 = q := ⟨_, rfl⟩
                  have hw1 : IntKind.i64.wrap (31 * ML) = M1 := by rw [← hM1]; exact IntWalk.i64_in _ (by omega)
                  have HW2 := Lib.hid (show IntKind.i64.wrap (31 * MH) = M2 by rw [← hM2]; exact IntWalk.i64_in _ (by omega))
                  have hw3 : IntKind.i64.wrap (L + M1) = L2 := by rw [← hL2]; exact IntWalk.i64_in _ (by omega)
                  have HW4 := Lib.hid (show IntKind.i64.wrap (H + M2) = H2 by rw [← hH2]; exact IntWalk.i64_in _ (by omega))
                  have HL2 := Lib.hid (show L2 = baseF FObj.low 0 l k + 31 * mostF FObj.lowF l k by rw [← hL2, ← hM1, HML.out, HL9.out])
                  have HH2 := Lib.hid (show H2 = baseF FObj.high 0 l k + 31 * mostF FObj.highF l k by rw [← hH2, ← hM2, HMH.out, HH9.out])
                  clear hML hMH hM1 hM2 hL2 hH2
                  have hSc := KS9.cell
                  have hSf := KS9.frozen
                  have hFc := KF9.cell
                  go_wp2_with fail
                  go_still_tail 12, (by kernel_rfl)
                  clear hSc hSf hFc hw1 hw3
                  have KS10 := KS9.drew
                  have KF10 := KF9.drew
                  have KR10 := Rows3.chg KR9 (Chg.refl (fun _ => False) u).drew (fun i h => h.elim)
                  have HC10 := Lib.hid HC9.out.drew
                  have KG10 := hgb.drew
                  change wpList _ _ _ _ _ u.drew
                  clear KS9 KF9 KR9 HC9 hgb
                  generalize u.drew = u3 at *
                  have hSf := KS10.frozen
                  have hSc := KS10.cell
                  have KSl2 := KS10.lt
                  go_wp2_with fail
                  clear hSf hSc
                  have hCs := (Chg.refl (fun i => i = S) u3).setCell (p := ⟨S, 1, none⟩) (fun _ => rfl) (.int .i64 L2)
                  have KS11 : Blk (u3.setCell ⟨S, 1, none⟩ (.int .i64 L2)) S #[.slice (some ⟨gi, 0, none⟩) 4 4, .int .i64 L2, .int .i64 H, .slice (some ⟨bz, oz, none⟩) k cap, .map (some b), .slice (some ⟨q1, 0, none⟩) k q2, vl, vh] 51 := KS10.set 1 _
                  have KF11 := KF10.chg hCs (by omega)
                  have KG11 := KG10.chg hCs (by omega)
                  have KR11 := Rows3.chg KR10 hCs (fun i hi => by omega)
                  have HC11 := Lib.hid (HC10.out.then hCs)
                  clear KS10 KF10 KR10 HC10 KG10 hCs KSl2
                  generalize u3.setCell ⟨S, 1, none⟩ (.int .i64 L2) = u4 at *
                  have hSc := KS11.cell
                  have hSf := KS11.frozen
                  have hFc := KF11.cell
                  have hw2 := HW2.out
                  have hw4 := HW4.out
                  go_still_tail 12, (by kernel_rfl)
                  clear hSc hSf hFc hw2 hw4
                  have KS12 := KS11.drew
                  have KR12 := Rows3.chg KR11 (Chg.refl (fun _ => False) u4).drew (fun i h => h.elim)
                  have HC12 := Lib.hid HC11.out.drew
                  have KG12 := KG11.drew
                  change wpList _ _ _ _ _ u4.drew
                  clear KS11 KF11 KR11 HC11 KG11
                  generalize u4.drew = u5_ at *
                  have hSf := KS12.frozen
                  have hSc := KS12.cell
                  have KSl2 := KS12.lt
                  go_wp2_with fail
                  clear hSf hSc
                  have hCs := (Chg.refl (fun i => i = S) u5_).setCell (p := ⟨S, 2, none⟩) (fun _ => rfl) (.int .i64 H2)
                  have KS13 : Blk (u5_.setCell ⟨S, 2, none⟩ (.int .i64 H2)) S #[.slice (some ⟨gi, 0, none⟩) 4 4, .int .i64 L2, .int .i64 H2, .slice (some ⟨bz, oz, none⟩) k cap, .map (some b), .slice (some ⟨q1, 0, none⟩) k q2, vl, vh] 51 := KS12.set 2 _
                  have KG13 := KG12.chg hCs (by omega)
                  have KR13 := Rows3.chg KR12 hCs (fun i hi => by omega)
                  have HC13 := HC12.out.then hCs
                  go_end0
                  refine lays_yes HMY.out HC13 ⟨_, _, _, _, ?_, ?_, KR13, HGA.out⟩
                  · rw [← HL2.out, ← HH2.out]; exact KS13
                  · have e : headF l k (g, D) = [⟨1, 6, 0, 0, L⟩, ⟨1, 7, 0, 0, H⟩, ⟨11, 0, 0, 0, E⟩, ⟨17, 0, 0, 0, 0⟩] := by unfold headF; simp only [HL9.out, HH9.out, HCG.out, HE.out]
                    rw [e]
                    exact ⟨rfl, .inr ⟨gi, 4, _, rfl, hgB, KG13, Nat.le_refl _, by decide, rfl, rfl⟩⟩
end linkw
end Go.Proofs.YtpcihajmcejliabDoor
