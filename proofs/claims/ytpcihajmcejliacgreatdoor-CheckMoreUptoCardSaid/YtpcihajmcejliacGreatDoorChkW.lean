/- The walk of the checker's Look: a text beside faces. -/
import Derived.Test.YtpcihajmcejliacGreatDoorChkR
import Derived.Test.YtpcihajmcejliacGreatDoorFaceEq
import Derived.Test.YtpcihajmcejliacGreatDoorFaceMay
namespace Go.Proofs.YtpcihajmcejliacGreatDoor
open Go.RowKit
namespace chk
open synw ofp
def CLookPost (w : World) (P : Int) (T : Rz (Nd × List (ByteArray × FFace) × List (FProc × Tr))) (e : Ending) (w' : World) : Prop := Ext w w' ∧ match T with
 | .bad c _ => ∃ vp, e = .returned (.tuple #[vp, .agg #[.int .i64 c, .int .i64 P]])
 | .ok r => ∃ Mo D bod fac d0 d1 d2 d3 d4 d5 d6 d7 d8, e = .returned (.tuple #[.pointer (some ⟨Mo, 0, none⟩), .agg #[.int .i64 0, .int .i64 0]]) ∧ Blk w' Mo #[.pointer (some ⟨D, 0, none⟩), bod, fac] 125 ∧ Blk w' D #[d0, d1, d2, d3, d4, d5, d6, d7, d8] 128 ∧ NdAt (hide (below w.heap.size) w') r.1 (.agg #[d3, d4, d5, d6])
theorem decl_few {x : Nd} {p : Nat} (h : (declF x p).1 = 0) (h3 : x.kd ≠ 3) : x.kids.dropLast.length ≤ 5 := by
 unfold declF at h; rw [if_neg h3] at h; by_cases h5 : 5 < x.kids.dropLast.length
 ·rw [if_pos h5] at h; cases h
 ·omega
theorem look_few (m : ByteArray) : ∀ (l : List Nd) (i n : List (List UInt8)) (p : Nat), (lookF m l i n p).1 = 0 → ∀ x ∈ l, x.kd ≠ 2 → x.kd ≠ 3 → x.kids.dropLast.length ≤ 5 := by
 intro l; induction l with
 | nil => intro i n p _ x hx; cases hx
 | cons y r ih =>
  intro i n p h x hx h2 h3; unfold lookF at h; by_cases hy : y.kd = 2
  ·rw [if_pos hy] at h
   repeat' split at h
   all_goals first | (cases h; done) | skip
   rcases List.mem_cons.1 hx with rfl | hx
   ·exact absurd hy h2
   ·exact ih _ _ _ h x hx h2 h3
  ·rw [if_neg hy] at h
   split at h
   ·cases h
   split at h
   ·cases h
   split at h
   ·rename_i hd
    rcases List.mem_cons.1 hx with rfl | hx
    ·exact decl_few hd h3
    ·exact ih _ _ _ h x hx h2 h3
   ·rename_i hd
    exact absurd h hd
def posC (s : ByteArray) (T0 : Option (List (ByteArray × FFace))) : Int := match T0 with
 | none => 0
 | some G => if (ofR s).2.2.1 = 0 then (match modF_ ⟨(parseR s).1.tx, varsF (parseR s).1.kids, procsF (parseR s).1.kids⟩ G (parseR s).1.kids [] (procsF (parseR s).1.kids) [] 1 with
   | .bad _ p => (p : Nat)
   | .ok _ => 0)
  else (ofR s).2.2.2
theorem procs_cons (x : Nd) (r : List Nd) : procsF (x :: r) = if x.kd = 4 then procOf x :: procsF r else procsF r := by
 unfold procsF; rw [List.filter_cons]; by_cases h : x.kd = 4
 ·rw [if_pos h, if_pos (show isProc x = true from by unfold isProc; simpa using h)]; rfl
 ·rw [if_neg h, if_neg (show ¬ isProc x = true from by unfold isProc; simpa using h)]
theorem allin_tail {α : Type} {k : Nat} {In : World → Nat → Nat → α → Prop} {w : World} {b o : Nat} {x : α} {l : List α} (h : AllIn k In w (some ⟨b, o, none⟩) (x :: l)) : AllIn k In w (some ⟨b, o + k, none⟩) l := fun j hj => by
 obtain ⟨b1, o1, e, hb, hi⟩ := h (j + 1) (by simp; omega); cases e
 refine ⟨b, o + k, rfl, hb, ?_⟩
 have e2 : o + k + j * k = o + (j + 1) * k := by rw [Nat.add_mul]; omega
 rw [e2]; exact hi
theorem of_ok {s : ByteArray} (h : (ofR s).2.2.1 = 0) : (parseR s).2.1 = 0 ∧ (lookF (parseR s).1.tx (parseR s).1.kids [] [] 1).1 = 0 ∧ (ofR s).2.2.2 = 0 := by
 unfold ofR at h ⊢; by_cases h1 : (parseR s).2.1 = 0
 ·rw [if_pos h1] at h ⊢
  by_cases h2 : (lookF (parseR s).1.tx (parseR s).1.kids [] [] 1).1 = 0
  ·rw [if_pos h2]; exact ⟨h1, h2, rfl⟩
  ·rw [if_neg h2] at h; exact absurd h h2
 ·rw [if_neg h1] at h; exact absurd h h1
theorem text_ok {s : ByteArray} (h : (ofR s).2.2.1 = 0) : (∀ y ∈ (parseR s).1.kids, IsNd y ∧ (y.kd = 2 ∨ y.kd = 3 ∨ y.kd = 4) ∧ (y.kd = 4 → y.kids.dropLast.length ≤ 5)) ∧ szL (parseR s).1.kids ≤ 499 := by
 obtain ⟨h1, h2, -⟩ := of_ok h; obtain ⟨hi, hk1, -, hz⟩ := parse_is s h1; have hf := look_few _ _ _ _ _ h2; generalize (parseR s).1 = x at *; obtain ⟨k, t, m, l⟩ := x; obtain rfl : k = 1 := hk1; have hfo := hi.form; refine ⟨fun y hy => ⟨hi.kids y hy, ?_, fun h4 => hf y hy (by omega) (by omega)⟩, by simp only [szF] at hz; show szL l ≤ 499; omega⟩
 cases hfo with
 | module ht ha hb =>
  rcases List.mem_append.1 hy with hy | hy
  ·exact .inl (ha y hy)
  ·exact .inr (hb y hy)
theorem allin_next {α : Type} {k : Nat} {In : World → Nat → Nat → α → Prop} {w : World} {b o c : Nat} {x : α} {l : List α} (h : AllIn k In w (some ⟨b, o, none⟩) (x :: l)) (hc : (x :: l).length ≤ c) : AllIn k In w (if c = 1 then some ⟨b, o, none⟩ else some ⟨b, o + k, none⟩) l := by
 rw [List.length_cons] at hc; by_cases e1 : c = 1
 ·intro j hj; omega
 ·rw [if_neg e1]; exact allin_tail h
def ResF (R F : Nat) (a b : Value) (fc : Array Value) (u0 : World) : List Value → World → Prop
 | [], u => Blk u R #[a] 119 ∧ Blk u F fc 27 ∧ Chg (fun i => i = R ∨ i = F) u0 u
 | _ :: _, u => Blk u R #[b] 119 ∧ Blk u F fc 27 ∧ Chg (fun i => i = R ∨ i = F) u0 u
theorem ResF.f {R F : Nat} {a b : Value} {fc : Array Value} {u0 : World} {vs : List Value} {u : World} (h : ResF R F a b fc u0 vs u) : Blk u F fc 27 := by
 match vs, h with
 | [], h => exact h.2.1
 | _ :: _, h => exact h.2.1
theorem ResF.c {R F : Nat} {a b : Value} {fc : Array Value} {u0 : World} {vs : List Value} {u : World} (h : ResF R F a b fc u0 vs u) : Chg (fun i => i = R ∨ i = F) u0 u := by
 match vs, h with
 | [], h => exact h.2.2
 | _ :: _, h => exact h.2.2
structure L1 (W u : World) (R F K0 : Nat) (n : Nat) (G : List (ByteArray × FFace)) : Prop where
 ext : Ext W u
 r : Blk u R #[.pointer none] 119
 f : Blk u F #[.int .i64 0, .int .i64 0] 27
 m : chkmap.FMap W u K0 n G
 hR : W.heap.size ≤ R
 hRF : R < F
 hFK : F < K0
theorem L1.extend {W u u' : World} {R F K0 n : Nat} {G : List (ByteArray × FFace)} (h : L1 W u R F K0 n G) (hE : Ext u u') : L1 W u' R F K0 n G :=
 ⟨h.ext.ext hE, h.r.ext hE, h.f.ext hE, h.m.chg hE id, h.hR, h.hRF, h.hFK⟩
theorem L1.dead {W u : World} {R F K0 n : Nat} {G : List (ByteArray × FFace)} (h : L1 W u R F K0 n G) : Blk (((u.setCell ⟨R, 0, none⟩ (.pointer none)).setCell ⟨F, 0, none⟩ (.int .i64 2)).setCell ⟨F, 1, none⟩ (.int .i64 0)) R #[.pointer none] 119 ∧ Blk (((u.setCell ⟨R, 0, none⟩ (.pointer none)).setCell ⟨F, 0, none⟩ (.int .i64 2)).setCell ⟨F, 1, none⟩ (.int .i64 0)) F #[.int .i64 2, .int .i64 0] 27 ∧ Ext W (((u.setCell ⟨R, 0, none⟩ (.pointer none)).setCell ⟨F, 0, none⟩ (.int .i64 2)).setCell ⟨F, 1, none⟩ (.int .i64 0)) := by
 have h1 := h.hR; have h2 := h.hRF
 exact ⟨((h.r.set 0 _).setOther (p := ⟨F, 0, none⟩) (by show R ≠ F; omega) _).setOther (p := ⟨F, 1, none⟩) (by show R ≠ F; omega) _, ((h.f.setOther (p := ⟨R, 0, none⟩) (by show F ≠ R; omega) _).set 0 _).set 1 _, ((h.ext.setNew (p := ⟨R, 0, none⟩) (by show W.heap.size ≤ R; omega) _).setNew (p := ⟨F, 0, none⟩) (by show W.heap.size ≤ F; omega) _).setNew (p := ⟨F, 1, none⟩) (by show W.heap.size ≤ F; omega) _⟩
theorem L1.put {W u u' : World} {R F K0 n : Nat} {G G' : List (ByteArray × FFace)} (h : L1 W u R F K0 n G) (hg : u.grownBy u' (some K0)) (hm : chkmap.FMap W u' K0 (n + 1) G') : L1 W u' R F K0 (n + 1) G' := by
 have h1 := h.hR; have h2 := h.hRF; have h3 := h.hFK
 exact ⟨h.ext.trans (grown_at hg) (fun i hi e => by omega), h.r.chg (grown_at hg) (by omega), h.f.chg (grown_at hg) (by omega), hm, h1, h2, h3⟩
theorem given_cons (f : FFace) (r : List FFace) (G : List (ByteArray × FFace)) : givenF (f :: r) G = if (knownF G f.modn).isSome = true ∨ mayFaceB f = false then none else givenF r (G ++ [(f.modn, f)]) := rfl
theorem blk_ne {w : World} {b b' : Nat} {c c' : Array Value} {T T' : TypeId} (h : Blk w b c T) (h' : Blk w b' c' T') (hs : c.size ≠ c'.size) : b ≠ b' := fun e => by
 subst e; unfold Blk at h h'; rw [h] at h'; injection h' with h'
 injection h' with h1 h2 h3
 exact hs (by rw [h1])
end chk
namespace ofp
theorem info_face : (Tryz.prog.info? 37).map (fun i => (i.zero, i.size, i.bytes)) = some (some (.agg #[.string ⟨#[]⟩, .slice none 0 0, .slice none 0 0]), 3, 64) := by kernel_rfl
end ofp
namespace chk
open synw ofp
def OFa (_ : ByteArray × FFace) (v : Value) (_ : World) : Prop := ∃ a b c, v = .agg #[a, b, c]
theorem ofa_keeps (x : ByteArray × FFace) (u : Value) (w w' : World) (_ : Keeps w w') (h : OFa x u w) : OFa x u w' := h
theorem ofa_any (x : ByteArray × FFace) (u : Value) (w w' : World) (h : OFa x u w) : OFa x u w' := h
theorem grow_apart {α : Type} {k : Nat} {E : TypeId} {V : α → Value → World → Prop} {B : Nat} {w w' : World} {v : Value} {l : List α} (h : Grow k E V B w v l) (hV : ∀ x u w w', V x u w → V x u w') {S : Nat → Prop} (hC : Chg S w w') (hO : ∀ i, v.ownBlock = some i → ¬ S i) : Grow k E V B w' v l :=
 ofp.x_grow (growx_chg (X' := fun _ => true) (grow_x h hV (fun _ => true)) (fun x u w w' _ h => hV x u w w' h) hC (fun _ _ => .inr rfl) hO (fun _ _ => .inl rfl)) hV
theorem MS.put {W u u' : World} {C Mo D K Bm : Nat} {E : CEnv} {v2 v3 v5 : Value} {at_ : Int} {bod fac : Value} {dc : Array Value} {bs : List (FProc × Tr)} (h : MS W u C Mo D K Bm E v2 v3 v5 at_ bod fac dc bs) {n : Nat} {known : List (ByteArray × FFace)} (hg : u.grownBy u' (some K)) (hm : chkmap.FMap W u' K n known) (hn : n ≤ known.length) : MS W u' C Mo D K Bm ⟨E.own, known⟩ v2 v3 v5 at_ bod fac dc bs := by
 have hC := grown_at hg; have h1 := h.hK; have h2 := h.kB; have h3 := h.cK; have h4 := h.mK
 exact ⟨h.ext.trans hC (fun i hi e => by omega), h.c.chg hC h3, h.mo.chg hC h4, h.d, h.own, ⟨n, hn, hm⟩, h.row.chg prc_keeps hC (fun i e => by omega), h.hC, h.hM, h1, h.cB, h.mB, h2, h.cM, h3, h4, Nat.le_trans h.hu hC.size⟩
theorem MS.faces {W u u' : World} {C Mo D K Bm : Nat} {E : CEnv} {v2 v3 v5 : Value} {at_ : Int} {bod fac fac' : Value} {dc : Array Value} {bs : List (FProc × Tr)} (h : MS W u C Mo D K Bm E v2 v3 v5 at_ bod fac dc bs) (hB : ∀ i, fac.ownBlock = some i → Bm ≤ i) (hap : ∀ i, fac.ownBlock = some i → bod.ownBlock ≠ some i) (hC : Chg (fun i => i = Mo ∨ fac.ownBlock = some i) u u') (hm : Blk u' Mo #[.pointer (some ⟨D, 0, none⟩), bod, fac'] 125) : MS W u' C Mo D K Bm E v2 v3 v5 at_ bod fac' dc bs := by
 obtain ⟨n, hn, hk⟩ := h.k; have h1 := h.hM; have h2 := h.mB; have h3 := h.cM; have h4 := h.mK; have h5 := h.cB; have h6 := h.kB; have h7 := h.hu; have h8 := h.ext.size
 have hob := grow_own h.row; exact ⟨h.ext.trans hC (fun i hi e => by rcases e with e | e; omega; have := hB i e; omega), h.c.chg hC (fun e => by rcases e with e | e; exact h3 e; have := hB _ e; omega), hm, h.d, h.own, ⟨n, hn, hk.chg hC (fun e => by rcases e with e | e; exact h4 e.symm; have := hB _ e; omega)⟩, grow_apart h.row prc_any hC (fun i e e2 => by rcases e2 with e2 | e2; have := hob i e; omega; exact hap i e2 e), h.hC, h1, h.hK, h5, h2, h6, h3, h.cK, h4, Nat.le_trans h7 hC.size⟩
def MF (u0 u : World) (C Mo D Bm X17 : Nat) (cc : Array Value) (bod fac : Value) (fc : Array Value) (rN r : Value) (lq : List (ByteArray × FFace)) : Prop :=
 Chg (fun i => i = Mo ∨ fac.ownBlock = some i) u0 u ∧ Blk u C cc 221 ∧ Blk u Mo #[.pointer (some ⟨D, 0, none⟩), bod, rN] 125 ∧ GrowX (fun _ => false) 3 37 OFa Bm u r lq ∧ (∀ i, r.ownBlock = some i → fac.ownBlock = some i ∨ u0.heap.size ≤ i) ∧ Blk u X17 fc 37
theorem mod_imp (own : FFace) (G K : List (ByteArray × FFace)) (ps : List FProc) (B : List (FProc × Tr)) (a : Nat) (t : ByteArray) (m : Int) (l r : List Nd) : modF_ own G (.mk 2 t m l :: r) K ps B a = match knownF G t with
 | none => .bad 4 a
 | some f => modF_ own G r (K ++ [(t, f)]) ps B (a + 1) := rfl
theorem mod_var (own : FFace) (G K : List (ByteArray × FFace)) (ps : List FProc) (B : List (FProc × Tr)) (a : Nat) (t : ByteArray) (m : Int) (l r : List Nd) : modF_ own G (.mk 3 t m l :: r) K ps B a = modF_ own G r K ps B (a + (1 + l.length)) := by simp [modF_, Nd.kd, Nd.kids]
theorem mod_proc (own : FFace) (G K : List (ByteArray × FFace)) (p : FProc) (ps : List FProc) (B : List (FProc × Tr)) (a : Nat) (t : ByteArray) (m : Int) (l r : List Nd) : modF_ own G (.mk 4 t m l :: r) K (p :: ps) B a = (bodyF ⟨own, K⟩ p (.mk 4 t m l) a).bind fun b => modF_ own G r K ps (B ++ [(p, b)]) (a + szF (.mk 4 t m l)) := by simp [modF_, Nd.kd]
theorem known_sub {K G : List (ByteArray × FFace)} {t : ByteArray} {f : FFace} (h : ∀ s g, knownF K s = some g → knownF G s = some g) (ht : knownF G t = some f) : ∀ s g, knownF (K ++ [(t, f)]) s = some g → knownF G s = some g := fun s g hs => by
 rw [chkmap.known_snoc] at hs; cases hq : knownF K s with
 | some g2 => rw [hq] at hs; rw [h _ _ hq]; exact hs
 | none =>
  rw [hq] at hs; by_cases e : t = s
  ·subst e; rw [if_pos rfl] at hs; rw [ht]; exact hs
  ·rw [if_neg e] at hs; cases hs
set_option maxRecDepth 100000 in
set_option maxHeartbeats 32000000 in
theorem clook_any (s : ByteArray) (w : World) (l : List FFace) (a : Option Addr) (c : Nat) (hs : s.size ≤ 9223372036854775807) (hv : ErrVar w) (hm : MaxVar w) (hl : AllIn 3 FaceIn w a l) (hlc : l.length ≤ c) (hcm : c ≤ maxLen) (hsum : ∀ f ∈ l, f.vars.length + f.procs.length < maxLen) :
  Calls Tryz.prog 53 #[.string s, .slice a l.length c] w (CLookPost w (posC s (givenF l [])) (checkF s l)) := by
 obtain ⟨T, hT⟩ : ∃ T, checkF s l = T := ⟨_, rfl⟩; rw [hT]; unfold checkF at hT; obtain ⟨T0, hT0⟩ : ∃ T0, givenF l [] = T0 := ⟨_, rfl⟩; rw [hT0] at hT ⊢; obtain ⟨PP, hPP⟩ : ∃ PP, posC s T0 = PP := ⟨_, rfl⟩; rw [hPP]; have HPP := Z_ hPP; have HT := Z_ hT; have HT0 := Z_ hT0; obtain ⟨n, hn⟩ : ∃ n, l.length = n := ⟨_, rfl⟩; rw [hn] at hlc ⊢; have HN := Z_ hn; have HI := Z_ hl; have HS := Z_ hsum; have HV := Z_ hv; have HMV := Z_ hm; have HSZ := Z_ hs; obtain ⟨R, hR⟩ : ∃ R, w.heap.size = R := ⟨_, rfl⟩; obtain ⟨F, hF⟩ : ∃ F, R + 1 = F := ⟨_, rfl⟩; obtain ⟨K0, hK0⟩ : ∃ K0, F + 1 = K0 := ⟨_, rfl⟩; have hR0 := ((Blk.made w #[.pointer none] 119).alloc (.cells #[.int .i64 0, .int .i64 0] 27)).alloc (.map #[] 0); have hF0 := (Blk.made2 w (.cells #[.pointer none] 119) #[.int .i64 0, .int .i64 0] 27).alloc (.map #[] 0)
 have hX0 := (((Chg.refl (fun _ => False) w).alloc (.cells #[.pointer none] 119)).alloc (.cells #[.int .i64 0, .int .i64 0] 27)).alloc (.map #[] 0); have hM0 := chkmap.FMap.made w ((w.alloc (.cells #[.pointer none] 119)).alloc (.cells #[.int .i64 0, .int .i64 0] 27)); have hz0 : ((w.alloc (.cells #[.pointer none] 119)).alloc (.cells #[.int .i64 0, .int .i64 0] 27)).heap.size = K0 := by simp; omega
 rw [hR] at hR0 hF0; rw [hF] at hF0; rw [hz0] at hM0; have HL := Z_ (show L1 w (((w.alloc (.cells #[.pointer none] 119)).alloc (.cells #[.int .i64 0, .int .i64 0] 27)).alloc (.map #[] 0)) R F K0 0 [] from ⟨hX0, hR0, hF0, hM0, by omega, by omega, by omega⟩); have hmf : ∀ (fn : Fn) (first cap : Array Value) (w : World), (Instr.makeFunc fn first cap).run Tryz.prog w = .ok (.func fn first cap) w := fun _ _ _ _ => rfl
 have hmk := @run_makeMap Tryz.prog; clear hT hT0 hPP hn hl hsum hv hm hR0 hF0 hX0 hM0 hs; go_enter_defers Tryz.func53, Tryz.ntmps53
 go_upto_region 2 with (fail)
 try rw [hz0]
 try rw [hF]
 clear hz0 hR hF hK0; generalize ((w.alloc (.cells #[.pointer none] 119)).alloc (.cells #[.int .i64 0, .int .i64 0] 27)).alloc (.map #[] 0) = u0 at *; have hNm : n ≤ 9223372036854775807 := by unfold maxLen at hcm; omega
 go_wp2_with fail
 go_loopw [22] (fun i wr => ∃ (j : Nat) (G : List (ByteArray × FFace)), j ≤ n ∧ i = .int .i64 (j : Nat) ∧ Hid (givenF (l.drop j) G = T0) ∧ Hid (L1 w wr R F K0 j G)) (fun i _ => n - (intOf i).toNat)
 case atStart => exact ⟨0, [], Nat.zero_le _, rfl, by rw [List.drop_zero]; exact HT0, HL⟩
 clear HL HT0
 case round =>
  obtain ⟨j, G, hj, rfl, HG, HL⟩ := hrel; by_cases hlt : j < n
  ·have hji : (j : Int) < (n : Int) := by omega
   have hjd : decide ((j : Int) < (n : Int)) = true := by simpa using hji
   have hjl : j < l.length := by rw [HN.out]; exact hlt
   obtain ⟨b, o, rfl, hb, hin⟩ := HI.out j hjl; have hG := HG.out; rw [List.drop_eq_getElem_cons hjl, given_cons] at hG; have hsm := HS.out _ (List.getElem_mem hjl); generalize l[j] = y at hin hG hsm; obtain ⟨a1, m1, c1, d1, q0, q1, q2, hfa⟩ := hin; have hbw := Nat.lt_of_lt_of_le hb HL.out.ext.size; replace q0 : wr.cell? ⟨b, o + j * 3, none⟩ = some (.string y.modn) := (HL.out.ext.cell (p := ⟨b, o + j * 3, none⟩) hb id).trans q0; replace q1 : wr.cell? ⟨b, o + j * 3 + 1, none⟩ = some (.slice a1 y.vars.length m1) := (HL.out.ext.cell (p := ⟨b, o + j * 3 + 1, none⟩) hb id).trans q1; replace q2 : wr.cell? ⟨b, o + j * 3 + 2, none⟩ = some (.slice c1 y.procs.length d1) := (HL.out.ext.cell (p := ⟨b, o + j * 3 + 2, none⟩) hb id).trans q2; have HFA := Z_ hfa; have hym : y.modn.size ≤ maxLen := by obtain ⟨_, _, _, _, e, _, _, h, _⟩ := hfa; exact h
   have HY := Z_ (Blk.made wr #[.string y.modn, .slice a1 y.vars.length m1, .slice c1 y.procs.length d1] 37); have HL5 := Z_ (HL.out.extend ((Chg.refl (fun _ => False) wr).alloc (.cells #[.string y.modn, .slice a1 y.vars.length m1, .slice c1 y.procs.length d1] 37))); obtain ⟨Y, hY⟩ : ∃ Y, wr.heap.size = Y := ⟨_, rfl⟩; rw [hY] at HY; have HSM := Z_ hsm; have HYM := Z_ hym; have HG2 := Z_ hG; clear hfa hym hG HG HL hsm hbw; go_upto_region 5 with (fail)
   try rw [hY]
   generalize wr.alloc (.cells #[.string y.modn, .slice a1 y.vars.length m1, .slice c1 y.procs.length d1] 37) = u5 at *; clear q0 q1 q2 hY; obtain ⟨vf, hlook, hvf⟩ := HL5.out.m.look HYM.out; obtain ⟨kb, hkb⟩ : ∃ kb, (knownF G y.modn).isSome = kb := ⟨_, rfl⟩; rw [hkb] at hlook; have HKB := Z_ hkb; obtain ⟨a2, m2, c2, d2, rfl, -⟩ := hvf; have hyc := HY.out.cell; go_upto_region 6 with (fail)
   have HL6 := Z_ (HL5.out.extend ((Chg.refl (fun _ => False) u5).alloc (.cells #[.string ((knownF G y.modn).getD noFace).modn, .slice a2 ((knownF G y.modn).getD noFace).vars.length m2, .slice c2 ((knownF G y.modn).getD noFace).procs.length d2] 37))); have HY6 := Z_ (HY.out.alloc (.cells #[.string ((knownF G y.modn).getD noFace).modn, .slice a2 ((knownF G y.modn).getD noFace).vars.length m2, .slice c2 ((knownF G y.modn).getD noFace).procs.length d2] 37)); clear hyc hlook HL5 HY hkb; generalize u5.alloc (.cells #[.string ((knownF G y.modn).getD noFace).modn, .slice a2 ((knownF G y.modn).getD noFace).vars.length m2, .slice c2 ((knownF G y.modn).getD noFace).procs.length d2] 37) = u6 at *; have hyc := HY6.out.cell; cases kb with
   | true =>
    have hb0 : none = T0 := by have h := HG2.out; rw [if_pos (.inl HKB.out)] at h; exact h
    have HTB := Z_ (show (.bad 2 0 : Rz (Nd × List (ByteArray × FFace) × List (FProc × Tr))) = T by have h := HT.out; rw [← hb0] at h; exact h); have HPB := Z_ (show (0 : Int) = PP by have h := HPP.out; rw [← hb0] at h; exact h); clear hb0; have HDD := Z_ HL6.out.dead; have hrc := HL6.out.r.cell; have hrf := HL6.out.r.frozen; have hrl := HL6.out.r.lt; have hF1 := HL6.out.f.setOther (p := ⟨R, 0, none⟩) (by have := HL6.out.hRF; show F ≠ R; omega) (.pointer none); have hfc := hF1.cell; have hff := hF1.frozen; have hfl := hF1.lt; have hF2 := hF1.set 0 (.int .i64 2); have hfc2 := hF2.cell; have hff2 := hF2.frozen; have hfl2 := hF2.lt; clear hF1 hF2; go_wp2_with fail
    exact ⟨_, results_pc rfl _ _ rfl HDD.out.1 Tryz.underlying119 rfl rfl HDD.out.2.1 Tryz.underlying27 rfl (by kernel_rfl), HDD.out.2.2, by rw [← HTB.out, ← HPB.out]; exact ⟨_, rfl⟩⟩
   | false =>
    have HFW := Z_ (HFA.out.ext HL6.out.ext); obtain ⟨mb, hmb⟩ : ∃ mb, mayFaceB y = mb := ⟨_, rfl⟩; have HMB := Z_ hmb; clear hmb; go_wp2_with fail
    refine (face.may_any y _ _ HFW.out HSM.out (HV.out.ext HL6.out.ext) (HMV.out.ext HL6.out.ext)).mono ?_
    rintro e u7 ⟨rfl, hE7⟩; rw [HMB.out]; have HL7 := Z_ (HL6.out.extend hE7); have HY7 := Z_ (HY6.out.ext hE7); clear hyc HL6 HY6 hE7; cases mb with
    | false =>
     have hb0 : none = T0 := by have h := HG2.out; rw [if_pos (.inr HMB.out)] at h; exact h
     have HTB := Z_ (show (.bad 2 0 : Rz (Nd × List (ByteArray × FFace) × List (FProc × Tr))) = T by have h := HT.out; rw [← hb0] at h; exact h); have HPB := Z_ (show (0 : Int) = PP by have h := HPP.out; rw [← hb0] at h; exact h); clear hb0; have HDD := Z_ HL7.out.dead; have hrc := HL7.out.r.cell; have hrf := HL7.out.r.frozen; have hrl := HL7.out.r.lt; have hF1 := HL7.out.f.setOther (p := ⟨R, 0, none⟩) (by have := HL7.out.hRF; show F ≠ R; omega) (.pointer none); have hfc := hF1.cell; have hff := hF1.frozen; have hfl := hF1.lt; have hF2 := hF1.set 0 (.int .i64 2); have hfc2 := hF2.cell; have hff2 := hF2.frozen; have hfl2 := hF2.lt; clear hF1 hF2; go_wp2_with fail
     exact ⟨_, results_pc rfl _ _ rfl HDD.out.1 Tryz.underlying119 rfl rfl HDD.out.2.1 Tryz.underlying27 rfl (by kernel_rfl), HDD.out.2.2, by rw [← HTB.out, ← HPB.out]; exact ⟨_, rfl⟩⟩
    | true =>
     have HG3 := Z_ (show givenF (l.drop (j + 1)) (G ++ [(y.modn, y)]) = T0 by have h := HG2.out; rw [if_neg (by rw [HKB.out, HMB.out]; decide)] at h; exact h)
     have hkn : knownF G y.modn = none := by have h := HKB.out; cases hq : knownF G y.modn with
      | none => rfl
      | some z => rw [hq] at h; cases h
     obtain ⟨u8, hput, hM8, hg8⟩ := HL7.out.m.put HFA.out (.inl hkn) HYM.out (by have := HN.out; omega); have HL8 := Z_ (HL7.out.put hg8 hM8); have hyc := HY7.out.cell; clear hkn hM8 hg8 HG2; go_wp2_with fail
     go_roundw
     case rel => exact ⟨j + 1, _, Nat.succ_le_of_lt hlt, by go_num, HG3, HL8⟩
     case measure => simp [intOf]; omega
  ·obtain rfl : j = n := by omega
   have hjd : decide ((j : Int) < (j : Int)) = false := by simp
   have hG0 : some G = T0 := by have h := HG.out; rw [List.drop_of_length_le (by rw [HN.out]; exact Nat.le_refl _)] at h; exact h
   have hT2 := HT.out; have hP2 := HPP.out; rw [← hG0] at hT2 hP2; replace hT2 : (if (ofR s).2.2.1 = 0 then (modF_ ⟨(parseR s).1.tx, varsF (parseR s).1.kids, procsF (parseR s).1.kids⟩ G (parseR s).1.kids [] (procsF (parseR s).1.kids) [] 1).bind fun r => .ok ((parseR s).1, r) else .bad (ofR s).2.2.1 (ofR s).2.2.2.toNat) = T := hT2; replace hP2 : (if (ofR s).2.2.1 = 0 then (match modF_ ⟨(parseR s).1.tx, varsF (parseR s).1.kids, procsF (parseR s).1.kids⟩ G (parseR s).1.kids [] (procsF (parseR s).1.kids) [] 1 with
   | .bad _ p => ((p : Nat) : Int)
   | .ok _ => 0) else (ofR s).2.2.2) = PP := hP2
   have HLK := Z_ (oflk.look_any s wr HSZ.out (HV.out.ext HL.out.ext) (HMV.out.ext HL.out.ext)); have HOK := Z_ (fun h => text_ok (s := s) h); have HPO := Z_ (fun h => (of_ok (s := s) h).2.2); obtain ⟨Q, hQ⟩ : ∃ Q, ofR s = Q := ⟨_, rfl⟩; obtain ⟨x, hx⟩ : ∃ x, (parseR s).1 = x := ⟨_, rfl⟩; rw [hQ, hx] at hT2 hP2 HLK HOK; rw [hQ] at HPO; obtain ⟨fa, ia, fc, fp⟩ := Q; replace HOK := Z_ (show fc = 0 → _ from HOK.out); replace HPO := Z_ (show fc = 0 → fp = 0 from HPO.out); have HT2 := Z_ hT2; have HP2 := Z_ hP2; have HL9 := Z_ HL.out; clear hT2 hP2 HT HPP HG hG0 HL hQ hx HI HS; go_wp2_with fail
   refine HLK.out.mono ?_
   rintro e w1 ⟨hE1, vp, rfl, hgood⟩; obtain ⟨Z0, hZ0⟩ : ∃ Z0, wr.heap.size = Z0 := ⟨_, rfl⟩; rw [hZ0] at hgood; have HL1 := Z_ (HL9.out.extend hE1); have HGD := Z_ (show fc = 0 → _ from hgood); have HE1 := Z_ hE1; have hfc := HL1.out.f.cell; have hff := HL1.out.f.frozen; have hfl := HL1.out.f.lt; clear hE1 hgood HLK; go_upto_region 11 with (fail)
   have hC2 := chg_set (chg_set (S := F) (Chg.refl _ w1) 0 (.int .i64 fc)) 1 (.int .i64 fp); have HX2 := Z_ (HL1.out.ext.trans hC2 (fun i hi e => by have := HL1.out.hR; have := HL1.out.hRF; omega)); have HR2 := Z_ (HL1.out.r.chg hC2 (by have := HL1.out.hRF; omega)); have HF2 := Z_ ((HL1.out.f.set 0 (.int .i64 fc)).set 1 (.int .i64 fp)); have HM2 := Z_ ((HL1.out.m.chg hC2 (by have := HL1.out.hFK; omega)).base HX2.out); have HC2 := Z_ hC2; have HRF := Z_ (show w.heap.size ≤ R ∧ R < F ∧ F < Z0 from ⟨HL1.out.hR, HL1.out.hRF, by rw [← hZ0]; exact HL9.out.f.lt⟩); clear hZ0; have hfc2 := HF2.out.cell; clear hC2 hfc hff hfl; obtain ⟨W2, hW2⟩ : ∃ W2, (w1.setCell ⟨F, 0, none⟩ (.int .i64 fc)).setCell ⟨F, 1, none⟩ (.int .i64 fp) = W2 := ⟨_, rfl⟩; rw [hW2] at HX2 HR2 HF2 HM2 HC2 hfc2 ⊢; clear hW2; by_cases hf0 : fc = 0
   ·subst hf0
    obtain rfl : fp = 0 := HPO.out rfl; obtain ⟨D, a1, c1, a2, c2, a3, c3, d3, d4, d5, d6, d8, rfl, hnd, hcap, hD, hAV, hAP, hAI, hlv, hlp, htx, hky⟩ := HGD.out rfl; obtain ⟨hok, hsz⟩ := HOK.out rfl; have HT3 := Z_ (show (modF_ ⟨x.tx, varsF x.kids, procsF x.kids⟩ G x.kids [] (procsF x.kids) [] 1).bind (fun r => .ok (x, r)) = T from HT2.out)
    have HP3 := Z_ (show (match modF_ ⟨x.tx, varsF x.kids, procsF x.kids⟩ G x.kids [] (procsF x.kids) [] 1 with
     | .bad _ p => ((p : Nat) : Int)
     | .ok _ => 0) = PP from HP2.out)
    have hbel : ∀ i, i < w1.heap.size → i = F → below Z0 i = true := fun i _ e => by subst e; unfold below; rw [decide_eq_true_eq]; exact HRF.out.2.2
    have hkp := keeps_chg (M := below Z0) HC2.out hbel
    have hown : FaceAt W2 ⟨x.tx, varsF x.kids, procsF x.kids⟩ (.agg #[.string x.tx, .slice a1 (varsF x.kids).length c1, .slice a2 (procsF x.kids).length c2]) :=
     ⟨a1, c1, a2, c2, rfl, hAV.keeps (hkp.trans (keeps_bare _ _)) fun _ _ _ => VarIn.keeps (hkp.trans (keeps_bare _ _)), hAP.keeps (hkp.trans (keeps_bare _ _)) fun _ _ _ => ProcIn.keeps (hkp.trans (keeps_bare _ _)), Nat.le_trans htx (by decide), hcap.1, hcap.2.1, hcap.2.2.1, hcap.2.2.2⟩
    have HND := Z_ (ndAt_keeps (keeps_chg (M := below Z0) HC2.out hbel) _ _ hnd); have hDF := blk_ne hD HL1.out.f (by simp); have hDR := blk_ne hD HL1.out.r (by simp); have HD := Z_ (hD.chg HC2.out hDF); have HOWN := Z_ hown; have HOKK := Z_ hok; have HSL := Z_ hsz; have HKY := Z_ hky; have HMV2 := Z_ (HMV.out.ext HX2.out); clear hnd hcap hD hAV hAP hAI hlv hlp htx hky hok hsz hbel hkp hown HT2 HP2 HOK HPO HGD HL1 HL9 HE1 HC2; go_upto_region 15 with (fail)
    obtain ⟨kx, tx, mx, lx⟩ := x; have hnd := HND.out; rw [ndAt_mk] at hnd; obtain ⟨a9, c9, e9, hl1, hl2, hl3, hl4⟩ := hnd; cases e9
    obtain ⟨N, hN⟩ : ∃ N, lx.length = N := ⟨_, rfl⟩; have hNs : N ≤ 499 := by have h1 := len_szL lx; have h2 : szL lx ≤ 499 := HSL.out; omega
    rw [hN] at hl1 HD; have HNN := Z_ hN; have HI := Z_ hl4; obtain ⟨Mo, hMo⟩ : ∃ Mo, W2.heap.size = Mo := ⟨_, rfl⟩; obtain ⟨Kb, hKb⟩ : ∃ Kb, Mo + 1 = Kb := ⟨_, rfl⟩; obtain ⟨C, hC⟩ : ∃ C, Kb + 1 = C := ⟨_, rfl⟩; have hm1 := ((Blk.made W2 #[.pointer (some ⟨D, 0, none⟩), .slice none 0 0, .slice none 0 0] 125).alloc (.map #[] 0)).alloc (.cells #[.pointer (some ⟨Mo, 0, none⟩), .map (some Kb), .slice none 0 0, .int .i64 0, .int .i64 1, .pointer none, .pointer none] 221); have hc1 := Blk.made ((W2.alloc (.cells #[.pointer (some ⟨D, 0, none⟩), .slice none 0 0, .slice none 0 0] 125)).alloc (.map #[] 0)) #[.pointer (some ⟨Mo, 0, none⟩), .map (some Kb), .slice none 0 0, .int .i64 0, .int .i64 1, .pointer none, .pointer none] 221; have hk1 := (chkmap.FMap.made W2 (W2.alloc (.cells #[.pointer (some ⟨D, 0, none⟩), .slice none 0 0, .slice none 0 0] 125))).chg ((Chg.refl (fun _ => False) _).alloc (.cells #[.pointer (some ⟨Mo, 0, none⟩), .map (some Kb), .slice none 0 0, .int .i64 0, .int .i64 1, .pointer none, .pointer none] 221)) id
    have he1 := (((Chg.refl (fun _ => False) W2).alloc (.cells #[.pointer (some ⟨D, 0, none⟩), .slice none 0 0, .slice none 0 0] 125)).alloc (.map #[] 0)).alloc (.cells #[.pointer (some ⟨Mo, 0, none⟩), .map (some Kb), .slice none 0 0, .int .i64 0, .int .i64 1, .pointer none, .pointer none] 221); have hsz1 : (W2.alloc (.cells #[.pointer (some ⟨D, 0, none⟩), .slice none 0 0, .slice none 0 0] 125)).heap.size = Kb := by simp; omega
    have hsz2 : ((W2.alloc (.cells #[.pointer (some ⟨D, 0, none⟩), .slice none 0 0, .slice none 0 0] 125)).alloc (.map #[] 0)).heap.size = C := by simp; omega
    have hsz3 : (((W2.alloc (.cells #[.pointer (some ⟨D, 0, none⟩), .slice none 0 0, .slice none 0 0] 125)).alloc (.map #[] 0)).alloc (.cells #[.pointer (some ⟨Mo, 0, none⟩), .map (some Kb), .slice none 0 0, .int .i64 0, .int .i64 1, .pointer none, .pointer none] 221)).heap.size = C + 1 := by simp; omega
    rw [hMo] at hm1; rw [hsz2] at hc1; rw [hsz1] at hk1
    try rw [hMo]
    try rw [hKb]
    try rw [hC]
    generalize ((W2.alloc (.cells #[.pointer (some ⟨D, 0, none⟩), .slice none 0 0, .slice none 0 0] 125)).alloc (.map #[] 0)).alloc (.cells #[.pointer (some ⟨Mo, 0, none⟩), .map (some Kb), .slice none 0 0, .int .i64 0, .int .i64 1, .pointer none, .pointer none] 221) = u3 at *; obtain ⟨OWN, hOWN⟩ : ∃ OWN : FFace, (⟨tx, varsF lx, procsF lx⟩ : FFace) = OWN := ⟨_, rfl⟩; have HMS := Z_ (show MS W2 u3 C Mo D Kb (C + 1) ⟨OWN, []⟩ (.slice none 0 0) (.int .i64 0) (.pointer none) 1 (.slice none 0 0) (.slice none 0 0) #[.string tx, .slice a1 (varsF lx).length c1, .slice a2 (procsF lx).length c2, .int .i64 kx, .string tx, .int .i64 mx, .slice a9 N c9, .slice a3 (impsF lx).length c3, d8] [] from ⟨he1, hc1, hm1, HD.out, ⟨_, _, _, _, _, _, _, _, _, rfl, by rw [← hOWN]; exact HOWN.out⟩, ⟨0, Nat.le_refl _, hk1⟩, Grow.nil _ _ _ _ _, by omega, by omega, by omega, by omega, by omega, by omega, by omega, by omega, by omega, by omega⟩)
    have HT4 := Z_ (show (modF_ OWN G lx [] (procsF lx) [] 1).bind (fun r => .ok ((.mk kx tx mx lx : Nd), r)) = T by rw [← hOWN]; exact HT3.out)
    have HP4 := Z_ (show (match modF_ OWN G lx [] (procsF lx) [] 1 with
     | .bad _ p => ((p : Nat) : Int)
     | .ok _ => 0) = PP by rw [← hOWN]; exact HP3.out)
    have HPA := Z_ (show AllIn 6 ProcIn W2 a2 (procsF lx) ∧ (procsF lx).length ≤ c2 from by obtain ⟨_, _, _, _, e, _, h, _, _, _, h2, _⟩ := HOWN.out; cases e; exact ⟨h, h2⟩); obtain ⟨TM, hTM⟩ : ∃ TM, modF_ OWN G lx [] (procsF lx) [] 1 = TM := ⟨_, rfl⟩; rw [hTM] at HT4 HP4; have HTM := Z_ hTM; have hdc := (HD.out.ext he1).cell; clear hm1 hc1 hk1 he1 hsz1 hsz2 hsz3 hTM HT3 HP3 hl4 hN hMo hOWN HOWN hmk hmf; go_upto_region 17 with (fail)
    have HFA0 := Z_ (show Grow 3 37 OFa (C + 1) u3 (.slice none 0 0) [] from Grow.nil _ _ _ _ _); go_loopw [13, 72] (fun ps i wr => ∃ (q at_ : Nat) (Kn : List (ByteArray × FFace)) (B : List (FProc × Tr)) (v2 v3 v5 bod fac : Value) (pa : Option Addr) (pc pn : Nat), q ≤ N ∧ ps = .slice pa pn pc ∧ i = .int .i64 (q : Nat) ∧ Hid ((procsF (lx.drop q)).length = pn) ∧ Hid (modF_ OWN G (lx.drop q) Kn (procsF (lx.drop q)) B at_ = TM) ∧ Hid (MS W2 wr C Mo D Kb (C + 1) ⟨OWN, Kn⟩ v2 v3 v5 ((at_ : Nat) : Int) bod fac #[.string tx, .slice a1 (varsF lx).length c1, .slice a2 (procsF lx).length c2, .int .i64 kx, .string tx, .int .i64 mx, .slice a9 N c9, .slice a3 (impsF lx).length c3, d8] B) ∧ Hid (Grow 3 37 OFa (C + 1) wr fac Kn) ∧ Hid (∀ i, fac.ownBlock = some i → bod.ownBlock ≠ some i) ∧ Hid (AllIn 6 ProcIn W2 pa (procsF (lx.drop q)) ∧ (procsF (lx.drop q)).length ≤ pc) ∧ Hid (at_ + szL (lx.drop q) ≤ 1000) ∧ Hid (B.length ≤ q ∧ Kn.length ≤ q) ∧ Hid (∀ s g, knownF Kn s = some g → knownF G s = some g)) (fun _ i _ => N - (intOf i).toNat)
    case atStart => exact ⟨0, 1, [], [], _, _, _, _, _, a2, c2, _, Nat.zero_le _, rfl, rfl, Z_ rfl, HTM, HMS, HFA0, Z_ (fun i e => by cases e), HPA, Z_ (by have h : szL lx ≤ 499 := HSL.out; rw [List.drop_zero]; omega), Z_ ⟨Nat.le_refl _, Nat.le_refl _⟩, Z_ (fun s g h => by cases h)⟩
    clear HMS HFA0 HTM HPA hdc
    case round =>
     obtain ⟨q, at_, Kn, B, v2, v3, v5, bod, fac, pa, pc, pn, hq, rfl, rfl, HPN, HTQ, HMS, HFA, HAP, HPA, HZ, HBL, HKG⟩ := hrel; by_cases hlt : q < N
     ·have hqi : (q : Int) < (N : Int) := by omega
      have hqd : decide ((q : Int) < (N : Int)) = true := by simpa using hqi
      have hql : q < lx.length := by rw [HNN.out]; exact hlt
      obtain ⟨b, o, rfl, hb, uv, hu, hus, hcl⟩ := HI.out q hql; rw [hide_size] at hb; obtain ⟨hyi, hyk, hyp⟩ := HOKK.out lx[q] (List.getElem_mem hql); have hyt := HKY.out lx[q] (List.getElem_mem hql); have hT := HTQ.out; have hpa := HPA.out; have hZ := HZ.out; have hPN := HPN.out; rw [List.drop_eq_getElem_cons hql] at hT hpa hZ hPN; simp only [szL] at hZ; generalize lx[q] = y at hu hyi hyk hyp hyt hT hpa hZ hPN; have HU := Z_ hu; have hE := HMS.out.ext; obtain ⟨k1, t1, m1, l1⟩ := y; rw [ndAt_mk] at hu; obtain ⟨a1', c1', rfl, -, -, hts, -⟩ := hu; obtain ⟨N1, hN1⟩ : ∃ N1, l1.length = N1 := ⟨_, rfl⟩; rw [hN1] at hcl HU; have hl1s := len_szL l1; have HN1 := Z_ hN1; have HYI := Z_ hyi; have HYP := Z_ hyp; have q0 : wr.cell? ⟨b, o + q * 4, none⟩ = some (.int .i64 k1) := (hE.cell (p := ⟨b, o + q * 4, none⟩) hb id).trans ((keeps_bare _ W2).2 _ _ ((hcl 0 (by decide)).trans rfl))
      have q1 : wr.cell? ⟨b, o + q * 4 + 1, none⟩ = some (.string t1) := (hE.cell (p := ⟨b, o + q * 4 + 1, none⟩) hb id).trans ((keeps_bare _ W2).2 _ _ ((hcl 1 (by decide)).trans rfl)); have q2 : wr.cell? ⟨b, o + q * 4 + 2, none⟩ = some (.int .i64 m1) := (hE.cell (p := ⟨b, o + q * 4 + 2, none⟩) hb id).trans ((keeps_bare _ W2).2 _ _ ((hcl 2 (by decide)).trans rfl)); have q3 : wr.cell? ⟨b, o + q * 4 + 3, none⟩ = some (.slice a1' N1 c1') := (hE.cell (p := ⟨b, o + q * 4 + 3, none⟩) hb id).trans ((keeps_bare _ W2).2 _ _ ((hcl 3 (by decide)).trans rfl)); obtain ⟨Kd, hKd⟩ : ∃ Kd, wr.heap.size = Kd := ⟨_, rfl⟩; have HK := Z_ (show Blk (wr.alloc (.cells #[.int .i64 k1, .string t1, .int .i64 m1, .slice a1' N1 c1'] 24)) Kd #[.int .i64 k1, .string t1, .int .i64 m1, .slice a1' N1 c1'] 24 by rw [← hKd]; exact Blk.made wr _ _); have hCK : C + 1 ≤ Kd := by rw [← hKd]; exact HMS.out.hu
      have hEX := (Chg.refl (fun _ => False) wr).alloc (.cells #[.int .i64 k1, .string t1, .int .i64 m1, .slice a1' N1 c1'] 24); have HM5 := Z_ (HMS.out.extend hEX); have HF5 := Z_ (HFA.out.chg ofa_keeps hEX (fun _ e => e.elim)); have HT2 := Z_ hT; have HPA2 := Z_ hpa; have HZ2 := Z_ hZ; have HPN2 := Z_ hPN; have HTS := Z_ hts; have hks : k1 = 2 ∨ k1 = 3 ∨ k1 = 4 := hyk; clear hT hpa hZ hPN hts hcl hus hyi hyk hyp hyt hE HMS HFA HTQ HPA HZ HPN hN1 hEX; go_upto_region 19 with (fail)
      try rw [hKd]
      generalize wr.alloc (.cells #[.int .i64 k1, .string t1, .int .i64 m1, .slice a1' N1 c1'] 24) = u5 at *; clear q0 q1 q2 q3 hKd; have hkc := HK.out.cell; have hne1 : C ≠ Kd := by omega
      rcases hks with rfl | rfl | rfl
      ·have hT3 := HT2.out
       rw [mod_imp, procs_cons, if_neg (show ¬ (Nd.mk 2 t1 m1 l1).kd = 4 from (by decide : ¬ ((2 : Int) = 4)))] at hT3; have hpa3 := HPA2.out; have hpn3 := HPN2.out; rw [procs_cons, if_neg (show ¬ (Nd.mk 2 t1 m1 l1).kd = 4 from (by decide : ¬ ((2 : Int) = 4)))] at hpa3 hpn3; have HPN3 := Z_ hpn3; have HT3 := Z_ hT3; have HPA3 := Z_ hpa3; have hz1 := HZ2.out; have hzz : 1 ≤ szF (Nd.mk 2 t1 m1 l1) := by simp only [szF]; omega
       clear hT3 hpa3 hpn3 HT2 HPA2 HPN2; go_wp2_with fail
       refine (next_gen HM5.out.c (by omega) (by omega)).mono ?_
       rintro e w2 ⟨rfl, hC2, hB2⟩; have HM6 := Z_ (HM5.out.turnC hC2 hB2); have HK6 := Z_ (HK.out.chg hC2 (by omega)); have HF6 := Z_ (HF5.out.chg ofa_keeps hC2 (fun i e => by omega)); clear hC2 hB2 HM5 HK HF5; obtain ⟨vf, hlook, hvf⟩ := (HM2.out.chg HM6.out.ext id).look (Nat.le_trans HTS.out (by decide)); have hkc := HK6.out.cell; cases hkn : knownF G t1 with
       | none =>
        rw [hkn] at hlook hvf; obtain ⟨a2', m2, c2', d2, rfl, -⟩ := hvf; have HTB := Z_ (show (.bad 4 at_ : Rz (Nd × List (ByteArray × FFace) × List (FProc × Tr))) = T by have h := HT3.out; rw [hkn] at h; have h2 := HT4.out; rw [← h] at h2; exact h2); have HPB := Z_ (show ((at_ : Nat) : Int) = PP by have h := HT3.out; rw [hkn] at h; have h2 := HP4.out; rw [← h] at h2; exact h2); go_wp2_with fail
        refine (must_no 4 (at_ : Nat) _).mono ?_
        rintro e w3 ⟨rfl, rfl⟩; have hEu := HM6.out.ext.alloc (.cells #[.string noFace.modn, .slice a2' noFace.vars.length m2, .slice c2' noFace.procs.length d2] 37); have hRu := HR2.out.ext hEu; have hFu := HF2.out.ext hEu; have hXu := HX2.out.ext hEu; go_wp2_with fail
        refine leaves_cons (f := 107) (args := #[.pointer (some ⟨R, 0, none⟩), .pointer (some ⟨F, 0, none⟩)]) (by simp) (by simp [go_sem]) ?_
        refine (chkr.catch_look R F _ _ _ 4 (at_ : Nat) _ hRu hFu (by have := HRF.out; omega)).mono ?_
        rintro e u' w'' ⟨rfl, rfl, hRz, hFz, hCz⟩; exact ⟨_, results_pc rfl _ _ rfl hRz Tryz.underlying119 rfl rfl hFz Tryz.underlying27 rfl (by kernel_rfl), hXu.trans hCz (fun i hi e => by have := HRF.out; omega), by rw [← HTB.out, ← HPB.out]; exact ⟨_, rfl⟩⟩
       | some g =>
        rw [hkn] at hlook hvf; replace hvf : FaceAt W2 g vf := hvf; have HFV := Z_ hvf; obtain ⟨a2', m2, c2', d2, rfl, -⟩ := hvf; have HT6 := Z_ (show modF_ OWN G (lx.drop (q + 1)) (Kn ++ [(t1, g)]) (procsF (lx.drop (q + 1))) B (at_ + 1) = TM by have h := HT3.out; rw [hkn] at h; exact h)
        have hkx : knownF Kn t1 = none ∨ knownF Kn t1 = some g := by
         cases hq : knownF Kn t1 with
         | none => exact .inl rfl
         | some g2 => right; have := HKG.out _ _ hq; rw [hkn] at this; exact this.symm
        have HKX := Z_ hkx; have HKN := Z_ hkn; obtain ⟨X17, hX17⟩ : ∃ X, w2.heap.size = X := ⟨_, rfl⟩; have HX17 := Z_ (show Blk (w2.alloc (.cells #[.string g.modn, .slice a2' g.vars.length m2, .slice c2' g.procs.length d2] 37)) X17 #[.string g.modn, .slice a2' g.vars.length m2, .slice c2' g.procs.length d2] 37 by rw [← hX17]; exact Blk.made w2 _ _); have hCX : C < X17 := by rw [← hX17]; exact HM6.out.c.lt
        have hex := (Chg.refl (fun _ => False) w2).alloc (.cells #[.string g.modn, .slice a2' g.vars.length m2, .slice c2' g.procs.length d2] 37); have HXFF := Z_ (show ∀ i, fac.ownBlock = some i → i < X17 from fun i e => by rw [← hX17]; exact (grow_own HF6.out i e).2); have HM7 := Z_ (HM6.out.extend hex); have HK7 := Z_ (HK6.out.ext hex); have HF7 := Z_ (HF6.out.chg ofa_keeps hex (fun _ e => e.elim)); clear hex hkx hkn HM6 HK6 HF6 HT3; go_upto_region 25 with (fail)
        try rw [hX17]
        generalize w2.alloc (.cells #[.string g.modn, .slice a2' g.vars.length m2, .slice c2' g.procs.length d2] 37) = u6 at *; clear hX17 hlook hkc; go_wp2_with fail
        refine (must_yes 4 (at_ : Nat) _).mono ?_
        rintro e w3 ⟨rfl, rfl⟩; have hkc := HK7.out.cell; have hxc := HX17.out.cell; have hcc := HM7.out.c.cell; go_upto_region 26 with (fail)
        go_still_tail 7, (by kernel_rfl)
        have HM8 := Z_ (HM7.out.extend (Chg.refl _ w3).drew); have HK8 := Z_ (HK7.out.drew); have HX8 := Z_ (HX17.out.drew); have HF8 := Z_ (HF7.out.chg ofa_keeps (Chg.refl (fun _ => False) w3).drew (fun _ e => e.elim)); clear hkc hxc hcc HM7 HK7 HX17 HF7; change wpList _ _ _ _ _ w3.drew
        generalize w3.drew = u7 at *; obtain ⟨nk, hnk, hkm⟩ := HM8.out.k; obtain ⟨u8', hput, hM9, hg9⟩ := hkm.put HFV.out HKX.out (Nat.le_trans HTS.out (by decide)) (by have := HBL.out.2; have : nk ≤ Kn.length := hnk; unfold maxLen; omega); have hC9 := grown_at hg9; have HM9 := Z_ (HM8.out.put hg9 hM9 (by rw [List.length_append, List.length_singleton]; have : nk ≤ Kn.length := hnk; omega)); have HX9 := Z_ (HX8.out.chg hC9 (by omega)); have HF9 := Z_ (HF8.out.chg ofa_keeps hC9 (fun i e => by omega)); clear hkm hM9 hg9 hC9 HM8 HK8 HX8 HF8 hnk; go_upto_region 27 with (fail)
        obtain ⟨fa', fcp, hfac, hr1, hr2⟩ := grow_slice HF9.out; obtain ⟨nf, hnf⟩ : ∃ nf, Kn.length = nf := ⟨_, rfl⟩; rw [hnf] at hfac hr1; have HNF := Z_ hnf; subst hfac; have HOB := Z_ (fun i e => grow_own HF9.out i e); clear hnf; have HXF := Z_ (show ¬ (Value.slice fa' nf fcp).ownBlock = some X17 from fun e => by have := HXFF.out X17 e; omega); refine wp_region_weave [12, 13, 16] (fun i v _ => v = ([.pointer (some ⟨C, 0, none⟩), .pointer (some ⟨C, 0, none⟩), .pointer (some ⟨C, 0, none⟩), .pointer (some ⟨Mo, 0, none⟩), .pointer (some ⟨C, 0, none⟩), .pointer (some ⟨C, 0, none⟩), .pointer (some ⟨C, 0, none⟩), .pointer (some ⟨Mo, 0, none⟩), .pointer (some ⟨Mo, 0, none⟩), .pointer (some ⟨Mo, 2, none⟩), .slice fa' nf fcp, .agg #[.string g.modn, .slice a2' g.vars.length m2, .slice c2' g.procs.length d2], undef, undef, .pointer (some ⟨Mo, 0, none⟩), .pointer (some ⟨Mo, 2, none⟩), undef] : List Value).getD i undef) (ofp.PushX (fun u9 rN r lq => MF u8' u9 C Mo D (C + 1) X17 #[.pointer (some ⟨Mo, 0, none⟩), .map (some Kb), v2, v3, .int .i64 ((at_ : Int) + 1), v5, .pointer none] bod (.slice fa' nf fcp) #[.string g.modn, .slice a2' g.vars.length m2, .slice c2' g.procs.length d2] rN r lq) (fun _ => false) OFa (C + 1) 37 (.slice fa' nf fcp) Kn (t1, g) (.agg #[.string g.modn, .slice a2' g.vars.length m2, .slice c2' g.procs.length d2])) (fun _ _ => True) (frame := ?fraf) (fun x => ?hfaf) synw.mixed (by kernel_rfl) (by kernel_rfl) (fun _ _ _ _ h _ => h) ?h0f ?stf ?finf
        case hfaf =>
         simp only [chain.frameOf, chain.fill, chain.setOpt, chain.dstOf, List.size_toArray, List.length_cons, List.length_nil, List.getElem?_toArray, List.getElem?_cons_succ, List.getElem?_cons_zero, List.setIfInBounds_toArray, List.set_cons_succ, List.set_cons_zero]; exact rfl
        case h0f => exact ⟨⟨(Chg.refl _ _).drew, HM9.out.c.drew, HM9.out.mo.drew, growx_chg (grow_x HF9.out ofa_any (fun _ => false)) ofa_keeps (Chg.refl (fun _ => False) u8').drew (fun i e => e.elim) (fun i e e2 => e2.elim) (fun i e => by cases e), fun i e => .inl e, HX9.out.drew⟩, _, _, _, rfl⟩
        case stf =>
         refine AllFrom.cons (fun x vs u hF hm hb hd K' hK' => ?sf0) (AllFrom.cons (fun x vs u hF hm hb hd K' hK' => ?sf1) (AllFrom.cons (fun x vs u hF hm hb hd K' hK' => ?sf2) (AllFrom.cons (fun x vs u hF hm hb hd K' hK' => ?sf3) (AllFrom.cons (fun x vs u hF hm hb hd K' hK' => ?sf4) (AllFrom.cons (fun x vs u hF hm hb hd K' hK' => ?sf5) (AllFrom.cons (fun x vs u hF hm hb hd K' hK' => ?sf6) (AllFrom.cons (fun x vs u hF hm hb hd K' hK' => ?sf7) (AllFrom.cons (fun x vs u hF hm hb hd K' hK' => ?sf8) (AllFrom.cons (fun x vs u hF hm hb hd K' hK' => ?sf9) (AllFrom.cons (fun x vs u hF hm hb hd K' hK' => ?sf10) (AllFrom.cons (fun x vs u hF hm hb hd K' hK' => ?sf11) (AllFrom.cons (fun x vs u hF hm hb hd K' hK' => ?sf12) (AllFrom.cons (fun x vs u hF hm hb hd K' hK' => ?sf13) (AllFrom.cons (fun x vs u hF hm hb hd K' hK' => ?sf14) (AllFrom.cons (fun x vs u hF hm hb hd K' hK' => ?sf15) (AllFrom.cons (fun x vs u hF hm hb hd K' hK' => ?sf16) (AllFrom.nil)))))))))))))))))
         case sf0 =>
          have HF := Z_ hF; clear hd hm hb hF; go_simp; exact hK'.out _ _ _ (rfl) trivial ⟨rfl, HF.out⟩
         case sf1 =>
          have y0 := hd 0 (by decide) (by kernel_rfl); replace y0 : x 107 = .pointer (some ⟨C, 0, none⟩) := y0; have HF := Z_ hF; clear hd hm hb hF; go_simp; exact hK'.out _ _ _ (by simp only [y0]; rfl) trivial ⟨rfl, HF.out⟩
         case sf2 =>
          have y0 := hd 1 (by decide) (by kernel_rfl); replace y0 : x 108 = .pointer (some ⟨C, 0, none⟩) := y0; have HF := Z_ hF; clear hd hm hb hF; go_simp; exact hK'.out _ _ _ (by simp only [y0]; rfl) trivial ⟨rfl, HF.out⟩
         case sf3 =>
          obtain ⟨_, _, _, hBB⟩ := ofp.PushX.any hF; have hq := hBB.2.1.cell; clear hBB; have y0 := hd 2 (by decide) (by kernel_rfl); replace y0 : x 109 = .pointer (some ⟨C, 0, none⟩) := y0; have HF := Z_ hF; clear hd hm hb hF; go_simp; exact hK'.out _ _ _ (by simp only [y0]; rfl) trivial ⟨rfl, HF.out⟩
         case sf4 =>
          have HF := Z_ hF; clear hd hm hb hF; go_simp; exact hK'.out _ _ _ (rfl) trivial ⟨rfl, HF.out⟩
         case sf5 =>
          have y0 := hd 4 (by decide) (by kernel_rfl); replace y0 : x 111 = .pointer (some ⟨C, 0, none⟩) := y0; have HF := Z_ hF; clear hd hm hb hF; go_simp; exact hK'.out _ _ _ (by simp only [y0]; rfl) trivial ⟨rfl, HF.out⟩
         case sf6 =>
          have y0 := hd 5 (by decide) (by kernel_rfl); replace y0 : x 112 = .pointer (some ⟨C, 0, none⟩) := y0; have HF := Z_ hF; clear hd hm hb hF; go_simp; exact hK'.out _ _ _ (by simp only [y0]; rfl) trivial ⟨rfl, HF.out⟩
         case sf7 =>
          obtain ⟨_, _, _, hBB⟩ := ofp.PushX.any hF; have hq := hBB.2.1.cell; clear hBB; have y0 := hd 6 (by decide) (by kernel_rfl); replace y0 : x 113 = .pointer (some ⟨C, 0, none⟩) := y0; have HF := Z_ hF; clear hd hm hb hF; go_simp; exact hK'.out _ _ _ (by simp only [y0]; rfl) trivial ⟨rfl, HF.out⟩
         case sf8 =>
          have y0 := hd 7 (by decide) (by kernel_rfl); replace y0 : x 114 = .pointer (some ⟨Mo, 0, none⟩) := y0; have HF := Z_ hF; clear hd hm hb hF; go_simp; exact hK'.out _ _ _ (by simp only [y0]; rfl) trivial ⟨rfl, HF.out⟩
         case sf9 =>
          have y0 := hd 8 (by decide) (by kernel_rfl); replace y0 : x 115 = .pointer (some ⟨Mo, 0, none⟩) := y0; have HF := Z_ hF; clear hd hm hb hF; go_simp; exact hK'.out _ _ _ (by simp only [y0]; rfl) trivial ⟨rfl, HF.out⟩
         case sf10 =>
          have hBB := ofp.PushX.B hF (by have := hb 1 _ (by decide) rfl (by kernel_rfl); omega); have hq := hBB.2.2.1.cell; clear hBB; have y0 := hd 9 (by decide) (by kernel_rfl); replace y0 : x 116 = .pointer (some ⟨Mo, 2, none⟩) := y0; have HF := Z_ hF; clear hd hm hb hF; go_simp; exact hK'.out _ _ _ (by simp only [y0]; rfl) trivial ⟨rfl, HF.out⟩
         case sf11 =>
          obtain ⟨_, _, _, hBB⟩ := ofp.PushX.any hF; have hq := hBB.2.2.2.2.2.cell; clear hBB; have HF := Z_ hF; clear hd hm hb hF; go_simp; exact hK'.out _ _ _ (rfl) trivial ⟨rfl, HF.out⟩
         case sf12 =>
          obtain rfl := List.eq_nil_of_length_eq_zero (hm 0 (by kernel_rfl)); have y0 := hd 11 (by decide) (by kernel_rfl); replace y0 : x 118 = .agg #[.string g.modn, .slice a2' g.vars.length m2, .slice c2' g.procs.length d2] := y0; have hBB := hF.1; have HG := Z_ (ofp.growx_own (hBB.2.2.2.1)); have HF := Z_ hF; clear hd hm hb hF hBB; go_simp; exact hK'.out _ _ _ (by simp only [y0]; rfl) trivial ((ofp.pushx_slice chk.ofa_keeps (fun u' hE => ⟨HF.out.1.1.ext hE, HF.out.1.2.1.ext hE, HF.out.1.2.2.1.ext hE, growx_chg HF.out.1.2.2.2.1 ofa_keeps hE (fun i e => e.elim) (fun i e e2 => e2.elim) (fun i e => by cases e), HF.out.1.2.2.2.2.1, HF.out.1.2.2.2.2.2.ext hE⟩) (fun i e => (HG.out i e).2) HF.out rfl))
         case sf13 =>
          obtain ⟨v0, rfl⟩ : ∃ v0, vs = [v0] := by match vs, hm 1 (by kernel_rfl) with | [v0], _ => exact ⟨_, rfl⟩
          have y0 := hd 10 (by decide) (by kernel_rfl); replace y0 : x 117 = .slice fa' nf fcp := y0; have y1 := hd 12 (by decide) (by kernel_rfl) 119 (by kernel_rfl); replace y1 : x 119 = v0 := y1; have hF2 := hF; obtain ⟨hBB, hxx, gg, rfl, hgb, hgr⟩ := hF2; obtain ⟨us, hu1, ho, hu3⟩ := (hBB.2.2.2.1).ex; obtain ⟨i0_, hi_, hz0, hz1, hz2⟩ := synw.info_split ofp.info_face; have hbz : (C + 1) ≤ u.heap.size := by have h1 := hBB.2.2.2.2.2.lt; omega
          refine wp_append_lies _ _ _ 33 rfl ((C + 1)) 37 i0_ (.agg #[.string ⟨#[]⟩, .slice none 0 0, .slice none 0 0]) 3 64 Tryz.underlying33 hi_ hz0 hz1 hz2 rfl (by decide) (.slice fa' nf fcp) Kn.length (us.flatMap fun u => u.cells.toList) y0 ho ⟨gg, 0, none⟩ 1 1 [.string g.modn, .slice a2' g.vars.length m2, .slice c2' g.procs.length d2] y1 rfl ?_ (by intro z_ hz_; simp only [List.mem_cons, List.not_mem_nil, or_false] at hz_; rcases hz_ with rfl | rfl | rfl <;> rfl) (by decide) (by unfold maxLen; have := HBL.out; have := HNF.out; omega) (by have := HBL.out; have := HNF.out; omega) hbz u.heap.size rfl ?_
          ·intro j q hj; have e : (⟨gg, 0, none⟩ : Addr).add j = ⟨gg, j, none⟩ := (by unfold Addr.add; split <;> simp_all); rw [e, hgb.cell]; simpa [Value.cells] using hj
          ·intro g9 c9 w9 ho9 hg9 ha9 hl9
           exact hK'.out _ _ _ rfl trivial ((ofp.pushx_append chk.ofa_keeps hF hu1 hu3 rfl (fun r acc1 hG hC ha => ⟨hBB.1.trans hC (fun i hi e => .inr e), hBB.2.1.chg hC (fun e => by have := HOB.out _ e; omega), hBB.2.2.1.chg hC (fun e => by have := HOB.out _ e; have := HM9.out.mB; omega), hG, fun i e => by rcases ha i e with h9 | h9; exact .inl h9; exact .inr (by have := hBB.1.size; omega), hBB.2.2.2.2.2.chg hC (fun e => HXF.out e)⟩) ho9 hg9 ha9))
         case sf14 =>
          have y0 := hd 3 (by decide) (by kernel_rfl); replace y0 : x 110 = .pointer (some ⟨Mo, 0, none⟩) := y0; have HF := Z_ hF; clear hd hm hb hF; go_simp; exact hK'.out _ _ _ (by simp only [y0]; rfl) trivial ⟨rfl, HF.out⟩
         case sf15 =>
          have y0 := hd 14 (by decide) (by kernel_rfl); replace y0 : x 121 = .pointer (some ⟨Mo, 0, none⟩) := y0; have HF := Z_ hF; clear hd hm hb hF; go_simp; exact hK'.out _ _ _ (by simp only [y0]; rfl) trivial ⟨rfl, HF.out⟩
         case sf16 =>
          obtain ⟨v0, v1, rfl⟩ : ∃ v0 v1, vs = [v0, v1] := by match vs, hm 2 (by kernel_rfl) with | [v0, v1], _ => exact ⟨_, _, rfl⟩
          have y0 := hd 15 (by decide) (by kernel_rfl); replace y0 : x 122 = .pointer (some ⟨Mo, 2, none⟩) := y0; have y1 := hd 13 (by decide) (by kernel_rfl) 120 (by kernel_rfl); replace y1 : x 120 = v1 := y1; have hF2 := hF; obtain ⟨hBB, gg, cc, rfl⟩ := hF2; have hq := hBB.2.2.1.cell; have hqf := hBB.2.2.1.frozen; have hql := hBB.2.2.1.lt; have HF := Z_ hF; clear hd hm hb hF hBB; go_simp; exact hK'.out _ _ undef (by simp only [y0, y1]; rfl) trivial ((ofp.pushx_store (z := undef) HF.out (fun h => ⟨h.1.setCell (p := ⟨Mo, 2, none⟩) (fun _ => .inl rfl) _, h.2.1.setOther (p := ⟨Mo, 2, none⟩) (by have := HM9.out.cM; exact this) _, h.2.2.1.set 2 _, growx_chg h.2.2.2.1 ofa_keeps (chg_set (S := Mo) (Chg.refl _ _) 2 _) (fun i e => .inl (by have := HM9.out.mB; omega)) (fun i e e2 => by have := growx_own h.2.2.2.1 i e; have := HM9.out.mB; omega) (fun i e => by cases e), h.2.2.2.2.1, h.2.2.2.2.2.setOther (p := ⟨Mo, 2, none⟩) (by have := HM9.out.mB; show X17 ≠ Mo; omega) _⟩)))
        case finf =>
         intro x9 vs9 w9 hl hF hk9; obtain ⟨v0, v1', v2', rfl⟩ : ∃ v0 v1 v2, vs9 = [v0, v1, v2] := by match vs9, hl with | [v0, v1, v2], _ => exact ⟨_, _, _, rfl⟩
         clear hk9 hl; obtain ⟨hC9, hc9, hm9, hg9, ho9, -⟩ := (show MF _ _ _ _ _ _ _ _ _ _ _ _ _ _ from hF); have HMA := Z_ (HM9.out.faces (fun i e => (HOB.out i e).1) HAP.out hC9 hm9); have HFB := Z_ (growx_x hg9); have HAB := Z_ (show ∀ i, v1'.ownBlock = some i → bod.ownBlock ≠ some i from fun i e e2 => by rcases ho9 i e with h | h; exact HAP.out i h e2; have := (grow_own HM9.out.row i e2).2; omega); clear hC9 hc9 hm9 hg9 ho9 hF; go_wp2_with fail
         go_roundw
         case rel => exact ⟨q + 1, at_ + 1, Kn ++ [(t1, g)], B, v2, v3, v5, bod, _, pa, pc, pn, by omega, rfl, by go_num, HPN3, HT6, by rw [show (((at_ + 1 : Nat)) : Int) = (at_ : Int) + 1 by omega]; exact HMA, HFB, HAB, HPA3, Z_ (by have := HZ2.out; omega), Z_ (by have := HBL.out; rw [List.length_append, List.length_singleton]; omega), Z_ (known_sub HKG.out HKN.out)⟩
         case measure => simp [intOf]; omega
      ·have hT3 := HT2.out
       rw [mod_var, procs_cons, if_neg (show ¬ (Nd.mk 3 t1 m1 l1).kd = 4 from (by decide : ¬ ((3 : Int) = 4))), HN1.out] at hT3; have hpa3 := HPA2.out; have hpn3 := HPN2.out; rw [procs_cons, if_neg (show ¬ (Nd.mk 3 t1 m1 l1).kd = 4 from (by decide : ¬ ((3 : Int) = 4)))] at hpa3 hpn3; have HPN3 := Z_ hpn3; have HT3 := Z_ hT3; have HPA3 := Z_ hpa3; have hz1 := HZ2.out; have hzz : 1 + N1 ≤ szF (Nd.mk 3 t1 m1 l1) := by simp only [szF]; rw [← HN1.out]; omega
       have hnn : at_ + (1 + N1) ≤ 1000 := by omega
       clear hT3 hpa3 hpn3 HT2 HPA2 HPN2 hz1 hzz hl1s; have hcc := HM5.out.c.cell; have hcf := HM5.out.c.frozen; have hcl := HM5.out.c.lt; go_upto_region 29 with (fail)
       go_still_tail 11, (by kernel_rfl)
       have HC6 := Z_ (chg_set (S := C) (Chg.refl (fun i => i = C) u5.drew) 4 (.int .i64 ((at_ : Int) + (1 + (N1 : Int))))); have HM6 := Z_ ((HM5.out.extend (Chg.refl _ u5).drew).turnC HC6.out (HM5.out.c.drew.set 4 (.int .i64 ((at_ : Int) + (1 + (N1 : Int)))))); have HF6 := Z_ ((HF5.out.chg ofa_keeps (Chg.refl (fun _ => False) u5).drew (fun _ e => e.elim)).chg ofa_keeps HC6.out (fun i e => by omega)); go_wp2_with fail
       go_roundw
       case rel => exact ⟨q + 1, at_ + (1 + N1), Kn, B, v2, v3, v5, bod, fac, pa, pc, pn, by omega, rfl, by go_num, HPN3, HT3, by rw [show ((at_ + (1 + N1) : Nat) : Int) = (at_ : Int) + (1 + (N1 : Int)) by omega]; exact HM6, HF6, HAP, HPA3, Z_ (by have h1 := HZ2.out; have h2 : 1 + N1 ≤ szF (Nd.mk 3 t1 m1 l1) := (by simp only [szF]; have := len_szL l1; rw [← HN1.out]; omega); omega), Z_ (by have := HBL.out; omega), HKG⟩
       case measure => simp [intOf]; omega
      ·have hT3 := HT2.out
       have hpa3 := HPA2.out; have hpn3 := HPN2.out; rw [procs_cons, if_pos (show (Nd.mk 4 t1 m1 l1).kd = 4 from rfl)] at hT3 hpa3 hpn3; rw [mod_proc] at hT3; obtain ⟨pm, rfl⟩ : ∃ pm, pn = pm + 1 := ⟨(procsF (lx.drop (q + 1))).length, hpn3.symm⟩; have HPN3 := Z_ (show (procsF (lx.drop (q + 1))).length = pm from by rw [List.length_cons] at hpn3; omega); obtain ⟨pb, po, rfl, hpb, hpin⟩ := hpa3.1 0 (by simp); have HPA3 := Z_ (And.intro (show AllIn 6 ProcIn W2 (if pc = 1 then some ⟨pb, po, none⟩ else some ⟨pb, po + 6, none⟩) (procsF (lx.drop (q + 1))) from allin_next hpa3.1 hpa3.2) (show (procsF (lx.drop (q + 1))).length ≤ pc - 1 from by have := hpa3.2; rw [List.length_cons] at this; omega)); have hpc1 : pm + 1 ≤ pc := by have := hpa3.2; rw [List.length_cons, HPN3.out] at this; exact this
       obtain ⟨pr, hpr⟩ : ∃ pr, procOf (.mk 4 t1 m1 l1) = pr := ⟨_, rfl⟩; rw [hpr] at hT3; replace hpin : ProcIn W2 pb po pr := by rw [← hpr]; have := hpin; rw [Nat.zero_mul, Nat.add_zero] at this; exact this
       obtain ⟨p0, p1, ⟨pra, prc, p2, -, -, -⟩, p3, p4, p5, -⟩ := hpin; obtain ⟨gv, hgv⟩ : ∃ gv, pr.gives = gv := ⟨_, rfl⟩; obtain ⟨bv, hbv⟩ : ∃ bv, pr.pub = bv := ⟨_, rfl⟩; rw [hgv] at p4; rw [hbv] at p1; have HGV := Z_ hgv; have hE := HM5.out.ext; replace p0 := (hE.cell (p := ⟨pb, po, none⟩) hpb id).trans p0; replace p1 := (hE.cell (p := ⟨pb, po + 1, none⟩) hpb id).trans p1; replace p2 := (hE.cell (p := ⟨pb, po + 2, none⟩) hpb id).trans p2; replace p3 := (hE.cell (p := ⟨pb, po + 3, none⟩) hpb id).trans p3; replace p4 := (hE.cell (p := ⟨pb, po + 4, none⟩) hpb id).trans p4; replace p5 := (hE.cell (p := ⟨pb, po + 5, none⟩) hpb id).trans p5; have HT3 := Z_ hT3; have hpi : (0 : Int) < (pm : Int) + 1 := Int.lt_add_one_of_le (Int.natCast_nonneg pm); clear hT3 hpa3 hpn3 hpr hgv hbv hE hpb HT2 HPA2 HPN2 hl1s; go_upto_region 20 with (fail)
       go_still_tail 5, (by kernel_rfl)
       have HM6 := Z_ (HM5.out.extend (Chg.refl _ u5).drew); have HF6 := Z_ (HF5.out.chg ofa_keeps (Chg.refl (fun _ => False) u5).drew (fun _ e => e.elim)); clear HM5 HF5 HK p0 p1 p2 p3 p4 p5 hkc; change wpList _ _ _ _ _ u5.drew
       generalize u5.drew = u6 at *; have HOF := Z_ (fun i e => grow_own HF6.out i e); have HOB := Z_ (fun i e => grow_own HM6.out.row i e); have HXX := Z_ (HM6.out.ext); have HHC := Z_ (And.intro HM6.out.hC (And.intro HM6.out.hM (And.intro HM6.out.cB HM6.out.mB))); have HBD := Z_ (body_any (H := below Z0) HMV2.out HM6.out (.mk 4 t1 m1 l1) HYI.out rfl _ HU.out (by have := HZ2.out; omega) (HYP.out rfl) pr bv gv HGV.out pra prc (by have := HBL.out; omega)); go_wp2_with fail
       refine HBD.out.mono ?_
       rintro e w6 ⟨hC6, hT6⟩; obtain ⟨RB, hRB⟩ : ∃ RB, bodyF ⟨OWN, Kn⟩ pr (.mk 4 t1 m1 l1) at_ = RB := ⟨_, rfl⟩; have HT5 := HT3.out; rw [hRB] at hT6 HT5; replace HT5 := Z_ HT5; clear HBD HT3 hRB
       have hapt : ∀ i, i < W2.heap.size → ¬ BS C Mo bod i := fun i hi e => by
        have h1 := HHC.out; rcases e with e | e | e
        ·omega
        ·omega
        ·have := HOB.out i e; omega
       cases RB with
       | bad c9 p9 =>
        obtain rfl : e = _ := hT6; have HTB := Z_ (show (.bad c9 p9 : Rz (Nd × List (ByteArray × FFace) × List (FProc × Tr))) = T by have h := HT5.out; have h2 := HT4.out; rw [← h] at h2; exact h2); have HPB := Z_ (show ((p9 : Nat) : Int) = PP by have h := HT5.out; have h2 := HP4.out; rw [← h] at h2; exact h2); have hRu := (HR2.out.ext HXX.out).chg hC6 (hapt R HR2.out.lt); have hFu := (HF2.out.ext HXX.out).chg hC6 (hapt F HF2.out.lt); have hXu := (HX2.out.ext HXX.out).trans hC6 (fun i hi e => hapt i (Nat.lt_of_lt_of_le hi HX2.out.size) e); go_wp2_with fail
        refine leaves_cons (f := 107) (args := #[.pointer (some ⟨R, 0, none⟩), .pointer (some ⟨F, 0, none⟩)]) (by simp) (by simp [go_sem]) ?_
        refine (chkr.catch_look R F _ _ _ c9 ((p9 : Nat) : Int) _ hRu hFu (by have := HRF.out; omega)).mono ?_
        rintro e u' w'' ⟨rfl, rfl, hRz, hFz, hCz⟩; exact ⟨_, results_pc rfl _ _ rfl hRz Tryz.underlying119 rfl rfl hFz Tryz.underlying27 rfl (by kernel_rfl), hXu.trans hCz (fun i hi e => by have := HRF.out; omega), by rw [← HTB.out, ← HPB.out]; exact ⟨_, rfl⟩⟩
       | ok t9 =>
        obtain ⟨rfl, v2', v3', v5', bod', hms, hob⟩ := hT6; have HM7 := Z_ hms
        have HF7 := Z_ (grow_apart HF6.out ofa_any hC6 (fun i e e2 => by
         have h1 := HHC.out; have h2 := HOF.out i e; rcases e2 with e2 | e2 | e2
         ·omega
         ·omega
         ·exact HAP.out i e e2))
        have HA7 := Z_ (show ∀ i, fac.ownBlock = some i → bod'.ownBlock ≠ some i from fun i e e2 => by rcases hob i e2 with h | h; exact HAP.out i e h; have := HOF.out i e; omega); have HT7 := Z_ (show modF_ OWN G (lx.drop (q + 1)) Kn (procsF (lx.drop (q + 1))) (B ++ [(pr, t9)]) (at_ + szF (.mk 4 t1 m1 l1)) = TM from HT5.out); clear hC6 hms hob hapt HT5; go_wp2_with fail
        go_roundw
        case rel => exact ⟨q + 1, at_ + szF (.mk 4 t1 m1 l1), Kn, B ++ [(pr, t9)], v2', v3', v5', bod', fac, (if pc = 1 then some ⟨pb, po, none⟩ else some ⟨pb, po + 6, none⟩), pc - 1, pm, by omega, rfl, by go_num, HPN3, HT7, HM7, HF7, HA7, HPA3, Z_ (by have h1 := HZ2.out; omega), Z_ (by have := HBL.out; rw [List.length_append, List.length_singleton]; omega), HKG⟩
        case measure => simp [intOf]; omega
     ·obtain rfl : q = N := by omega
      have hqd : decide ((q : Int) < (q : Int)) = false := by simp
      have hT := HTQ.out; rw [List.drop_of_length_le (by rw [HNN.out]; exact Nat.le_refl _)] at hT; replace hT : (.ok (Kn, B) : Rz (List (ByteArray × FFace) × List (FProc × Tr))) = TM := hT; have HTB := Z_ (show (.ok (.mk kx tx mx lx, Kn, B) : Rz (Nd × List (ByteArray × FFace) × List (FProc × Tr))) = T by have h2 := HT4.out; rw [← hT] at h2; exact h2); have HXE := Z_ (HMS.out.ext); have HR9 := Z_ (HR2.out.ext HXE.out); have HF9 := Z_ (HF2.out.ext HXE.out); have HCC := Z_ (HMS.out.c); have HMO := Z_ (HMS.out.mo); have HHC := Z_ (And.intro HMS.out.hC HMS.out.hM); have hRlt := HR2.out.lt; have hFlt := HF2.out.lt; clear hT HMS HFA HTQ; go_upto_region 31 with (fail)
      refine wp_region_weave [5, 6] (fun i v _ => v = ([.pointer (some ⟨C, 0, none⟩), .pointer (some ⟨C, 0, none⟩), .pointer (some ⟨C, 0, none⟩), .pointer (some ⟨Mo, 0, none⟩), .agg #[.int .i64 0, .int .i64 0], undef, undef] : List Value).getD i undef) (ResF R F (.pointer none) (.pointer (some ⟨Mo, 0, none⟩)) #[.int .i64 0, .int .i64 0] wr) (fun _ _ => True) (frame := ?frae) (fun x => ?hfae) synw.mixed (by kernel_rfl) (by kernel_rfl) (fun _ _ _ _ h _ => h) ?h0e ?ste ?fine
      case hfae =>
       simp only [chain.frameOf, chain.fill, chain.setOpt, chain.dstOf, List.size_toArray, List.length_cons, List.length_nil, List.getElem?_toArray, List.getElem?_cons_succ, List.getElem?_cons_zero, List.setIfInBounds_toArray, List.set_cons_succ, List.set_cons_zero]; exact rfl
      case h0e => exact ⟨HR9.out.drew, HF9.out.drew, (Chg.refl _ _).drew⟩
      case ste =>
       refine AllFrom.cons (fun x vs u hF hm hb hd K' hK' => ?se0) (AllFrom.cons (fun x vs u hF hm hb hd K' hK' => ?se1) (AllFrom.cons (fun x vs u hF hm hb hd K' hK' => ?se2) (AllFrom.cons (fun x vs u hF hm hb hd K' hK' => ?se3) (AllFrom.cons (fun x vs u hF hm hb hd K' hK' => ?se4) (AllFrom.cons (fun x vs u hF hm hb hd K' hK' => ?se5) (AllFrom.cons (fun x vs u hF hm hb hd K' hK' => ?se6) (AllFrom.nil)))))))
       case se0 =>
        have HF := Z_ hF; clear hd hm hb hF; go_simp; exact hK'.out _ _ _ (rfl) trivial ⟨rfl, HF.out⟩
       case se1 =>
        have y0 := hd 0 (by decide) (by kernel_rfl); replace y0 : x 137 = .pointer (some ⟨C, 0, none⟩) := y0; have HF := Z_ hF; clear hd hm hb hF; go_simp; exact hK'.out _ _ _ (by simp only [y0]; rfl) trivial ⟨rfl, HF.out⟩
       case se2 =>
        have y0 := hd 1 (by decide) (by kernel_rfl); replace y0 : x 138 = .pointer (some ⟨C, 0, none⟩) := y0; have HF := Z_ hF; clear hd hm hb hF; go_simp; exact hK'.out _ _ _ (by simp only [y0]; rfl) trivial ⟨rfl, HF.out⟩
       case se3 =>
        have hq := (HCC.out.chg hF.c (by have := HHC.out.1; omega)).cell; have y0 := hd 2 (by decide) (by kernel_rfl); replace y0 : x 139 = .pointer (some ⟨C, 0, none⟩) := y0; have HF := Z_ hF; clear hd hm hb hF; go_simp; exact hK'.out _ _ _ (by simp only [y0]; rfl) trivial ⟨rfl, HF.out⟩
       case se4 =>
        have hq := hF.f.cell; have HF := Z_ hF; clear hd hm hb hF; go_simp; exact hK'.out _ _ _ (rfl) trivial ⟨rfl, HF.out⟩
       case se5 =>
        obtain rfl := List.eq_nil_of_length_eq_zero (hm 0 (by kernel_rfl)); have y0 := hd 3 (by decide) (by kernel_rfl); replace y0 : x 140 = .pointer (some ⟨Mo, 0, none⟩) := y0; obtain ⟨g1, g2, g3⟩ := (show _ ∧ _ from hF); have hq := g1.cell; have hqf := g1.frozen; have hql := g1.lt; have HG := Z_ (And.intro g1 (And.intro g2 g3)); clear hd hm hb hF g1 g2 g3; go_simp; obtain ⟨g1, g2, g3⟩ := HG.out; have hrf := HRF.out; exact hK'.out _ _ undef (by simp only [y0]; rfl) trivial ⟨g1.set 0 _, g2.setOther (p := ⟨R, 0, none⟩) (by show F ≠ R; omega) _, g3.setCell (p := ⟨R, 0, none⟩) (fun _ => .inl rfl) _⟩
       case se6 =>
        obtain ⟨v0, rfl⟩ : ∃ v0, vs = [v0] := by match vs, hm 1 (by kernel_rfl) with | [v0], _ => exact ⟨_, rfl⟩
        have y0 := hd 4 (by decide) (by kernel_rfl); replace y0 : x 141 = .agg #[.int .i64 0, .int .i64 0] := y0; obtain ⟨g1, g2, g3⟩ := (show _ ∧ _ from hF); have hq := g2.cell; have hqf := g2.frozen; have hql := g2.lt; have HG := Z_ (And.intro g1 (And.intro g2 g3)); clear hd hm hb hF g1 g2 g3; go_simp; obtain ⟨g1, g2, g3⟩ := HG.out; have hrf := HRF.out; exact hK'.out _ _ undef (by simp only [y0]; rfl) trivial ⟨(g1.setOther (p := ⟨F, 0, none⟩) (by show R ≠ F; omega) _).setOther (p := ⟨F, 1, none⟩) (by show R ≠ F; omega) _, (g2.set 0 _).set 1 _, (g3.setCell (p := ⟨F, 0, none⟩) (fun _ => .inr rfl) _).setCell (p := ⟨F, 1, none⟩) (fun _ => .inr rfl) _⟩
      case fine =>
       intro x9 vs9 w9 hl hF hk9; obtain ⟨v0, v1, rfl⟩ : ∃ v0 v1, vs9 = [v0, v1] := by match vs9, hl with | [v0, v1], _ => exact ⟨_, _, rfl⟩
       have HP9 := Z_ (show _ ∧ _ from hF); clear hk9 hl hF; go_wp2_with fail
       refine leaves_cons (f := 107) (args := #[.pointer (some ⟨R, 0, none⟩), .pointer (some ⟨F, 0, none⟩)]) (by simp) (by simp [go_sem]) ?_
       refine (chkr.idle_look R F _).mono ?_
       rintro e u' w'' ⟨rfl, rfl, rfl⟩; have hC9 := HP9.out.2.2; have hDd := ((HD.out.ext HXE.out).chg hC9 (by omega)); refine ⟨_, results_pc rfl _ _ rfl HP9.out.1 Tryz.underlying119 rfl rfl HP9.out.2.1 Tryz.underlying27 rfl (by kernel_rfl), (HX2.out.ext HXE.out).trans hC9 (fun i hi e => by have := HRF.out; omega), ?_⟩
       rw [← HTB.out]; exact ⟨Mo, D, _, _, _, _, _, _, _, _, _, _, _, rfl, HMO.out.chg hC9 (by have := HHC.out.2; omega), hDd, by have hrf := HRF.out; have h1 := ndAt_keeps (keeps_chg (M := below Z0) ((HXE.out.weak fun _ _ e => e.elim).then hC9) fun i _ e => by rcases e with e | e <;> (subst e; simp [below]; omega)) _ _ HND.out; rw [HNN.out] at h1; exact ndAt_keeps (keeps_hide (Nat.le_refl _) fun i hi hm => ⟨by simp [below] at hm ⊢; omega, rfl⟩) _ _ h1⟩
   ·have HTB := Z_ (show (.bad fc fp.toNat : Rz (Nd × List (ByteArray × FFace) × List (FProc × Tr))) = T by have h := HT2.out; rw [if_neg hf0] at h; exact h)
    have HPB := Z_ (show fp = PP by have h := HP2.out; rw [if_neg hf0] at h; exact h); have hcn : (fc != 0) = true := by simpa using hf0
    have HRFN := Z_ (show R < F from HRF.out.2.1); clear HT2 HP2 HGD HOK HPO; go_upto_region 12 with (fail)
    refine wp_region_weave [1, 2] (fun i v _ => v = ([.agg #[.int .i64 fc, .int .i64 fp], undef, undef] : List Value).getD i undef) (ResF R F (.pointer none) (.pointer none) #[.int .i64 fc, .int .i64 fp] W2) (fun _ _ => True) (frame := ?frad) (fun x => ?hfad) synw.mixed (by kernel_rfl) (by kernel_rfl) (fun _ _ _ _ h _ => h) ?h0d ?std ?find
    case hfad =>
     simp only [chain.frameOf, chain.fill, chain.setOpt, chain.dstOf, List.size_toArray, List.length_cons, List.length_nil, List.getElem?_toArray, List.getElem?_cons_succ, List.getElem?_cons_zero, List.setIfInBounds_toArray, List.set_cons_succ, List.set_cons_zero]; exact rfl
    case h0d => exact ⟨HR2.out.drew, HF2.out.drew, (Chg.refl _ _).drew⟩
    case std =>
     refine AllFrom.cons (fun x vs u hF hm hb hd K' hK' => ?sd0) (AllFrom.cons (fun x vs u hF hm hb hd K' hK' => ?sd1) (AllFrom.cons (fun x vs u hF hm hb hd K' hK' => ?sd2) (AllFrom.nil)))
     case sd0 =>
      have hq := hF.f.cell; have HF := Z_ hF; clear hd hm hb hF; go_simp; exact hK'.out _ _ _ (rfl) trivial ⟨rfl, HF.out⟩
     case sd1 =>
      obtain rfl := List.eq_nil_of_length_eq_zero (hm 0 (by kernel_rfl)); obtain ⟨g1, g2, g3⟩ := (show _ ∧ _ from hF); have hq := g1.cell; have hqf := g1.frozen; have hql := g1.lt; have HG := Z_ (And.intro g1 (And.intro g2 g3)); clear hd hm hb hF g1 g2 g3; go_simp; obtain ⟨g1, g2, g3⟩ := HG.out; have hrf := HRF.out; exact hK'.out _ _ undef (rfl) trivial ⟨g1.set 0 _, g2.setOther (p := ⟨R, 0, none⟩) (by show F ≠ R; omega) _, g3.setCell (p := ⟨R, 0, none⟩) (fun _ => .inl rfl) _⟩
     case sd2 =>
      obtain ⟨v0, rfl⟩ : ∃ v0, vs = [v0] := by match vs, hm 1 (by kernel_rfl) with | [v0], _ => exact ⟨_, rfl⟩
      have y0 := hd 0 (by decide) (by kernel_rfl); replace y0 : x 53 = .agg #[.int .i64 fc, .int .i64 fp] := y0; obtain ⟨g1, g2, g3⟩ := (show _ ∧ _ from hF); have hq := g2.cell; have hqf := g2.frozen; have hql := g2.lt; have HG := Z_ (And.intro g1 (And.intro g2 g3)); clear hd hm hb hF g1 g2 g3; go_simp; obtain ⟨g1, g2, g3⟩ := HG.out; have hrf := HRF.out; exact hK'.out _ _ undef (by simp only [y0]; rfl) trivial ⟨(g1.setOther (p := ⟨F, 0, none⟩) (by show R ≠ F; omega) _).setOther (p := ⟨F, 1, none⟩) (by show R ≠ F; omega) _, (g2.set 0 _).set 1 _, (g3.setCell (p := ⟨F, 0, none⟩) (fun _ => .inr rfl) _).setCell (p := ⟨F, 1, none⟩) (fun _ => .inr rfl) _⟩
    case find =>
     intro x9 vs9 w9 hl hF hk9; obtain ⟨v0, v1, rfl⟩ : ∃ v0 v1, vs9 = [v0, v1] := by match vs9, hl with | [v0, v1], _ => exact ⟨_, _, rfl⟩
     have HP9 := Z_ (show _ ∧ _ from hF); clear hk9 hl hF; go_wp2_with fail
     exact ⟨_, results_pc rfl _ _ rfl HP9.out.1 Tryz.underlying119 rfl rfl HP9.out.2.1 Tryz.underlying27 rfl (by kernel_rfl), HX2.out.trans HP9.out.2.2 (fun i hi e => by have := HRF.out; omega), by rw [← HTB.out, ← HPB.out]; exact ⟨_, rfl⟩⟩
end chk
end Go.Proofs.YtpcihajmcejliacGreatDoor
