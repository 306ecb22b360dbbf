/- check.Look. -/
import Derived.Test.YtpcihajmcejliacGreatDoorChkR
import Derived.Test.YtpcihajmcejliacGreatDoorFaceEq
import Derived.Test.YtpcihajmcejliacGreatDoorFaceMay
namespace Go.Proofs.YtpcihajmcejliacGreatDoor
open Go.RowKit
theorem E_ {α : Type} (a : α) : ∃ x, a = x := ⟨_, rfl⟩
namespace chk
open bH fF
def N7 (w:World) (P:Int) (T:Rz (Nd×List (ByteArray×bf)×List (aO×Tr))) (e:Ending) (w':World):Prop:=Ext w w'∧match T with
 | .bad c _=>∃ vp,e=.returned (.tuple #[vp,.agg #[.int .i64 c,.int .i64 P]])
 | .ok r=>∃ Mo D eF fB d0 d1 d2 d3 d4 d5 d6 d7 d8,e=.returned (.tuple #[.pointer (some ⟨Mo,0,none⟩),.agg #[.int .i64 0,.int .i64 0]])∧aJ w' Mo #[.pointer (some ⟨D,0,none⟩),eF,fB] 125∧aJ w' D #[d0,d1,d2,d3,d4,d5,d6,d7,d8] 128∧ij (hide (below w.heap.size) w') r.1 (.agg #[d3,d4,d5,d6])
theorem Q3 {x:Nd} {p:Nat} (h:(qN x p).1=0) (h3:x.kd≠3):x.kids.dropLast.length≤5:=by
 unfold qN at h;rw [if_neg h3] at h;by_cases h5:5<x.kids.dropLast.length
 ·rw [if_pos h5] at h;cases h
 ·omega
theorem Q4 (m:ByteArray):∀ (l:List Nd) (i n:List (List UInt8)) (p:Nat),(jM m l i n p).1=0→∀ x∈l,x.kd≠2→x.kd≠3→x.kids.dropLast.length≤5:=by
 intro l;induction l with
 | nil=>intro i n p _ x hx;cases hx
 | cons y r ih=>
  intro i n p h x hx h2 h3;unfold jM at h;by_cases hy:y.kd=2
  ·rw [if_pos hy] at h
   repeat' split at h
   all_goals first|(cases h;done)|skip
   rcases List.mem_cons.1 hx with rfl|hx
   ·exact absurd hy h2
   ·exact ih _ _ _ h x hx h2 h3
  ·rw [if_neg hy] at h
   split at h
   ·cases h
   split at h
   ·cases h
   split at h
   ·rename_i hd
    rcases List.mem_cons.1 hx with rfl|hx
    ·exact Q3 hd h3
    ·exact ih _ _ _ h x hx h2 h3
   ·rename_i hd
    exact absurd h hd
def N8 (s:ByteArray) (T0:Option (List (ByteArray×bf))):Int:=match T0 with
 | none=>0
 | some G=>if (zF s).2.2.1=0 then (match iR ⟨(aZ s).1.tx,iy (aZ s).1.kids,bh (aZ s).1.kids⟩ G (aZ s).1.kids [] (bh (aZ s).1.kids) [] 1 with
   | .bad _ p=>(p:Nat)
   | .ok _=>0)
  else (zF s).2.2.2
theorem qo (x:Nd) (r:List Nd):bh (x::r)=if x.kd=4 then rO x::bh r else bh r:=by
 unfold bh;rw [List.filter_cons];by_cases h:x.kd=4
 ·rw [if_pos h,if_pos (show mN x=true from by unfold mN;simpa using h)];rfl
 ·rw [if_neg h,if_neg (show ¬ mN x=true from by unfold mN;simpa using h)]
theorem JW {α : Type} {k:Nat} {In:World→Nat→Nat→α→Prop} {w:World} {b o:Nat} {x:α} {l:List α} (h:fN k In w (some ⟨b,o,none⟩) (x::l)):fN k In w (some ⟨b,o+k,none⟩) l:=fun j hj=>by
 obtain⟨b1,o1,e,hb,hi⟩:=h (j+1) (by simp;omega);cases e
 refine⟨b,o+k,rfl,hb,?_⟩
 have e2:o+k+j*k=o+(j+1)*k:=by rw [Nat.add_mul];omega
 rw [e2];exact hi
theorem LL {s:ByteArray} (h:(zF s).2.2.1=0):(aZ s).2.1=0∧(jM (aZ s).1.tx (aZ s).1.kids [] [] 1).1=0∧(zF s).2.2.2=0:=by
 unfold zF at h ⊢;by_cases h1:(aZ s).2.1=0
 ·rw [if_pos h1] at h ⊢
  by_cases h2:(jM (aZ s).1.tx (aZ s).1.kids [] [] 1).1=0
  ·rw [if_pos h2];exact⟨h1,h2,rfl⟩
  ·rw [if_neg h2] at h;exact absurd h h2
 ·rw [if_neg h1] at h;exact absurd h h1
theorem Ap {s:ByteArray} (h:(zF s).2.2.1=0):(∀ y∈(aZ s).1.kids,fC y∧(y.kd=2∨y.kd=3∨y.kd=4)∧(y.kd=4→y.kids.dropLast.length≤5))∧gm (aZ s).1.kids≤499:=by
 obtain⟨h1,h2,-⟩:=LL h;obtain⟨hi,hk1,-,hz⟩:=Bi s h1;have hf:=Q4 _ _ _ _ _ h2;generalize (aZ s).1=x at *;obtain⟨k,t,m,l⟩:=x;obtain rfl:k=1:=hk1;have hfo:=hi.form;refine⟨fun y hy=>⟨hi.kids y hy,?_,fun h4=>hf y hy (by omega) (by omega)⟩,by simp only [dL] at hz;show gm l≤499;omega⟩
 cases hfo with
 | module ht ha hb=>
  rcases List.mem_append.1 hy with hy|hy
  ·exact .inl (ha y hy)
  ·exact .inr (hb y hy)
theorem JX {α : Type} {k:Nat} {In:World→Nat→Nat→α→Prop} {w:World} {b o c:Nat} {x:α} {l:List α} (h:fN k In w (some ⟨b,o,none⟩) (x::l)) (hc:(x::l).length≤c):fN k In w (if c=1 then some ⟨b,o,none⟩ else some ⟨b,o+k,none⟩) l:=by
 rw [List.length_cons] at hc;by_cases e1:c=1
 ·intro j hj;omega
 ·rw [if_neg e1];exact JW h
def N9 (R F:Nat) (a b:Value) (fc:Array Value) (u0:World):List Value→World→Prop
 | [],u=>aJ u R #[a] 119∧aJ u F fc 27∧aB (fun i=>i=R∨i=F) u0 u
 | _::_,u=>aJ u R #[b] 119∧aJ u F fc 27∧aB (fun i=>i=R∨i=F) u0 u
theorem N9.f {R F:Nat} {a b:Value} {fc:Array Value} {u0:World} {vs:List Value} {u:World} (h:N9 R F a b fc u0 vs u):aJ u F fc 27:=by
 match vs,h with
 | [],h=>exact h.2.1
 | _::_,h=>exact h.2.1
theorem N9.c {R F:Nat} {a b:Value} {fc:Array Value} {u0:World} {vs:List Value} {u:World} (h:N9 R F a b fc u0 vs u):aB (fun i=>i=R∨i=F) u0 u:=by
 match vs,h with
 | [],h=>exact h.2.2
 | _::_,h=>exact h.2.2
structure L1 (W u:World) (R F K0:Nat) (n:Nat) (G:List (ByteArray×bf)):Prop where
 ext:Ext W u
 r:aJ u R #[.pointer none] 119
 f:aJ u F #[.int .i64 0,.int .i64 0] 27
 m:uf.sD W u K0 n G
 hR:W.heap.size≤R
 xC:R<F
 P6:F<K0
theorem L1.extend {W u u':World} {R F K0 n:Nat} {G:List (ByteArray×bf)} (h:L1 W u R F K0 n G) (hE:Ext u u'):L1 W u' R F K0 n G:=
 ⟨h.ext.ext hE,h.r.ext hE,h.f.ext hE,h.m.aU hE id,h.hR,h.xC,h.P6⟩
theorem L1.dead {W u:World} {R F K0 n:Nat} {G:List (ByteArray×bf)} (h:L1 W u R F K0 n G):aJ (((u.setCell ⟨R,0,none⟩ (.pointer none)).setCell ⟨F,0,none⟩ (.int .i64 2)).setCell ⟨F,1,none⟩ (.int .i64 0)) R #[.pointer none] 119∧aJ (((u.setCell ⟨R,0,none⟩ (.pointer none)).setCell ⟨F,0,none⟩ (.int .i64 2)).setCell ⟨F,1,none⟩ (.int .i64 0)) F #[.int .i64 2,.int .i64 0] 27∧Ext W (((u.setCell ⟨R,0,none⟩ (.pointer none)).setCell ⟨F,0,none⟩ (.int .i64 2)).setCell ⟨F,1,none⟩ (.int .i64 0)):=by
 have h1:=h.hR;have h2:=h.xC
 exact⟨((h.r.set 0 _).setOther (p:=⟨F,0,none⟩) (by show R≠F;omega) _).setOther (p:=⟨F,1,none⟩) (by show R≠F;omega) _,((h.f.setOther (p:=⟨R,0,none⟩) (by show F≠R;omega) _).set 0 _).set 1 _,((h.ext.bM (p:=⟨R,0,none⟩) (by show W.heap.size≤R;omega) _).bM (p:=⟨F,0,none⟩) (by show W.heap.size≤F;omega) _).bM (p:=⟨F,1,none⟩) (by show W.heap.size≤F;omega) _⟩
theorem L1.put {W u u':World} {R F K0 n:Nat} {G G':List (ByteArray×bf)} (h:L1 W u R F K0 n G) (hg:u.grownBy u' (some K0)) (hm:uf.sD W u' K0 (n+1) G'):L1 W u' R F K0 (n+1) G':=by
 have h1:=h.hR;have h2:=h.xC;have h3:=h.P6
 exact⟨h.ext.trans (kF hg) (fun i hi e=>by omega),h.r.aU (kF hg) (by omega),h.f.aU (kF hg) (by omega),hm,h1,h2,h3⟩
theorem JY (f:bf) (r:List bf) (G:List (ByteArray×bf)):mO (f::r) G=if (dH G f.modn).isSome=true∨sG f=false then none else mO r (G ++ [(f.modn,f)]):=rfl
theorem yU {w:World} {b b':Nat} {c c':Array Value} {T T':TypeId} (h:aJ w b c T) (h':aJ w b' c' T') (hs:c.size≠c'.size):b≠b':=fun e=>by
 subst e;unfold aJ at h h';rw [h] at h';injection h' with h'
 injection h' with h1 h2 h3
 exact hs (by rw [h1])
end chk
namespace fF
theorem N_:(Tryz.prog.info? 37).map (fun i=>(i.zero,i.size,i.bytes))=some (some (.agg #[.string ⟨#[]⟩,.slice none 0 0,.slice none 0 0]),3,64):=by kernel_rfl
end fF
namespace chk
open bH fF
def WX (_:ByteArray×bf) (v:Value) (_:World):Prop:=∃ a b c,v=.agg #[a,b,c]
theorem iW (x:ByteArray×bf) (u:Value) (w w':World) (_:gh w w') (h:WX x u w):WX x u w':=h
theorem LM (x:ByteArray×bf) (u:Value) (w w':World) (h:WX x u w):WX x u w':=h
theorem Bj {α : Type} {k:Nat} {E:TypeId} {V:α→Value→World→Prop} {B:Nat} {w w':World} {v:Value} {l:List α} (h:Grow k E V B w v l) (hV:∀ x u w w',V x u w→V x u w') {S:Nat→Prop} (hC:aB S w w') (hO:∀ i,v.ownBlock=some i→¬ S i):Grow k E V B w' v l:=
 fF.Fa (gZ (X':=fun _=>true) (rM h hV (fun _=>true)) (fun x u w w' _ h=>hV x u w w' h) hC (fun _ _=>.inr rfl) hO (fun _ _=>.inl rfl)) hV
theorem MS.put {W u u':World} {C Mo D K Bm:Nat} {E:eG} {v2 v3 v5:Value} {at_:Int} {eF fB:Value} {dc:Array Value} {bs:List (aO×Tr)} (h:MS W u C Mo D K Bm E v2 v3 v5 at_ eF fB dc bs) {n:Nat} {known:List (ByteArray×bf)} (hg:u.grownBy u' (some K)) (hm:uf.sD W u' K n known) (hn:n≤known.length):MS W u' C Mo D K Bm ⟨E.own,known⟩ v2 v3 v5 at_ eF fB dc bs:=by
 have hC:=kF hg;have h1:=h.hK;have h2:=h.kB;have h3:=h.cK;have h4:=h.mK
 exact⟨h.ext.trans hC (fun i hi e=>by omega),h.c.aU hC h3,h.mo.aU hC h4,h.d,h.own,⟨n,hn,hm⟩,h.row.aU lF hC (fun i e=>by omega),h.hC,h.hM,h1,h.cB,h.mB,h2,h.cM,h3,h4,Nat.le_trans h.hu hC.size⟩
theorem MS.faces {W u u':World} {C Mo D K Bm:Nat} {E:eG} {v2 v3 v5:Value} {at_:Int} {eF fB ad3:Value} {dc:Array Value} {bs:List (aO×Tr)} (h:MS W u C Mo D K Bm E v2 v3 v5 at_ eF fB dc bs) (hB:∀ i,fB.ownBlock=some i→Bm≤i) (hap:∀ i,fB.ownBlock=some i→eF.ownBlock≠some i) (hC:aB (fun i=>i=Mo∨fB.ownBlock=some i) u u') (hm:aJ u' Mo #[.pointer (some ⟨D,0,none⟩),eF,ad3] 125):MS W u' C Mo D K Bm E v2 v3 v5 at_ eF ad3 dc bs:=by
 obtain⟨n,hn,hk⟩:=h.k;have h1:=h.hM;have h2:=h.mB;have h3:=h.cM;have h4:=h.mK;have h5:=h.cB;have h6:=h.kB;have h7:=h.hu;have h8:=h.ext.size
 have hob:=bG h.row;exact⟨h.ext.trans hC (fun i hi e=>by rcases e with e|e;omega;have:=hB i e;omega),h.c.aU hC (fun e=>by rcases e with e|e;exact h3 e;have:=hB _ e;omega),hm,h.d,h.own,⟨n,hn,hk.aU hC (fun e=>by rcases e with e|e;exact h4 e.symm;have:=hB _ e;omega)⟩,Bj h.row LG hC (fun i e e2=>by rcases e2 with e2|e2;have:=hob i e;omega;exact hap i e2 e),h.hC,h1,h.hK,h5,h2,h6,h3,h.cK,h4,Nat.le_trans h7 hC.size⟩
def MF (u0 u:World) (C Mo D Bm UX:Nat) (cc:Array Value) (eF fB:Value) (fc:Array Value) (rN r:Value) (lq:List (ByteArray×bf)):Prop:=
 aB (fun i=>i=Mo∨fB.ownBlock=some i) u0 u∧aJ u C cc 221∧aJ u Mo #[.pointer (some ⟨D,0,none⟩),eF,rN] 125∧lV (fun _=>false) 3 37 WX Bm u r lq∧(∀ i,r.ownBlock=some i→fB.ownBlock=some i∨u0.heap.size≤i)∧aJ u UX fc 37
theorem UY (own:bf) (G K:List (ByteArray×bf)) (ps:List aO) (B:List (aO×Tr)) (a:Nat) (t:ByteArray) (m:Int) (l r:List Nd):iR own G (.mk 2 t m l::r) K ps B a=match dH G t with
 | none=>.bad 4 a
 | some f=>iR own G r (K ++ [(t,f)]) ps B (a+1):=rfl
theorem UZ (own:bf) (G K:List (ByteArray×bf)) (ps:List aO) (B:List (aO×Tr)) (a:Nat) (t:ByteArray) (m:Int) (l r:List Nd):iR own G (.mk 3 t m l::r) K ps B a=iR own G r K ps B (a+(1+l.length)):=by simp [iR,Nd.kd,Nd.kids]
theorem Q5 (own:bf) (G K:List (ByteArray×bf)) (p:aO) (ps:List aO) (B:List (aO×Tr)) (a:Nat) (t:ByteArray) (m:Int) (l r:List Nd):iR own G (.mk 4 t m l::r) K (p::ps) B a=(u_ ⟨own,K⟩ p (.mk 4 t m l) a).bind fun b=>iR own G r K ps (B ++ [(p,b)]) (a+dL (.mk 4 t m l)):=by simp [iR,Nd.kd]
theorem Oa {K G:List (ByteArray×bf)} {t:ByteArray} {f:bf} (h:∀ s g,dH K s=some g→dH G s=some g) (ht:dH G t=some f):∀ s g,dH (K ++ [(t,f)]) s=some g→dH G s=some g:=fun s g hs=>by
 rw [uf.Bc] at hs;cases hq:dH K s with
 | some g2=>rw [hq] at hs;rw [h _ _ hq];exact hs
 | none=>
  rw [hq] at hs;by_cases e:t=s
  ·subst e;rw [if_pos rfl] at hs;rw [ht];exact hs
  ·rw [if_neg e] at hs;cases hs
set_option maxRecDepth 100000 in
set_option maxHeartbeats 32000000 in
theorem Oc (s:ByteArray) (w:World) (l:List bf) (a:Option Addr) (c:Nat) (hs:s.size≤9223372036854775807) (hv:ErrVar w) (hm:dG w) (hl:fN 3 pM w a l) (hlc:l.length≤c) (hcm:c≤maxLen) (hsum:∀ f∈l,f.vars.length+f.procs.length<maxLen) :
  Calls Tryz.prog 53 #[.string s,.slice a l.length c] w (N7 w (N8 s (mO l [])) (eu s l)):=by
 obtain⟨T,hT⟩:=E_ (eu s l);rw [hT];unfold eu at hT;obtain⟨T0,hT0⟩:=E_ (mO l []);rw [hT0] at hT ⊢;obtain⟨PP,hPP⟩:=E_ (N8 s T0);rw [hPP];have HPP:=Z_ hPP;have HT:=Z_ hT;have HT0:=Z_ hT0;obtain⟨n,hn⟩:=E_ l.length;rw [hn] at hlc ⊢;have HN:=Z_ hn;have HI:=Z_ hl;have HS:=Z_ hsum;have HV:=Z_ hv;have rC:=Z_ hm;have qI:=Z_ hs;obtain⟨R,hR⟩:=E_ w.heap.size;obtain⟨F,hF⟩:=E_ (R+1);obtain⟨K0,hK0⟩:=E_ (F+1);have hR0:=((aJ.made w #[.pointer none] 119).alloc (.cells #[.int .i64 0,.int .i64 0] 27)).alloc (.map #[] 0);have oO:=(aJ.made2 w (.cells #[.pointer none] 119) #[.int .i64 0,.int .i64 0] 27).alloc (.map #[] 0)
 have uQ:=(((aB.refl (fun _=>False) w).alloc (.cells #[.pointer none] 119)).alloc (.cells #[.int .i64 0,.int .i64 0] 27)).alloc (.map #[] 0);have Yi:=uf.sD.made w ((w.alloc (.cells #[.pointer none] 119)).alloc (.cells #[.int .i64 0,.int .i64 0] 27));have hz0:((w.alloc (.cells #[.pointer none] 119)).alloc (.cells #[.int .i64 0,.int .i64 0] 27)).heap.size=K0:=by simp;omega
 rw [hR] at hR0 oO;rw [hF] at oO;rw [hz0] at Yi;have HL:=Z_ (show L1 w (((w.alloc (.cells #[.pointer none] 119)).alloc (.cells #[.int .i64 0,.int .i64 0] 27)).alloc (.map #[] 0)) R F K0 0 [] from⟨uQ,hR0,oO,Yi,by omega,by omega,by omega⟩);have hmf:∀ (fn:Fn) (first cap:Array Value) (w:World),(Instr.makeFunc fn first cap).run Tryz.prog w=.ok (.func fn first cap) w:=fun _ _ _ _=>rfl
 have hmk:=@run_makeMap Tryz.prog;clear hT hT0 hPP hn hl hsum hv hm hR0 oO uQ Yi hs;go_enter_defers Tryz.func53,Tryz.ntmps53
 go_upto_region 2 with (fail)
 try rw [hz0]
 try rw [hF]
 clear hz0 hR hF hK0;generalize ((w.alloc (.cells #[.pointer none] 119)).alloc (.cells #[.int .i64 0,.int .i64 0] 27)).alloc (.map #[] 0)=u0 at *;have Uc:n≤9223372036854775807:=by unfold maxLen at hcm;omega
 go_wp2_with fail
 go_loopw [22] (fun i wr=>∃ (j:Nat) (G:List (ByteArray×bf)),j≤n∧i=.int .i64 (j:Nat)∧Hid (mO (l.drop j) G=T0)∧Hid (L1 w wr R F K0 j G)) (fun i _=>n-(intOf i).toNat)
 case atStart=>exact⟨0,[],Nat.zero_le _,rfl,by rw [List.drop_zero];exact HT0,HL⟩
 clear HL HT0
 case round=>
  obtain⟨j,G,hj,rfl,HG,HL⟩:=hrel;by_cases hlt:j<n
  ·have hji:(j:Int)<(n:Int):=by omega
   have hjd:decide ((j:Int)<(n:Int))=true:=by simpa using hji
   have hjl:j<l.length:=by rw [HN.out];exact hlt
   obtain⟨b,o,rfl,hb,hin⟩:=HI.out j hjl;have hG:=HG.out;rw [List.drop_eq_getElem_cons hjl,JY] at hG;have hsm:=HS.out _ (List.getElem_mem hjl);generalize l[j]=y at hin hG hsm;obtain⟨a1,m1,c1,d1,q0,q1,q2,hfa⟩:=hin;have hbw:=Nat.lt_of_lt_of_le hb HL.out.ext.size;replace q0:wr.cell? ⟨b,o+j*3,none⟩=some (.string y.modn):=(HL.out.ext.cell (p:=⟨b,o+j*3,none⟩) hb id).trans q0;replace q1:wr.cell? ⟨b,o+j*3+1,none⟩=some (.slice a1 y.vars.length m1):=(HL.out.ext.cell (p:=⟨b,o+j*3+1,none⟩) hb id).trans q1;replace q2:wr.cell? ⟨b,o+j*3+2,none⟩=some (.slice c1 y.procs.length d1):=(HL.out.ext.cell (p:=⟨b,o+j*3+2,none⟩) hb id).trans q2;have JZ:=Z_ hfa;have hym:y.modn.size≤maxLen:=by obtain⟨_,_,_,_,e,_,_,h,_⟩:=hfa;exact h
   have HY:=Z_ (aJ.made wr #[.string y.modn,.slice a1 y.vars.length m1,.slice c1 y.procs.length d1] 37);have X_:=Z_ (HL.out.extend ((aB.refl (fun _=>False) wr).alloc (.cells #[.string y.modn,.slice a1 y.vars.length m1,.slice c1 y.procs.length d1] 37)));obtain⟨Y,hY⟩:=E_ wr.heap.size;rw [hY] at HY;have WS:=Z_ hsm;have HYM:=Z_ hym;have HG2:=Z_ hG;clear hfa hym hG HG HL hsm hbw;go_upto_region 5 with (fail)
   try rw [hY]
   generalize wr.alloc (.cells #[.string y.modn,.slice a1 y.vars.length m1,.slice c1 y.procs.length d1] 37)=u5 at *;clear q0 q1 q2 hY;obtain⟨vf,hlook,Q7⟩:=X_.out.m.look HYM.out;obtain⟨kb,hkb⟩:=E_ ((dH G y.modn).isSome);rw [hkb] at hlook;have HKB:=Z_ hkb;obtain⟨a2,m2,c2,d2,rfl,-⟩:=Q7;have X5:=HY.out.cell;go_upto_region 6 with (fail)
   have Dh:=Z_ (X_.out.extend ((aB.refl (fun _=>False) u5).alloc (.cells #[.string ((dH G y.modn).getD kC).modn,.slice a2 ((dH G y.modn).getD kC).vars.length m2,.slice c2 ((dH G y.modn).getD kC).procs.length d2] 37)));have HY6:=Z_ (HY.out.alloc (.cells #[.string ((dH G y.modn).getD kC).modn,.slice a2 ((dH G y.modn).getD kC).vars.length m2,.slice c2 ((dH G y.modn).getD kC).procs.length d2] 37));clear X5 hlook X_ HY hkb;generalize u5.alloc (.cells #[.string ((dH G y.modn).getD kC).modn,.slice a2 ((dH G y.modn).getD kC).vars.length m2,.slice c2 ((dH G y.modn).getD kC).procs.length d2] 37)=u6 at *;have X5:=HY6.out.cell;cases kb with
   | true=>
    have hb0:none=T0:=by have h:=HG2.out;rw [if_pos (.inl HKB.out)] at h;exact h
    have vH:=Z_ (show (.bad 2 0:Rz (Nd×List (ByteArray×bf)×List (aO×Tr)))=T by have h:=HT.out;rw [←hb0] at h;exact h);have ug:=Z_ (show (0:Int)=PP by have h:=HPP.out;rw [←hb0] at h;exact h);clear hb0;have GG:=Z_ Dh.out.dead;have hrc:=Dh.out.r.cell;have hrf:=Dh.out.r.frozen;have hrl:=Dh.out.r.lt;have hF1:=Dh.out.f.setOther (p:=⟨R,0,none⟩) (by have:=Dh.out.xC;show F≠R;omega) (.pointer none);have hfc:=hF1.cell;have Yj:=hF1.frozen;have hfl:=hF1.lt;have hF2:=hF1.set 0 (.int .i64 2);have Yk:=hF2.cell;have au2:=hF2.frozen;have au3:=hF2.lt;clear hF1 hF2;go_wp2_with fail
    exact⟨_,iQ rfl _ _ rfl GG.out.1 Tryz.underlying119 rfl rfl GG.out.2.1 Tryz.underlying27 rfl (by kernel_rfl),GG.out.2.2,by rw [←vH.out,←ug.out];exact⟨_,rfl⟩⟩
   | false=>
    have HFW:=Z_ (JZ.out.ext Dh.out.ext);obtain⟨mb,hmb⟩:=E_ (sG y);have HMB:=Z_ hmb;clear hmb;go_wp2_with fail
    refine(face.U0 y _ _ HFW.out WS.out (HV.out.ext Dh.out.ext) (rC.out.ext Dh.out.ext)).mono ?_
    rintro e u7 ⟨rfl,QO⟩;rw [HMB.out];have WY:=Z_ (Dh.out.extend QO);have HY7:=Z_ (HY6.out.ext QO);clear X5 Dh HY6 QO;cases mb with
    | false=>
     have hb0:none=T0:=by have h:=HG2.out;rw [if_pos (.inr HMB.out)] at h;exact h
     have vH:=Z_ (show (.bad 2 0:Rz (Nd×List (ByteArray×bf)×List (aO×Tr)))=T by have h:=HT.out;rw [←hb0] at h;exact h);have ug:=Z_ (show (0:Int)=PP by have h:=HPP.out;rw [←hb0] at h;exact h);clear hb0;have GG:=Z_ WY.out.dead;have hrc:=WY.out.r.cell;have hrf:=WY.out.r.frozen;have hrl:=WY.out.r.lt;have hF1:=WY.out.f.setOther (p:=⟨R,0,none⟩) (by have:=WY.out.xC;show F≠R;omega) (.pointer none);have hfc:=hF1.cell;have Yj:=hF1.frozen;have hfl:=hF1.lt;have hF2:=hF1.set 0 (.int .i64 2);have Yk:=hF2.cell;have au2:=hF2.frozen;have au3:=hF2.lt;clear hF1 hF2;go_wp2_with fail
     exact⟨_,iQ rfl _ _ rfl GG.out.1 Tryz.underlying119 rfl rfl GG.out.2.1 Tryz.underlying27 rfl (by kernel_rfl),GG.out.2.2,by rw [←vH.out,←ug.out];exact⟨_,rfl⟩⟩
    | true=>
     have ZJ:=Z_ (show mO (l.drop (j+1)) (G ++ [(y.modn,y)])=T0 by have h:=HG2.out;rw [if_neg (by rw [HKB.out,HMB.out];decide)] at h;exact h)
     have hkn:dH G y.modn=none:=by have h:=HKB.out;cases hq:dH G y.modn with
      | none=>rfl
      | some z=>rw [hq] at h;cases h
     obtain⟨u8,hput,hM8,hg8⟩:=WY.out.m.put JZ.out (.inl hkn) HYM.out (by have:=HN.out;omega);have HL8:=Z_ (WY.out.put hg8 hM8);have X5:=HY7.out.cell;clear hkn hM8 hg8 HG2;go_wp2_with fail
     go_roundw
     case rel=>exact⟨j+1,_,Nat.succ_le_of_lt hlt,by go_num,ZJ,HL8⟩
     case measure=>simp [intOf];omega
  ·obtain rfl:j=n:=by omega
   have hjd:decide ((j:Int)<(j:Int))=false:=by simp
   have hG0:some G=T0:=by have h:=HG.out;rw [List.drop_of_length_le (by rw [HN.out];exact Nat.le_refl _)] at h;exact h
   have hT2:=HT.out;have uS:=HPP.out;rw [←hG0] at hT2 uS;replace hT2:(if (zF s).2.2.1=0 then (iR ⟨(aZ s).1.tx,iy (aZ s).1.kids,bh (aZ s).1.kids⟩ G (aZ s).1.kids [] (bh (aZ s).1.kids) [] 1).bind fun r=>.ok ((aZ s).1,r) else .bad (zF s).2.2.1 (zF s).2.2.2.toNat)=T:=hT2;replace uS:(if (zF s).2.2.1=0 then (match iR ⟨(aZ s).1.tx,iy (aZ s).1.kids,bh (aZ s).1.kids⟩ G (aZ s).1.kids [] (bh (aZ s).1.kids) [] 1 with
   | .bad _ p=>((p:Nat):Int)
   | .ok _=>0) else (zF s).2.2.2)=PP:=uS
   have Yl:=Z_ (ad4.Q8 s wr qI.out (HV.out.ext HL.out.ext) (rC.out.ext HL.out.ext));have Oe:=Z_ (fun h=>Ap (s:=s) h);have WZ:=Z_ (fun h=>(LL (s:=s) h).2.2);obtain⟨Q,hQ⟩:=E_ (zF s);obtain⟨x,hx⟩:=E_ ((aZ s).1);rw [hQ,hx] at hT2 uS Yl Oe;rw [hQ] at WZ;obtain⟨fa,ia,fc,fp⟩:=Q;replace Oe:=Z_ (show fc=0→_ from Oe.out);replace WZ:=Z_ (show fc=0→fp=0 from WZ.out);have HT2:=Z_ hT2;have HP2:=Z_ uS;have HL9:=Z_ HL.out;clear hT2 uS HT HPP HG hG0 HL hQ hx HI HS;go_wp2_with fail
   refine Yl.out.mono ?_
   rintro e w1 ⟨hE1,vp,rfl,hgood⟩;obtain⟨Z0,hZ0⟩:=E_ wr.heap.size;rw [hZ0] at hgood;have Jg:=Z_ (HL9.out.extend hE1);have HGD:=Z_ (show fc=0→_ from hgood);have J0:=Z_ hE1;have hfc:=Jg.out.f.cell;have Yj:=Jg.out.f.frozen;have hfl:=Jg.out.f.lt;clear hE1 hgood Yl;go_upto_region 11 with (fail)
   have hC2:=aA (aA (S:=F) (aB.refl _ w1) 0 (.int .i64 fc)) 1 (.int .i64 fp);have zE:=Z_ (Jg.out.ext.trans hC2 (fun i hi e=>by have:=Jg.out.hR;have:=Jg.out.xC;omega));have HR2:=Z_ (Jg.out.r.aU hC2 (by have:=Jg.out.xC;omega));have HF2:=Z_ ((Jg.out.f.set 0 (.int .i64 fc)).set 1 (.int .i64 fp));have Dk:=Z_ ((Jg.out.m.aU hC2 (by have:=Jg.out.P6;omega)).base zE.out);have HC2:=Z_ hC2;have Og:=Z_ (show w.heap.size≤R∧R<F∧F<Z0 from⟨Jg.out.hR,Jg.out.xC,by rw [←hZ0];exact HL9.out.f.lt⟩);clear hZ0;have Yk:=HF2.out.cell;clear hC2 hfc Yj hfl;obtain⟨W2,hW2⟩:=E_ ((w1.setCell ⟨F,0,none⟩ (.int .i64 fc)).setCell ⟨F,1,none⟩ (.int .i64 fp));rw [hW2] at zE HR2 HF2 Dk HC2 Yk ⊢;clear hW2;by_cases hf0:fc=0
   ·subst hf0
    obtain rfl:fp=0:=WZ.out rfl;obtain⟨D,a1,c1,a2,c2,a3,c3,d3,d4,d5,d6,d8,rfl,hnd,hcap,hD,hAV,hAP,Ym,hlv,hlp,htx,hky⟩:=HGD.out rfl;obtain⟨hok,hsz⟩:=Oe.out rfl;have HT3:=Z_ (show (iR ⟨x.tx,iy x.kids,bh x.kids⟩ G x.kids [] (bh x.kids) [] 1).bind (fun r=>.ok (x,r))=T from HT2.out)
    have ZR:=Z_ (show (match iR ⟨x.tx,iy x.kids,bh x.kids⟩ G x.kids [] (bh x.kids) [] 1 with
     | .bad _ p=>((p:Nat):Int)
     | .ok _=>0)=PP from HP2.out)
    have hbel:∀ i,i<w1.heap.size→i=F→below Z0 i=true:=fun i _ e=>by subst e;unfold below;rw [decide_eq_true_eq];exact Og.out.2.2
    have hkp:=aN (M:=below Z0) HC2.out hbel
    have hown:kL W2 ⟨x.tx,iy x.kids,bh x.kids⟩ (.agg #[.string x.tx,.slice a1 (iy x.kids).length c1,.slice a2 (bh x.kids).length c2]):=
     ⟨a1,c1,a2,c2,rfl,hAV.keeps (hkp.trans (aC _ _)) fun _ _ _=>og.keeps (hkp.trans (aC _ _)),hAP.keeps (hkp.trans (aC _ _)) fun _ _ _=>jJ.keeps (hkp.trans (aC _ _)),Nat.le_trans htx (by decide),hcap.1,hcap.2.1,hcap.2.2.1,hcap.2.2.2⟩
    have Jh:=Z_ (aQ (aN (M:=below Z0) HC2.out hbel) _ _ hnd);have hDF:=yU hD Jg.out.f (by simp);have hDR:=yU hD Jg.out.r (by simp);have HD:=Z_ (hD.aU HC2.out hDF);have HOWN:=Z_ hown;have au4:=Z_ hok;have Us:=Z_ hsz;have HKY:=Z_ hky;have au5:=Z_ (rC.out.ext zE.out);clear hnd hcap hD hAV hAP Ym hlv hlp htx hky hok hsz hbel hkp hown HT2 HP2 Oe WZ HGD Jg HL9 J0 HC2;go_upto_region 15 with (fail)
    obtain⟨kx,tx,mx,lx⟩:=x;have hnd:=Jh.out;rw [dY] at hnd;obtain⟨a9,c9,e9,hl1,hl2,hl3,hl4⟩:=hnd;cases e9
    obtain⟨N,hN⟩:=E_ lx.length;have hNs:N≤499:=by have h1:=tV lx;have h2:gm lx≤499:=Us.out;omega
    rw [hN] at hl1 HD;have wG:=Z_ hN;have HI:=Z_ hl4;obtain⟨Mo,hMo⟩:=E_ W2.heap.size;obtain⟨Kb,hKb⟩:=E_ (Mo+1);obtain⟨C,hC⟩:=E_ (Kb+1);have hm1:=((aJ.made W2 #[.pointer (some ⟨D,0,none⟩),.slice none 0 0,.slice none 0 0] 125).alloc (.map #[] 0)).alloc (.cells #[.pointer (some ⟨Mo,0,none⟩),.map (some Kb),.slice none 0 0,.int .i64 0,.int .i64 1,.pointer none,.pointer none] 221);have hc1:=aJ.made ((W2.alloc (.cells #[.pointer (some ⟨D,0,none⟩),.slice none 0 0,.slice none 0 0] 125)).alloc (.map #[] 0)) #[.pointer (some ⟨Mo,0,none⟩),.map (some Kb),.slice none 0 0,.int .i64 0,.int .i64 1,.pointer none,.pointer none] 221;have hk1:=(uf.sD.made W2 (W2.alloc (.cells #[.pointer (some ⟨D,0,none⟩),.slice none 0 0,.slice none 0 0] 125))).aU ((aB.refl (fun _=>False) _).alloc (.cells #[.pointer (some ⟨Mo,0,none⟩),.map (some Kb),.slice none 0 0,.int .i64 0,.int .i64 1,.pointer none,.pointer none] 221)) id
    have he1:=(((aB.refl (fun _=>False) W2).alloc (.cells #[.pointer (some ⟨D,0,none⟩),.slice none 0 0,.slice none 0 0] 125)).alloc (.map #[] 0)).alloc (.cells #[.pointer (some ⟨Mo,0,none⟩),.map (some Kb),.slice none 0 0,.int .i64 0,.int .i64 1,.pointer none,.pointer none] 221);have hsz1:(W2.alloc (.cells #[.pointer (some ⟨D,0,none⟩),.slice none 0 0,.slice none 0 0] 125)).heap.size=Kb:=by simp;omega
    have hsz2:((W2.alloc (.cells #[.pointer (some ⟨D,0,none⟩),.slice none 0 0,.slice none 0 0] 125)).alloc (.map #[] 0)).heap.size=C:=by simp;omega
    have hsz3:(((W2.alloc (.cells #[.pointer (some ⟨D,0,none⟩),.slice none 0 0,.slice none 0 0] 125)).alloc (.map #[] 0)).alloc (.cells #[.pointer (some ⟨Mo,0,none⟩),.map (some Kb),.slice none 0 0,.int .i64 0,.int .i64 1,.pointer none,.pointer none] 221)).heap.size=C+1:=by simp;omega
    rw [hMo] at hm1;rw [hsz2] at hc1;rw [hsz1] at hk1
    try rw [hMo]
    try rw [hKb]
    try rw [hC]
    generalize ((W2.alloc (.cells #[.pointer (some ⟨D,0,none⟩),.slice none 0 0,.slice none 0 0] 125)).alloc (.map #[] 0)).alloc (.cells #[.pointer (some ⟨Mo,0,none⟩),.map (some Kb),.slice none 0 0,.int .i64 0,.int .i64 1,.pointer none,.pointer none] 221)=u3 at *;obtain⟨OWN,G7⟩:∃ OWN:bf,(⟨tx,iy lx,bh lx⟩:bf)=OWN:=⟨_,rfl⟩;have Gv:=Z_ (show MS W2 u3 C Mo D Kb (C+1) ⟨OWN,[]⟩ (.slice none 0 0) (.int .i64 0) (.pointer none) 1 (.slice none 0 0) (.slice none 0 0) #[.string tx,.slice a1 (iy lx).length c1,.slice a2 (bh lx).length c2,.int .i64 kx,.string tx,.int .i64 mx,.slice a9 N c9,.slice a3 (iC lx).length c3,d8] [] from⟨he1,hc1,hm1,HD.out,⟨_,_,_,_,_,_,_,_,_,rfl,by rw [←G7];exact HOWN.out⟩,⟨0,Nat.le_refl _,hk1⟩,Grow.nil _ _ _ _ _,by omega,by omega,by omega,by omega,by omega,by omega,by omega,by omega,by omega,by omega⟩)
    have HT4:=Z_ (show (iR OWN G lx [] (bh lx) [] 1).bind (fun r=>.ok ((.mk kx tx mx lx:Nd),r))=T by rw [←G7];exact HT3.out)
    have UD:=Z_ (show (match iR OWN G lx [] (bh lx) [] 1 with
     | .bad _ p=>((p:Nat):Int)
     | .ok _=>0)=PP by rw [←G7];exact ZR.out)
    have HPA:=Z_ (show fN 6 jJ W2 a2 (bh lx)∧(bh lx).length≤c2 from by obtain⟨_,_,_,_,e,_,h,_,_,_,h2,_⟩:=HOWN.out;cases e;exact⟨h,h2⟩);obtain⟨TM,hTM⟩:=E_ (iR OWN G lx [] (bh lx) [] 1);rw [hTM] at HT4 UD;have HTM:=Z_ hTM;have hdc:=(HD.out.ext he1).cell;clear hm1 hc1 hk1 he1 hsz1 hsz2 hsz3 hTM HT3 ZR hl4 hN hMo G7 HOWN hmk hmf;go_upto_region 17 with (fail)
    have ad5:=Z_ (show Grow 3 37 WX (C+1) u3 (.slice none 0 0) [] from Grow.nil _ _ _ _ _);go_loopw [13,72] (fun ps i wr=>∃ (q at_:Nat) (Kn:List (ByteArray×bf)) (B:List (aO×Tr)) (v2 v3 v5 eF fB:Value) (pa:Option Addr) (pc pn:Nat),q≤N∧ps=.slice pa pn pc∧i=.int .i64 (q:Nat)∧Hid ((bh (lx.drop q)).length=pn)∧Hid (iR OWN G (lx.drop q) Kn (bh (lx.drop q)) B at_=TM)∧Hid (MS W2 wr C Mo D Kb (C+1) ⟨OWN,Kn⟩ v2 v3 v5 ((at_:Nat):Int) eF fB #[.string tx,.slice a1 (iy lx).length c1,.slice a2 (bh lx).length c2,.int .i64 kx,.string tx,.int .i64 mx,.slice a9 N c9,.slice a3 (iC lx).length c3,d8] B)∧Hid (Grow 3 37 WX (C+1) wr fB Kn)∧Hid (∀ i,fB.ownBlock=some i→eF.ownBlock≠some i)∧Hid (fN 6 jJ W2 pa (bh (lx.drop q))∧(bh (lx.drop q)).length≤pc)∧Hid (at_+gm (lx.drop q)≤1000)∧Hid (B.length≤q∧Kn.length≤q)∧Hid (∀ s g,dH Kn s=some g→dH G s=some g)) (fun _ i _=>N-(intOf i).toNat)
    case atStart=>exact⟨0,1,[],[],_,_,_,_,_,a2,c2,_,Nat.zero_le _,rfl,rfl,Z_ rfl,HTM,Gv,ad5,Z_ (fun i e=>by cases e),HPA,Z_ (by have h:gm lx≤499:=Us.out;rw [List.drop_zero];omega),Z_ ⟨Nat.le_refl _,Nat.le_refl _⟩,Z_ (fun s g h=>by cases h)⟩
    clear Gv ad5 HTM HPA hdc
    case round=>
     obtain⟨q,at_,Kn,B,v2,v3,v5,eF,fB,pa,pc,pn,hq,rfl,rfl,I_,HTQ,Gv,JZ,HAP,HPA,HZ,Ji,HKG⟩:=hrel;by_cases hlt:q<N
     ·have hqi:(q:Int)<(N:Int):=by omega
      have ZT:decide ((q:Int)<(N:Int))=true:=by simpa using hqi
      have kN:q<lx.length:=by rw [wG.out];exact hlt
      obtain⟨b,o,rfl,hb,uv,hu,hus,hcl⟩:=HI.out q kN;rw [dK] at hb;obtain⟨hyi,hyk,hyp⟩:=au4.out lx[q] (List.getElem_mem kN);have hyt:=HKY.out lx[q] (List.getElem_mem kN);have hT:=HTQ.out;have hpa:=HPA.out;have hZ:=HZ.out;have ZG:=I_.out;rw [List.drop_eq_getElem_cons kN] at hT hpa hZ ZG;simp only [gm] at hZ;generalize lx[q]=y at hu hyi hyk hyp hyt hT hpa hZ ZG;have HU:=Z_ hu;have hE:=Gv.out.ext;obtain⟨k1,t1,m1,l1⟩:=y;rw [dY] at hu;obtain⟨a1',c1',rfl,-,-,hts,-⟩:=hu;obtain⟨N1,hN1⟩:=E_ l1.length;rw [hN1] at hcl HU;have ad6:=tV l1;have Gh:=Z_ hN1;have HYI:=Z_ hyi;have HYP:=Z_ hyp;have q0:wr.cell? ⟨b,o+q*4,none⟩=some (.int .i64 k1):=(hE.cell (p:=⟨b,o+q*4,none⟩) hb id).trans ((aC _ W2).2 _ _ ((hcl 0 (by decide)).trans rfl))
      have q1:wr.cell? ⟨b,o+q*4+1,none⟩=some (.string t1):=(hE.cell (p:=⟨b,o+q*4+1,none⟩) hb id).trans ((aC _ W2).2 _ _ ((hcl 1 (by decide)).trans rfl));have q2:wr.cell? ⟨b,o+q*4+2,none⟩=some (.int .i64 m1):=(hE.cell (p:=⟨b,o+q*4+2,none⟩) hb id).trans ((aC _ W2).2 _ _ ((hcl 2 (by decide)).trans rfl));have q3:wr.cell? ⟨b,o+q*4+3,none⟩=some (.slice a1' N1 c1'):=(hE.cell (p:=⟨b,o+q*4+3,none⟩) hb id).trans ((aC _ W2).2 _ _ ((hcl 3 (by decide)).trans rfl));obtain⟨Kd,hKd⟩:=E_ wr.heap.size;have HK:=Z_ (show aJ (wr.alloc (.cells #[.int .i64 k1,.string t1,.int .i64 m1,.slice a1' N1 c1'] 24)) Kd #[.int .i64 k1,.string t1,.int .i64 m1,.slice a1' N1 c1'] 24 by rw [←hKd];exact aJ.made wr _ _);have hCK:C+1≤Kd:=by rw [←hKd];exact Gv.out.hu
      have hEX:=(aB.refl (fun _=>False) wr).alloc (.cells #[.int .i64 k1,.string t1,.int .i64 m1,.slice a1' N1 c1'] 24);have J3:=Z_ (Gv.out.extend hEX);have LK:=Z_ (JZ.out.aU iW hEX (fun _ e=>e.elim));have HT2:=Z_ hT;have Oh:=Z_ hpa;have ZU:=Z_ hZ;have Oi:=Z_ ZG;have Je:=Z_ hts;have hks:k1=2∨k1=3∨k1=4:=hyk;clear hT hpa hZ ZG hts hcl hus hyi hyk hyp hyt hE Gv JZ HTQ HPA HZ I_ hN1 hEX;go_upto_region 19 with (fail)
      try rw [hKd]
      generalize wr.alloc (.cells #[.int .i64 k1,.string t1,.int .i64 m1,.slice a1' N1 c1'] 24)=u5 at *;clear q0 q1 q2 q3 hKd;have hkc:=HK.out.cell;have hne1:C≠Kd:=by omega
      rcases hks with rfl|rfl|rfl
      ·have Am:=HT2.out
       rw [UY,qo,if_neg (show ¬ (Nd.mk 2 t1 m1 l1).kd=4 from(by decide:¬ ((2:Int)=4)))] at Am;have w_:=Oh.out;have Aa:=Oi.out;rw [qo,if_neg (show ¬ (Nd.mk 2 t1 m1 l1).kd=4 from(by decide:¬ ((2:Int)=4)))] at w_ Aa;have Oj:=Z_ Aa;have HT3:=Z_ Am;have Q9:=Z_ w_;have hz1:=ZU.out;have hzz:1≤dL (Nd.mk 2 t1 m1 l1):=by simp only [dL];omega
       clear Am w_ Aa HT2 Oh Oi;go_wp2_with fail
       refine(GY J3.out.c (by omega) (by omega)).mono ?_
       rintro e w2 ⟨rfl,hC2,hB2⟩;have J4:=Z_ (J3.out.p_ hC2 hB2);have HK6:=Z_ (HK.out.aU hC2 (by omega));have HF6:=Z_ (LK.out.aU iW hC2 (fun i e=>by omega));clear hC2 hB2 J3 HK LK;obtain⟨vf,hlook,Q7⟩:=(Dk.out.aU J4.out.ext id).look (Nat.le_trans Je.out (by decide));have hkc:=HK6.out.cell;cases hkn:dH G t1 with
       | none=>
        rw [hkn] at hlook Q7;obtain⟨a2',m2,c2',d2,rfl,-⟩:=Q7;have vH:=Z_ (show (.bad 4 at_:Rz (Nd×List (ByteArray×bf)×List (aO×Tr)))=T by have h:=HT3.out;rw [hkn] at h;have h2:=HT4.out;rw [←h] at h2;exact h2);have ug:=Z_ (show ((at_:Nat):Int)=PP by have h:=HT3.out;rw [hkn] at h;have h2:=UD.out;rw [←h] at h2;exact h2);go_wp2_with fail
        refine(iq 4 (at_:Nat) _).mono ?_
        rintro e w3 ⟨rfl,rfl⟩;have hEu:=J4.out.ext.alloc (.cells #[.string kC.modn,.slice a2' kC.vars.length m2,.slice c2' kC.procs.length d2] 37);have Q_:=HR2.out.ext hEu;have Rf:=HF2.out.ext hEu;have JQ:=zE.out.ext hEu;go_wp2_with fail
        refine leaves_cons (f:=107) (args:=#[.pointer (some ⟨R,0,none⟩),.pointer (some ⟨F,0,none⟩)]) (by simp) (by simp [go_sem]) ?_
        refine(UI.mL R F _ _ _ 4 (at_:Nat) _ Q_ Rf (by have:=Og.out;omega)).mono ?_
        rintro e u' w'' ⟨rfl,rfl,DN,DR,J5⟩;exact⟨_,iQ rfl _ _ rfl DN Tryz.underlying119 rfl rfl DR Tryz.underlying27 rfl (by kernel_rfl),JQ.trans J5 (fun i hi e=>by have:=Og.out;omega),by rw [←vH.out,←ug.out];exact⟨_,rfl⟩⟩
       | some g=>
        rw [hkn] at hlook Q7;replace Q7:kL W2 g vf:=Q7;have HFV:=Z_ Q7;obtain⟨a2',m2,c2',d2,rfl,-⟩:=Q7;have Zz:=Z_ (show iR OWN G (lx.drop (q+1)) (Kn ++ [(t1,g)]) (bh (lx.drop (q+1))) B (at_+1)=TM by have h:=HT3.out;rw [hkn] at h;exact h)
        have hkx:dH Kn t1=none∨dH Kn t1=some g:=by
         cases hq:dH Kn t1 with
         | none=>exact .inl rfl
         | some g2=>right;have:=HKG.out _ _ hq;rw [hkn] at this;exact this.symm
        have HKX:=Z_ hkx;have HKN:=Z_ hkn;obtain⟨UX,Rh⟩:∃ X,w2.heap.size=X:=⟨_,rfl⟩;have Yn:=Z_ (show aJ (w2.alloc (.cells #[.string g.modn,.slice a2' g.vars.length m2,.slice c2' g.procs.length d2] 37)) UX #[.string g.modn,.slice a2' g.vars.length m2,.slice c2' g.procs.length d2] 37 by rw [←Rh];exact aJ.made w2 _ _);have hCX:C<UX:=by rw [←Rh];exact J4.out.c.lt
        have hex:=(aB.refl (fun _=>False) w2).alloc (.cells #[.string g.modn,.slice a2' g.vars.length m2,.slice c2' g.procs.length d2] 37);have au6:=Z_ (show ∀ i,fB.ownBlock=some i→i<UX from fun i e=>by rw [←Rh];exact(bG HF6.out i e).2);have HM7:=Z_ (J4.out.extend hex);have HK7:=Z_ (HK6.out.ext hex);have TW:=Z_ (HF6.out.aU iW hex (fun _ e=>e.elim));clear hex hkx hkn J4 HK6 HF6 HT3;go_upto_region 25 with (fail)
        try rw [Rh]
        generalize w2.alloc (.cells #[.string g.modn,.slice a2' g.vars.length m2,.slice c2' g.procs.length d2] 37)=u6 at *;clear Rh hlook hkc;go_wp2_with fail
        refine(fO 4 (at_:Nat) _).mono ?_
        rintro e w3 ⟨rfl,rfl⟩;have hkc:=HK7.out.cell;have rD:=Yn.out.cell;have hcc:=HM7.out.c.cell;go_upto_region 26 with (fail)
        go_still_tail 7,(by kernel_rfl)
        have HM8:=Z_ (HM7.out.extend (aB.refl _ w3).drew);have HK8:=Z_ (HK7.out.drew);have Jb:=Z_ (Yn.out.drew);have HF8:=Z_ (TW.out.aU iW (aB.refl (fun _=>False) w3).drew (fun _ e=>e.elim));clear hkc rD hcc HM7 HK7 Yn TW;change wpList _ _ _ _ _ w3.drew
        generalize w3.drew=u7 at *;obtain⟨nk,hnk,hkm⟩:=HM8.out.k;obtain⟨u8',hput,ZV,kM⟩:=hkm.put HFV.out HKX.out (Nat.le_trans Je.out (by decide)) (by have:=Ji.out.2;have:nk≤Kn.length:=hnk;unfold maxLen;omega);have jP:=kF kM;have U1:=Z_ (HM8.out.put kM ZV (by rw [List.length_append,List.length_singleton];have:nk≤Kn.length:=hnk;omega));have oU:=Z_ (Jb.out.aU jP (by omega));have Gj:=Z_ (HF8.out.aU iW jP (fun i e=>by omega));clear hkm ZV kM jP HM8 HK8 Jb HF8 hnk;go_upto_region 27 with (fail)
        obtain⟨ZW,ZX,zV,hr1,hr2⟩:=je Gj.out;obtain⟨nf,hnf⟩:=E_ Kn.length;rw [hnf] at zV hr1;have HNF:=Z_ hnf;subst zV;have UG:=Z_ (fun i e=>bG Gj.out i e);clear hnf;have HXF:=Z_ (show ¬ (Value.slice ZW nf ZX).ownBlock=some UX from fun e=>by have:=au6.out UX e;omega);refine aj [12,13,16] (fun i v _=>v=([.pointer (some ⟨C,0,none⟩),.pointer (some ⟨C,0,none⟩),.pointer (some ⟨C,0,none⟩),.pointer (some ⟨Mo,0,none⟩),.pointer (some ⟨C,0,none⟩),.pointer (some ⟨C,0,none⟩),.pointer (some ⟨C,0,none⟩),.pointer (some ⟨Mo,0,none⟩),.pointer (some ⟨Mo,0,none⟩),.pointer (some ⟨Mo,2,none⟩),.slice ZW nf ZX,.agg #[.string g.modn,.slice a2' g.vars.length m2,.slice c2' g.procs.length d2],undef,undef,.pointer (some ⟨Mo,0,none⟩),.pointer (some ⟨Mo,2,none⟩),undef]:List Value).getD i undef) (fF.gV (fun u9 rN r lq=>MF u8' u9 C Mo D (C+1) UX #[.pointer (some ⟨Mo,0,none⟩),.map (some Kb),v2,v3,.int .i64 ((at_:Int)+1),v5,.pointer none] eF (.slice ZW nf ZX) #[.string g.modn,.slice a2' g.vars.length m2,.slice c2' g.procs.length d2] rN r lq) (fun _=>false) WX (C+1) 37 (.slice ZW nf ZX) Kn (t1,g) (.agg #[.string g.modn,.slice a2' g.vars.length m2,.slice c2' g.procs.length d2])) (fun _ _=>True) (frame:=?aa7) (fun x=>?Ql) bH.mixed (by kernel_rfl) (by kernel_rfl) (fun _ _ _ _ h _=>h) ?h0f ?stf ?Qm
        case Ql=>
         simp only [chain.aS,chain.fill,chain.bT,chain.bC,oV,oW,oZ,o5,o6,o7,o8,o_,pq];exact rfl
        case h0f=>exact⟨⟨(aB.refl _ _).drew,U1.out.c.drew,U1.out.mo.drew,gZ (rM Gj.out LM (fun _=>false)) iW (aB.refl (fun _=>False) u8').drew (fun i e=>e.elim) (fun i e e2=>e2.elim) (fun i e=>by cases e),fun i e=>.inl e,oU.out.drew⟩,_,_,_,rfl⟩
        case stf=>
         iterate 17 (refine ak.cons (fun x vs u hF hm hb hd K' hK'=>?_) ?_;rotate_left)
         exact ak.nil
         ·have HF:=Z_ hF;clear hd hm hb hF;go_simp;exact hK'.out _ _ _ (rfl) trivial ⟨rfl,HF.out⟩
         ·have y0:x 107=.pointer (some ⟨C,0,none⟩):=(D_ hd 0 :);have HF:=Z_ hF;clear hd hm hb hF;go_simp;exact hK'.out _ _ _ (by simp only [y0];rfl) trivial ⟨rfl,HF.out⟩
         ·have y0:x 108=.pointer (some ⟨C,0,none⟩):=(D_ hd 1 :);have HF:=Z_ hF;clear hd hm hb hF;go_simp;exact hK'.out _ _ _ (by simp only [y0];rfl) trivial ⟨rfl,HF.out⟩
         ·obtain⟨_,_,_,aY⟩:=fF.gV.any hF;have hq:=aY.2.1.cell;clear aY;have y0:x 109=.pointer (some ⟨C,0,none⟩):=(D_ hd 2 :);have HF:=Z_ hF;clear hd hm hb hF;go_simp;exact hK'.out _ _ _ (by simp only [y0];rfl) trivial ⟨rfl,HF.out⟩
         ·have HF:=Z_ hF;clear hd hm hb hF;go_simp;exact hK'.out _ _ _ (rfl) trivial ⟨rfl,HF.out⟩
         ·have y0:x 111=.pointer (some ⟨C,0,none⟩):=(D_ hd 4 :);have HF:=Z_ hF;clear hd hm hb hF;go_simp;exact hK'.out _ _ _ (by simp only [y0];rfl) trivial ⟨rfl,HF.out⟩
         ·have y0:x 112=.pointer (some ⟨C,0,none⟩):=(D_ hd 5 :);have HF:=Z_ hF;clear hd hm hb hF;go_simp;exact hK'.out _ _ _ (by simp only [y0];rfl) trivial ⟨rfl,HF.out⟩
         ·obtain⟨_,_,_,aY⟩:=fF.gV.any hF;have hq:=aY.2.1.cell;clear aY;have y0:x 113=.pointer (some ⟨C,0,none⟩):=(D_ hd 6 :);have HF:=Z_ hF;clear hd hm hb hF;go_simp;exact hK'.out _ _ _ (by simp only [y0];rfl) trivial ⟨rfl,HF.out⟩
         ·have y0:x 114=.pointer (some ⟨Mo,0,none⟩):=(D_ hd 7 :);have HF:=Z_ hF;clear hd hm hb hF;go_simp;exact hK'.out _ _ _ (by simp only [y0];rfl) trivial ⟨rfl,HF.out⟩
         ·have y0:x 115=.pointer (some ⟨Mo,0,none⟩):=(D_ hd 8 :);have HF:=Z_ hF;clear hd hm hb hF;go_simp;exact hK'.out _ _ _ (by simp only [y0];rfl) trivial ⟨rfl,HF.out⟩
         ·have aY:=fF.gV.B hF (by have:=hb 1 _ (by decide) rfl (by kernel_rfl);omega);have hq:=aY.2.2.1.cell;clear aY;have y0:x 116=.pointer (some ⟨Mo,2,none⟩):=(D_ hd 9 :);have HF:=Z_ hF;clear hd hm hb hF;go_simp;exact hK'.out _ _ _ (by simp only [y0];rfl) trivial ⟨rfl,HF.out⟩
         ·obtain⟨_,_,_,aY⟩:=fF.gV.any hF;have hq:=aY.2.2.2.2.2.cell;clear aY;have HF:=Z_ hF;clear hd hm hb hF;go_simp;exact hK'.out _ _ _ (rfl) trivial ⟨rfl,HF.out⟩
         ·obtain rfl:=pR hm;have y0:x 118=.agg #[.string g.modn,.slice a2' g.vars.length m2,.slice c2' g.procs.length d2]:=(D_ hd 11 :);have aY:=hF.1;have HG:=Z_ (fF.dm (aY.2.2.2.1));have HF:=Z_ hF;clear hd hm hb hF aY;go_simp;exact hK'.out _ _ _ (by simp only [y0];rfl) trivial ((fF.iE chk.iW (fun u' hE=>⟨HF.out.1.1.ext hE,HF.out.1.2.1.ext hE,HF.out.1.2.2.1.ext hE,gZ HF.out.1.2.2.2.1 iW hE (fun i e=>e.elim) (fun i e e2=>e2.elim) (fun i e=>by cases e),HF.out.1.2.2.2.2.1,HF.out.1.2.2.2.2.2.ext hE⟩) (fun i e=>(HG.out i e).2) HF.out rfl))
         ·obtain⟨v0,rfl⟩:=rE hm
          have y0:x 117=.slice ZW nf ZX:=(D_ hd 10 :);have y1:x 119=v0:=((D_ hd 12) 119 (by kernel_rfl) :);have hF2:=hF;obtain⟨aY,hxx,gg,rfl,hgb,hgr⟩:=hF2;obtain⟨us,hu1,ho,hu3⟩:=(aY.2.2.2.1).ex;obtain⟨mg,mD,hz0,hz1,hz2⟩:=bH.bD fF.N_;have hbz:(C+1)≤u.heap.size:=by have h1:=aY.2.2.2.2.2.lt;omega
          refine wp_append_lies _ _ _ 33 rfl ((C+1)) 37 mg (.agg #[.string ⟨#[]⟩,.slice none 0 0,.slice none 0 0]) 3 64 Tryz.underlying33 mD hz0 hz1 hz2 rfl (by decide) (.slice ZW nf ZX) Kn.length (us.flatMap fun u=>u.cells.toList) y0 ho ⟨gg,0,none⟩ 1 1 [.string g.modn,.slice a2' g.vars.length m2,.slice c2' g.procs.length d2] y1 rfl ?_ (by intro z_ qL;simp only [List.mem_cons,List.not_mem_nil,or_false] at qL;rcases qL with rfl|rfl|rfl<;>rfl) (by decide) (by unfold maxLen;have:=Ji.out;have:=HNF.out;omega) (by have:=Ji.out;have:=HNF.out;omega) hbz u.heap.size rfl ?_
          ·intro j q hj;have e:(⟨gg,0,none⟩:Addr).add j=⟨gg,j,none⟩:=(by unfold Addr.add;split<;>simp_all);rw [e,hgb.cell];simpa [Value.cells] using hj
          ·intro g9 c9 w9 kQ kM mF yK
           exact hK'.out _ _ _ rfl trivial ((fF.gW chk.iW hF hu1 hu3 rfl (fun r yQ hG hC ha=>⟨aY.1.trans hC (fun i hi e=>.inr e),aY.2.1.aU hC (fun e=>by have:=UG.out _ e;omega),aY.2.2.1.aU hC (fun e=>by have:=UG.out _ e;have:=U1.out.mB;omega),hG,fun i e=>by rcases ha i e with h9|h9;exact .inl h9;exact .inr (by have:=aY.1.size;omega),aY.2.2.2.2.2.aU hC (fun e=>HXF.out e)⟩) kQ kM mF))
         ·have y0:x 110=.pointer (some ⟨Mo,0,none⟩):=(D_ hd 3 :);have HF:=Z_ hF;clear hd hm hb hF;go_simp;exact hK'.out _ _ _ (by simp only [y0];rfl) trivial ⟨rfl,HF.out⟩
         ·have y0:x 121=.pointer (some ⟨Mo,0,none⟩):=(D_ hd 14 :);have HF:=Z_ hF;clear hd hm hb hF;go_simp;exact hK'.out _ _ _ (by simp only [y0];rfl) trivial ⟨rfl,HF.out⟩
         ·obtain⟨v0,v1,rfl⟩:=yP hm
          have y0:x 122=.pointer (some ⟨Mo,2,none⟩):=(D_ hd 15 :);have y1:x 120=v1:=((D_ hd 13) 120 (by kernel_rfl) :);have hF2:=hF;obtain⟨aY,gg,cc,rfl⟩:=hF2;have hq:=aY.2.2.1.cell;have Df:=aY.2.2.1.frozen;have kN:=aY.2.2.1.lt;have HF:=Z_ hF;clear hd hm hb hF aY;go_simp;exact hK'.out _ _ undef (by simp only [y0,y1];rfl) trivial ((fF.iF (z:=undef) HF.out (fun h=>⟨h.1.setCell (p:=⟨Mo,2,none⟩) (fun _=>.inl rfl) _,h.2.1.setOther (p:=⟨Mo,2,none⟩) (by have:=U1.out.cM;exact this) _,h.2.2.1.set 2 _,gZ h.2.2.2.1 iW (aA (S:=Mo) (aB.refl _ _) 2 _) (fun i e=>.inl (by have:=U1.out.mB;omega)) (fun i e e2=>by have:=dm h.2.2.2.1 i e;have:=U1.out.mB;omega) (fun i e=>by cases e),h.2.2.2.2.1,h.2.2.2.2.2.setOther (p:=⟨Mo,2,none⟩) (by have:=U1.out.mB;show UX≠Mo;omega) _⟩)))
        case Qm=>
         intro x9 wJ w9 hl hF hk9;obtain⟨v0,v1',v2',rfl⟩:∃ v0 v1 v2,wJ=[v0,v1,v2]:=by match wJ,hl with|[v0,v1,v2],_=>exact⟨_,_,_,rfl⟩
         clear hk9 hl;obtain⟨jP,Ag,G5,kM,kQ,-⟩:=(show MF _ _ _ _ _ _ _ _ _ _ _ _ _ _ from hF);have HMA:=Z_ (U1.out.faces (fun i e=>(UG.out i e).1) HAP.out jP G5);have Ud:=Z_ (ET kM);have HAB:=Z_ (show ∀ i,v1'.ownBlock=some i→eF.ownBlock≠some i from fun i e e2=>by rcases kQ i e with h|h;exact HAP.out i h e2;have:=(bG U1.out.row i e2).2;omega);clear jP Ag G5 kM kQ hF;go_wp2_with fail
         go_roundw
         case rel=>exact⟨q+1,at_+1,Kn ++ [(t1,g)],B,v2,v3,v5,eF,_,pa,pc,pn,by omega,rfl,by go_num,Oj,Zz,by rw [show (((at_+1:Nat)):Int)=(at_:Int)+1 by omega];exact HMA,Ud,HAB,Q9,Z_ (by have:=ZU.out;omega),Z_ (by have:=Ji.out;rw [List.length_append,List.length_singleton];omega),Z_ (Oa HKG.out HKN.out)⟩
         case measure=>simp [intOf];omega
      ·have Am:=HT2.out
       rw [UZ,qo,if_neg (show ¬ (Nd.mk 3 t1 m1 l1).kd=4 from(by decide:¬ ((3:Int)=4))),Gh.out] at Am;have w_:=Oh.out;have Aa:=Oi.out;rw [qo,if_neg (show ¬ (Nd.mk 3 t1 m1 l1).kd=4 from(by decide:¬ ((3:Int)=4)))] at w_ Aa;have Oj:=Z_ Aa;have HT3:=Z_ Am;have Q9:=Z_ w_;have hz1:=ZU.out;have hzz:1+N1≤dL (Nd.mk 3 t1 m1 l1):=by simp only [dL];rw [←Gh.out];omega
       have hnn:at_+(1+N1)≤1000:=by omega
       clear Am w_ Aa HT2 Oh Oi hz1 hzz ad6;have hcc:=J3.out.c.cell;have hcf:=J3.out.c.frozen;have hcl:=J3.out.c.lt;go_upto_region 29 with (fail)
       go_still_tail 11,(by kernel_rfl)
       have ZO:=Z_ (aA (S:=C) (aB.refl (fun i=>i=C) u5.drew) 4 (.int .i64 ((at_:Int)+(1+(N1:Int)))));have J4:=Z_ ((J3.out.extend (aB.refl _ u5).drew).p_ ZO.out (J3.out.c.drew.set 4 (.int .i64 ((at_:Int)+(1+(N1:Int))))));have HF6:=Z_ ((LK.out.aU iW (aB.refl (fun _=>False) u5).drew (fun _ e=>e.elim)).aU iW ZO.out (fun i e=>by omega));go_wp2_with fail
       go_roundw
       case rel=>exact⟨q+1,at_+(1+N1),Kn,B,v2,v3,v5,eF,fB,pa,pc,pn,by omega,rfl,by go_num,Oj,HT3,by rw [show ((at_+(1+N1):Nat):Int)=(at_:Int)+(1+(N1:Int)) by omega];exact J4,HF6,HAP,Q9,Z_ (by have h1:=ZU.out;have h2:1+N1≤dL (Nd.mk 3 t1 m1 l1):=(by simp only [dL];have:=tV l1;rw [←Gh.out];omega);omega),Z_ (by have:=Ji.out;omega),HKG⟩
       case measure=>simp [intOf];omega
      ·have Am:=HT2.out
       have w_:=Oh.out;have Aa:=Oi.out;rw [qo,if_pos (show (Nd.mk 4 t1 m1 l1).kd=4 from rfl)] at Am w_ Aa;rw [Q5] at Am;obtain⟨pm,rfl⟩:∃ pm,pn=pm+1:=⟨(bh (lx.drop (q+1))).length,Aa.symm⟩;have Oj:=Z_ (show (bh (lx.drop (q+1))).length=pm from by rw [List.length_cons] at Aa;omega);obtain⟨pb,po,rfl,hpb,Gy⟩:=w_.1 0 (by simp);have Q9:=Z_ (And.intro (show fN 6 jJ W2 (if pc=1 then some ⟨pb,po,none⟩ else some ⟨pb,po+6,none⟩) (bh (lx.drop (q+1))) from JX w_.1 w_.2) (show (bh (lx.drop (q+1))).length≤pc-1 from by have:=w_.2;rw [List.length_cons] at this;omega));have a17:pm+1≤pc:=by have:=w_.2;rw [List.length_cons,Oj.out] at this;exact this
       obtain⟨pr,hpr⟩:=E_ (rO (.mk 4 t1 m1 l1));rw [hpr] at Am;replace Gy:jJ W2 pb po pr:=by rw [←hpr];have:=Gy;rw [Nat.zero_mul,Nat.add_zero] at this;exact this
       obtain⟨p0,p1,⟨pra,prc,p2,-,-,-⟩,p3,p4,p5,-⟩:=Gy;obtain⟨gv,hgv⟩:=E_ pr.gives;obtain⟨bv,hbv⟩:=E_ pr.pub;rw [hgv] at p4;rw [hbv] at p1;have ZC:=Z_ hgv;have hE:=J3.out.ext;replace p0:=(hE.cell (p:=⟨pb,po,none⟩) hpb id).trans p0;replace p1:=(hE.cell (p:=⟨pb,po+1,none⟩) hpb id).trans p1;replace p2:=(hE.cell (p:=⟨pb,po+2,none⟩) hpb id).trans p2;replace p3:=(hE.cell (p:=⟨pb,po+3,none⟩) hpb id).trans p3;replace p4:=(hE.cell (p:=⟨pb,po+4,none⟩) hpb id).trans p4;replace p5:=(hE.cell (p:=⟨pb,po+5,none⟩) hpb id).trans p5;have HT3:=Z_ Am;have hpi:(0:Int)<(pm:Int)+1:=Int.lt_add_one_of_le (Int.natCast_nonneg pm);clear Am w_ Aa hpr hgv hbv hE hpb HT2 Oh Oi ad6;go_upto_region 20 with (fail)
       go_still_tail 5,(by kernel_rfl)
       have J4:=Z_ (J3.out.extend (aB.refl _ u5).drew);have HF6:=Z_ (LK.out.aU iW (aB.refl (fun _=>False) u5).drew (fun _ e=>e.elim));clear J3 LK HK p0 p1 p2 p3 p4 p5 hkc;change wpList _ _ _ _ _ u5.drew
       generalize u5.drew=u6 at *;have HOF:=Z_ (fun i e=>bG HF6.out i e);have UG:=Z_ (fun i e=>bG J4.out.row i e);have HXX:=Z_ (J4.out.ext);have HHC:=Z_ (And.intro J4.out.hC (And.intro J4.out.hM (And.intro J4.out.cB J4.out.mB)));have HBD:=Z_ (QD (H:=below Z0) au5.out J4.out (.mk 4 t1 m1 l1) HYI.out rfl _ HU.out (by have:=ZU.out;omega) (HYP.out rfl) pr bv gv ZC.out pra prc (by have:=Ji.out;omega));go_wp2_with fail
       refine HBD.out.mono ?_
       rintro e w6 ⟨EX,X4⟩;obtain⟨RB,hRB⟩:=E_ (u_ ⟨OWN,Kn⟩ pr (.mk 4 t1 m1 l1) at_);have TY:=HT3.out;rw [hRB] at X4 TY;replace TY:=Z_ TY;clear HBD HT3 hRB
       have U2:∀ i,i<W2.heap.size→¬ BS C Mo eF i:=fun i hi e=>by
        have h1:=HHC.out;rcases e with e|e|e
        ·omega
        ·omega
        ·have:=UG.out i e;omega
       cases RB with
       | bad c9 p9=>
        obtain rfl:e=_:=X4;have vH:=Z_ (show (.bad c9 p9:Rz (Nd×List (ByteArray×bf)×List (aO×Tr)))=T by have h:=TY.out;have h2:=HT4.out;rw [←h] at h2;exact h2);have ug:=Z_ (show ((p9:Nat):Int)=PP by have h:=TY.out;have h2:=UD.out;rw [←h] at h2;exact h2);have Q_:=(HR2.out.ext HXX.out).aU EX (U2 R HR2.out.lt);have Rf:=(HF2.out.ext HXX.out).aU EX (U2 F HF2.out.lt);have JQ:=(zE.out.ext HXX.out).trans EX (fun i hi e=>U2 i (Nat.lt_of_lt_of_le hi zE.out.size) e);go_wp2_with fail
        refine leaves_cons (f:=107) (args:=#[.pointer (some ⟨R,0,none⟩),.pointer (some ⟨F,0,none⟩)]) (by simp) (by simp [go_sem]) ?_
        refine(UI.mL R F _ _ _ c9 ((p9:Nat):Int) _ Q_ Rf (by have:=Og.out;omega)).mono ?_
        rintro e u' w'' ⟨rfl,rfl,DN,DR,J5⟩;exact⟨_,iQ rfl _ _ rfl DN Tryz.underlying119 rfl rfl DR Tryz.underlying27 rfl (by kernel_rfl),JQ.trans J5 (fun i hi e=>by have:=Og.out;omega),by rw [←vH.out,←ug.out];exact⟨_,rfl⟩⟩
       | ok t9=>
        obtain⟨rfl,v2',v3',v5',QC,hms,hob⟩:=X4;have HM7:=Z_ hms
        have TW:=Z_ (Bj HF6.out LM EX (fun i e e2=>by
         have h1:=HHC.out;have h2:=HOF.out i e;rcases e2 with e2|e2|e2
         ·omega
         ·omega
         ·exact HAP.out i e e2))
        have HA7:=Z_ (show ∀ i,fB.ownBlock=some i→QC.ownBlock≠some i from fun i e e2=>by rcases hob i e2 with h|h;exact HAP.out i e h;have:=HOF.out i e;omega);have XF:=Z_ (show iR OWN G (lx.drop (q+1)) Kn (bh (lx.drop (q+1))) (B ++ [(pr,t9)]) (at_+dL (.mk 4 t1 m1 l1))=TM from TY.out);clear EX hms hob U2 TY;go_wp2_with fail
        go_roundw
        case rel=>exact⟨q+1,at_+dL (.mk 4 t1 m1 l1),Kn,B ++ [(pr,t9)],v2',v3',v5',QC,fB,(if pc=1 then some ⟨pb,po,none⟩ else some ⟨pb,po+6,none⟩),pc-1,pm,by omega,rfl,by go_num,Oj,XF,HM7,TW,HA7,Q9,Z_ (by have h1:=ZU.out;omega),Z_ (by have:=Ji.out;rw [List.length_append,List.length_singleton];omega),HKG⟩
        case measure=>simp [intOf];omega
     ·obtain rfl:q=N:=by omega
      have ZT:decide ((q:Int)<(q:Int))=false:=by simp
      have hT:=HTQ.out;rw [List.drop_of_length_le (by rw [wG.out];exact Nat.le_refl _)] at hT;replace hT:(.ok (Kn,B):Rz (List (ByteArray×bf)×List (aO×Tr)))=TM:=hT;have vH:=Z_ (show (.ok (.mk kx tx mx lx,Kn,B):Rz (Nd×List (ByteArray×bf)×List (aO×Tr)))=T by have h2:=HT4.out;rw [←hT] at h2;exact h2);have Gl:=Z_ (Gv.out.ext);have Gi:=Z_ (HR2.out.ext Gl.out);have Gj:=Z_ (HF2.out.ext Gl.out);have HCC:=Z_ (Gv.out.c);have Ol:=Z_ (Gv.out.mo);have HHC:=Z_ (And.intro Gv.out.hC Gv.out.hM);have JL:=HR2.out.lt;have JM:=HF2.out.lt;clear hT Gv JZ HTQ;go_upto_region 31 with (fail)
      refine aj [5,6] (fun i v _=>v=([.pointer (some ⟨C,0,none⟩),.pointer (some ⟨C,0,none⟩),.pointer (some ⟨C,0,none⟩),.pointer (some ⟨Mo,0,none⟩),.agg #[.int .i64 0,.int .i64 0],undef,undef]:List Value).getD i undef) (N9 R F (.pointer none) (.pointer (some ⟨Mo,0,none⟩)) #[.int .i64 0,.int .i64 0] wr) (fun _ _=>True) (frame:=?UN) (fun x=>?E8) bH.mixed (by kernel_rfl) (by kernel_rfl) (fun _ _ _ _ h _=>h) ?UO ?UQ ?fine
      case E8=>
       simp only [chain.aS,chain.fill,chain.bT,chain.bC,oV,oW,oZ,o5,o6,o7,o8,o_,pq];exact rfl
      case UO=>exact⟨Gi.out.drew,Gj.out.drew,(aB.refl _ _).drew⟩
      case UQ=>
       iterate 7 (refine ak.cons (fun x vs u hF hm hb hd K' hK'=>?_) ?_;rotate_left)
       exact ak.nil
       ·have HF:=Z_ hF;clear hd hm hb hF;go_simp;exact hK'.out _ _ _ (rfl) trivial ⟨rfl,HF.out⟩
       ·have y0:x 137=.pointer (some ⟨C,0,none⟩):=(D_ hd 0 :);have HF:=Z_ hF;clear hd hm hb hF;go_simp;exact hK'.out _ _ _ (by simp only [y0];rfl) trivial ⟨rfl,HF.out⟩
       ·have y0:x 138=.pointer (some ⟨C,0,none⟩):=(D_ hd 1 :);have HF:=Z_ hF;clear hd hm hb hF;go_simp;exact hK'.out _ _ _ (by simp only [y0];rfl) trivial ⟨rfl,HF.out⟩
       ·have hq:=(HCC.out.aU hF.c (by have:=HHC.out.1;omega)).cell;have y0:x 139=.pointer (some ⟨C,0,none⟩):=(D_ hd 2 :);have HF:=Z_ hF;clear hd hm hb hF;go_simp;exact hK'.out _ _ _ (by simp only [y0];rfl) trivial ⟨rfl,HF.out⟩
       ·have hq:=hF.f.cell;have HF:=Z_ hF;clear hd hm hb hF;go_simp;exact hK'.out _ _ _ (rfl) trivial ⟨rfl,HF.out⟩
       ·obtain rfl:=pR hm;have y0:x 140=.pointer (some ⟨Mo,0,none⟩):=(D_ hd 3 :);obtain⟨g1,g2,g3⟩:=(show _∧_ from hF);have hq:=g1.cell;have Df:=g1.frozen;have kN:=g1.lt;have HG:=Z_ (And.intro g1 (And.intro g2 g3));clear hd hm hb hF g1 g2 g3;go_simp;obtain⟨g1,g2,g3⟩:=HG.out;have hrf:=Og.out;exact hK'.out _ _ undef (by simp only [y0];rfl) trivial ⟨g1.set 0 _,g2.setOther (p:=⟨R,0,none⟩) (by show F≠R;omega) _,g3.setCell (p:=⟨R,0,none⟩) (fun _=>.inl rfl) _⟩
       ·obtain⟨v0,rfl⟩:=rE hm
        have y0:x 141=.agg #[.int .i64 0,.int .i64 0]:=(D_ hd 4 :);obtain⟨g1,g2,g3⟩:=(show _∧_ from hF);have hq:=g2.cell;have Df:=g2.frozen;have kN:=g2.lt;have HG:=Z_ (And.intro g1 (And.intro g2 g3));clear hd hm hb hF g1 g2 g3;go_simp;obtain⟨g1,g2,g3⟩:=HG.out;have hrf:=Og.out;exact hK'.out _ _ undef (by simp only [y0];rfl) trivial ⟨(g1.setOther (p:=⟨F,0,none⟩) (by show R≠F;omega) _).setOther (p:=⟨F,1,none⟩) (by show R≠F;omega) _,(g2.set 0 _).set 1 _,(g3.setCell (p:=⟨F,0,none⟩) (fun _=>.inr rfl) _).setCell (p:=⟨F,1,none⟩) (fun _=>.inr rfl) _⟩
      case fine=>
       intro x9 wJ w9 hl hF hk9;obtain⟨v0,v1,rfl⟩:=Ll hl
       have vh:=Z_ (show _∧_ from hF);clear hk9 hl hF;go_wp2_with fail
       refine leaves_cons (f:=107) (args:=#[.pointer (some ⟨R,0,none⟩),.pointer (some ⟨F,0,none⟩)]) (by simp) (by simp [go_sem]) ?_
       refine(UI.yT R F _).mono ?_
       rintro e u' w'' ⟨rfl,rfl,rfl⟩;have jP:=vh.out.2.2;have hDd:=((HD.out.ext Gl.out).aU jP (by omega));refine⟨_,iQ rfl _ _ rfl vh.out.1 Tryz.underlying119 rfl rfl vh.out.2.1 Tryz.underlying27 rfl (by kernel_rfl),(zE.out.ext Gl.out).trans jP (fun i hi e=>by have:=Og.out;omega),?_⟩
       rw [←vH.out];exact⟨Mo,D,_,_,_,_,_,_,_,_,_,_,_,rfl,Ol.out.aU jP (by have:=HHC.out.2;omega),hDd,by have hrf:=Og.out;have h1:=aQ (aN (M:=below Z0) ((Gl.out.weak fun _ _ e=>e.elim).then jP) fun i _ e=>by rcases e with e|e<;>(subst e;simp [below];omega)) _ _ Jh.out;rw [wG.out] at h1;exact aQ (bJ (Nat.le_refl _) fun i hi hm=>⟨by simp [below] at hm ⊢;omega,rfl⟩) _ _ h1⟩
   ·have vH:=Z_ (show (.bad fc fp.toNat:Rz (Nd×List (ByteArray×bf)×List (aO×Tr)))=T by have h:=HT2.out;rw [if_neg hf0] at h;exact h)
    have ug:=Z_ (show fp=PP by have h:=HP2.out;rw [if_neg hf0] at h;exact h);have hcn:(fc != 0)=true:=by simpa using hf0
    have a18:=Z_ (show R<F from Og.out.2.1);clear HT2 HP2 HGD Oe WZ;go_upto_region 12 with (fail)
    refine aj [1,2] (fun i v _=>v=([.agg #[.int .i64 fc,.int .i64 fp],undef,undef]:List Value).getD i undef) (N9 R F (.pointer none) (.pointer none) #[.int .i64 fc,.int .i64 fp] W2) (fun _ _=>True) (frame:=?ad7) (fun x=>?Ri) bH.mixed (by kernel_rfl) (by kernel_rfl) (fun _ _ _ _ h _=>h) ?h0d ?std ?find
    case Ri=>
     simp only [chain.aS,chain.fill,chain.bT,chain.bC,oV,oW,oZ,o5,o6,o7,o8,o_,pq];exact rfl
    case h0d=>exact⟨HR2.out.drew,HF2.out.drew,(aB.refl _ _).drew⟩
    case std=>
     iterate 3 (refine ak.cons (fun x vs u hF hm hb hd K' hK'=>?_) ?_;rotate_left)
     exact ak.nil
     ·have hq:=hF.f.cell;have HF:=Z_ hF;clear hd hm hb hF;go_simp;exact hK'.out _ _ _ (rfl) trivial ⟨rfl,HF.out⟩
     ·obtain rfl:=pR hm;obtain⟨g1,g2,g3⟩:=(show _∧_ from hF);have hq:=g1.cell;have Df:=g1.frozen;have kN:=g1.lt;have HG:=Z_ (And.intro g1 (And.intro g2 g3));clear hd hm hb hF g1 g2 g3;go_simp;obtain⟨g1,g2,g3⟩:=HG.out;have hrf:=Og.out;exact hK'.out _ _ undef (rfl) trivial ⟨g1.set 0 _,g2.setOther (p:=⟨R,0,none⟩) (by show F≠R;omega) _,g3.setCell (p:=⟨R,0,none⟩) (fun _=>.inl rfl) _⟩
     ·obtain⟨v0,rfl⟩:=rE hm
      have y0:x 53=.agg #[.int .i64 fc,.int .i64 fp]:=(D_ hd 0 :);obtain⟨g1,g2,g3⟩:=(show _∧_ from hF);have hq:=g2.cell;have Df:=g2.frozen;have kN:=g2.lt;have HG:=Z_ (And.intro g1 (And.intro g2 g3));clear hd hm hb hF g1 g2 g3;go_simp;obtain⟨g1,g2,g3⟩:=HG.out;have hrf:=Og.out;exact hK'.out _ _ undef (by simp only [y0];rfl) trivial ⟨(g1.setOther (p:=⟨F,0,none⟩) (by show R≠F;omega) _).setOther (p:=⟨F,1,none⟩) (by show R≠F;omega) _,(g2.set 0 _).set 1 _,(g3.setCell (p:=⟨F,0,none⟩) (fun _=>.inr rfl) _).setCell (p:=⟨F,1,none⟩) (fun _=>.inr rfl) _⟩
    case find=>
     intro x9 wJ w9 hl hF hk9;obtain⟨v0,v1,rfl⟩:=Ll hl
     have vh:=Z_ (show _∧_ from hF);clear hk9 hl hF;go_wp2_with fail
     exact⟨_,iQ rfl _ _ rfl vh.out.1 Tryz.underlying119 rfl rfl vh.out.2.1 Tryz.underlying27 rfl (by kernel_rfl),zE.out.trans vh.out.2.2 (fun i hi e=>by have:=Og.out;omega),by rw [←vH.out,←ug.out];exact⟨_,rfl⟩⟩
end chk
end Go.Proofs.YtpcihajmcejliacGreatDoor
