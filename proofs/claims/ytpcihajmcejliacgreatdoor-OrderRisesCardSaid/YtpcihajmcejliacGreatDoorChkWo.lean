/- The walk of the checker's Look: a text beside faces. -/
import Derived.Test.YtpcihajmcejliacGreatDoorOfKo
import Derived.Test.YtpcihajmcejliacGreatDoorFaceEqo
import Derived.Test.YtpcihajmcejliacGreatDoorFaceMayo
namespace Go.Proofs.YtpcihajmcejliacGreatDoor
open Go.RowKit
namespace chk
open bu cG
def GY (w:World) (P:Int) (T:Rz (Nd×List (ByteArray×aQ)×List (aI×Tr))) (e:Ending) (w':World):Prop:=Ext w w'∧match T with
 | .bad c _=>∃ vp,e=.returned (.tuple #[vp,.agg #[.int .i64 c,.int .i64 P]])
 | .ok r=>∃ Mo D cO dw d0 d1 d2 d3 d4 d5 d6 d7 d8,e=.returned (.tuple #[.pointer (some ⟨Mo,0,none⟩),.agg #[.int .i64 0,.int .i64 0]])∧aC w' Mo #[.pointer (some ⟨D,0,none⟩),cO,dw] 125∧aC w' D #[d0,d1,d2,d3,d4,d5,d6,d7,d8] 128∧fN (hide (below w.heap.size) w') r.1 (.agg #[d3,d4,d5,d6])
theorem JX {x:Nd} {p:Nat} (h:(qM x p).1=0) (h3:x.kd≠3):x.kids.dropLast.length≤5:=by
 unfold qM at h;rw [if_neg h3] at h;by_cases h5:5<x.kids.dropLast.length
 ·rw [if_pos h5] at h;cases h
 ·omega
theorem JY (m:ByteArray):∀ (l:List Nd) (i n:List (List UInt8)) (p:Nat),(gQ m l i n p).1=0→∀ x∈l,x.kd≠2→x.kd≠3→x.kids.dropLast.length≤5:=by
 intro l;induction l with
 | nil=>intro i n p _ x hx;cases hx
 | cons y r ih=>
  intro i n p h x hx h2 h3;unfold gQ at h;by_cases hy:y.kd=2
  ·rw [if_pos hy] at h
   repeat' split at h
   all_goals first|(cases h;done)|skip
   rcases List.mem_cons.1 hx with rfl|hx
   ·exact absurd hy h2
   ·exact ih _ _ _ h x hx h2 h3
  ·rw [if_neg hy] at h
   split at h
   ·cases h
   split at h
   ·cases h
   split at h
   ·rename_i hd
    rcases List.mem_cons.1 hx with rfl|hx
    ·exact JX hd h3
    ·exact ih _ _ _ h x hx h2 h3
   ·rename_i hd
    exact absurd h hd
def RN (s:ByteArray) (T0:Option (List (ByteArray×aQ))):Int:=match T0 with
 | none=>0
 | some G=>if (jg s).2.2.1=0 then (match iy ⟨(aJ s).1.tx,dP (aJ s).1.kids,aP (aJ s).1.kids⟩ G (aJ s).1.kids [] (aP (aJ s).1.kids) [] 1 with
   | .bad _ p=>(p:Nat)
   | .ok _=>0)
  else (jg s).2.2.2
theorem lS (x:Nd) (r:List Nd):aP (x::r)=if x.kd=4 then ry x::aP r else aP r:=by
 unfold aP;rw [List.filter_cons];by_cases h:x.kd=4
 ·rw [if_pos h,if_pos (show jO x=true from by unfold jO;simpa using h)];rfl
 ·rw [if_neg h,if_neg (show ¬ jO x=true from by unfold jO;simpa using h)]
theorem Ee {α : Type} {k:Nat} {In:World→Nat→Nat→α→Prop} {w:World} {b o:Nat} {x:α} {l:List α} (h:bC k In w (some ⟨b,o,none⟩) (x::l)):bC k In w (some ⟨b,o+k,none⟩) l:=fun j hj=>by
 obtain⟨b1,o1,e,hb,hi⟩:=h (j+1) (by simp;omega);cases e
 refine⟨b,o+k,rfl,hb,?_⟩
 have e2:o+k+j*k=o+(j+1)*k:=by rw [Nat.add_mul];omega
 rw [e2];exact hi
theorem P9 {s:ByteArray} (h:(jg s).2.2.1=0):(aJ s).2.1=0∧(gQ (aJ s).1.tx (aJ s).1.kids [] [] 1).1=0∧(jg s).2.2.2=0:=by
 unfold jg at h ⊢;by_cases h1:(aJ s).2.1=0
 ·rw [if_pos h1] at h ⊢
  by_cases h2:(gQ (aJ s).1.tx (aJ s).1.kids [] [] 1).1=0
  ·rw [if_pos h2];exact⟨h1,h2,rfl⟩
  ·rw [if_neg h2] at h;exact absurd h h2
 ·rw [if_neg h1] at h;exact absurd h h1
theorem FN {s:ByteArray} (h:(jg s).2.2.1=0):(∀ y∈(aJ s).1.kids,jw y∧(y.kd=2∨y.kd=3∨y.kd=4)∧(y.kd=4→y.kids.dropLast.length≤5))∧kV (aJ s).1.kids≤499:=by
 obtain⟨h1,h2,-⟩:=P9 h;obtain⟨hi,hk1,-,hz⟩:=wQ s h1;have hf:=JY _ _ _ _ _ h2;generalize (aJ s).1=x at *;obtain⟨k,t,m,l⟩:=x;obtain rfl:k=1:=hk1;have hfo:=hi.form;refine⟨fun y hy=>⟨hi.kids y hy,?_,fun h4=>hf y hy (by omega) (by omega)⟩,by simp only [fL] at hz;show kV l≤499;omega⟩
 cases hfo with
 | module ht ha hb=>
  rcases List.mem_append.1 hy with hy|hy
  ·exact .inl (ha y hy)
  ·exact .inr (hb y hy)
theorem Ef {α : Type} {k:Nat} {In:World→Nat→Nat→α→Prop} {w:World} {b o c:Nat} {x:α} {l:List α} (h:bC k In w (some ⟨b,o,none⟩) (x::l)) (hc:(x::l).length≤c):bC k In w (if c=1 then some ⟨b,o,none⟩ else some ⟨b,o+k,none⟩) l:=by
 rw [List.length_cons] at hc;by_cases e1:c=1
 ·intro j hj;omega
 ·rw [if_neg e1];exact Ee h
def GZ (R F:Nat) (a b:Value) (fc:Array Value) (u0:World):List Value→World→Prop
 | [],u=>aC u R #[a] 119∧aC u F fc 27∧aB (fun i=>i=R∨i=F) u0 u
 | _::_,u=>aC u R #[b] 119∧aC u F fc 27∧aB (fun i=>i=R∨i=F) u0 u
theorem GZ.f {R F:Nat} {a b:Value} {fc:Array Value} {u0:World} {vs:List Value} {u:World} (h:GZ R F a b fc u0 vs u):aC u F fc 27:=by
 match vs,h with
 | [],h=>exact h.2.1
 | _::_,h=>exact h.2.1
theorem GZ.c {R F:Nat} {a b:Value} {fc:Array Value} {u0:World} {vs:List Value} {u:World} (h:GZ R F a b fc u0 vs u):aB (fun i=>i=R∨i=F) u0 u:=by
 match vs,h with
 | [],h=>exact h.2.2
 | _::_,h=>exact h.2.2
structure L1 (W u:World) (R F K0:Nat) (n:Nat) (G:List (ByteArray×aQ)):Prop where
 ext:Ext W u
 r:aC u R #[.pointer none] 119
 f:aC u F #[.int .i64 0,.int .i64 0] 27
 m:oN.nV W u K0 n G
 hR:W.heap.size≤R
 pU:R<F
 Jb:F<K0
theorem L1.extend {W u u':World} {R F K0 n:Nat} {G:List (ByteArray×aQ)} (h:L1 W u R F K0 n G) (hE:Ext u u'):L1 W u' R F K0 n G:=
 ⟨h.ext.ext hE,h.r.ext hE,h.f.ext hE,h.m.aK hE id,h.hR,h.pU,h.Jb⟩
theorem L1.dead {W u:World} {R F K0 n:Nat} {G:List (ByteArray×aQ)} (h:L1 W u R F K0 n G):aC (((u.setCell ⟨R,0,none⟩ (.pointer none)).setCell ⟨F,0,none⟩ (.int .i64 2)).setCell ⟨F,1,none⟩ (.int .i64 0)) R #[.pointer none] 119∧aC (((u.setCell ⟨R,0,none⟩ (.pointer none)).setCell ⟨F,0,none⟩ (.int .i64 2)).setCell ⟨F,1,none⟩ (.int .i64 0)) F #[.int .i64 2,.int .i64 0] 27∧Ext W (((u.setCell ⟨R,0,none⟩ (.pointer none)).setCell ⟨F,0,none⟩ (.int .i64 2)).setCell ⟨F,1,none⟩ (.int .i64 0)):=by
 have h1:=h.hR;have h2:=h.pU
 exact⟨((h.r.set 0 _).setOther (p:=⟨F,0,none⟩) (by show R≠F;omega) _).setOther (p:=⟨F,1,none⟩) (by show R≠F;omega) _,((h.f.setOther (p:=⟨R,0,none⟩) (by show F≠R;omega) _).set 0 _).set 1 _,((h.ext.bI (p:=⟨R,0,none⟩) (by show W.heap.size≤R;omega) _).bI (p:=⟨F,0,none⟩) (by show W.heap.size≤F;omega) _).bI (p:=⟨F,1,none⟩) (by show W.heap.size≤F;omega) _⟩
theorem L1.put {W u u':World} {R F K0 n:Nat} {G G':List (ByteArray×aQ)} (h:L1 W u R F K0 n G) (hg:u.grownBy u' (some K0)) (hm:oN.nV W u' K0 (n+1) G'):L1 W u' R F K0 (n+1) G':=by
 have h1:=h.hR;have h2:=h.pU;have h3:=h.Jb
 exact⟨h.ext.trans (gU hg) (fun i hi e=>by omega),h.r.aK (gU hg) (by omega),h.f.aK (gU hg) (by omega),hm,h1,h2,h3⟩
theorem Eg (f:aQ) (r:List aQ) (G:List (ByteArray×aQ)):oQ (f::r) G=if (bU G f.modn).isSome=true∨nY f=false then none else oQ r (G ++ [(f.modn,f)]):=rfl
theorem JZ {w:World} {b b':Nat} {c c':Array Value} {T T':TypeId} (h:aC w b c T) (h':aC w b' c' T') (hs:c.size≠c'.size):b≠b':=fun e=>by
 subst e;unfold aC at h h';rw [h] at h';injection h' with h'
 injection h' with h1 h2 h3
 exact hs (by rw [h1])
end chk
namespace cG
theorem uf:(Tryz.prog.info? 37).map (fun i=>(i.zero,i.size,i.bytes))=some (some (.agg #[.string ⟨#[]⟩,.slice none 0 0,.slice none 0 0]),3,64):=by kernel_rfl
end cG
namespace chk
open bu cG
def P_ (_:ByteArray×aQ) (v:Value) (_:World):Prop:=∃ a b c,v=.agg #[a,b,c]
theorem fO (x:ByteArray×aQ) (u:Value) (w w':World) (_:bV w w') (h:P_ x u w):P_ x u w':=h
theorem FO (x:ByteArray×aQ) (u:Value) (w w':World) (h:P_ x u w):P_ x u w':=h
theorem wR {α : Type} {k:Nat} {E:TypeId} {V:α→Value→World→Prop} {B:Nat} {w w':World} {v:Value} {l:List α} (h:Grow k E V B w v l) (hV:∀ x u w w',V x u w→V x u w') {S:Nat→Prop} (hC:aB S w w') (hO:∀ i,v.ownBlock=some i→¬ S i):Grow k E V B w' v l:=
 cG.zO (eH (X':=fun _=>true) (nJ h hV (fun _=>true)) (fun x u w w' _ h=>hV x u w w' h) hC (fun _ _=>.inr rfl) hO (fun _ _=>.inl rfl)) hV
theorem MS.put {W u u':World} {C Mo D K Bm:Nat} {E:dI} {v2 v3 v5:Value} {at_:Int} {cO dw:Value} {dc:Array Value} {bs:List (aI×Tr)} (h:MS W u C Mo D K Bm E v2 v3 v5 at_ cO dw dc bs) {n:Nat} {known:List (ByteArray×aQ)} (hg:u.grownBy u' (some K)) (hm:oN.nV W u' K n known) (hn:n≤known.length):MS W u' C Mo D K Bm ⟨E.own,known⟩ v2 v3 v5 at_ cO dw dc bs:=by
 have hC:=gU hg;have h1:=h.hK;have h2:=h.kB;have h3:=h.cK;have h4:=h.mK
 exact⟨h.ext.trans hC (fun i hi e=>by omega),h.c.aK hC h3,h.mo.aK hC h4,h.d,h.own,⟨n,hn,hm⟩,h.row.aK ja hC (fun i e=>by omega),h.hC,h.hM,h1,h.cB,h.mB,h2,h.cM,h3,h4,Nat.le_trans h.hu hC.size⟩
theorem MS.faces {W u u':World} {C Mo D K Bm:Nat} {E:dI} {v2 v3 v5:Value} {at_:Int} {cO dw Wh:Value} {dc:Array Value} {bs:List (aI×Tr)} (h:MS W u C Mo D K Bm E v2 v3 v5 at_ cO dw dc bs) (hB:∀ i,dw.ownBlock=some i→Bm≤i) (hap:∀ i,dw.ownBlock=some i→cO.ownBlock≠some i) (hC:aB (fun i=>i=Mo∨dw.ownBlock=some i) u u') (hm:aC u' Mo #[.pointer (some ⟨D,0,none⟩),cO,Wh] 125):MS W u' C Mo D K Bm E v2 v3 v5 at_ cO Wh dc bs:=by
 obtain⟨n,hn,hk⟩:=h.k;have h1:=h.hM;have h2:=h.mB;have h3:=h.cM;have h4:=h.mK;have h5:=h.cB;have h6:=h.kB;have h7:=h.hu;have h8:=h.ext.size
 have hob:=bn h.row;exact⟨h.ext.trans hC (fun i hi e=>by rcases e with e|e;omega;have:=hB i e;omega),h.c.aK hC (fun e=>by rcases e with e|e;exact h3 e;have:=hB _ e;omega),hm,h.d,h.own,⟨n,hn,hk.aK hC (fun e=>by rcases e with e|e;exact h4 e.symm;have:=hB _ e;omega)⟩,wR h.row FP hC (fun i e e2=>by rcases e2 with e2|e2;have:=hob i e;omega;exact hap i e2 e),h.hC,h1,h.hK,h5,h2,h6,h3,h.cK,h4,Nat.le_trans h7 hC.size⟩
def MF (u0 u:World) (C Mo D Bm N8:Nat) (cc:Array Value) (cO dw:Value) (fc:Array Value) (rN r:Value) (lq:List (ByteArray×aQ)):Prop:=
 aB (fun i=>i=Mo∨dw.ownBlock=some i) u0 u∧aC u C cc 221∧aC u Mo #[.pointer (some ⟨D,0,none⟩),cO,rN] 125∧jk (fun _=>false) 3 37 P_ Bm u r lq∧(∀ i,r.ownBlock=some i→dw.ownBlock=some i∨u0.heap.size≤i)∧aC u N8 fc 37
theorem N9 (own:aQ) (G K:List (ByteArray×aQ)) (ps:List aI) (B:List (aI×Tr)) (a:Nat) (t:ByteArray) (m:Int) (l r:List Nd):iy own G (.mk 2 t m l::r) K ps B a=match bU G t with
 | none=>.bad 4 a
 | some f=>iy own G r (K ++ [(t,f)]) ps B (a+1):=rfl
theorem N_ (own:aQ) (G K:List (ByteArray×aQ)) (ps:List aI) (B:List (aI×Tr)) (a:Nat) (t:ByteArray) (m:Int) (l r:List Nd):iy own G (.mk 3 t m l::r) K ps B a=iy own G r K ps B (a+(1+l.length)):=by simp [iy,Nd.kd,Nd.kids]
theorem J0 (own:aQ) (G K:List (ByteArray×aQ)) (p:aI) (ps:List aI) (B:List (aI×Tr)) (a:Nat) (t:ByteArray) (m:Int) (l r:List Nd):iy own G (.mk 4 t m l::r) K (p::ps) B a=(uK ⟨own,K⟩ p (.mk 4 t m l) a).bind fun b=>iy own G r K ps (B ++ [(p,b)]) (a+fL (.mk 4 t m l)):=by simp [iy,Nd.kd]
theorem G0 {K G:List (ByteArray×aQ)} {t:ByteArray} {f:aQ} (h:∀ s g,bU K s=some g→bU G s=some g) (ht:bU G t=some f):∀ s g,bU (K ++ [(t,f)]) s=some g→bU G s=some g:=fun s g hs=>by
 rw [oN.wF] at hs;cases hq:bU K s with
 | some g2=>rw [hq] at hs;rw [h _ _ hq];exact hs
 | none=>
  rw [hq] at hs;by_cases e:t=s
  ·subst e;rw [if_pos rfl] at hs;rw [ht];exact hs
  ·rw [if_neg e] at hs;cases hs
set_option maxRecDepth 100000 in
set_option maxHeartbeats 32000000 in
theorem G5 (s:ByteArray) (w:World) (l:List aQ) (a:Option Addr) (c:Nat) (hs:s.size≤9223372036854775807) (hv:ErrVar w) (hm:cE w) (hl:bC 3 Eh w a l) (hlc:l.length≤c) (hcm:c≤maxLen) (hsum:∀ f∈l,f.vars.length+f.procs.length<maxLen) :
  Calls Tryz.prog 53 #[.string s,.slice a l.length c] w (GY w (RN s (oQ l [])) (kX s l)):=by
 obtain⟨T,hT⟩:∃ T,kX s l=T:=⟨_,rfl⟩;rw [hT];unfold kX at hT;obtain⟨T0,hT0⟩:∃ T0,oQ l []=T0:=⟨_,rfl⟩;rw [hT0] at hT ⊢;obtain⟨PP,hPP⟩:∃ PP,RN s T0=PP:=⟨_,rfl⟩;rw [hPP];have Zz:=Z_ hPP;have HT:=Z_ hT;have HT0:=Z_ hT0;obtain⟨n,hn⟩:∃ n,l.length=n:=⟨_,rfl⟩;rw [hn] at hlc ⊢;have HN:=Z_ hn;have HI:=Z_ hl;have HS:=Z_ hsum;have HV:=Z_ hv;have uD:=Z_ hm;have mM:=Z_ hs;obtain⟨R,hR⟩:∃ R,w.heap.size=R:=⟨_,rfl⟩;obtain⟨F,hF⟩:∃ F,R+1=F:=⟨_,rfl⟩;obtain⟨K0,hK0⟩:∃ K0,F+1=K0:=⟨_,rfl⟩;have hR0:=((aC.made w #[.pointer none] 119).alloc (.cells #[.int .i64 0,.int .i64 0] 27)).alloc (.map #[] 0);have kY:=(aC.made2 w (.cells #[.pointer none] 119) #[.int .i64 0,.int .i64 0] 27).alloc (.map #[] 0)
 have lH:=(((aB.refl (fun _=>False) w).alloc (.cells #[.pointer none] 119)).alloc (.cells #[.int .i64 0,.int .i64 0] 27)).alloc (.map #[] 0);have RP:=oN.nV.made w ((w.alloc (.cells #[.pointer none] 119)).alloc (.cells #[.int .i64 0,.int .i64 0] 27));have hz0:((w.alloc (.cells #[.pointer none] 119)).alloc (.cells #[.int .i64 0,.int .i64 0] 27)).heap.size=K0:=by simp;omega
 rw [hR] at hR0 kY;rw [hF] at kY;rw [hz0] at RP;have HL:=Z_ (show L1 w (((w.alloc (.cells #[.pointer none] 119)).alloc (.cells #[.int .i64 0,.int .i64 0] 27)).alloc (.map #[] 0)) R F K0 0 [] from⟨lH,hR0,kY,RP,by omega,by omega,by omega⟩);have hmf:∀ (fn:Fn) (first cap:Array Value) (w:World),(Instr.makeFunc fn first cap).run Tryz.prog w=.ok (.func fn first cap) w:=fun _ _ _ _=>rfl
 have hmk:=@run_makeMap Tryz.prog;clear hT hT0 hPP hn hl hsum hv hm hR0 kY lH RP hs;go_enter_defers Tryz.func53,Tryz.ntmps53
 go_upto_region 2 with (fail)
 try rw [hz0]
 try rw [hF]
 clear hz0 hR hF hK0;generalize ((w.alloc (.cells #[.pointer none] 119)).alloc (.cells #[.int .i64 0,.int .i64 0] 27)).alloc (.map #[] 0)=u0 at *;have Oa:n≤9223372036854775807:=by unfold maxLen at hcm;omega
 go_wp2_with fail
 go_loopw [22] (fun i wr=>∃ (j:Nat) (G:List (ByteArray×aQ)),j≤n∧i=.int .i64 (j:Nat)∧Hid (oQ (l.drop j) G=T0)∧Hid (L1 w wr R F K0 j G)) (fun i _=>n-(intOf i).toNat)
 case atStart=>exact⟨0,[],Nat.zero_le _,rfl,by rw [List.drop_zero];exact HT0,HL⟩
 clear HL HT0
 case round=>
  obtain⟨j,G,hj,rfl,HG,HL⟩:=hrel;by_cases hlt:j<n
  ·have hji:(j:Int)<(n:Int):=by omega
   have hjd:decide ((j:Int)<(n:Int))=true:=by simpa using hji
   have hjl:j<l.length:=by rw [HN.out];exact hlt
   obtain⟨b,o,rfl,hb,hin⟩:=HI.out j hjl;have hG:=HG.out;rw [List.drop_eq_getElem_cons hjl,Eg] at hG;have hsm:=HS.out _ (List.getElem_mem hjl);generalize l[j]=y at hin hG hsm;obtain⟨a1,m1,c1,d1,q0,q1,q2,hfa⟩:=hin;have hbw:=Nat.lt_of_lt_of_le hb HL.out.ext.size;replace q0:wr.cell? ⟨b,o+j*3,none⟩=some (.string y.modn):=(HL.out.ext.cell (p:=⟨b,o+j*3,none⟩) hb id).trans q0;replace q1:wr.cell? ⟨b,o+j*3+1,none⟩=some (.slice a1 y.vars.length m1):=(HL.out.ext.cell (p:=⟨b,o+j*3+1,none⟩) hb id).trans q1;replace q2:wr.cell? ⟨b,o+j*3+2,none⟩=some (.slice c1 y.procs.length d1):=(HL.out.ext.cell (p:=⟨b,o+j*3+2,none⟩) hb id).trans q2;have yh:=Z_ hfa;have hym:y.modn.size≤maxLen:=by obtain⟨_,_,_,_,e,_,_,h,_⟩:=hfa;exact h
   have HY:=Z_ (aC.made wr #[.string y.modn,.slice a1 y.vars.length m1,.slice c1 y.procs.length d1] 37);have RD:=Z_ (HL.out.extend ((aB.refl (fun _=>False) wr).alloc (.cells #[.string y.modn,.slice a1 y.vars.length m1,.slice c1 y.procs.length d1] 37)));obtain⟨Y,hY⟩:∃ Y,wr.heap.size=Y:=⟨_,rfl⟩;rw [hY] at HY;have MV:=Z_ hsm;have HYM:=Z_ hym;have HG2:=Z_ hG;clear hfa hym hG HG HL hsm hbw;go_upto_region 5 with (fail)
   try rw [hY]
   generalize wr.alloc (.cells #[.string y.modn,.slice a1 y.vars.length m1,.slice c1 y.procs.length d1] 37)=u5 at *;clear q0 q1 q2 hY;obtain⟨vf,hlook,J3⟩:=RD.out.m.look HYM.out;obtain⟨kb,hkb⟩:∃ kb,(bU G y.modn).isSome=kb:=⟨_,rfl⟩;rw [hkb] at hlook;have HKB:=Z_ hkb;obtain⟨a2,m2,c2,d2,rfl,-⟩:=J3;have Rj:=HY.out.cell;go_upto_region 6 with (fail)
   have oL:=Z_ (RD.out.extend ((aB.refl (fun _=>False) u5).alloc (.cells #[.string ((bU G y.modn).getD gZ).modn,.slice a2 ((bU G y.modn).getD gZ).vars.length m2,.slice c2 ((bU G y.modn).getD gZ).procs.length d2] 37)));have HY6:=Z_ (HY.out.alloc (.cells #[.string ((bU G y.modn).getD gZ).modn,.slice a2 ((bU G y.modn).getD gZ).vars.length m2,.slice c2 ((bU G y.modn).getD gZ).procs.length d2] 37));clear Rj hlook RD HY hkb;generalize u5.alloc (.cells #[.string ((bU G y.modn).getD gZ).modn,.slice a2 ((bU G y.modn).getD gZ).vars.length m2,.slice c2 ((bU G y.modn).getD gZ).procs.length d2] 37)=u6 at *;have Rj:=HY6.out.cell;cases kb with
   | true=>
    have hb0:none=T0:=by have h:=HG2.out;rw [if_pos (.inl HKB.out)] at h;exact h
    have qp:=Z_ (show (.bad 2 0:Rz (Nd×List (ByteArray×aQ)×List (aI×Tr)))=T by have h:=HT.out;rw [←hb0] at h;exact h);have Oc:=Z_ (show (0:Int)=PP by have h:=Zz.out;rw [←hb0] at h;exact h);clear hb0;have wK:=Z_ oL.out.dead;have hrc:=oL.out.r.cell;have hrf:=oL.out.r.frozen;have hrl:=oL.out.r.lt;have hF1:=oL.out.f.setOther (p:=⟨R,0,none⟩) (by have:=oL.out.pU;show F≠R;omega) (.pointer none);have hfc:=hF1.cell;have DU:=hF1.frozen;have hfl:=hF1.lt;have hF2:=hF1.set 0 (.int .i64 2);have RQ:=hF2.cell;have ac7:=hF2.frozen;have ac8:=hF2.lt;clear hF1 hF2;go_wp2_with fail
    exact⟨_,bQ rfl _ _ rfl wK.out.1 Tryz.underlying119 rfl rfl wK.out.2.1 Tryz.underlying27 rfl (by kernel_rfl),wK.out.2.2,by rw [←qp.out,←Oc.out];exact⟨_,rfl⟩⟩
   | false=>
    have HFW:=Z_ (yh.out.ext oL.out.ext);obtain⟨mb,hmb⟩:∃ mb,nY y=mb:=⟨_,rfl⟩;have HMB:=Z_ hmb;clear hmb;go_wp2_with fail
    refine(face.Oe y _ _ HFW.out MV.out (HV.out.ext oL.out.ext) (uD.out.ext oL.out.ext)).mono ?_
    rintro e u7 ⟨rfl,vO⟩;rw [HMB.out];have AB:=Z_ (oL.out.extend vO);have HY7:=Z_ (HY6.out.ext vO);clear Rj oL HY6 vO;cases mb with
    | false=>
     have hb0:none=T0:=by have h:=HG2.out;rw [if_pos (.inr HMB.out)] at h;exact h
     have qp:=Z_ (show (.bad 2 0:Rz (Nd×List (ByteArray×aQ)×List (aI×Tr)))=T by have h:=HT.out;rw [←hb0] at h;exact h);have Oc:=Z_ (show (0:Int)=PP by have h:=Zz.out;rw [←hb0] at h;exact h);clear hb0;have wK:=Z_ AB.out.dead;have hrc:=AB.out.r.cell;have hrf:=AB.out.r.frozen;have hrl:=AB.out.r.lt;have hF1:=AB.out.f.setOther (p:=⟨R,0,none⟩) (by have:=AB.out.pU;show F≠R;omega) (.pointer none);have hfc:=hF1.cell;have DU:=hF1.frozen;have hfl:=hF1.lt;have hF2:=hF1.set 0 (.int .i64 2);have RQ:=hF2.cell;have ac7:=hF2.frozen;have ac8:=hF2.lt;clear hF1 hF2;go_wp2_with fail
     exact⟨_,bQ rfl _ _ rfl wK.out.1 Tryz.underlying119 rfl rfl wK.out.2.1 Tryz.underlying27 rfl (by kernel_rfl),wK.out.2.2,by rw [←qp.out,←Oc.out];exact⟨_,rfl⟩⟩
    | true=>
     have I8:=Z_ (show oQ (l.drop (j+1)) (G ++ [(y.modn,y)])=T0 by have h:=HG2.out;rw [if_neg (by rw [HKB.out,HMB.out];decide)] at h;exact h)
     have hkn:bU G y.modn=none:=by have h:=HKB.out;cases hq:bU G y.modn with
      | none=>rfl
      | some z=>rw [hq] at h;cases h
     obtain⟨u8,hput,hM8,hg8⟩:=AB.out.m.put yh.out (.inl hkn) HYM.out (by have:=HN.out;omega);have VB:=Z_ (AB.out.put hg8 hM8);have Rj:=HY7.out.cell;clear hkn hM8 hg8 HG2;go_wp2_with fail
     go_roundw
     case rel=>exact⟨j+1,_,Nat.succ_le_of_lt hlt,by go_num,I8,VB⟩
     case measure=>simp [intOf];omega
  ·obtain rfl:j=n:=by omega
   have hjd:decide ((j:Int)<(j:Int))=false:=by simp
   have hG0:some G=T0:=by have h:=HG.out;rw [List.drop_of_length_le (by rw [HN.out];exact Nat.le_refl _)] at h;exact h
   have hT2:=HT.out;have oU:=Zz.out;rw [←hG0] at hT2 oU;replace hT2:(if (jg s).2.2.1=0 then (iy ⟨(aJ s).1.tx,dP (aJ s).1.kids,aP (aJ s).1.kids⟩ G (aJ s).1.kids [] (aP (aJ s).1.kids) [] 1).bind fun r=>.ok ((aJ s).1,r) else .bad (jg s).2.2.1 (jg s).2.2.2.toNat)=T:=hT2;replace oU:(if (jg s).2.2.1=0 then (match iy ⟨(aJ s).1.tx,dP (aJ s).1.kids,aP (aJ s).1.kids⟩ G (aJ s).1.kids [] (aP (aJ s).1.kids) [] 1 with
   | .bad _ p=>((p:Nat):Int)
   | .ok _=>0) else (jg s).2.2.2)=PP:=oU
   have DF:=Z_ (J4.rZ s wr mM.out (HV.out.ext HL.out.ext) (uD.out.ext HL.out.ext));have MX:=Z_ (fun h=>FN (s:=s) h);have Qa:=Z_ (fun h=>(P9 (s:=s) h).2.2);obtain⟨Q,hQ⟩:∃ Q,jg s=Q:=⟨_,rfl⟩;obtain⟨x,hx⟩:∃ x,(aJ s).1=x:=⟨_,rfl⟩;rw [hQ,hx] at hT2 oU DF MX;rw [hQ] at Qa;obtain⟨fa,ia,fc,fp⟩:=Q;replace MX:=Z_ (show fc=0→_ from MX.out);replace Qa:=Z_ (show fc=0→fp=0 from Qa.out);have HT2:=Z_ hT2;have HP2:=Z_ oU;have HL9:=Z_ HL.out;clear hT2 oU HT Zz HG hG0 HL hQ hx HI HS;go_wp2_with fail
   refine DF.out.mono ?_
   rintro e w1 ⟨hE1,vp,rfl,hgood⟩;obtain⟨Z0,hZ0⟩:∃ Z0,wr.heap.size=Z0:=⟨_,rfl⟩;rw [hZ0] at hgood;have DG:=Z_ (HL9.out.extend hE1);have RR:=Z_ (show fc=0→_ from hgood);have FD:=Z_ hE1;have hfc:=DG.out.f.cell;have DU:=DG.out.f.frozen;have hfl:=DG.out.f.lt;clear hE1 hgood DF;go_upto_region 11 with (fail)
   have hC2:=ai (ai (S:=F) (aB.refl _ w1) 0 (.int .i64 fc)) 1 (.int .i64 fp);have rS:=Z_ (DG.out.ext.trans hC2 (fun i hi e=>by have:=DG.out.hR;have:=DG.out.pU;omega));have HR2:=Z_ (DG.out.r.aK hC2 (by have:=DG.out.pU;omega));have HF2:=Z_ ((DG.out.f.set 0 (.int .i64 fc)).set 1 (.int .i64 fp));have FQ:=Z_ ((DG.out.m.aK hC2 (by have:=DG.out.Jb;omega)).base rS.out);have HC2:=Z_ hC2;have G6:=Z_ (show w.heap.size≤R∧R<F∧F<Z0 from⟨DG.out.hR,DG.out.pU,by rw [←hZ0];exact HL9.out.f.lt⟩);clear hZ0;have RQ:=HF2.out.cell;clear hC2 hfc DU hfl;obtain⟨W2,hW2⟩:∃ W2,(w1.setCell ⟨F,0,none⟩ (.int .i64 fc)).setCell ⟨F,1,none⟩ (.int .i64 fp)=W2:=⟨_,rfl⟩;rw [hW2] at rS HR2 HF2 FQ HC2 RQ ⊢;clear hW2;by_cases hf0:fc=0
   ·subst hf0
    obtain rfl:fp=0:=Qa.out rfl;obtain⟨D,a1,c1,a2,c2,a3,c3,d3,d4,d5,d6,d8,rfl,hnd,hcap,hD,UF,UG,J5,hlv,hlp,htx,hky⟩:=RR.out rfl;obtain⟨hok,hsz⟩:=MX.out rfl;have HT3:=Z_ (show (iy ⟨x.tx,dP x.kids,aP x.kids⟩ G x.kids [] (aP x.kids) [] 1).bind (fun r=>.ok (x,r))=T from HT2.out)
    have UH:=Z_ (show (match iy ⟨x.tx,dP x.kids,aP x.kids⟩ G x.kids [] (aP x.kids) [] 1 with
     | .bad _ p=>((p:Nat):Int)
     | .ok _=>0)=PP from HP2.out)
    have hbel:∀ i,i<w1.heap.size→i=F→below Z0 i=true:=fun i _ e=>by subst e;unfold below;rw [decide_eq_true_eq];exact G6.out.2.2
    have hkp:=aH (M:=below Z0) HC2.out hbel
    have hown:fE W2 ⟨x.tx,dP x.kids,aP x.kids⟩ (.agg #[.string x.tx,.slice a1 (dP x.kids).length c1,.slice a2 (aP x.kids).length c2]):=
     ⟨a1,c1,a2,c2,rfl,UF.keeps (hkp.trans (ah _ _)) fun _ _ _=>gy.keeps (hkp.trans (ah _ _)),UG.keeps (hkp.trans (ah _ _)) fun _ _ _=>dB.keeps (hkp.trans (ah _ _)),Nat.le_trans htx (by decide),hcap.1,hcap.2.1,hcap.2.2.1,hcap.2.2.2⟩
    have MZ:=Z_ (aX (aH (M:=below Z0) HC2.out hbel) _ _ hnd);have hDF:=JZ hD DG.out.f (by simp);have hDR:=JZ hD DG.out.r (by simp);have HD:=Z_ (hD.aK HC2.out hDF);have HOWN:=Z_ hown;have ac9:=Z_ hok;have NK:=Z_ hsz;have Wi:=Z_ hky;have ac_:=Z_ (uD.out.ext rS.out);clear hnd hcap hD UF UG J5 hlv hlp htx hky hok hsz hbel hkp hown HT2 HP2 MX Qa RR DG HL9 FD HC2;go_upto_region 15 with (fail)
    obtain⟨kx,tx,mx,lx⟩:=x;have hnd:=MZ.out;rw [dL] at hnd;obtain⟨a9,c9,e9,hl1,hl2,hl3,hl4⟩:=hnd;cases e9
    obtain⟨N,hN⟩:∃ N,lx.length=N:=⟨_,rfl⟩;have hNs:N≤499:=by have h1:=oO lx;have h2:kV lx≤499:=NK.out;omega
    rw [hN] at hl1 HD;have HNN:=Z_ hN;have HI:=Z_ hl4;obtain⟨Mo,hMo⟩:∃ Mo,W2.heap.size=Mo:=⟨_,rfl⟩;obtain⟨Kb,hKb⟩:∃ Kb,Mo+1=Kb:=⟨_,rfl⟩;obtain⟨C,hC⟩:∃ C,Kb+1=C:=⟨_,rfl⟩;have hm1:=((aC.made W2 #[.pointer (some ⟨D,0,none⟩),.slice none 0 0,.slice none 0 0] 125).alloc (.map #[] 0)).alloc (.cells #[.pointer (some ⟨Mo,0,none⟩),.map (some Kb),.slice none 0 0,.int .i64 0,.int .i64 1,.pointer none,.pointer none] 221);have hc1:=aC.made ((W2.alloc (.cells #[.pointer (some ⟨D,0,none⟩),.slice none 0 0,.slice none 0 0] 125)).alloc (.map #[] 0)) #[.pointer (some ⟨Mo,0,none⟩),.map (some Kb),.slice none 0 0,.int .i64 0,.int .i64 1,.pointer none,.pointer none] 221;have hk1:=(oN.nV.made W2 (W2.alloc (.cells #[.pointer (some ⟨D,0,none⟩),.slice none 0 0,.slice none 0 0] 125))).aK ((aB.refl (fun _=>False) _).alloc (.cells #[.pointer (some ⟨Mo,0,none⟩),.map (some Kb),.slice none 0 0,.int .i64 0,.int .i64 1,.pointer none,.pointer none] 221)) id
    have he1:=(((aB.refl (fun _=>False) W2).alloc (.cells #[.pointer (some ⟨D,0,none⟩),.slice none 0 0,.slice none 0 0] 125)).alloc (.map #[] 0)).alloc (.cells #[.pointer (some ⟨Mo,0,none⟩),.map (some Kb),.slice none 0 0,.int .i64 0,.int .i64 1,.pointer none,.pointer none] 221);have hsz1:(W2.alloc (.cells #[.pointer (some ⟨D,0,none⟩),.slice none 0 0,.slice none 0 0] 125)).heap.size=Kb:=by simp;omega
    have hsz2:((W2.alloc (.cells #[.pointer (some ⟨D,0,none⟩),.slice none 0 0,.slice none 0 0] 125)).alloc (.map #[] 0)).heap.size=C:=by simp;omega
    have hsz3:(((W2.alloc (.cells #[.pointer (some ⟨D,0,none⟩),.slice none 0 0,.slice none 0 0] 125)).alloc (.map #[] 0)).alloc (.cells #[.pointer (some ⟨Mo,0,none⟩),.map (some Kb),.slice none 0 0,.int .i64 0,.int .i64 1,.pointer none,.pointer none] 221)).heap.size=C+1:=by simp;omega
    rw [hMo] at hm1;rw [hsz2] at hc1;rw [hsz1] at hk1
    try rw [hMo]
    try rw [hKb]
    try rw [hC]
    generalize ((W2.alloc (.cells #[.pointer (some ⟨D,0,none⟩),.slice none 0 0,.slice none 0 0] 125)).alloc (.map #[] 0)).alloc (.cells #[.pointer (some ⟨Mo,0,none⟩),.map (some Kb),.slice none 0 0,.int .i64 0,.int .i64 1,.pointer none,.pointer none] 221)=u3 at *;obtain⟨OWN,Bh⟩:∃ OWN:aQ,(⟨tx,dP lx,aP lx⟩:aQ)=OWN:=⟨_,rfl⟩;have vZ:=Z_ (show MS W2 u3 C Mo D Kb (C+1) ⟨OWN,[]⟩ (.slice none 0 0) (.int .i64 0) (.pointer none) 1 (.slice none 0 0) (.slice none 0 0) #[.string tx,.slice a1 (dP lx).length c1,.slice a2 (aP lx).length c2,.int .i64 kx,.string tx,.int .i64 mx,.slice a9 N c9,.slice a3 (dK lx).length c3,d8] [] from⟨he1,hc1,hm1,HD.out,⟨_,_,_,_,_,_,_,_,_,rfl,by rw [←Bh];exact HOWN.out⟩,⟨0,Nat.le_refl _,hk1⟩,Grow.nil _ _ _ _ _,by omega,by omega,by omega,by omega,by omega,by omega,by omega,by omega,by omega,by omega⟩)
    have HT4:=Z_ (show (iy OWN G lx [] (aP lx) [] 1).bind (fun r=>.ok ((.mk kx tx mx lx:Nd),r))=T by rw [←Bh];exact HT3.out)
    have Og:=Z_ (show (match iy OWN G lx [] (aP lx) [] 1 with
     | .bad _ p=>((p:Nat):Int)
     | .ok _=>0)=PP by rw [←Bh];exact UH.out)
    have Wj:=Z_ (show bC 6 dB W2 a2 (aP lx)∧(aP lx).length≤c2 from by obtain⟨_,_,_,_,e,_,h,_,_,_,h2,_⟩:=HOWN.out;cases e;exact⟨h,h2⟩);obtain⟨TM,hTM⟩:∃ TM,iy OWN G lx [] (aP lx) [] 1=TM:=⟨_,rfl⟩;rw [hTM] at HT4 Og;have Wl:=Z_ hTM;have hdc:=(HD.out.ext he1).cell;clear hm1 hc1 hk1 he1 hsz1 hsz2 hsz3 hTM HT3 UH hl4 hN hMo Bh HOWN hmk hmf;go_upto_region 17 with (fail)
    have Wn:=Z_ (show Grow 3 37 P_ (C+1) u3 (.slice none 0 0) [] from Grow.nil _ _ _ _ _);go_loopw [13,72] (fun ps i wr=>∃ (q at_:Nat) (Kn:List (ByteArray×aQ)) (B:List (aI×Tr)) (v2 v3 v5 cO dw:Value) (pa:Option Addr) (pc pn:Nat),q≤N∧ps=.slice pa pn pc∧i=.int .i64 (q:Nat)∧Hid ((aP (lx.drop q)).length=pn)∧Hid (iy OWN G (lx.drop q) Kn (aP (lx.drop q)) B at_=TM)∧Hid (MS W2 wr C Mo D Kb (C+1) ⟨OWN,Kn⟩ v2 v3 v5 ((at_:Nat):Int) cO dw #[.string tx,.slice a1 (dP lx).length c1,.slice a2 (aP lx).length c2,.int .i64 kx,.string tx,.int .i64 mx,.slice a9 N c9,.slice a3 (dK lx).length c3,d8] B)∧Hid (Grow 3 37 P_ (C+1) wr dw Kn)∧Hid (∀ i,dw.ownBlock=some i→cO.ownBlock≠some i)∧Hid (bC 6 dB W2 pa (aP (lx.drop q))∧(aP (lx.drop q)).length≤pc)∧Hid (at_+kV (lx.drop q)≤1000)∧Hid (B.length≤q∧Kn.length≤q)∧Hid (∀ s g,bU Kn s=some g→bU G s=some g)) (fun _ i _=>N-(intOf i).toNat)
    case atStart=>exact⟨0,1,[],[],_,_,_,_,_,a2,c2,_,Nat.zero_le _,rfl,rfl,Z_ rfl,Wl,vZ,Wn,Z_ (fun i e=>by cases e),Wj,Z_ (by have h:kV lx≤499:=NK.out;rw [List.drop_zero];omega),Z_ ⟨Nat.le_refl _,Nat.le_refl _⟩,Z_ (fun s g h=>by cases h)⟩
    clear vZ Wn Wl Wj hdc
    case round=>
     obtain⟨q,at_,Kn,B,v2,v3,v5,cO,dw,pa,pc,pn,hq,rfl,rfl,Dv,ZA,vZ,yh,RS,Wj,HZ,DI,ZB⟩:=hrel;by_cases hlt:q<N
     ·have hqi:(q:Int)<(N:Int):=by omega
      have MP:decide ((q:Int)<(N:Int))=true:=by simpa using hqi
      have kW:q<lx.length:=by rw [HNN.out];exact hlt
      obtain⟨b,o,rfl,hb,uv,hu,hus,hcl⟩:=HI.out q kW;rw [bT] at hb;obtain⟨hyi,hyk,hyp⟩:=ac9.out lx[q] (List.getElem_mem kW);have hyt:=Wi.out lx[q] (List.getElem_mem kW);have hT:=ZA.out;have hpa:=Wj.out;have hZ:=HZ.out;have UI:=Dv.out;rw [List.drop_eq_getElem_cons kW] at hT hpa hZ UI;simp only [kV] at hZ;generalize lx[q]=y at hu hyi hyk hyp hyt hT hpa hZ UI;have HU:=Z_ hu;have hE:=vZ.out.ext;obtain⟨k1,t1,m1,l1⟩:=y;rw [dL] at hu;obtain⟨a1',c1',rfl,-,-,hts,-⟩:=hu;obtain⟨N1,hN1⟩:∃ N1,l1.length=N1:=⟨_,rfl⟩;rw [hN1] at hcl HU;have Wp:=oO l1;have Oh:=Z_ hN1;have HYI:=Z_ hyi;have HYP:=Z_ hyp;have q0:wr.cell? ⟨b,o+q*4,none⟩=some (.int .i64 k1):=(hE.cell (p:=⟨b,o+q*4,none⟩) hb id).trans ((ah _ W2).2 _ _ ((hcl 0 (by decide)).trans rfl))
      have q1:wr.cell? ⟨b,o+q*4+1,none⟩=some (.string t1):=(hE.cell (p:=⟨b,o+q*4+1,none⟩) hb id).trans ((ah _ W2).2 _ _ ((hcl 1 (by decide)).trans rfl));have q2:wr.cell? ⟨b,o+q*4+2,none⟩=some (.int .i64 m1):=(hE.cell (p:=⟨b,o+q*4+2,none⟩) hb id).trans ((ah _ W2).2 _ _ ((hcl 2 (by decide)).trans rfl));have q3:wr.cell? ⟨b,o+q*4+3,none⟩=some (.slice a1' N1 c1'):=(hE.cell (p:=⟨b,o+q*4+3,none⟩) hb id).trans ((ah _ W2).2 _ _ ((hcl 3 (by decide)).trans rfl));obtain⟨Kd,ZC⟩:∃ Kd,wr.heap.size=Kd:=⟨_,rfl⟩;have HK:=Z_ (show aC (wr.alloc (.cells #[.int .i64 k1,.string t1,.int .i64 m1,.slice a1' N1 c1'] 24)) Kd #[.int .i64 k1,.string t1,.int .i64 m1,.slice a1' N1 c1'] 24 by rw [←ZC];exact aC.made wr _ _);have hCK:C+1≤Kd:=by rw [←ZC];exact vZ.out.hu
      have hEX:=(aB.refl (fun _=>False) wr).alloc (.cells #[.int .i64 k1,.string t1,.int .i64 m1,.slice a1' N1 c1'] 24);have Ei:=Z_ (vZ.out.extend hEX);have QK:=Z_ (yh.out.aK fO hEX (fun _ e=>e.elim));have HT2:=Z_ hT;have G7:=Z_ hpa;have Qb:=Z_ hZ;have G8:=Z_ UI;have Qc:=Z_ hts;have hks:k1=2∨k1=3∨k1=4:=hyk;clear hT hpa hZ UI hts hcl hus hyi hyk hyp hyt hE vZ yh ZA Wj HZ Dv hN1 hEX;go_upto_region 19 with (fail)
      try rw [ZC]
      generalize wr.alloc (.cells #[.int .i64 k1,.string t1,.int .i64 m1,.slice a1' N1 c1'] 24)=u5 at *;clear q0 q1 q2 q3 ZC;have hkc:=HK.out.cell;have hne1:C≠Kd:=by omega
      rcases hks with rfl|rfl|rfl
      ·have vu:=HT2.out
       rw [N9,lS,if_neg (show ¬ (Nd.mk 2 t1 m1 l1).kd=4 from(by decide:¬ ((2:Int)=4)))] at vu;have rB:=G7.out;have vC:=G8.out;rw [lS,if_neg (show ¬ (Nd.mk 2 t1 m1 l1).kd=4 from(by decide:¬ ((2:Int)=4)))] at rB vC;have G9:=Z_ vC;have HT3:=Z_ vu;have J6:=Z_ rB;have hz1:=Qb.out;have hzz:1≤fL (Nd.mk 2 t1 m1 l1):=by simp only [fL];omega
       clear vu rB vC HT2 G7 G8;go_wp2_with fail
       refine(Bo Ei.out.c (by omega) (by omega)).mono ?_
       rintro e w2 ⟨rfl,hC2,hB2⟩;have Ej:=Z_ (Ei.out.lQ hC2 hB2);have Wq:=Z_ (HK.out.aK hC2 (by omega));have HF6:=Z_ (QK.out.aK fO hC2 (fun i e=>by omega));clear hC2 hB2 Ei HK QK;obtain⟨vf,hlook,J3⟩:=(FQ.out.aK Ej.out.ext id).look (Nat.le_trans Qc.out (by decide));have hkc:=Wq.out.cell;cases hkn:bU G t1 with
       | none=>
        rw [hkn] at hlook J3;obtain⟨a2',m2,c2',d2,rfl,-⟩:=J3;have qp:=Z_ (show (.bad 4 at_:Rz (Nd×List (ByteArray×aQ)×List (aI×Tr)))=T by have h:=HT3.out;rw [hkn] at h;have h2:=HT4.out;rw [←h] at h2;exact h2);have Oc:=Z_ (show ((at_:Nat):Int)=PP by have h:=HT3.out;rw [hkn] at h;have h2:=Og.out;rw [←h] at h2;exact h2);go_wp2_with fail
        refine(bY 4 (at_:Nat) _).mono ?_
        rintro e w3 ⟨rfl,rfl⟩;have hEu:=Ej.out.ext.alloc (.cells #[.string gZ.modn,.slice a2' gZ.vars.length m2,.slice c2' gZ.procs.length d2] 37);have J7:=HR2.out.ext hEu;have J8:=HF2.out.ext hEu;have Eb:=rS.out.ext hEu;go_wp2_with fail
        refine leaves_cons (f:=107) (args:=#[.pointer (some ⟨R,0,none⟩),.pointer (some ⟨F,0,none⟩)]) (by simp) (by simp [go_sem]) ?_
        refine(Oi.jA R F _ _ _ 4 (at_:Nat) _ J7 J8 (by have:=G6.out;omega)).mono ?_
        rintro e u' w'' ⟨rfl,rfl,qN,qO,rC⟩;exact⟨_,bQ rfl _ _ rfl qN Tryz.underlying119 rfl rfl qO Tryz.underlying27 rfl (by kernel_rfl),Eb.trans rC (fun i hi e=>by have:=G6.out;omega),by rw [←qp.out,←Oc.out];exact⟨_,rfl⟩⟩
       | some g=>
        rw [hkn] at hlook J3;replace J3:fE W2 g vf:=J3;have HFV:=Z_ J3;obtain⟨a2',m2,c2',d2,rfl,-⟩:=J3;have MN:=Z_ (show iy OWN G (lx.drop (q+1)) (Kn ++ [(t1,g)]) (aP (lx.drop (q+1))) B (at_+1)=TM by have h:=HT3.out;rw [hkn] at h;exact h)
        have hkx:bU Kn t1=none∨bU Kn t1=some g:=by
         cases hq:bU Kn t1 with
         | none=>exact .inl rfl
         | some g2=>right;have:=ZB.out _ _ hq;rw [hkn] at this;exact this.symm
        have HKX:=Z_ hkx;have HKN:=Z_ hkn;obtain⟨N8,J9⟩:∃ X,w2.heap.size=X:=⟨_,rfl⟩;have RU:=Z_ (show aC (w2.alloc (.cells #[.string g.modn,.slice a2' g.vars.length m2,.slice c2' g.procs.length d2] 37)) N8 #[.string g.modn,.slice a2' g.vars.length m2,.slice c2' g.procs.length d2] 37 by rw [←J9];exact aC.made w2 _ _);have hCX:C<N8:=by rw [←J9];exact Ej.out.c.lt
        have hex:=(aB.refl (fun _=>False) w2).alloc (.cells #[.string g.modn,.slice a2' g.vars.length m2,.slice c2' g.procs.length d2] 37);have ad1:=Z_ (show ∀ i,dw.ownBlock=some i→i<N8 from fun i e=>by rw [←J9];exact(bn HF6.out i e).2);have Ws:=Z_ (Ej.out.extend hex);have Wu:=Z_ (Wq.out.ext hex);have QM:=Z_ (HF6.out.aK fO hex (fun _ e=>e.elim));clear hex hkx hkn Ej Wq HF6 HT3;go_upto_region 25 with (fail)
        try rw [J9]
        generalize w2.alloc (.cells #[.string g.modn,.slice a2' g.vars.length m2,.slice c2' g.procs.length d2] 37)=u6 at *;clear J9 hlook hkc;go_wp2_with fail
        refine(bM 4 (at_:Nat) _).mono ?_
        rintro e w3 ⟨rfl,rfl⟩;have hkc:=Wu.out.cell;have mg:=RU.out.cell;have hcc:=Ws.out.c.cell;go_upto_region 26 with (fail)
        go_still_tail 7,(by kernel_rfl)
        have HM8:=Z_ (Ws.out.extend (aB.refl _ w3).drew);have HK8:=Z_ (Wu.out.drew);have Dy:=Z_ (RU.out.drew);have Zw:=Z_ (QM.out.aK fO (aB.refl (fun _=>False) w3).drew (fun _ e=>e.elim));clear hkc mg hcc Ws Wu RU QM;change wpList _ _ _ _ _ w3.drew
        generalize w3.drew=u7 at *;obtain⟨nk,hnk,hkm⟩:=HM8.out.k;obtain⟨u8',hput,ZE,iZ⟩:=hkm.put HFV.out HKX.out (Nat.le_trans Qc.out (by decide)) (by have:=DI.out.2;have:nk≤Kn.length:=hnk;unfold maxLen;omega);have iV:=gU iZ;have Oj:=Z_ (HM8.out.put iZ ZE (by rw [List.length_append,List.length_singleton];have:nk≤Kn.length:=hnk;omega));have kO:=Z_ (Dy.out.aK iV (by omega));have Nv:=Z_ (Zw.out.aK fO iV (fun i e=>by omega));clear hkm ZE iZ iV HM8 HK8 Dy Zw hnk;go_upto_region 27 with (fail)
        obtain⟨UJ,UK,r_,hr1,hr2⟩:=dZ Nv.out;obtain⟨nf,hnf⟩:∃ nf,Kn.length=nf:=⟨_,rfl⟩;rw [hnf] at r_ hr1;have Wv:=Z_ hnf;subst r_;have Ol:=Z_ (fun i e=>bn Nv.out i e);clear hnf;have HXF:=Z_ (show ¬ (Value.slice UJ nf UK).ownBlock=some N8 from fun e=>by have:=ad1.out N8 e;omega);refine aj [12,13,16] (fun i v _=>v=([.pointer (some ⟨C,0,none⟩),.pointer (some ⟨C,0,none⟩),.pointer (some ⟨C,0,none⟩),.pointer (some ⟨Mo,0,none⟩),.pointer (some ⟨C,0,none⟩),.pointer (some ⟨C,0,none⟩),.pointer (some ⟨C,0,none⟩),.pointer (some ⟨Mo,0,none⟩),.pointer (some ⟨Mo,0,none⟩),.pointer (some ⟨Mo,2,none⟩),.slice UJ nf UK,.agg #[.string g.modn,.slice a2' g.vars.length m2,.slice c2' g.procs.length d2],undef,undef,.pointer (some ⟨Mo,0,none⟩),.pointer (some ⟨Mo,2,none⟩),undef]:List Value).getD i undef) (cG.eF (fun u9 rN r lq=>MF u8' u9 C Mo D (C+1) N8 #[.pointer (some ⟨Mo,0,none⟩),.map (some Kb),v2,v3,.int .i64 ((at_:Int)+1),v5,.pointer none] cO (.slice UJ nf UK) #[.string g.modn,.slice a2' g.vars.length m2,.slice c2' g.procs.length d2] rN r lq) (fun _=>false) P_ (C+1) 37 (.slice UJ nf UK) Kn (t1,g) (.agg #[.string g.modn,.slice a2' g.vars.length m2,.slice c2' g.procs.length d2])) (fun _ _=>True) (frame:=?VL) (fun x=>?JI) bu.mixed (by kernel_rfl) (by kernel_rfl) (fun _ _ _ _ h _=>h) ?VM ?VO ?JJ
        case JI=>
         simp only [chain.aN,chain.fill,chain.bf,chain.aY,jW,jX,jY,jZ,kz,kC,kD,kE,kF];exact rfl
        case VM=>exact⟨⟨(aB.refl _ _).drew,Oj.out.c.drew,Oj.out.mo.drew,eH (nJ Nv.out FO (fun _=>false)) fO (aB.refl (fun _=>False) u8').drew (fun i e=>e.elim) (fun i e e2=>e2.elim) (fun i e=>by cases e),fun i e=>.inl e,kO.out.drew⟩,_,_,_,rfl⟩
        case VO=>
         iterate 17 (refine ak.cons (fun x vs u hF hm hb hd K' hK'=>?_) ?_;rotate_left)
         exact ak.nil
         ·have HF:=Z_ hF;clear hd hm hb hF;go_simp;exact hK'.out _ _ _ (rfl) trivial ⟨rfl,HF.out⟩
         ·have y0:x 107=.pointer (some ⟨C,0,none⟩):=(D_ hd 0 :);have HF:=Z_ hF;clear hd hm hb hF;go_simp;exact hK'.out _ _ _ (by simp only [y0];rfl) trivial ⟨rfl,HF.out⟩
         ·have y0:x 108=.pointer (some ⟨C,0,none⟩):=(D_ hd 1 :);have HF:=Z_ hF;clear hd hm hb hF;go_simp;exact hK'.out _ _ _ (by simp only [y0];rfl) trivial ⟨rfl,HF.out⟩
         ·obtain⟨_,_,_,aO⟩:=cG.eF.any hF;have hq:=aO.2.1.cell;clear aO;have y0:x 109=.pointer (some ⟨C,0,none⟩):=(D_ hd 2 :);have HF:=Z_ hF;clear hd hm hb hF;go_simp;exact hK'.out _ _ _ (by simp only [y0];rfl) trivial ⟨rfl,HF.out⟩
         ·have HF:=Z_ hF;clear hd hm hb hF;go_simp;exact hK'.out _ _ _ (rfl) trivial ⟨rfl,HF.out⟩
         ·have y0:x 111=.pointer (some ⟨C,0,none⟩):=(D_ hd 4 :);have HF:=Z_ hF;clear hd hm hb hF;go_simp;exact hK'.out _ _ _ (by simp only [y0];rfl) trivial ⟨rfl,HF.out⟩
         ·have y0:x 112=.pointer (some ⟨C,0,none⟩):=(D_ hd 5 :);have HF:=Z_ hF;clear hd hm hb hF;go_simp;exact hK'.out _ _ _ (by simp only [y0];rfl) trivial ⟨rfl,HF.out⟩
         ·obtain⟨_,_,_,aO⟩:=cG.eF.any hF;have hq:=aO.2.1.cell;clear aO;have y0:x 113=.pointer (some ⟨C,0,none⟩):=(D_ hd 6 :);have HF:=Z_ hF;clear hd hm hb hF;go_simp;exact hK'.out _ _ _ (by simp only [y0];rfl) trivial ⟨rfl,HF.out⟩
         ·have y0:x 114=.pointer (some ⟨Mo,0,none⟩):=(D_ hd 7 :);have HF:=Z_ hF;clear hd hm hb hF;go_simp;exact hK'.out _ _ _ (by simp only [y0];rfl) trivial ⟨rfl,HF.out⟩
         ·have y0:x 115=.pointer (some ⟨Mo,0,none⟩):=(D_ hd 8 :);have HF:=Z_ hF;clear hd hm hb hF;go_simp;exact hK'.out _ _ _ (by simp only [y0];rfl) trivial ⟨rfl,HF.out⟩
         ·have aO:=cG.eF.B hF (by have:=hb 1 _ (by decide) rfl (by kernel_rfl);omega);have hq:=aO.2.2.1.cell;clear aO;have y0:x 116=.pointer (some ⟨Mo,2,none⟩):=(D_ hd 9 :);have HF:=Z_ hF;clear hd hm hb hF;go_simp;exact hK'.out _ _ _ (by simp only [y0];rfl) trivial ⟨rfl,HF.out⟩
         ·obtain⟨_,_,_,aO⟩:=cG.eF.any hF;have hq:=aO.2.2.2.2.2.cell;clear aO;have HF:=Z_ hF;clear hd hm hb hF;go_simp;exact hK'.out _ _ _ (rfl) trivial ⟨rfl,HF.out⟩
         ·obtain rfl:=kS hm;have y0:x 118=.agg #[.string g.modn,.slice a2' g.vars.length m2,.slice c2' g.procs.length d2]:=(D_ hd 11 :);have aO:=hF.1;have HG:=Z_ (cG.bH (aO.2.2.2.1));have HF:=Z_ hF;clear hd hm hb hF aO;go_simp;exact hK'.out _ _ _ (by simp only [y0];rfl) trivial ((cG.fF chk.fO (fun u' hE=>⟨HF.out.1.1.ext hE,HF.out.1.2.1.ext hE,HF.out.1.2.2.1.ext hE,eH HF.out.1.2.2.2.1 fO hE (fun i e=>e.elim) (fun i e e2=>e2.elim) (fun i e=>by cases e),HF.out.1.2.2.2.2.1,HF.out.1.2.2.2.2.2.ext hE⟩) (fun i e=>(HG.out i e).2) HF.out rfl))
         ·obtain⟨v0,rfl⟩:=mD hm
          have y0:x 117=.slice UJ nf UK:=(D_ hd 10 :);have y1:x 119=v0:=((D_ hd 12) 119 (by kernel_rfl) :);have hF2:=hF;obtain⟨aO,hxx,gg,rfl,hgb,hgr⟩:=hF2;obtain⟨us,hu1,ho,hu3⟩:=(aO.2.2.2.1).ex;obtain⟨iW,iY,hz0,hz1,hz2⟩:=bu.aW cG.uf;have hbz:(C+1)≤u.heap.size:=by have h1:=aO.2.2.2.2.2.lt;omega
          refine wp_append_lies _ _ _ 33 rfl ((C+1)) 37 iW (.agg #[.string ⟨#[]⟩,.slice none 0 0,.slice none 0 0]) 3 64 Tryz.underlying33 iY hz0 hz1 hz2 rfl (by decide) (.slice UJ nf UK) Kn.length (us.flatMap fun u=>u.cells.toList) y0 ho ⟨gg,0,none⟩ 1 1 [.string g.modn,.slice a2' g.vars.length m2,.slice c2' g.procs.length d2] y1 rfl ?_ (by intro z_ mN;simp only [List.mem_cons,List.not_mem_nil,or_false] at mN;rcases mN with rfl|rfl|rfl<;>rfl) (by decide) (by unfold maxLen;have:=DI.out;have:=Wv.out;omega) (by have:=DI.out;have:=Wv.out;omega) hbz u.heap.size rfl ?_
          ·intro j q hj;have e:(⟨gg,0,none⟩:Addr).add j=⟨gg,j,none⟩:=(by unfold Addr.add;split<;>simp_all);rw [e,hgb.cell];simpa [Value.cells] using hj
          ·intro g9 c9 w9 ju iZ kU uI
           exact hK'.out _ _ _ rfl trivial ((cG.eG chk.fO hF hu1 hu3 rfl (fun r tY hG hC ha=>⟨aO.1.trans hC (fun i hi e=>.inr e),aO.2.1.aK hC (fun e=>by have:=Ol.out _ e;omega),aO.2.2.1.aK hC (fun e=>by have:=Ol.out _ e;have:=Oj.out.mB;omega),hG,fun i e=>by rcases ha i e with h9|h9;exact .inl h9;exact .inr (by have:=aO.1.size;omega),aO.2.2.2.2.2.aK hC (fun e=>HXF.out e)⟩) ju iZ kU))
         ·have y0:x 110=.pointer (some ⟨Mo,0,none⟩):=(D_ hd 3 :);have HF:=Z_ hF;clear hd hm hb hF;go_simp;exact hK'.out _ _ _ (by simp only [y0];rfl) trivial ⟨rfl,HF.out⟩
         ·have y0:x 121=.pointer (some ⟨Mo,0,none⟩):=(D_ hd 14 :);have HF:=Z_ hF;clear hd hm hb hF;go_simp;exact hK'.out _ _ _ (by simp only [y0];rfl) trivial ⟨rfl,HF.out⟩
         ·obtain⟨v0,v1,rfl⟩:=tN hm
          have y0:x 122=.pointer (some ⟨Mo,2,none⟩):=(D_ hd 15 :);have y1:x 120=v1:=((D_ hd 13) 120 (by kernel_rfl) :);have hF2:=hF;obtain⟨aO,gg,cc,rfl⟩:=hF2;have hq:=aO.2.2.1.cell;have AL:=aO.2.2.1.frozen;have kW:=aO.2.2.1.lt;have HF:=Z_ hF;clear hd hm hb hF aO;go_simp;exact hK'.out _ _ undef (by simp only [y0,y1];rfl) trivial ((cG.fG (z:=undef) HF.out (fun h=>⟨h.1.setCell (p:=⟨Mo,2,none⟩) (fun _=>.inl rfl) _,h.2.1.setOther (p:=⟨Mo,2,none⟩) (by have:=Oj.out.cM;exact this) _,h.2.2.1.set 2 _,eH h.2.2.2.1 fO (ai (S:=Mo) (aB.refl _ _) 2 _) (fun i e=>.inl (by have:=Oj.out.mB;omega)) (fun i e e2=>by have:=bH h.2.2.2.1 i e;have:=Oj.out.mB;omega) (fun i e=>by cases e),h.2.2.2.2.1,h.2.2.2.2.2.setOther (p:=⟨Mo,2,none⟩) (by have:=Oj.out.mB;show N8≠Mo;omega) _⟩)))
        case JJ=>
         intro x9 qX w9 hl hF hk9;obtain⟨v0,v1',v2',rfl⟩:∃ v0 v1 v2,qX=[v0,v1,v2]:=by match qX,hl with|[v0,v1,v2],_=>exact⟨_,_,_,rfl⟩
         clear hk9 hl;obtain⟨iV,xZ,Fq,iZ,ju,-⟩:=(show MF _ _ _ _ _ _ _ _ _ _ _ _ _ _ from hF);have HMA:=Z_ (Oj.out.faces (fun i e=>(Ol.out i e).1) RS.out iV Fq);have UL:=Z_ (zL iZ);have HAB:=Z_ (show ∀ i,v1'.ownBlock=some i→cO.ownBlock≠some i from fun i e e2=>by rcases ju i e with h|h;exact RS.out i h e2;have:=(bn Oj.out.row i e2).2;omega);clear iV xZ Fq iZ ju hF;go_wp2_with fail
         go_roundw
         case rel=>exact⟨q+1,at_+1,Kn ++ [(t1,g)],B,v2,v3,v5,cO,_,pa,pc,pn,by omega,rfl,by go_num,G9,MN,by rw [show (((at_+1:Nat)):Int)=(at_:Int)+1 by omega];exact HMA,UL,HAB,J6,Z_ (by have:=Qb.out;omega),Z_ (by have:=DI.out;rw [List.length_append,List.length_singleton];omega),Z_ (G0 ZB.out HKN.out)⟩
         case measure=>simp [intOf];omega
      ·have vu:=HT2.out
       rw [N_,lS,if_neg (show ¬ (Nd.mk 3 t1 m1 l1).kd=4 from(by decide:¬ ((3:Int)=4))),Oh.out] at vu;have rB:=G7.out;have vC:=G8.out;rw [lS,if_neg (show ¬ (Nd.mk 3 t1 m1 l1).kd=4 from(by decide:¬ ((3:Int)=4)))] at rB vC;have G9:=Z_ vC;have HT3:=Z_ vu;have J6:=Z_ rB;have hz1:=Qb.out;have hzz:1+N1≤fL (Nd.mk 3 t1 m1 l1):=by simp only [fL];rw [←Oh.out];omega
       have hnn:at_+(1+N1)≤1000:=by omega
       clear vu rB vC HT2 G7 G8 hz1 hzz Wp;have hcc:=Ei.out.c.cell;have hcf:=Ei.out.c.frozen;have hcl:=Ei.out.c.lt;go_upto_region 29 with (fail)
       go_still_tail 11,(by kernel_rfl)
       have UC:=Z_ (ai (S:=C) (aB.refl (fun i=>i=C) u5.drew) 4 (.int .i64 ((at_:Int)+(1+(N1:Int)))));have Ej:=Z_ ((Ei.out.extend (aB.refl _ u5).drew).lQ UC.out (Ei.out.c.drew.set 4 (.int .i64 ((at_:Int)+(1+(N1:Int))))));have HF6:=Z_ ((QK.out.aK fO (aB.refl (fun _=>False) u5).drew (fun _ e=>e.elim)).aK fO UC.out (fun i e=>by omega));go_wp2_with fail
       go_roundw
       case rel=>exact⟨q+1,at_+(1+N1),Kn,B,v2,v3,v5,cO,dw,pa,pc,pn,by omega,rfl,by go_num,G9,HT3,by rw [show ((at_+(1+N1):Nat):Int)=(at_:Int)+(1+(N1:Int)) by omega];exact Ej,HF6,RS,J6,Z_ (by have h1:=Qb.out;have h2:1+N1≤fL (Nd.mk 3 t1 m1 l1):=(by simp only [fL];have:=oO l1;rw [←Oh.out];omega);omega),Z_ (by have:=DI.out;omega),ZB⟩
       case measure=>simp [intOf];omega
      ·have vu:=HT2.out
       have rB:=G7.out;have vC:=G8.out;rw [lS,if_pos (show (Nd.mk 4 t1 m1 l1).kd=4 from rfl)] at vu rB vC;rw [J0] at vu;obtain⟨pm,rfl⟩:∃ pm,pn=pm+1:=⟨(aP (lx.drop (q+1))).length,vC.symm⟩;have G9:=Z_ (show (aP (lx.drop (q+1))).length=pm from by rw [List.length_cons] at vC;omega);obtain⟨pb,po,rfl,hpb,A_⟩:=rB.1 0 (by simp);have J6:=Z_ (And.intro (show bC 6 dB W2 (if pc=1 then some ⟨pb,po,none⟩ else some ⟨pb,po+6,none⟩) (aP (lx.drop (q+1))) from Ef rB.1 rB.2) (show (aP (lx.drop (q+1))).length≤pc-1 from by have:=rB.2;rw [List.length_cons] at this;omega));have aj2:pm+1≤pc:=by have:=rB.2;rw [List.length_cons,G9.out] at this;exact this
       obtain⟨pr,hpr⟩:∃ pr,ry (.mk 4 t1 m1 l1)=pr:=⟨_,rfl⟩;rw [hpr] at vu;replace A_:dB W2 pb po pr:=by rw [←hpr];have:=A_;rw [Nat.zero_mul,Nat.add_zero] at this;exact this
       obtain⟨p0,p1,⟨pra,prc,p2,-,-,-⟩,p3,p4,p5,-⟩:=A_;obtain⟨gv,hgv⟩:∃ gv,pr.gives=gv:=⟨_,rfl⟩;obtain⟨bv,hbv⟩:∃ bv,pr.dR=bv:=⟨_,rfl⟩;rw [hgv] at p4;rw [hbv] at p1;have UD:=Z_ hgv;have hE:=Ei.out.ext;replace p0:=(hE.cell (p:=⟨pb,po,none⟩) hpb id).trans p0;replace p1:=(hE.cell (p:=⟨pb,po+1,none⟩) hpb id).trans p1;replace p2:=(hE.cell (p:=⟨pb,po+2,none⟩) hpb id).trans p2;replace p3:=(hE.cell (p:=⟨pb,po+3,none⟩) hpb id).trans p3;replace p4:=(hE.cell (p:=⟨pb,po+4,none⟩) hpb id).trans p4;replace p5:=(hE.cell (p:=⟨pb,po+5,none⟩) hpb id).trans p5;have HT3:=Z_ vu;have hpi:(0:Int)<(pm:Int)+1:=Int.lt_add_one_of_le (Int.natCast_nonneg pm);clear vu rB vC hpr hgv hbv hE hpb HT2 G7 G8 Wp;go_upto_region 20 with (fail)
       go_still_tail 5,(by kernel_rfl)
       have Ej:=Z_ (Ei.out.extend (aB.refl _ u5).drew);have HF6:=Z_ (QK.out.aK fO (aB.refl (fun _=>False) u5).drew (fun _ e=>e.elim));clear Ei QK HK p0 p1 p2 p3 p4 p5 hkc;change wpList _ _ _ _ _ u5.drew
       generalize u5.drew=u6 at *;have UM:=Z_ (fun i e=>bn HF6.out i e);have Ol:=Z_ (fun i e=>bn Ej.out.row i e);have HXX:=Z_ (Ej.out.ext);have Wx:=Z_ (And.intro Ej.out.hC (And.intro Ej.out.hM (And.intro Ej.out.cB Ej.out.mB)));have HBD:=Z_ (J_ (H:=below Z0) ac_.out Ej.out (.mk 4 t1 m1 l1) HYI.out rfl _ HU.out (by have:=Qb.out;omega) (HYP.out rfl) pr bv gv UD.out pra prc (by have:=DI.out;omega));go_wp2_with fail
       refine HBD.out.mono ?_
       rintro e w6 ⟨zJ,Rh⟩;obtain⟨RB,hRB⟩:∃ RB,uK ⟨OWN,Kn⟩ pr (.mk 4 t1 m1 l1) at_=RB:=⟨_,rfl⟩;have Dz:=HT3.out;rw [hRB] at Rh Dz;replace Dz:=Z_ Dz;clear HBD HT3 hRB
       have Gx:∀ i,i<W2.heap.size→¬ BS C Mo cO i:=fun i hi e=>by
        have h1:=Wx.out;rcases e with e|e|e
        ·omega
        ·omega
        ·have:=Ol.out i e;omega
       cases RB with
       | bad c9 p9=>
        obtain rfl:e=_:=Rh;have qp:=Z_ (show (.bad c9 p9:Rz (Nd×List (ByteArray×aQ)×List (aI×Tr)))=T by have h:=Dz.out;have h2:=HT4.out;rw [←h] at h2;exact h2);have Oc:=Z_ (show ((p9:Nat):Int)=PP by have h:=Dz.out;have h2:=Og.out;rw [←h] at h2;exact h2);have J7:=(HR2.out.ext HXX.out).aK zJ (Gx R HR2.out.lt);have J8:=(HF2.out.ext HXX.out).aK zJ (Gx F HF2.out.lt);have Eb:=(rS.out.ext HXX.out).trans zJ (fun i hi e=>Gx i (Nat.lt_of_lt_of_le hi rS.out.size) e);go_wp2_with fail
        refine leaves_cons (f:=107) (args:=#[.pointer (some ⟨R,0,none⟩),.pointer (some ⟨F,0,none⟩)]) (by simp) (by simp [go_sem]) ?_
        refine(Oi.jA R F _ _ _ c9 ((p9:Nat):Int) _ J7 J8 (by have:=G6.out;omega)).mono ?_
        rintro e u' w'' ⟨rfl,rfl,qN,qO,rC⟩;exact⟨_,bQ rfl _ _ rfl qN Tryz.underlying119 rfl rfl qO Tryz.underlying27 rfl (by kernel_rfl),Eb.trans rC (fun i hi e=>by have:=G6.out;omega),by rw [←qp.out,←Oc.out];exact⟨_,rfl⟩⟩
       | ok t9=>
        obtain⟨rfl,v2',ZF,ZG,Ko,hms,hob⟩:=Rh;have Ws:=Z_ hms
        have QM:=Z_ (wR HF6.out FO zJ (fun i e e2=>by
         have h1:=Wx.out;have h2:=UM.out i e;rcases e2 with e2|e2|e2
         ·omega
         ·omega
         ·exact RS.out i e e2))
        have HA7:=Z_ (show ∀ i,dw.ownBlock=some i→Ko.ownBlock≠some i from fun i e e2=>by rcases hob i e2 with h|h;exact RS.out i e h;have:=UM.out i e;omega);have MO:=Z_ (show iy OWN G (lx.drop (q+1)) Kn (aP (lx.drop (q+1))) (B ++ [(pr,t9)]) (at_+fL (.mk 4 t1 m1 l1))=TM from Dz.out);clear zJ hms hob Gx Dz;go_wp2_with fail
        go_roundw
        case rel=>exact⟨q+1,at_+fL (.mk 4 t1 m1 l1),Kn,B ++ [(pr,t9)],v2',ZF,ZG,Ko,dw,(if pc=1 then some ⟨pb,po,none⟩ else some ⟨pb,po+6,none⟩),pc-1,pm,by omega,rfl,by go_num,G9,MO,Ws,QM,HA7,J6,Z_ (by have h1:=Qb.out;omega),Z_ (by have:=DI.out;rw [List.length_append,List.length_singleton];omega),ZB⟩
        case measure=>simp [intOf];omega
     ·obtain rfl:q=N:=by omega
      have MP:decide ((q:Int)<(q:Int))=false:=by simp
      have hT:=ZA.out;rw [List.drop_of_length_le (by rw [HNN.out];exact Nat.le_refl _)] at hT;replace hT:(.ok (Kn,B):Rz (List (ByteArray×aQ)×List (aI×Tr)))=TM:=hT;have qp:=Z_ (show (.ok (.mk kx tx mx lx,Kn,B):Rz (Nd×List (ByteArray×aQ)×List (aI×Tr)))=T by have h2:=HT4.out;rw [←hT] at h2;exact h2);have AP:=Z_ (vZ.out.ext);have Jm:=Z_ (HR2.out.ext AP.out);have Nv:=Z_ (HF2.out.ext AP.out);have HCC:=Z_ (vZ.out.c);have Qd:=Z_ (vZ.out.mo);have Wx:=Z_ (And.intro vZ.out.hC vZ.out.hM);have Bv:=HR2.out.lt;have Bz:=HF2.out.lt;clear hT vZ yh ZA;go_upto_region 31 with (fail)
      refine aj [5,6] (fun i v _=>v=([.pointer (some ⟨C,0,none⟩),.pointer (some ⟨C,0,none⟩),.pointer (some ⟨C,0,none⟩),.pointer (some ⟨Mo,0,none⟩),.agg #[.int .i64 0,.int .i64 0],undef,undef]:List Value).getD i undef) (GZ R F (.pointer none) (.pointer (some ⟨Mo,0,none⟩)) #[.int .i64 0,.int .i64 0] wr) (fun _ _=>True) (frame:=?NU) (fun x=>?zM) bu.mixed (by kernel_rfl) (by kernel_rfl) (fun _ _ _ _ h _=>h) ?NV ?NW ?fine
      case zM=>
       simp only [chain.aN,chain.fill,chain.bf,chain.aY,jW,jX,jY,jZ,kz,kC,kD,kE,kF];exact rfl
      case NV=>exact⟨Jm.out.drew,Nv.out.drew,(aB.refl _ _).drew⟩
      case NW=>
       iterate 7 (refine ak.cons (fun x vs u hF hm hb hd K' hK'=>?_) ?_;rotate_left)
       exact ak.nil
       ·have HF:=Z_ hF;clear hd hm hb hF;go_simp;exact hK'.out _ _ _ (rfl) trivial ⟨rfl,HF.out⟩
       ·have y0:x 137=.pointer (some ⟨C,0,none⟩):=(D_ hd 0 :);have HF:=Z_ hF;clear hd hm hb hF;go_simp;exact hK'.out _ _ _ (by simp only [y0];rfl) trivial ⟨rfl,HF.out⟩
       ·have y0:x 138=.pointer (some ⟨C,0,none⟩):=(D_ hd 1 :);have HF:=Z_ hF;clear hd hm hb hF;go_simp;exact hK'.out _ _ _ (by simp only [y0];rfl) trivial ⟨rfl,HF.out⟩
       ·have hq:=(HCC.out.aK hF.c (by have:=Wx.out.1;omega)).cell;have y0:x 139=.pointer (some ⟨C,0,none⟩):=(D_ hd 2 :);have HF:=Z_ hF;clear hd hm hb hF;go_simp;exact hK'.out _ _ _ (by simp only [y0];rfl) trivial ⟨rfl,HF.out⟩
       ·have hq:=hF.f.cell;have HF:=Z_ hF;clear hd hm hb hF;go_simp;exact hK'.out _ _ _ (rfl) trivial ⟨rfl,HF.out⟩
       ·obtain rfl:=kS hm;have y0:x 140=.pointer (some ⟨Mo,0,none⟩):=(D_ hd 3 :);obtain⟨g1,g2,g3⟩:=(show _∧_ from hF);have hq:=g1.cell;have AL:=g1.frozen;have kW:=g1.lt;have HG:=Z_ (And.intro g1 (And.intro g2 g3));clear hd hm hb hF g1 g2 g3;go_simp;obtain⟨g1,g2,g3⟩:=HG.out;have hrf:=G6.out;exact hK'.out _ _ undef (by simp only [y0];rfl) trivial ⟨g1.set 0 _,g2.setOther (p:=⟨R,0,none⟩) (by show F≠R;omega) _,g3.setCell (p:=⟨R,0,none⟩) (fun _=>.inl rfl) _⟩
       ·obtain⟨v0,rfl⟩:=mD hm
        have y0:x 141=.agg #[.int .i64 0,.int .i64 0]:=(D_ hd 4 :);obtain⟨g1,g2,g3⟩:=(show _∧_ from hF);have hq:=g2.cell;have AL:=g2.frozen;have kW:=g2.lt;have HG:=Z_ (And.intro g1 (And.intro g2 g3));clear hd hm hb hF g1 g2 g3;go_simp;obtain⟨g1,g2,g3⟩:=HG.out;have hrf:=G6.out;exact hK'.out _ _ undef (by simp only [y0];rfl) trivial ⟨(g1.setOther (p:=⟨F,0,none⟩) (by show R≠F;omega) _).setOther (p:=⟨F,1,none⟩) (by show R≠F;omega) _,(g2.set 0 _).set 1 _,(g3.setCell (p:=⟨F,0,none⟩) (fun _=>.inr rfl) _).setCell (p:=⟨F,1,none⟩) (fun _=>.inr rfl) _⟩
      case fine=>
       intro x9 qX w9 hl hF hk9;obtain⟨v0,v1,rfl⟩:=DT hl
       have jy:=Z_ (show _∧_ from hF);clear hk9 hl hF;go_wp2_with fail
       refine leaves_cons (f:=107) (args:=#[.pointer (some ⟨R,0,none⟩),.pointer (some ⟨F,0,none⟩)]) (by simp) (by simp [go_sem]) ?_
       refine(Oi.ug R F _).mono ?_
       rintro e u' w'' ⟨rfl,rfl,rfl⟩;have iV:=jy.out.2.2;have hDd:=((HD.out.ext AP.out).aK iV (by omega));refine⟨_,bQ rfl _ _ rfl jy.out.1 Tryz.underlying119 rfl rfl jy.out.2.1 Tryz.underlying27 rfl (by kernel_rfl),(rS.out.ext AP.out).trans iV (fun i hi e=>by have:=G6.out;omega),?_⟩
       rw [←qp.out];exact⟨Mo,D,_,_,_,_,_,_,_,_,_,_,_,rfl,Qd.out.aK iV (by have:=Wx.out.2;omega),hDd,by have hrf:=G6.out;have h1:=aX (aH (M:=below Z0) ((AP.out.weak fun _ _ e=>e.elim).then iV) fun i _ e=>by rcases e with e|e<;>(subst e;simp [below];omega)) _ _ MZ.out;rw [HNN.out] at h1;exact aX (aT (Nat.le_refl _) fun i hi hm=>⟨by simp [below] at hm ⊢;omega,rfl⟩) _ _ h1⟩
   ·have qp:=Z_ (show (.bad fc fp.toNat:Rz (Nd×List (ByteArray×aQ)×List (aI×Tr)))=T by have h:=HT2.out;rw [if_neg hf0] at h;exact h)
    have Oc:=Z_ (show fp=PP by have h:=HP2.out;rw [if_neg hf0] at h;exact h);have hcn:(fc != 0)=true:=by simpa using hf0
    have aj3:=Z_ (show R<F from G6.out.2.1);clear HT2 HP2 RR MX Qa;go_upto_region 12 with (fail)
    refine aj [1,2] (fun i v _=>v=([.agg #[.int .i64 fc,.int .i64 fp],undef,undef]:List Value).getD i undef) (GZ R F (.pointer none) (.pointer none) #[.int .i64 fc,.int .i64 fp] W2) (fun _ _=>True) (frame:=?Wy) (fun x=>?Kq) bu.mixed (by kernel_rfl) (by kernel_rfl) (fun _ _ _ _ h _=>h) ?WA ?WB ?find
    case Kq=>
     simp only [chain.aN,chain.fill,chain.bf,chain.aY,jW,jX,jY,jZ,kz,kC,kD,kE,kF];exact rfl
    case WA=>exact⟨HR2.out.drew,HF2.out.drew,(aB.refl _ _).drew⟩
    case WB=>
     iterate 3 (refine ak.cons (fun x vs u hF hm hb hd K' hK'=>?_) ?_;rotate_left)
     exact ak.nil
     ·have hq:=hF.f.cell;have HF:=Z_ hF;clear hd hm hb hF;go_simp;exact hK'.out _ _ _ (rfl) trivial ⟨rfl,HF.out⟩
     ·obtain rfl:=kS hm;obtain⟨g1,g2,g3⟩:=(show _∧_ from hF);have hq:=g1.cell;have AL:=g1.frozen;have kW:=g1.lt;have HG:=Z_ (And.intro g1 (And.intro g2 g3));clear hd hm hb hF g1 g2 g3;go_simp;obtain⟨g1,g2,g3⟩:=HG.out;have hrf:=G6.out;exact hK'.out _ _ undef (rfl) trivial ⟨g1.set 0 _,g2.setOther (p:=⟨R,0,none⟩) (by show F≠R;omega) _,g3.setCell (p:=⟨R,0,none⟩) (fun _=>.inl rfl) _⟩
     ·obtain⟨v0,rfl⟩:=mD hm
      have y0:x 53=.agg #[.int .i64 fc,.int .i64 fp]:=(D_ hd 0 :);obtain⟨g1,g2,g3⟩:=(show _∧_ from hF);have hq:=g2.cell;have AL:=g2.frozen;have kW:=g2.lt;have HG:=Z_ (And.intro g1 (And.intro g2 g3));clear hd hm hb hF g1 g2 g3;go_simp;obtain⟨g1,g2,g3⟩:=HG.out;have hrf:=G6.out;exact hK'.out _ _ undef (by simp only [y0];rfl) trivial ⟨(g1.setOther (p:=⟨F,0,none⟩) (by show R≠F;omega) _).setOther (p:=⟨F,1,none⟩) (by show R≠F;omega) _,(g2.set 0 _).set 1 _,(g3.setCell (p:=⟨F,0,none⟩) (fun _=>.inr rfl) _).setCell (p:=⟨F,1,none⟩) (fun _=>.inr rfl) _⟩
    case find=>
     intro x9 qX w9 hl hF hk9;obtain⟨v0,v1,rfl⟩:=DT hl
     have jy:=Z_ (show _∧_ from hF);clear hk9 hl hF;go_wp2_with fail
     exact⟨_,bQ rfl _ _ rfl jy.out.1 Tryz.underlying119 rfl rfl jy.out.2.1 Tryz.underlying27 rfl (by kernel_rfl),rS.out.trans jy.out.2.2 (fun i hi e=>by have:=G6.out;omega),by rw [←qp.out,←Oc.out];exact⟨_,rfl⟩⟩
end chk
end Go.Proofs.YtpcihajmcejliacGreatDoor
