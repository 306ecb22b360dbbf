/- The walk of the checker's Look: a text beside faces. -/
import Derived.Test.YtpcihajmcejliacGreatDoorChkRm
import Derived.Test.YtpcihajmcejliacGreatDoorFaceEqm
import Derived.Test.YtpcihajmcejliacGreatDoorFaceMaym
namespace Go.Proofs.YtpcihajmcejliacGreatDoor
open Go.RowKit
namespace chk
open bn dn
def Fg (w:World) (P:Int) (T:Rz (Nd×List (ByteArray×aN)×List (aI×Tr))) (e:Ending) (w':World):Prop:=Ext w w'∧match T with
 | .bad c _=>∃ vp,e=.returned (.tuple #[vp,.agg #[.int .i64 c,.int .i64 P]])
 | .ok r=>∃ Mo D cH dB d0 d1 d2 d3 d4 d5 d6 d7 d8,e=.returned (.tuple #[.pointer (some ⟨Mo,0,none⟩),.agg #[.int .i64 0,.int .i64 0]])∧aH w' Mo #[.pointer (some ⟨D,0,none⟩),cH,dB] 125∧aH w' D #[d0,d1,d2,d3,d4,d5,d6,d7,d8] 128∧fE (hide (below w.heap.size) w') r.1 (.agg #[d3,d4,d5,d6])
theorem Iy {x:Nd} {p:Nat} (h:(qA x p).1=0) (h3:x.kd≠3):x.kids.dropLast.length≤5:=by
 unfold qA at h;rw [if_neg h3] at h;by_cases h5:5<x.kids.dropLast.length
 ·rw [if_pos h5] at h;cases h
 ·omega
theorem Iz (m:ByteArray):∀ (l:List Nd) (i n:List (List UInt8)) (p:Nat),(iw m l i n p).1=0→∀ x∈l,x.kd≠2→x.kd≠3→x.kids.dropLast.length≤5:=by
 intro l;induction l with
 | nil=>intro i n p _ x hx;cases hx
 | cons y r ih=>
  intro i n p h x hx h2 h3;unfold iw at h;by_cases hy:y.kd=2
  ·rw [if_pos hy] at h
   repeat' split at h
   all_goals first|(cases h;done)|skip
   rcases List.mem_cons.1 hx with rfl|hx
   ·exact absurd hy h2
   ·exact ih _ _ _ h x hx h2 h3
  ·rw [if_neg hy] at h
   split at h
   ·cases h
   split at h
   ·cases h
   split at h
   ·rename_i hd
    rcases List.mem_cons.1 hx with rfl|hx
    ·exact Iy hd h3
    ·exact ih _ _ _ h x hx h2 h3
   ·rename_i hd
    exact absurd h hd
def vk (s:ByteArray) (T0:Option (List (ByteArray×aN))):Int:=match T0 with
 | none=>0
 | some G=>if (qB s).2.2.1=0 then (match gu ⟨(aT s).1.tx,fH (aT s).1.kids,aY (aT s).1.kids⟩ G (aT s).1.kids [] (aY (aT s).1.kids) [] 1 with
   | .bad _ p=>(p:Nat)
   | .ok _=>0)
  else (qB s).2.2.2
theorem lu (x:Nd) (r:List Nd):aY (x::r)=if x.kd=4 then qI x::aY r else aY r:=by
 unfold aY;rw [List.filter_cons];by_cases h:x.kd=4
 ·rw [if_pos h,if_pos (show jw x=true from by unfold jw;simpa using h)];rfl
 ·rw [if_neg h,if_neg (show ¬ jw x=true from by unfold jw;simpa using h)]
theorem Di {α : Type} {k:Nat} {In:World→Nat→Nat→α→Prop} {w:World} {b o:Nat} {x:α} {l:List α} (h:bW k In w (some ⟨b,o,none⟩) (x::l)):bW k In w (some ⟨b,o+k,none⟩) l:=fun j hj=>by
 obtain⟨b1,o1,e,hb,hi⟩:=h (j+1) (by simp;omega);cases e
 refine⟨b,o+k,rfl,hb,?_⟩
 have e2:o+k+j*k=o+(j+1)*k:=by rw [Nat.add_mul];omega
 rw [e2];exact hi
theorem Ec {s:ByteArray} (h:(qB s).2.2.1=0):(aT s).2.1=0∧(iw (aT s).1.tx (aT s).1.kids [] [] 1).1=0∧(qB s).2.2.2=0:=by
 unfold qB at h ⊢;by_cases h1:(aT s).2.1=0
 ·rw [if_pos h1] at h ⊢
  by_cases h2:(iw (aT s).1.tx (aT s).1.kids [] [] 1).1=0
  ·rw [if_pos h2];exact⟨h1,h2,rfl⟩
  ·rw [if_neg h2] at h;exact absurd h h2
 ·rw [if_neg h1] at h;exact absurd h h1
theorem yV {s:ByteArray} (h:(qB s).2.2.1=0):(∀ y∈(aT s).1.kids,jk y∧(y.kd=2∨y.kd=3∨y.kd=4)∧(y.kd=4→y.kids.dropLast.length≤5))∧kJ (aT s).1.kids≤499:=by
 obtain⟨h1,h2,-⟩:=Ec h;obtain⟨hi,hk1,-,hz⟩:=Aw s h1;have hf:=Iz _ _ _ _ _ h2;generalize (aT s).1=x at *;obtain⟨k,t,m,l⟩:=x;obtain rfl:k=1:=hk1;have hfo:=hi.form;refine⟨fun y hy=>⟨hi.kids y hy,?_,fun h4=>hf y hy (by omega) (by omega)⟩,by simp only [fP] at hz;show kJ l≤499;omega⟩
 cases hfo with
 | module ht ha hb=>
  rcases List.mem_append.1 hy with hy|hy
  ·exact .inl (ha y hy)
  ·exact .inr (hb y hy)
theorem Dj {α : Type} {k:Nat} {In:World→Nat→Nat→α→Prop} {w:World} {b o c:Nat} {x:α} {l:List α} (h:bW k In w (some ⟨b,o,none⟩) (x::l)) (hc:(x::l).length≤c):bW k In w (if c=1 then some ⟨b,o,none⟩ else some ⟨b,o+k,none⟩) l:=by
 rw [List.length_cons] at hc;by_cases e1:c=1
 ·intro j hj;omega
 ·rw [if_neg e1];exact Di h
def Fh (R F:Nat) (a b:Value) (fc:Array Value) (u0:World):List Value→World→Prop
 | [],u=>aH u R #[a] 119∧aH u F fc 27∧aB (fun i=>i=R∨i=F) u0 u
 | _::_,u=>aH u R #[b] 119∧aH u F fc 27∧aB (fun i=>i=R∨i=F) u0 u
theorem Fh.f {R F:Nat} {a b:Value} {fc:Array Value} {u0:World} {vs:List Value} {u:World} (h:Fh R F a b fc u0 vs u):aH u F fc 27:=by
 match vs,h with
 | [],h=>exact h.2.1
 | _::_,h=>exact h.2.1
theorem Fh.c {R F:Nat} {a b:Value} {fc:Array Value} {u0:World} {vs:List Value} {u:World} (h:Fh R F a b fc u0 vs u):aB (fun i=>i=R∨i=F) u0 u:=by
 match vs,h with
 | [],h=>exact h.2.2
 | _::_,h=>exact h.2.2
structure L1 (W u:World) (R F K0:Nat) (n:Nat) (G:List (ByteArray×aN)):Prop where
 ext:Ext W u
 r:aH u R #[.pointer none] 119
 f:aH u F #[.int .i64 0,.int .i64 0] 27
 m:n_.ni W u K0 n G
 hR:W.heap.size≤R
 oM:R<F
 GU:F<K0
theorem L1.extend {W u u':World} {R F K0 n:Nat} {G:List (ByteArray×aN)} (h:L1 W u R F K0 n G) (hE:Ext u u'):L1 W u' R F K0 n G:=
 ⟨h.ext.ext hE,h.r.ext hE,h.f.ext hE,h.m.aO hE id,h.hR,h.oM,h.GU⟩
theorem L1.dead {W u:World} {R F K0 n:Nat} {G:List (ByteArray×aN)} (h:L1 W u R F K0 n G):aH (((u.setCell ⟨R,0,none⟩ (.pointer none)).setCell ⟨F,0,none⟩ (.int .i64 2)).setCell ⟨F,1,none⟩ (.int .i64 0)) R #[.pointer none] 119∧aH (((u.setCell ⟨R,0,none⟩ (.pointer none)).setCell ⟨F,0,none⟩ (.int .i64 2)).setCell ⟨F,1,none⟩ (.int .i64 0)) F #[.int .i64 2,.int .i64 0] 27∧Ext W (((u.setCell ⟨R,0,none⟩ (.pointer none)).setCell ⟨F,0,none⟩ (.int .i64 2)).setCell ⟨F,1,none⟩ (.int .i64 0)):=by
 have h1:=h.hR;have h2:=h.oM
 exact⟨((h.r.set 0 _).setOther (p:=⟨F,0,none⟩) (by show R≠F;omega) _).setOther (p:=⟨F,1,none⟩) (by show R≠F;omega) _,((h.f.setOther (p:=⟨R,0,none⟩) (by show F≠R;omega) _).set 0 _).set 1 _,((h.ext.bI (p:=⟨R,0,none⟩) (by show W.heap.size≤R;omega) _).bI (p:=⟨F,0,none⟩) (by show W.heap.size≤F;omega) _).bI (p:=⟨F,1,none⟩) (by show W.heap.size≤F;omega) _⟩
theorem L1.put {W u u':World} {R F K0 n:Nat} {G G':List (ByteArray×aN)} (h:L1 W u R F K0 n G) (hg:u.grownBy u' (some K0)) (hm:n_.ni W u' K0 (n+1) G'):L1 W u' R F K0 (n+1) G':=by
 have h1:=h.hR;have h2:=h.oM;have h3:=h.GU
 exact⟨h.ext.trans (iF hg) (fun i hi e=>by omega),h.r.aO (iF hg) (by omega),h.f.aO (iF hg) (by omega),hm,h1,h2,h3⟩
theorem Dk (f:aN) (r:List aN) (G:List (ByteArray×aN)):gy (f::r) G=if (bG G f.modn).isSome=true∨iG f=false then none else gy r (G ++ [(f.modn,f)]):=rfl
theorem sJ {w:World} {b b':Nat} {c c':Array Value} {T T':TypeId} (h:aH w b c T) (h':aH w b' c' T') (hs:c.size≠c'.size):b≠b':=fun e=>by
 subst e;unfold aH at h h';rw [h] at h';injection h' with h'
 injection h' with h1 h2 h3
 exact hs (by rw [h1])
end chk
namespace dn
theorem Fj:(Tryz.prog.info? 37).map (fun i=>(i.zero,i.size,i.bytes))=some (some (.agg #[.string ⟨#[]⟩,.slice none 0 0,.slice none 0 0]),3,64):=by kernel_rfl
end dn
namespace chk
open bn dn
def NU (_:ByteArray×aN) (v:Value) (_:World):Prop:=∃ a b c,v=.agg #[a,b,c]
theorem fV (x:ByteArray×aN) (u:Value) (w w':World) (_:bZ w w') (h:NU x u w):NU x u w':=h
theorem Ed (x:ByteArray×aN) (u:Value) (w w':World) (h:NU x u w):NU x u w':=h
theorem vu {α : Type} {k:Nat} {E:TypeId} {V:α→Value→World→Prop} {B:Nat} {w w':World} {v:Value} {l:List α} (h:Grow k E V B w v l) (hV:∀ x u w w',V x u w→V x u w') {S:Nat→Prop} (hC:aB S w w') (hO:∀ i,v.ownBlock=some i→¬ S i):Grow k E V B w' v l:=
 dn.yX (eG (X':=fun _=>true) (mM h hV (fun _=>true)) (fun x u w w' _ h=>hV x u w w' h) hC (fun _ _=>.inr rfl) hO (fun _ _=>.inl rfl)) hV
theorem MS.put {W u u':World} {C Mo D K Bm:Nat} {E:dH} {v2 v3 v5:Value} {at_:Int} {cH dB:Value} {dc:Array Value} {bs:List (aI×Tr)} (h:MS W u C Mo D K Bm E v2 v3 v5 at_ cH dB dc bs) {n:Nat} {known:List (ByteArray×aN)} (hg:u.grownBy u' (some K)) (hm:n_.ni W u' K n known) (hn:n≤known.length):MS W u' C Mo D K Bm ⟨E.own,known⟩ v2 v3 v5 at_ cH dB dc bs:=by
 have hC:=iF hg;have h1:=h.hK;have h2:=h.kB;have h3:=h.cK;have h4:=h.mK
 exact⟨h.ext.trans hC (fun i hi e=>by omega),h.c.aO hC h3,h.mo.aO hC h4,h.d,h.own,⟨n,hn,hm⟩,h.row.aO iV hC (fun i e=>by omega),h.hC,h.hM,h1,h.cB,h.mB,h2,h.cM,h3,h4,Nat.le_trans h.hu hC.size⟩
theorem MS.faces {W u u':World} {C Mo D K Bm:Nat} {E:dH} {v2 v3 v5:Value} {at_:Int} {cH dB TT:Value} {dc:Array Value} {bs:List (aI×Tr)} (h:MS W u C Mo D K Bm E v2 v3 v5 at_ cH dB dc bs) (hB:∀ i,dB.ownBlock=some i→Bm≤i) (hap:∀ i,dB.ownBlock=some i→cH.ownBlock≠some i) (hC:aB (fun i=>i=Mo∨dB.ownBlock=some i) u u') (hm:aH u' Mo #[.pointer (some ⟨D,0,none⟩),cH,TT] 125):MS W u' C Mo D K Bm E v2 v3 v5 at_ cH TT dc bs:=by
 obtain⟨n,hn,hk⟩:=h.k;have h1:=h.hM;have h2:=h.mB;have h3:=h.cM;have h4:=h.mK;have h5:=h.cB;have h6:=h.kB;have h7:=h.hu;have h8:=h.ext.size
 have hob:=bh h.row;exact⟨h.ext.trans hC (fun i hi e=>by rcases e with e|e;omega;have:=hB i e;omega),h.c.aO hC (fun e=>by rcases e with e|e;exact h3 e;have:=hB _ e;omega),hm,h.d,h.own,⟨n,hn,hk.aO hC (fun e=>by rcases e with e|e;exact h4 e.symm;have:=hB _ e;omega)⟩,vu h.row D8 hC (fun i e e2=>by rcases e2 with e2|e2;have:=hob i e;omega;exact hap i e2 e),h.hC,h1,h.hK,h5,h2,h6,h3,h.cK,h4,Nat.le_trans h7 hC.size⟩
def MF (u0 u:World) (C Mo D Bm Lm:Nat) (cc:Array Value) (cH dB:Value) (fc:Array Value) (rN r:Value) (lq:List (ByteArray×aN)):Prop:=
 aB (fun i=>i=Mo∨dB.ownBlock=some i) u0 u∧aH u C cc 221∧aH u Mo #[.pointer (some ⟨D,0,none⟩),cH,rN] 125∧je (fun _=>false) 3 37 NU Bm u r lq∧(∀ i,r.ownBlock=some i→dB.ownBlock=some i∨u0.heap.size≤i)∧aH u Lm fc 37
theorem Lp (own:aN) (G K:List (ByteArray×aN)) (ps:List aI) (B:List (aI×Tr)) (a:Nat) (t:ByteArray) (m:Int) (l r:List Nd):gu own G (.mk 2 t m l::r) K ps B a=match bG G t with
 | none=>.bad 4 a
 | some f=>gu own G r (K ++ [(t,f)]) ps B (a+1):=rfl
theorem Lr (own:aN) (G K:List (ByteArray×aN)) (ps:List aI) (B:List (aI×Tr)) (a:Nat) (t:ByteArray) (m:Int) (l r:List Nd):gu own G (.mk 3 t m l::r) K ps B a=gu own G r K ps B (a+(1+l.length)):=by simp [gu,Nd.kd,Nd.kids]
theorem IA (own:aN) (G K:List (ByteArray×aN)) (p:aI) (ps:List aI) (B:List (aI×Tr)) (a:Nat) (t:ByteArray) (m:Int) (l r:List Nd):gu own G (.mk 4 t m l::r) K (p::ps) B a=(tJ ⟨own,K⟩ p (.mk 4 t m l) a).bind fun b=>gu own G r K ps (B ++ [(p,b)]) (a+fP (.mk 4 t m l)):=by simp [gu,Nd.kd]
theorem Fp {K G:List (ByteArray×aN)} {t:ByteArray} {f:aN} (h:∀ s g,bG K s=some g→bG G s=some g) (ht:bG G t=some f):∀ s g,bG (K ++ [(t,f)]) s=some g→bG G s=some g:=fun s g hs=>by
 rw [n_.vC] at hs;cases hq:bG K s with
 | some g2=>rw [hq] at hs;rw [h _ _ hq];exact hs
 | none=>
  rw [hq] at hs;by_cases e:t=s
  ·subst e;rw [if_pos rfl] at hs;rw [ht];exact hs
  ·rw [if_neg e] at hs;cases hs
set_option maxRecDepth 100000 in
set_option maxHeartbeats 32000000 in
theorem Fq (s:ByteArray) (w:World) (l:List aN) (a:Option Addr) (c:Nat) (hs:s.size≤9223372036854775807) (hv:ErrVar w) (hm:dw w) (hl:bW 3 iy w a l) (hlc:l.length≤c) (hcm:c≤maxLen) (hsum:∀ f∈l,f.vars.length+f.procs.length<maxLen) :
  Calls Tryz.prog 53 #[.string s,.slice a l.length c] w (Fg w (vk s (gy l [])) (fN s l)):=by
 obtain⟨T,hT⟩:∃ T,fN s l=T:=⟨_,rfl⟩;rw [hT];unfold fN at hT;obtain⟨T0,hT0⟩:∃ T0,gy l []=T0:=⟨_,rfl⟩;rw [hT0] at hT ⊢;obtain⟨PP,Xz⟩:∃ PP,vk s T0=PP:=⟨_,rfl⟩;rw [Xz];have XA:=Z_ Xz;have HT:=Z_ hT;have HT0:=Z_ hT0;obtain⟨n,hn⟩:∃ n,l.length=n:=⟨_,rfl⟩;rw [hn] at hlc ⊢;have HN:=Z_ hn;have HI:=Z_ hl;have HS:=Z_ hsum;have HV:=Z_ hv;have tC:=Z_ hm;have lM:=Z_ hs;obtain⟨R,hR⟩:∃ R,w.heap.size=R:=⟨_,rfl⟩;obtain⟨F,hF⟩:∃ F,R+1=F:=⟨_,rfl⟩;obtain⟨K0,hK0⟩:∃ K0,F+1=K0:=⟨_,rfl⟩;have hR0:=((aH.made w #[.pointer none] 119).alloc (.cells #[.int .i64 0,.int .i64 0] 27)).alloc (.map #[] 0);have kY:=(aH.made2 w (.cells #[.pointer none] 119) #[.int .i64 0,.int .i64 0] 27).alloc (.map #[] 0)
 have oH:=(((aB.refl (fun _=>False) w).alloc (.cells #[.pointer none] 119)).alloc (.cells #[.int .i64 0,.int .i64 0] 27)).alloc (.map #[] 0);have PU:=n_.ni.made w ((w.alloc (.cells #[.pointer none] 119)).alloc (.cells #[.int .i64 0,.int .i64 0] 27));have hz0:((w.alloc (.cells #[.pointer none] 119)).alloc (.cells #[.int .i64 0,.int .i64 0] 27)).heap.size=K0:=by simp;omega
 rw [hR] at hR0 kY;rw [hF] at kY;rw [hz0] at PU;have HL:=Z_ (show L1 w (((w.alloc (.cells #[.pointer none] 119)).alloc (.cells #[.int .i64 0,.int .i64 0] 27)).alloc (.map #[] 0)) R F K0 0 [] from⟨oH,hR0,kY,PU,by omega,by omega,by omega⟩);have hmf:∀ (fn:Fn) (first cap:Array Value) (w:World),(Instr.makeFunc fn first cap).run Tryz.prog w=.ok (.func fn first cap) w:=fun _ _ _ _=>rfl
 have hmk:=@run_makeMap Tryz.prog;clear hT hT0 Xz hn hl hsum hv hm hR0 kY oH PU hs;go_enter_defers Tryz.func53,Tryz.ntmps53
 go_upto_region 2 with (fail)
 try rw [hz0]
 try rw [hF]
 clear hz0 hR hF hK0;generalize ((w.alloc (.cells #[.pointer none] 119)).alloc (.cells #[.int .i64 0,.int .i64 0] 27)).alloc (.map #[] 0)=u0 at *;have XB:n≤9223372036854775807:=by unfold maxLen at hcm;omega
 go_wp2_with fail
 go_loopw [22] (fun i wr=>∃ (j:Nat) (G:List (ByteArray×aN)),j≤n∧i=.int .i64 (j:Nat)∧Hid (gy (l.drop j) G=T0)∧Hid (L1 w wr R F K0 j G)) (fun i _=>n-(intOf i).toNat)
 case atStart=>exact⟨0,[],Nat.zero_le _,rfl,by rw [List.drop_zero];exact HT0,HL⟩
 clear HL HT0
 case round=>
  obtain⟨j,G,hj,rfl,HG,HL⟩:=hrel;by_cases hlt:j<n
  ·have hji:(j:Int)<(n:Int):=by omega
   have hjd:decide ((j:Int)<(n:Int))=true:=by simpa using hji
   have hjl:j<l.length:=by rw [HN.out];exact hlt
   obtain⟨b,o,rfl,hb,hin⟩:=HI.out j hjl;have hG:=HG.out;rw [List.drop_eq_getElem_cons hjl,Dk] at hG;have hsm:=HS.out _ (List.getElem_mem hjl);generalize l[j]=y at hin hG hsm;obtain⟨a1,m1,c1,d1,q0,q1,q2,hfa⟩:=hin;have hbw:=Nat.lt_of_lt_of_le hb HL.out.ext.size;replace q0:wr.cell? ⟨b,o+j*3,none⟩=some (.string y.modn):=(HL.out.ext.cell (p:=⟨b,o+j*3,none⟩) hb id).trans q0;replace q1:wr.cell? ⟨b,o+j*3+1,none⟩=some (.slice a1 y.vars.length m1):=(HL.out.ext.cell (p:=⟨b,o+j*3+1,none⟩) hb id).trans q1;replace q2:wr.cell? ⟨b,o+j*3+2,none⟩=some (.slice c1 y.procs.length d1):=(HL.out.ext.cell (p:=⟨b,o+j*3+2,none⟩) hb id).trans q2;have xg:=Z_ hfa;have hym:y.modn.size≤maxLen:=by obtain⟨_,_,_,_,e,_,_,h,_⟩:=hfa;exact h
   have HY:=Z_ (aH.made wr #[.string y.modn,.slice a1 y.vars.length m1,.slice c1 y.procs.length d1] 37);have Py:=Z_ (HL.out.extend ((aB.refl (fun _=>False) wr).alloc (.cells #[.string y.modn,.slice a1 y.vars.length m1,.slice c1 y.procs.length d1] 37)));obtain⟨Y,hY⟩:∃ Y,wr.heap.size=Y:=⟨_,rfl⟩;rw [hY] at HY;have J8:=Z_ hsm;have HYM:=Z_ hym;have HG2:=Z_ hG;clear hfa hym hG HG HL hsm hbw;go_upto_region 5 with (fail)
   try rw [hY]
   generalize wr.alloc (.cells #[.string y.modn,.slice a1 y.vars.length m1,.slice c1 y.procs.length d1] 37)=u5 at *;clear q0 q1 q2 hY;obtain⟨vf,hlook,IB⟩:=Py.out.m.look HYM.out;obtain⟨kb,hkb⟩:∃ kb,(bG G y.modn).isSome=kb:=⟨_,rfl⟩;rw [hkb] at hlook;have HKB:=Z_ hkb;obtain⟨a2,m2,c2,d2,rfl,-⟩:=IB;have Pj:=HY.out.cell;go_upto_region 6 with (fail)
   have nZ:=Z_ (Py.out.extend ((aB.refl (fun _=>False) u5).alloc (.cells #[.string ((bG G y.modn).getD gY).modn,.slice a2 ((bG G y.modn).getD gY).vars.length m2,.slice c2 ((bG G y.modn).getD gY).procs.length d2] 37)));have Zb:=Z_ (HY.out.alloc (.cells #[.string ((bG G y.modn).getD gY).modn,.slice a2 ((bG G y.modn).getD gY).vars.length m2,.slice c2 ((bG G y.modn).getD gY).procs.length d2] 37));clear Pj hlook Py HY hkb;generalize u5.alloc (.cells #[.string ((bG G y.modn).getD gY).modn,.slice a2 ((bG G y.modn).getD gY).vars.length m2,.slice c2 ((bG G y.modn).getD gY).procs.length d2] 37)=u6 at *;have Pj:=Zb.out.cell;cases kb with
   | true=>
    have hb0:none=T0:=by have h:=HG2.out;rw [if_pos (.inl HKB.out)] at h;exact h
    have pJ:=Z_ (show (.bad 2 0:Rz (Nd×List (ByteArray×aN)×List (aI×Tr)))=T by have h:=HT.out;rw [←hb0] at h;exact h);have Ls:=Z_ (show (0:Int)=PP by have h:=XA.out;rw [←hb0] at h;exact h);clear hb0;have uS:=Z_ nZ.out.dead;have hrc:=nZ.out.r.cell;have hrf:=nZ.out.r.frozen;have hrl:=nZ.out.r.lt;have hF1:=nZ.out.f.setOther (p:=⟨R,0,none⟩) (by have:=nZ.out.oM;show F≠R;omega) (.pointer none);have hfc:=hF1.cell;have IC:=hF1.frozen;have hfl:=hF1.lt;have hF2:=hF1.set 0 (.int .i64 2);have PV:=hF2.cell;have Zc:=hF2.frozen;have Zd:=hF2.lt;clear hF1 hF2;go_wp2_with fail
    exact⟨_,fM rfl _ _ rfl uS.out.1 Tryz.underlying119 rfl rfl uS.out.2.1 Tryz.underlying27 rfl (by kernel_rfl),uS.out.2.2,by rw [←pJ.out,←Ls.out];exact⟨_,rfl⟩⟩
   | false=>
    have HFW:=Z_ (xg.out.ext nZ.out.ext);obtain⟨mb,hmb⟩:∃ mb,iG y=mb:=⟨_,rfl⟩;have PW:=Z_ hmb;clear hmb;go_wp2_with fail
    refine(face.Ee y _ _ HFW.out J8.out (HV.out.ext nZ.out.ext) (tC.out.ext nZ.out.ext)).mono ?_
    rintro e u7 ⟨rfl,Ie⟩;rw [PW.out];have zJ:=Z_ (nZ.out.extend Ie);have HY7:=Z_ (Zb.out.ext Ie);clear Pj nZ Zb Ie;cases mb with
    | false=>
     have hb0:none=T0:=by have h:=HG2.out;rw [if_pos (.inr PW.out)] at h;exact h
     have pJ:=Z_ (show (.bad 2 0:Rz (Nd×List (ByteArray×aN)×List (aI×Tr)))=T by have h:=HT.out;rw [←hb0] at h;exact h);have Ls:=Z_ (show (0:Int)=PP by have h:=XA.out;rw [←hb0] at h;exact h);clear hb0;have uS:=Z_ zJ.out.dead;have hrc:=zJ.out.r.cell;have hrf:=zJ.out.r.frozen;have hrl:=zJ.out.r.lt;have hF1:=zJ.out.f.setOther (p:=⟨R,0,none⟩) (by have:=zJ.out.oM;show F≠R;omega) (.pointer none);have hfc:=hF1.cell;have IC:=hF1.frozen;have hfl:=hF1.lt;have hF2:=hF1.set 0 (.int .i64 2);have PV:=hF2.cell;have Zc:=hF2.frozen;have Zd:=hF2.lt;clear hF1 hF2;go_wp2_with fail
     exact⟨_,fM rfl _ _ rfl uS.out.1 Tryz.underlying119 rfl rfl uS.out.2.1 Tryz.underlying27 rfl (by kernel_rfl),uS.out.2.2,by rw [←pJ.out,←Ls.out];exact⟨_,rfl⟩⟩
    | true=>
     have Rk:=Z_ (show gy (l.drop (j+1)) (G ++ [(y.modn,y)])=T0 by have h:=HG2.out;rw [if_neg (by rw [HKB.out,PW.out];decide)] at h;exact h)
     have hkn:bG G y.modn=none:=by have h:=HKB.out;cases hq:bG G y.modn with
      | none=>rfl
      | some z=>rw [hq] at h;cases h
     obtain⟨u8,hput,hM8,hg8⟩:=zJ.out.m.put xg.out (.inl hkn) HYM.out (by have:=HN.out;omega);have TU:=Z_ (zJ.out.put hg8 hM8);have Pj:=HY7.out.cell;clear hkn hM8 hg8 HG2;go_wp2_with fail
     go_roundw
     case rel=>exact⟨j+1,_,Nat.succ_le_of_lt hlt,by go_num,Rk,TU⟩
     case measure=>simp [intOf];omega
  ·obtain rfl:j=n:=by omega
   have hjd:decide ((j:Int)<(j:Int))=false:=by simp
   have hG0:some G=T0:=by have h:=HG.out;rw [List.drop_of_length_le (by rw [HN.out];exact Nat.le_refl _)] at h;exact h
   have hT2:=HT.out;have oN:=XA.out;rw [←hG0] at hT2 oN;replace hT2:(if (qB s).2.2.1=0 then (gu ⟨(aT s).1.tx,fH (aT s).1.kids,aY (aT s).1.kids⟩ G (aT s).1.kids [] (aY (aT s).1.kids) [] 1).bind fun r=>.ok ((aT s).1,r) else .bad (qB s).2.2.1 (qB s).2.2.2.toNat)=T:=hT2;replace oN:(if (qB s).2.2.1=0 then (match gu ⟨(aT s).1.tx,fH (aT s).1.kids,aY (aT s).1.kids⟩ G (aT s).1.kids [] (aY (aT s).1.kids) [] 1 with
   | .bad _ p=>((p:Nat):Int)
   | .ok _=>0) else (qB s).2.2.2)=PP:=oN
   have PX:=Z_ (PY.Az s wr lM.out (HV.out.ext HL.out.ext) (tC.out.ext HL.out.ext));have Ko:=Z_ (fun h=>yV (s:=s) h);have NV:=Z_ (fun h=>(Ec (s:=s) h).2.2);obtain⟨Q,hQ⟩:∃ Q,qB s=Q:=⟨_,rfl⟩;obtain⟨x,hx⟩:∃ x,(aT s).1=x:=⟨_,rfl⟩;rw [hQ,hx] at hT2 oN PX Ko;rw [hQ] at NV;obtain⟨fa,ia,fc,fp⟩:=Q;replace Ko:=Z_ (show fc=0→_ from Ko.out);replace NV:=Z_ (show fc=0→fp=0 from NV.out);have HT2:=Z_ hT2;have HP2:=Z_ oN;have TV:=Z_ HL.out;clear hT2 oN HT XA HG hG0 HL hQ hx HI HS;go_wp2_with fail
   refine PX.out.mono ?_
   rintro e w1 ⟨hE1,vp,rfl,hgood⟩;obtain⟨Z0,Ze⟩:∃ Z0,wr.heap.size=Z0:=⟨_,rfl⟩;rw [Ze] at hgood;have CE:=Z_ (TV.out.extend hE1);have PZ:=Z_ (show fc=0→_ from hgood);have Ef:=Z_ hE1;have hfc:=CE.out.f.cell;have IC:=CE.out.f.frozen;have hfl:=CE.out.f.lt;clear hE1 hgood PX;go_upto_region 11 with (fail)
   have hC2:=ak (ak (S:=F) (aB.refl _ w1) 0 (.int .i64 fc)) 1 (.int .i64 fp);have rY:=Z_ (CE.out.ext.trans hC2 (fun i hi e=>by have:=CE.out.hR;have:=CE.out.oM;omega));have HR2:=Z_ (CE.out.r.aO hC2 (by have:=CE.out.oM;omega));have HF2:=Z_ ((CE.out.f.set 0 (.int .i64 fc)).set 1 (.int .i64 fp));have Ae:=Z_ ((CE.out.m.aO hC2 (by have:=CE.out.GU;omega)).base rY.out);have HC2:=Z_ hC2;have Fv:=Z_ (show w.heap.size≤R∧R<F∧F<Z0 from⟨CE.out.hR,CE.out.oM,by rw [←Ze];exact TV.out.f.lt⟩);clear Ze;have PV:=HF2.out.cell;clear hC2 hfc IC hfl;obtain⟨W2,hW2⟩:∃ W2,(w1.setCell ⟨F,0,none⟩ (.int .i64 fc)).setCell ⟨F,1,none⟩ (.int .i64 fp)=W2:=⟨_,rfl⟩;rw [hW2] at rY HR2 HF2 Ae HC2 PV ⊢;clear hW2;by_cases hf0:fc=0
   ·subst hf0
    obtain rfl:fp=0:=NV.out rfl;obtain⟨D,a1,c1,a2,c2,a3,c3,d3,d4,d5,d6,d8,rfl,hnd,hcap,hD,RD,RE,IE,hlv,hlp,htx,hky⟩:=PZ.out rfl;obtain⟨hok,hsz⟩:=Ko.out rfl;have HT3:=Z_ (show (gu ⟨x.tx,fH x.kids,aY x.kids⟩ G x.kids [] (aY x.kids) [] 1).bind (fun r=>.ok (x,r))=T from HT2.out)
    have RF:=Z_ (show (match gu ⟨x.tx,fH x.kids,aY x.kids⟩ G x.kids [] (aY x.kids) [] 1 with
     | .bad _ p=>((p:Nat):Int)
     | .ok _=>0)=PP from HP2.out)
    have hbel:∀ i,i<w1.heap.size→i=F→below Z0 i=true:=fun i _ e=>by subst e;unfold below;rw [decide_eq_true_eq];exact Fv.out.2.2
    have hkp:=aC (M:=below Z0) HC2.out hbel
    have hown:eC W2 ⟨x.tx,fH x.kids,aY x.kids⟩ (.agg #[.string x.tx,.slice a1 (fH x.kids).length c1,.slice a2 (aY x.kids).length c2]):=
     ⟨a1,c1,a2,c2,rfl,RD.keeps (hkp.trans (az _ _)) fun _ _ _=>h_.keeps (hkp.trans (az _ _)),RE.keeps (hkp.trans (az _ _)) fun _ _ _=>dY.keeps (hkp.trans (az _ _)),Nat.le_trans htx (by decide),hcap.1,hcap.2.1,hcap.2.2.1,hcap.2.2.2⟩
    have GV:=Z_ (aJ (aC (M:=below Z0) HC2.out hbel) _ _ hnd);have hDF:=sJ hD CE.out.f (by simp);have hDR:=sJ hD CE.out.r (by simp);have HD:=Z_ (hD.aO HC2.out hDF);have HOWN:=Z_ hown;have Zf:=Z_ hok;have KE:=Z_ hsz;have TW:=Z_ hky;have Zg:=Z_ (tC.out.ext rY.out);clear hnd hcap hD RD RE IE hlv hlp htx hky hok hsz hbel hkp hown HT2 HP2 Ko NV PZ CE TV Ef HC2;go_upto_region 15 with (fail)
    obtain⟨kx,tx,mx,lx⟩:=x;have hnd:=GV.out;rw [cG] at hnd;obtain⟨a9,c9,e9,hl1,hl2,hl3,hl4⟩:=hnd;cases e9
    obtain⟨N,hN⟩:∃ N,lx.length=N:=⟨_,rfl⟩;have hNs:N≤499:=by have h1:=nX lx;have h2:kJ lx≤499:=KE.out;omega
    rw [hN] at hl1 HD;have Zh:=Z_ hN;have HI:=Z_ hl4;obtain⟨Mo,Zi⟩:∃ Mo,W2.heap.size=Mo:=⟨_,rfl⟩;obtain⟨Kb,hKb⟩:∃ Kb,Mo+1=Kb:=⟨_,rfl⟩;obtain⟨C,hC⟩:∃ C,Kb+1=C:=⟨_,rfl⟩;have hm1:=((aH.made W2 #[.pointer (some ⟨D,0,none⟩),.slice none 0 0,.slice none 0 0] 125).alloc (.map #[] 0)).alloc (.cells #[.pointer (some ⟨Mo,0,none⟩),.map (some Kb),.slice none 0 0,.int .i64 0,.int .i64 1,.pointer none,.pointer none] 221);have hc1:=aH.made ((W2.alloc (.cells #[.pointer (some ⟨D,0,none⟩),.slice none 0 0,.slice none 0 0] 125)).alloc (.map #[] 0)) #[.pointer (some ⟨Mo,0,none⟩),.map (some Kb),.slice none 0 0,.int .i64 0,.int .i64 1,.pointer none,.pointer none] 221;have hk1:=(n_.ni.made W2 (W2.alloc (.cells #[.pointer (some ⟨D,0,none⟩),.slice none 0 0,.slice none 0 0] 125))).aO ((aB.refl (fun _=>False) _).alloc (.cells #[.pointer (some ⟨Mo,0,none⟩),.map (some Kb),.slice none 0 0,.int .i64 0,.int .i64 1,.pointer none,.pointer none] 221)) id
    have he1:=(((aB.refl (fun _=>False) W2).alloc (.cells #[.pointer (some ⟨D,0,none⟩),.slice none 0 0,.slice none 0 0] 125)).alloc (.map #[] 0)).alloc (.cells #[.pointer (some ⟨Mo,0,none⟩),.map (some Kb),.slice none 0 0,.int .i64 0,.int .i64 1,.pointer none,.pointer none] 221);have hsz1:(W2.alloc (.cells #[.pointer (some ⟨D,0,none⟩),.slice none 0 0,.slice none 0 0] 125)).heap.size=Kb:=by simp;omega
    have hsz2:((W2.alloc (.cells #[.pointer (some ⟨D,0,none⟩),.slice none 0 0,.slice none 0 0] 125)).alloc (.map #[] 0)).heap.size=C:=by simp;omega
    have hsz3:(((W2.alloc (.cells #[.pointer (some ⟨D,0,none⟩),.slice none 0 0,.slice none 0 0] 125)).alloc (.map #[] 0)).alloc (.cells #[.pointer (some ⟨Mo,0,none⟩),.map (some Kb),.slice none 0 0,.int .i64 0,.int .i64 1,.pointer none,.pointer none] 221)).heap.size=C+1:=by simp;omega
    rw [Zi] at hm1;rw [hsz2] at hc1;rw [hsz1] at hk1
    try rw [Zi]
    try rw [hKb]
    try rw [hC]
    generalize ((W2.alloc (.cells #[.pointer (some ⟨D,0,none⟩),.slice none 0 0,.slice none 0 0] 125)).alloc (.map #[] 0)).alloc (.cells #[.pointer (some ⟨Mo,0,none⟩),.map (some Kb),.slice none 0 0,.int .i64 0,.int .i64 1,.pointer none,.pointer none] 221)=u3 at *;obtain⟨OWN,Am⟩:∃ OWN:aN,(⟨tx,fH lx,aY lx⟩:aN)=OWN:=⟨_,rfl⟩;have zU:=Z_ (show MS W2 u3 C Mo D Kb (C+1) ⟨OWN,[]⟩ (.slice none 0 0) (.int .i64 0) (.pointer none) 1 (.slice none 0 0) (.slice none 0 0) #[.string tx,.slice a1 (fH lx).length c1,.slice a2 (aY lx).length c2,.int .i64 kx,.string tx,.int .i64 mx,.slice a9 N c9,.slice a3 (dR lx).length c3,d8] [] from⟨he1,hc1,hm1,HD.out,⟨_,_,_,_,_,_,_,_,_,rfl,by rw [←Am];exact HOWN.out⟩,⟨0,Nat.le_refl _,hk1⟩,Grow.nil _ _ _ _ _,by omega,by omega,by omega,by omega,by omega,by omega,by omega,by omega,by omega,by omega⟩)
    have HT4:=Z_ (show (gu OWN G lx [] (aY lx) [] 1).bind (fun r=>.ok ((.mk kx tx mx lx:Nd),r))=T by rw [←Am];exact HT3.out)
    have KJ:=Z_ (show (match gu OWN G lx [] (aY lx) [] 1 with
     | .bad _ p=>((p:Nat):Int)
     | .ok _=>0)=PP by rw [←Am];exact RF.out)
    have TY:=Z_ (show bW 6 dY W2 a2 (aY lx)∧(aY lx).length≤c2 from by obtain⟨_,_,_,_,e,_,h,_,_,_,h2,_⟩:=HOWN.out;cases e;exact⟨h,h2⟩);obtain⟨TM,Zj⟩:∃ TM,gu OWN G lx [] (aY lx) [] 1=TM:=⟨_,rfl⟩;rw [Zj] at HT4 KJ;have HTM:=Z_ Zj;have hdc:=(HD.out.ext he1).cell;clear hm1 hc1 hk1 he1 hsz1 hsz2 hsz3 Zj HT3 RF hl4 hN Zi Am HOWN hmk hmf;go_upto_region 17 with (fail)
    have TZ:=Z_ (show Grow 3 37 NU (C+1) u3 (.slice none 0 0) [] from Grow.nil _ _ _ _ _);go_loopw [13,72] (fun ps i wr=>∃ (q at_:Nat) (Kn:List (ByteArray×aN)) (B:List (aI×Tr)) (v2 v3 v5 cH dB:Value) (pa:Option Addr) (pc pn:Nat),q≤N∧ps=.slice pa pn pc∧i=.int .i64 (q:Nat)∧Hid ((aY (lx.drop q)).length=pn)∧Hid (gu OWN G (lx.drop q) Kn (aY (lx.drop q)) B at_=TM)∧Hid (MS W2 wr C Mo D Kb (C+1) ⟨OWN,Kn⟩ v2 v3 v5 ((at_:Nat):Int) cH dB #[.string tx,.slice a1 (fH lx).length c1,.slice a2 (aY lx).length c2,.int .i64 kx,.string tx,.int .i64 mx,.slice a9 N c9,.slice a3 (dR lx).length c3,d8] B)∧Hid (Grow 3 37 NU (C+1) wr dB Kn)∧Hid (∀ i,dB.ownBlock=some i→cH.ownBlock≠some i)∧Hid (bW 6 dY W2 pa (aY (lx.drop q))∧(aY (lx.drop q)).length≤pc)∧Hid (at_+kJ (lx.drop q)≤1000)∧Hid (B.length≤q∧Kn.length≤q)∧Hid (∀ s g,bG Kn s=some g→bG G s=some g)) (fun _ i _=>N-(intOf i).toNat)
    case atStart=>exact⟨0,1,[],[],_,_,_,_,_,a2,c2,_,Nat.zero_le _,rfl,rfl,Z_ rfl,HTM,zU,TZ,Z_ (fun i e=>by cases e),TY,Z_ (by have h:kJ lx≤499:=KE.out;rw [List.drop_zero];omega),Z_ ⟨Nat.le_refl _,Nat.le_refl _⟩,Z_ (fun s g h=>by cases h)⟩
    clear zU TZ HTM TY hdc
    case round=>
     obtain⟨q,at_,Kn,B,v2,v3,v5,cH,dB,pa,pc,pn,hq,rfl,rfl,Cf,XC,zU,xg,P5,TY,HZ,CG,XD⟩:=hrel;by_cases hlt:q<N
     ·have hqi:(q:Int)<(N:Int):=by omega
      have GX:decide ((q:Int)<(N:Int))=true:=by simpa using hqi
      have kN:q<lx.length:=by rw [Zh.out];exact hlt
      obtain⟨b,o,rfl,hb,uv,hu,hus,hcl⟩:=HI.out q kN;rw [bK] at hb;obtain⟨hyi,hyk,hyp⟩:=Zf.out lx[q] (List.getElem_mem kN);have hyt:=TW.out lx[q] (List.getElem_mem kN);have hT:=XC.out;have hpa:=TY.out;have hZ:=HZ.out;have Rh:=Cf.out;rw [List.drop_eq_getElem_cons kN] at hT hpa hZ Rh;simp only [kJ] at hZ;generalize lx[q]=y at hu hyi hyk hyp hyt hT hpa hZ Rh;have HU:=Z_ hu;have hE:=zU.out.ext;obtain⟨k1,t1,m1,l1⟩:=y;rw [cG] at hu;obtain⟨a1',c1',rfl,-,-,hts,-⟩:=hu;obtain⟨N1,hN1⟩:∃ N1,l1.length=N1:=⟨_,rfl⟩;rw [hN1] at hcl HU;have T_:=nX l1;have KL:=Z_ hN1;have HYI:=Z_ hyi;have HYP:=Z_ hyp;have q0:wr.cell? ⟨b,o+q*4,none⟩=some (.int .i64 k1):=(hE.cell (p:=⟨b,o+q*4,none⟩) hb id).trans ((az _ W2).2 _ _ ((hcl 0 (by decide)).trans rfl))
      have q1:wr.cell? ⟨b,o+q*4+1,none⟩=some (.string t1):=(hE.cell (p:=⟨b,o+q*4+1,none⟩) hb id).trans ((az _ W2).2 _ _ ((hcl 1 (by decide)).trans rfl));have q2:wr.cell? ⟨b,o+q*4+2,none⟩=some (.int .i64 m1):=(hE.cell (p:=⟨b,o+q*4+2,none⟩) hb id).trans ((az _ W2).2 _ _ ((hcl 2 (by decide)).trans rfl));have q3:wr.cell? ⟨b,o+q*4+3,none⟩=some (.slice a1' N1 c1'):=(hE.cell (p:=⟨b,o+q*4+3,none⟩) hb id).trans ((az _ W2).2 _ _ ((hcl 3 (by decide)).trans rfl));obtain⟨Kd,XE⟩:∃ Kd,wr.heap.size=Kd:=⟨_,rfl⟩;have HK:=Z_ (show aH (wr.alloc (.cells #[.int .i64 k1,.string t1,.int .i64 m1,.slice a1' N1 c1'] 24)) Kd #[.int .i64 k1,.string t1,.int .i64 m1,.slice a1' N1 c1'] 24 by rw [←XE];exact aH.made wr _ _);have RG:C+1≤Kd:=by rw [←XE];exact zU.out.hu
      have Zk:=(aB.refl (fun _=>False) wr).alloc (.cells #[.int .i64 k1,.string t1,.int .i64 m1,.slice a1' N1 c1'] 24);have yY:=Z_ (zU.out.extend Zk);have PS:=Z_ (xg.out.aO fV Zk (fun _ e=>e.elim));have HT2:=Z_ hT;have Fz:=Z_ hpa;have RH:=Z_ hZ;have FA:=Z_ Rh;have Xq:=Z_ hts;have hks:k1=2∨k1=3∨k1=4:=hyk;clear hT hpa hZ Rh hts hcl hus hyi hyk hyp hyt hE zU xg XC TY HZ Cf hN1 Zk;go_upto_region 19 with (fail)
      try rw [XE]
      generalize wr.alloc (.cells #[.int .i64 k1,.string t1,.int .i64 m1,.slice a1' N1 c1'] 24)=u5 at *;clear q0 q1 q2 q3 XE;have hkc:=HK.out.cell;have hne1:C≠Kd:=by omega
      rcases hks with rfl|rfl|rfl
      ·have xe:=HT2.out
       rw [Lp,lu,if_neg (show ¬ (Nd.mk 2 t1 m1 l1).kd=4 from(by decide:¬ ((2:Int)=4)))] at xe;have qJ:=Fz.out;have uq:=FA.out;rw [lu,if_neg (show ¬ (Nd.mk 2 t1 m1 l1).kd=4 from(by decide:¬ ((2:Int)=4)))] at qJ uq;have FB:=Z_ uq;have HT3:=Z_ xe;have IG:=Z_ qJ;have hz1:=RH.out;have hzz:1≤fP (Nd.mk 2 t1 m1 l1):=by simp only [fP];omega
       clear xe qJ uq HT2 Fz FA;go_wp2_with fail
       refine(Ad yY.out.c (by omega) (by omega)).mono ?_
       rintro e w2 ⟨rfl,hC2,hB2⟩;have zK:=Z_ (yY.out.kV hC2 hB2);have S9:=Z_ (HK.out.aO hC2 (by omega));have HF6:=Z_ (PS.out.aO fV hC2 (fun i e=>by omega));clear hC2 hB2 yY HK PS;obtain⟨vf,hlook,IB⟩:=(Ae.out.aO zK.out.ext id).look (Nat.le_trans Xq.out (by decide));have hkc:=S9.out.cell;cases hkn:bG G t1 with
       | none=>
        rw [hkn] at hlook IB;obtain⟨a2',m2,c2',d2,rfl,-⟩:=IB;have pJ:=Z_ (show (.bad 4 at_:Rz (Nd×List (ByteArray×aN)×List (aI×Tr)))=T by have h:=HT3.out;rw [hkn] at h;have h2:=HT4.out;rw [←h] at h2;exact h2);have Ls:=Z_ (show ((at_:Nat):Int)=PP by have h:=HT3.out;rw [hkn] at h;have h2:=KJ.out;rw [←h] at h2;exact h2);go_wp2_with fail
        refine(eY 4 (at_:Nat) _).mono ?_
        rintro e w3 ⟨rfl,rfl⟩;have Zl:=zK.out.ext.alloc (.cells #[.string gY.modn,.slice a2' gY.vars.length m2,.slice c2' gY.procs.length d2] 37);have II:=HR2.out.ext Zl;have IJ:=HF2.out.ext Zl;have Df:=rY.out.ext Zl;go_wp2_with fail
        refine leaves_cons (f:=107) (args:=#[.pointer (some ⟨R,0,none⟩),.pointer (some ⟨F,0,none⟩)]) (by simp) (by simp [go_sem]) ?_
        refine(KU.jl R F _ _ _ 4 (at_:Nat) _ II IJ (by have:=Fv.out;omega)).mono ?_
        rintro e u' w'' ⟨rfl,rfl,Eg,Eh,FC⟩;exact⟨_,fM rfl _ _ rfl Eg Tryz.underlying119 rfl rfl Eh Tryz.underlying27 rfl (by kernel_rfl),Df.trans FC (fun i hi e=>by have:=Fv.out;omega),by rw [←pJ.out,←Ls.out];exact⟨_,rfl⟩⟩
       | some g=>
        rw [hkn] at hlook IB;replace IB:eC W2 g vf:=IB;have Zm:=Z_ IB;obtain⟨a2',m2,c2',d2,rfl,-⟩:=IB;have Q3:=Z_ (show gu OWN G (lx.drop (q+1)) (Kn ++ [(t1,g)]) (aY (lx.drop (q+1))) B (at_+1)=TM by have h:=HT3.out;rw [hkn] at h;exact h)
        have hkx:bG Kn t1=none∨bG Kn t1=some g:=by
         cases hq:bG Kn t1 with
         | none=>exact .inl rfl
         | some g2=>right;have:=XD.out _ _ hq;rw [hkn] at this;exact this.symm
        have HKX:=Z_ hkx;have HKN:=Z_ hkn;obtain⟨Lm,IK⟩:∃ X,w2.heap.size=X:=⟨_,rfl⟩;have P6:=Z_ (show aH (w2.alloc (.cells #[.string g.modn,.slice a2' g.vars.length m2,.slice c2' g.procs.length d2] 37)) Lm #[.string g.modn,.slice a2' g.vars.length m2,.slice c2' g.procs.length d2] 37 by rw [←IK];exact aH.made w2 _ _);have hCX:C<Lm:=by rw [←IK];exact zK.out.c.lt
        have hex:=(aB.refl (fun _=>False) w2).alloc (.cells #[.string g.modn,.slice a2' g.vars.length m2,.slice c2' g.procs.length d2] 37);have Zn:=Z_ (show ∀ i,dB.ownBlock=some i→i<Lm from fun i e=>by rw [←IK];exact(bh HF6.out i e).2);have Ua:=Z_ (zK.out.extend hex);have Ub:=Z_ (S9.out.ext hex);have OC:=Z_ (HF6.out.aO fV hex (fun _ e=>e.elim));clear hex hkx hkn zK S9 HF6 HT3;go_upto_region 25 with (fail)
        try rw [IK]
        generalize w2.alloc (.cells #[.string g.modn,.slice a2' g.vars.length m2,.slice c2' g.procs.length d2] 37)=u6 at *;clear IK hlook hkc;go_wp2_with fail
        refine(dK 4 (at_:Nat) _).mono ?_
        rintro e w3 ⟨rfl,rfl⟩;have hkc:=Ub.out.cell;have mW:=P6.out.cell;have hcc:=Ua.out.c.cell;go_upto_region 26 with (fail)
        go_still_tail 7,(by kernel_rfl)
        have Zo:=Z_ (Ua.out.extend (aB.refl _ w3).drew);have HK8:=Z_ (Ub.out.drew);have Cj:=Z_ (P6.out.drew);have Xu:=Z_ (OC.out.aO fV (aB.refl (fun _=>False) w3).drew (fun _ e=>e.elim));clear hkc mW hcc Ua Ub P6 OC;change wpList _ _ _ _ _ w3.drew
        generalize w3.drew=u7 at *;obtain⟨nk,hnk,hkm⟩:=Zo.out.k;obtain⟨u8',hput,XF,iJ⟩:=hkm.put Zm.out HKX.out (Nat.le_trans Xq.out (by decide)) (by have:=CG.out.2;have:nk≤Kn.length:=hnk;unfold maxLen;omega);have iU:=iF iJ;have Lt:=Z_ (Zo.out.put iJ XF (by rw [List.length_append,List.length_singleton];have:nk≤Kn.length:=hnk;omega));have kR:=Z_ (Cj.out.aO iU (by omega));have Ll:=Z_ (Xu.out.aO fV iU (fun i e=>by omega));clear hkm XF iJ iU Zo HK8 Cj Xu hnk;go_upto_region 27 with (fail)
        obtain⟨RI,RJ,uh,hr1,hr2⟩:=dV Ll.out;obtain⟨nf,hnf⟩:∃ nf,Kn.length=nf:=⟨_,rfl⟩;rw [hnf] at uh hr1;have HNF:=Z_ hnf;subst uh;have KQ:=Z_ (fun i e=>bh Ll.out i e);clear hnf;have Yc:=Z_ (show ¬ (Value.slice RI nf RJ).ownBlock=some Lm from fun e=>by have:=Zn.out Lm e;omega);refine ah [12,13,16] (fun i v _=>v=([.pointer (some ⟨C,0,none⟩),.pointer (some ⟨C,0,none⟩),.pointer (some ⟨C,0,none⟩),.pointer (some ⟨Mo,0,none⟩),.pointer (some ⟨C,0,none⟩),.pointer (some ⟨C,0,none⟩),.pointer (some ⟨C,0,none⟩),.pointer (some ⟨Mo,0,none⟩),.pointer (some ⟨Mo,0,none⟩),.pointer (some ⟨Mo,2,none⟩),.slice RI nf RJ,.agg #[.string g.modn,.slice a2' g.vars.length m2,.slice c2' g.procs.length d2],undef,undef,.pointer (some ⟨Mo,0,none⟩),.pointer (some ⟨Mo,2,none⟩),undef]:List Value).getD i undef) (dn.eu (fun u9 rN r lq=>MF u8' u9 C Mo D (C+1) Lm #[.pointer (some ⟨Mo,0,none⟩),.map (some Kb),v2,v3,.int .i64 ((at_:Int)+1),v5,.pointer none] cH (.slice RI nf RJ) #[.string g.modn,.slice a2' g.vars.length m2,.slice c2' g.procs.length d2] rN r lq) (fun _=>false) NU (C+1) 37 (.slice RI nf RJ) Kn (t1,g) (.agg #[.string g.modn,.slice a2' g.vars.length m2,.slice c2' g.procs.length d2])) (fun _ _=>True) (frame:=?SX) (fun x=>?Hh) bn.mixed (by kernel_rfl) (by kernel_rfl) (fun _ _ _ _ h _=>h) ?SY ?SZ ?Hj
        case Hh=>
         simp only [chain.aK,chain.fill,chain.bf,chain.aW,jJ,jK,jL,jM,jO,jP,jQ,jR,jS];exact rfl
        case SY=>exact⟨⟨(aB.refl _ _).drew,Lt.out.c.drew,Lt.out.mo.drew,eG (mM Ll.out Ed (fun _=>false)) fV (aB.refl (fun _=>False) u8').drew (fun i e=>e.elim) (fun i e e2=>e2.elim) (fun i e=>by cases e),fun i e=>.inl e,kR.out.drew⟩,_,_,_,rfl⟩
        case SZ=>
         iterate 17 (refine ai.cons (fun x vs u hF hm hb hd K' hK'=>?_) ?_;rotate_left)
         exact ai.nil
         ·have HF:=Z_ hF;clear hd hm hb hF;go_simp;exact hK'.out _ _ _ (rfl) trivial ⟨rfl,HF.out⟩
         ·have y0:x 107=.pointer (some ⟨C,0,none⟩):=(D_ hd 0 :);have HF:=Z_ hF;clear hd hm hb hF;go_simp;exact hK'.out _ _ _ (by simp only [y0];rfl) trivial ⟨rfl,HF.out⟩
         ·have y0:x 108=.pointer (some ⟨C,0,none⟩):=(D_ hd 1 :);have HF:=Z_ hF;clear hd hm hb hF;go_simp;exact hK'.out _ _ _ (by simp only [y0];rfl) trivial ⟨rfl,HF.out⟩
         ·obtain⟨_,_,_,aP⟩:=dn.eu.any hF;have hq:=aP.2.1.cell;clear aP;have y0:x 109=.pointer (some ⟨C,0,none⟩):=(D_ hd 2 :);have HF:=Z_ hF;clear hd hm hb hF;go_simp;exact hK'.out _ _ _ (by simp only [y0];rfl) trivial ⟨rfl,HF.out⟩
         ·have HF:=Z_ hF;clear hd hm hb hF;go_simp;exact hK'.out _ _ _ (rfl) trivial ⟨rfl,HF.out⟩
         ·have y0:x 111=.pointer (some ⟨C,0,none⟩):=(D_ hd 4 :);have HF:=Z_ hF;clear hd hm hb hF;go_simp;exact hK'.out _ _ _ (by simp only [y0];rfl) trivial ⟨rfl,HF.out⟩
         ·have y0:x 112=.pointer (some ⟨C,0,none⟩):=(D_ hd 5 :);have HF:=Z_ hF;clear hd hm hb hF;go_simp;exact hK'.out _ _ _ (by simp only [y0];rfl) trivial ⟨rfl,HF.out⟩
         ·obtain⟨_,_,_,aP⟩:=dn.eu.any hF;have hq:=aP.2.1.cell;clear aP;have y0:x 113=.pointer (some ⟨C,0,none⟩):=(D_ hd 6 :);have HF:=Z_ hF;clear hd hm hb hF;go_simp;exact hK'.out _ _ _ (by simp only [y0];rfl) trivial ⟨rfl,HF.out⟩
         ·have y0:x 114=.pointer (some ⟨Mo,0,none⟩):=(D_ hd 7 :);have HF:=Z_ hF;clear hd hm hb hF;go_simp;exact hK'.out _ _ _ (by simp only [y0];rfl) trivial ⟨rfl,HF.out⟩
         ·have y0:x 115=.pointer (some ⟨Mo,0,none⟩):=(D_ hd 8 :);have HF:=Z_ hF;clear hd hm hb hF;go_simp;exact hK'.out _ _ _ (by simp only [y0];rfl) trivial ⟨rfl,HF.out⟩
         ·have aP:=dn.eu.B hF (by have:=hb 1 _ (by decide) rfl (by kernel_rfl);omega);have hq:=aP.2.2.1.cell;clear aP;have y0:x 116=.pointer (some ⟨Mo,2,none⟩):=(D_ hd 9 :);have HF:=Z_ hF;clear hd hm hb hF;go_simp;exact hK'.out _ _ _ (by simp only [y0];rfl) trivial ⟨rfl,HF.out⟩
         ·obtain⟨_,_,_,aP⟩:=dn.eu.any hF;have hq:=aP.2.2.2.2.2.cell;clear aP;have HF:=Z_ hF;clear hd hm hb hF;go_simp;exact hK'.out _ _ _ (rfl) trivial ⟨rfl,HF.out⟩
         ·obtain rfl:=kF hm;have y0:x 118=.agg #[.string g.modn,.slice a2' g.vars.length m2,.slice c2' g.procs.length d2]:=(D_ hd 11 :);have aP:=hF.1;have HG:=Z_ (dn.bH (aP.2.2.2.1));have HF:=Z_ hF;clear hd hm hb hF aP;go_simp;exact hK'.out _ _ _ (by simp only [y0];rfl) trivial ((dn.fF chk.fV (fun u' hE=>⟨HF.out.1.1.ext hE,HF.out.1.2.1.ext hE,HF.out.1.2.2.1.ext hE,eG HF.out.1.2.2.2.1 fV hE (fun i e=>e.elim) (fun i e e2=>e2.elim) (fun i e=>by cases e),HF.out.1.2.2.2.2.1,HF.out.1.2.2.2.2.2.ext hE⟩) (fun i e=>(HG.out i e).2) HF.out rfl))
         ·obtain⟨v0,rfl⟩:=lK hm
          have y0:x 117=.slice RI nf RJ:=(D_ hd 10 :);have y1:x 119=v0:=((D_ hd 12) 119 (by kernel_rfl) :);have hF2:=hF;obtain⟨aP,hxx,gg,rfl,hgb,hgr⟩:=hF2;obtain⟨us,hu1,ho,hu3⟩:=(aP.2.2.2.1).ex;obtain⟨jc,jd,hz0,hz1,hz2⟩:=bn.aX dn.Fj;have hbz:(C+1)≤u.heap.size:=by have h1:=aP.2.2.2.2.2.lt;omega
          refine wp_append_lies _ _ _ 33 rfl ((C+1)) 37 jc (.agg #[.string ⟨#[]⟩,.slice none 0 0,.slice none 0 0]) 3 64 Tryz.underlying33 jd hz0 hz1 hz2 rfl (by decide) (.slice RI nf RJ) Kn.length (us.flatMap fun u=>u.cells.toList) y0 ho ⟨gg,0,none⟩ 1 1 [.string g.modn,.slice a2' g.vars.length m2,.slice c2' g.procs.length d2] y1 rfl ?_ (by intro z_ kW;simp only [List.mem_cons,List.not_mem_nil,or_false] at kW;rcases kW with rfl|rfl|rfl<;>rfl) (by decide) (by unfold maxLen;have:=CG.out;have:=HNF.out;omega) (by have:=CG.out;have:=HNF.out;omega) hbz u.heap.size rfl ?_
          ·intro j q hj;have e:(⟨gg,0,none⟩:Addr).add j=⟨gg,j,none⟩:=(by unfold Addr.add;split<;>simp_all);rw [e,hgb.cell];simpa [Value.cells] using hj
          ·intro g9 c9 w9 iQ iJ jU qF
           exact hK'.out _ _ _ rfl trivial ((dn.eF chk.fV hF hu1 hu3 rfl (fun r sD hG hC ha=>⟨aP.1.trans hC (fun i hi e=>.inr e),aP.2.1.aO hC (fun e=>by have:=KQ.out _ e;omega),aP.2.2.1.aO hC (fun e=>by have:=KQ.out _ e;have:=Lt.out.mB;omega),hG,fun i e=>by rcases ha i e with h9|h9;exact .inl h9;exact .inr (by have:=aP.1.size;omega),aP.2.2.2.2.2.aO hC (fun e=>Yc.out e)⟩) iQ iJ jU))
         ·have y0:x 110=.pointer (some ⟨Mo,0,none⟩):=(D_ hd 3 :);have HF:=Z_ hF;clear hd hm hb hF;go_simp;exact hK'.out _ _ _ (by simp only [y0];rfl) trivial ⟨rfl,HF.out⟩
         ·have y0:x 121=.pointer (some ⟨Mo,0,none⟩):=(D_ hd 14 :);have HF:=Z_ hF;clear hd hm hb hF;go_simp;exact hK'.out _ _ _ (by simp only [y0];rfl) trivial ⟨rfl,HF.out⟩
         ·obtain⟨v0,v1,rfl⟩:=qX hm
          have y0:x 122=.pointer (some ⟨Mo,2,none⟩):=(D_ hd 15 :);have y1:x 120=v1:=((D_ hd 13) 120 (by kernel_rfl) :);have hF2:=hF;obtain⟨aP,gg,cc,rfl⟩:=hF2;have hq:=aP.2.2.1.cell;have yI:=aP.2.2.1.frozen;have kN:=aP.2.2.1.lt;have HF:=Z_ hF;clear hd hm hb hF aP;go_simp;exact hK'.out _ _ undef (by simp only [y0,y1];rfl) trivial ((dn.fG (z:=undef) HF.out (fun h=>⟨h.1.setCell (p:=⟨Mo,2,none⟩) (fun _=>.inl rfl) _,h.2.1.setOther (p:=⟨Mo,2,none⟩) (by have:=Lt.out.cM;exact this) _,h.2.2.1.set 2 _,eG h.2.2.2.1 fV (ak (S:=Mo) (aB.refl _ _) 2 _) (fun i e=>.inl (by have:=Lt.out.mB;omega)) (fun i e e2=>by have:=bH h.2.2.2.1 i e;have:=Lt.out.mB;omega) (fun i e=>by cases e),h.2.2.2.2.1,h.2.2.2.2.2.setOther (p:=⟨Mo,2,none⟩) (by have:=Lt.out.mB;show Lm≠Mo;omega) _⟩)))
        case Hj=>
         intro x9 qj w9 hl hF hk9;obtain⟨v0,v1',v2',rfl⟩:∃ v0 v1 v2,qj=[v0,v1,v2]:=by match qj,hl with|[v0,v1,v2],_=>exact⟨_,_,_,rfl⟩
         clear hk9 hl;obtain⟨iU,uz,KT,iJ,iQ,-⟩:=(show MF _ _ _ _ _ _ _ _ _ _ _ _ _ _ from hF);have HMA:=Z_ (Lt.out.faces (fun i e=>(KQ.out i e).1) P5.out iU KT);have IL:=Z_ (yM iJ);have HAB:=Z_ (show ∀ i,v1'.ownBlock=some i→cH.ownBlock≠some i from fun i e e2=>by rcases iQ i e with h|h;exact P5.out i h e2;have:=(bh Lt.out.row i e2).2;omega);clear iU uz KT iJ iQ hF;go_wp2_with fail
         go_roundw
         case rel=>exact⟨q+1,at_+1,Kn ++ [(t1,g)],B,v2,v3,v5,cH,_,pa,pc,pn,by omega,rfl,by go_num,FB,Q3,by rw [show (((at_+1:Nat)):Int)=(at_:Int)+1 by omega];exact HMA,IL,HAB,IG,Z_ (by have:=RH.out;omega),Z_ (by have:=CG.out;rw [List.length_append,List.length_singleton];omega),Z_ (Fp XD.out HKN.out)⟩
         case measure=>simp [intOf];omega
      ·have xe:=HT2.out
       rw [Lr,lu,if_neg (show ¬ (Nd.mk 3 t1 m1 l1).kd=4 from(by decide:¬ ((3:Int)=4))),KL.out] at xe;have qJ:=Fz.out;have uq:=FA.out;rw [lu,if_neg (show ¬ (Nd.mk 3 t1 m1 l1).kd=4 from(by decide:¬ ((3:Int)=4)))] at qJ uq;have FB:=Z_ uq;have HT3:=Z_ xe;have IG:=Z_ qJ;have hz1:=RH.out;have hzz:1+N1≤fP (Nd.mk 3 t1 m1 l1):=by simp only [fP];rw [←KL.out];omega
       have hnn:at_+(1+N1)≤1000:=by omega
       clear xe qJ uq HT2 Fz FA hz1 hzz T_;have hcc:=yY.out.c.cell;have hcf:=yY.out.c.frozen;have hcl:=yY.out.c.lt;go_upto_region 29 with (fail)
       go_still_tail 11,(by kernel_rfl)
       have Ru:=Z_ (ak (S:=C) (aB.refl (fun i=>i=C) u5.drew) 4 (.int .i64 ((at_:Int)+(1+(N1:Int)))));have zK:=Z_ ((yY.out.extend (aB.refl _ u5).drew).kV Ru.out (yY.out.c.drew.set 4 (.int .i64 ((at_:Int)+(1+(N1:Int))))));have HF6:=Z_ ((PS.out.aO fV (aB.refl (fun _=>False) u5).drew (fun _ e=>e.elim)).aO fV Ru.out (fun i e=>by omega));go_wp2_with fail
       go_roundw
       case rel=>exact⟨q+1,at_+(1+N1),Kn,B,v2,v3,v5,cH,dB,pa,pc,pn,by omega,rfl,by go_num,FB,HT3,by rw [show ((at_+(1+N1):Nat):Int)=(at_:Int)+(1+(N1:Int)) by omega];exact zK,HF6,P5,IG,Z_ (by have h1:=RH.out;have h2:1+N1≤fP (Nd.mk 3 t1 m1 l1):=(by simp only [fP];have:=nX l1;rw [←KL.out];omega);omega),Z_ (by have:=CG.out;omega),XD⟩
       case measure=>simp [intOf];omega
      ·have xe:=HT2.out
       have qJ:=Fz.out;have uq:=FA.out;rw [lu,if_pos (show (Nd.mk 4 t1 m1 l1).kd=4 from rfl)] at xe qJ uq;rw [IA] at xe;obtain⟨pm,rfl⟩:∃ pm,pn=pm+1:=⟨(aY (lx.drop (q+1))).length,uq.symm⟩;have FB:=Z_ (show (aY (lx.drop (q+1))).length=pm from by rw [List.length_cons] at uq;omega);obtain⟨pb,po,rfl,hpb,zX⟩:=qJ.1 0 (by simp);have IG:=Z_ (And.intro (show bW 6 dY W2 (if pc=1 then some ⟨pb,po,none⟩ else some ⟨pb,po+6,none⟩) (aY (lx.drop (q+1))) from Dj qJ.1 qJ.2) (show (aY (lx.drop (q+1))).length≤pc-1 from by have:=qJ.2;rw [List.length_cons] at this;omega));have ae1:pm+1≤pc:=by have:=qJ.2;rw [List.length_cons,FB.out] at this;exact this
       obtain⟨pr,hpr⟩:∃ pr,qI (.mk 4 t1 m1 l1)=pr:=⟨_,rfl⟩;rw [hpr] at xe;replace zX:dY W2 pb po pr:=by rw [←hpr];have:=zX;rw [Nat.zero_mul,Nat.add_zero] at this;exact this
       obtain⟨p0,p1,⟨pra,prc,p2,-,-,-⟩,p3,p4,p5,-⟩:=zX;obtain⟨gv,hgv⟩:∃ gv,pr.gives=gv:=⟨_,rfl⟩;obtain⟨bv,hbv⟩:∃ bv,pr.dX=bv:=⟨_,rfl⟩;rw [hgv] at p4;rw [hbv] at p1;have Q7:=Z_ hgv;have hE:=yY.out.ext;replace p0:=(hE.cell (p:=⟨pb,po,none⟩) hpb id).trans p0;replace p1:=(hE.cell (p:=⟨pb,po+1,none⟩) hpb id).trans p1;replace p2:=(hE.cell (p:=⟨pb,po+2,none⟩) hpb id).trans p2;replace p3:=(hE.cell (p:=⟨pb,po+3,none⟩) hpb id).trans p3;replace p4:=(hE.cell (p:=⟨pb,po+4,none⟩) hpb id).trans p4;replace p5:=(hE.cell (p:=⟨pb,po+5,none⟩) hpb id).trans p5;have HT3:=Z_ xe;have hpi:(0:Int)<(pm:Int)+1:=Int.lt_add_one_of_le (Int.natCast_nonneg pm);clear xe qJ uq hpr hgv hbv hE hpb HT2 Fz FA T_;go_upto_region 20 with (fail)
       go_still_tail 5,(by kernel_rfl)
       have zK:=Z_ (yY.out.extend (aB.refl _ u5).drew);have HF6:=Z_ (PS.out.aO fV (aB.refl (fun _=>False) u5).drew (fun _ e=>e.elim));clear yY PS HK p0 p1 p2 p3 p4 p5 hkc;change wpList _ _ _ _ _ u5.drew
       generalize u5.drew=u6 at *;have HOF:=Z_ (fun i e=>bh HF6.out i e);have KQ:=Z_ (fun i e=>bh zK.out.row i e);have Zp:=Z_ (zK.out.ext);have Uc:=Z_ (And.intro zK.out.hC (And.intro zK.out.hM (And.intro zK.out.cB zK.out.mB)));have HBD:=Z_ (Hz (H:=below Z0) Zg.out zK.out (.mk 4 t1 m1 l1) HYI.out rfl _ HU.out (by have:=RH.out;omega) (HYP.out rfl) pr bv gv Q7.out pra prc (by have:=CG.out;omega));go_wp2_with fail
       refine HBD.out.mono ?_
       rintro e w6 ⟨yQ,Pe⟩;obtain⟨RB,hRB⟩:∃ RB,tJ ⟨OWN,Kn⟩ pr (.mk 4 t1 m1 l1) at_=RB:=⟨_,rfl⟩;have J5:=HT3.out;rw [hRB] at Pe J5;replace J5:=Z_ J5;clear HBD HT3 hRB
       have FD:∀ i,i<W2.heap.size→¬ BS C Mo cH i:=fun i hi e=>by
        have h1:=Uc.out;rcases e with e|e|e
        ·omega
        ·omega
        ·have:=KQ.out i e;omega
       cases RB with
       | bad c9 p9=>
        obtain rfl:e=_:=Pe;have pJ:=Z_ (show (.bad c9 p9:Rz (Nd×List (ByteArray×aN)×List (aI×Tr)))=T by have h:=J5.out;have h2:=HT4.out;rw [←h] at h2;exact h2);have Ls:=Z_ (show ((p9:Nat):Int)=PP by have h:=J5.out;have h2:=KJ.out;rw [←h] at h2;exact h2);have II:=(HR2.out.ext Zp.out).aO yQ (FD R HR2.out.lt);have IJ:=(HF2.out.ext Zp.out).aO yQ (FD F HF2.out.lt);have Df:=(rY.out.ext Zp.out).trans yQ (fun i hi e=>FD i (Nat.lt_of_lt_of_le hi rY.out.size) e);go_wp2_with fail
        refine leaves_cons (f:=107) (args:=#[.pointer (some ⟨R,0,none⟩),.pointer (some ⟨F,0,none⟩)]) (by simp) (by simp [go_sem]) ?_
        refine(KU.jl R F _ _ _ c9 ((p9:Nat):Int) _ II IJ (by have:=Fv.out;omega)).mono ?_
        rintro e u' w'' ⟨rfl,rfl,Eg,Eh,FC⟩;exact⟨_,fM rfl _ _ rfl Eg Tryz.underlying119 rfl rfl Eh Tryz.underlying27 rfl (by kernel_rfl),Df.trans FC (fun i hi e=>by have:=Fv.out;omega),by rw [←pJ.out,←Ls.out];exact⟨_,rfl⟩⟩
       | ok t9=>
        obtain⟨rfl,v2',Xn,Xo,Hw,hms,hob⟩:=Pe;have Ua:=Z_ hms
        have OC:=Z_ (vu HF6.out Ed yQ (fun i e e2=>by
         have h1:=Uc.out;have h2:=HOF.out i e;rcases e2 with e2|e2|e2
         ·omega
         ·omega
         ·exact P5.out i e e2))
        have HA7:=Z_ (show ∀ i,dB.ownBlock=some i→Hw.ownBlock≠some i from fun i e e2=>by rcases hob i e2 with h|h;exact P5.out i e h;have:=HOF.out i e;omega);have OI:=Z_ (show gu OWN G (lx.drop (q+1)) Kn (aY (lx.drop (q+1))) (B ++ [(pr,t9)]) (at_+fP (.mk 4 t1 m1 l1))=TM from J5.out);clear yQ hms hob FD J5;go_wp2_with fail
        go_roundw
        case rel=>exact⟨q+1,at_+fP (.mk 4 t1 m1 l1),Kn,B ++ [(pr,t9)],v2',Xn,Xo,Hw,dB,(if pc=1 then some ⟨pb,po,none⟩ else some ⟨pb,po+6,none⟩),pc-1,pm,by omega,rfl,by go_num,FB,OI,Ua,OC,HA7,IG,Z_ (by have h1:=RH.out;omega),Z_ (by have:=CG.out;rw [List.length_append,List.length_singleton];omega),XD⟩
        case measure=>simp [intOf];omega
     ·obtain rfl:q=N:=by omega
      have GX:decide ((q:Int)<(q:Int))=false:=by simp
      have hT:=XC.out;rw [List.drop_of_length_le (by rw [Zh.out];exact Nat.le_refl _)] at hT;replace hT:(.ok (Kn,B):Rz (List (ByteArray×aN)×List (aI×Tr)))=TM:=hT;have pJ:=Z_ (show (.ok (.mk kx tx mx lx,Kn,B):Rz (Nd×List (ByteArray×aN)×List (aI×Tr)))=T by have h2:=HT4.out;rw [←hT] at h2;exact h2);have zL:=Z_ (zU.out.ext);have Iq:=Z_ (HR2.out.ext zL.out);have Ll:=Z_ (HF2.out.ext zL.out);have HCC:=Z_ (zU.out.c);have Kq:=Z_ (zU.out.mo);have Uc:=Z_ (And.intro zU.out.hC zU.out.hM);have EW:=HR2.out.lt;have EX:=HF2.out.lt;clear hT zU xg XC;go_upto_region 31 with (fail)
      refine ah [5,6] (fun i v _=>v=([.pointer (some ⟨C,0,none⟩),.pointer (some ⟨C,0,none⟩),.pointer (some ⟨C,0,none⟩),.pointer (some ⟨Mo,0,none⟩),.agg #[.int .i64 0,.int .i64 0],undef,undef]:List Value).getD i undef) (Fh R F (.pointer none) (.pointer (some ⟨Mo,0,none⟩)) #[.int .i64 0,.int .i64 0] wr) (fun _ _=>True) (frame:=?La) (fun x=>?yT) bn.mixed (by kernel_rfl) (by kernel_rfl) (fun _ _ _ _ h _=>h) ?Lc ?Ld ?fine
      case yT=>
       simp only [chain.aK,chain.fill,chain.bf,chain.aW,jJ,jK,jL,jM,jO,jP,jQ,jR,jS];exact rfl
      case Lc=>exact⟨Iq.out.drew,Ll.out.drew,(aB.refl _ _).drew⟩
      case Ld=>
       iterate 7 (refine ai.cons (fun x vs u hF hm hb hd K' hK'=>?_) ?_;rotate_left)
       exact ai.nil
       ·have HF:=Z_ hF;clear hd hm hb hF;go_simp;exact hK'.out _ _ _ (rfl) trivial ⟨rfl,HF.out⟩
       ·have y0:x 137=.pointer (some ⟨C,0,none⟩):=(D_ hd 0 :);have HF:=Z_ hF;clear hd hm hb hF;go_simp;exact hK'.out _ _ _ (by simp only [y0];rfl) trivial ⟨rfl,HF.out⟩
       ·have y0:x 138=.pointer (some ⟨C,0,none⟩):=(D_ hd 1 :);have HF:=Z_ hF;clear hd hm hb hF;go_simp;exact hK'.out _ _ _ (by simp only [y0];rfl) trivial ⟨rfl,HF.out⟩
       ·have hq:=(HCC.out.aO hF.c (by have:=Uc.out.1;omega)).cell;have y0:x 139=.pointer (some ⟨C,0,none⟩):=(D_ hd 2 :);have HF:=Z_ hF;clear hd hm hb hF;go_simp;exact hK'.out _ _ _ (by simp only [y0];rfl) trivial ⟨rfl,HF.out⟩
       ·have hq:=hF.f.cell;have HF:=Z_ hF;clear hd hm hb hF;go_simp;exact hK'.out _ _ _ (rfl) trivial ⟨rfl,HF.out⟩
       ·obtain rfl:=kF hm;have y0:x 140=.pointer (some ⟨Mo,0,none⟩):=(D_ hd 3 :);obtain⟨g1,g2,g3⟩:=(show _∧_ from hF);have hq:=g1.cell;have yI:=g1.frozen;have kN:=g1.lt;have HG:=Z_ (And.intro g1 (And.intro g2 g3));clear hd hm hb hF g1 g2 g3;go_simp;obtain⟨g1,g2,g3⟩:=HG.out;have hrf:=Fv.out;exact hK'.out _ _ undef (by simp only [y0];rfl) trivial ⟨g1.set 0 _,g2.setOther (p:=⟨R,0,none⟩) (by show F≠R;omega) _,g3.setCell (p:=⟨R,0,none⟩) (fun _=>.inl rfl) _⟩
       ·obtain⟨v0,rfl⟩:=lK hm
        have y0:x 141=.agg #[.int .i64 0,.int .i64 0]:=(D_ hd 4 :);obtain⟨g1,g2,g3⟩:=(show _∧_ from hF);have hq:=g2.cell;have yI:=g2.frozen;have kN:=g2.lt;have HG:=Z_ (And.intro g1 (And.intro g2 g3));clear hd hm hb hF g1 g2 g3;go_simp;obtain⟨g1,g2,g3⟩:=HG.out;have hrf:=Fv.out;exact hK'.out _ _ undef (by simp only [y0];rfl) trivial ⟨(g1.setOther (p:=⟨F,0,none⟩) (by show R≠F;omega) _).setOther (p:=⟨F,1,none⟩) (by show R≠F;omega) _,(g2.set 0 _).set 1 _,(g3.setCell (p:=⟨F,0,none⟩) (fun _=>.inr rfl) _).setCell (p:=⟨F,1,none⟩) (fun _=>.inr rfl) _⟩
      case fine=>
       intro x9 qj w9 hl hF hk9;obtain⟨v0,v1,rfl⟩:=CV hl
       have mN:=Z_ (show _∧_ from hF);clear hk9 hl hF;go_wp2_with fail
       refine leaves_cons (f:=107) (args:=#[.pointer (some ⟨R,0,none⟩),.pointer (some ⟨F,0,none⟩)]) (by simp) (by simp [go_sem]) ?_
       refine(KU.sH R F _).mono ?_
       rintro e u' w'' ⟨rfl,rfl,rfl⟩;have iU:=mN.out.2.2;have hDd:=((HD.out.ext zL.out).aO iU (by omega));refine⟨_,fM rfl _ _ rfl mN.out.1 Tryz.underlying119 rfl rfl mN.out.2.1 Tryz.underlying27 rfl (by kernel_rfl),(rY.out.ext zL.out).trans iU (fun i hi e=>by have:=Fv.out;omega),?_⟩
       rw [←pJ.out];exact⟨Mo,D,_,_,_,_,_,_,_,_,_,_,_,rfl,Kq.out.aO iU (by have:=Uc.out.2;omega),hDd,by have hrf:=Fv.out;have h1:=aJ (aC (M:=below Z0) ((zL.out.weak fun _ _ e=>e.elim).then iU) fun i _ e=>by rcases e with e|e<;>(subst e;simp [below];omega)) _ _ GV.out;rw [Zh.out] at h1;exact aJ (aZ (Nat.le_refl _) fun i hi hm=>⟨by simp [below] at hm ⊢;omega,rfl⟩) _ _ h1⟩
   ·have pJ:=Z_ (show (.bad fc fp.toNat:Rz (Nd×List (ByteArray×aN)×List (aI×Tr)))=T by have h:=HT2.out;rw [if_neg hf0] at h;exact h)
    have Ls:=Z_ (show fp=PP by have h:=HP2.out;rw [if_neg hf0] at h;exact h);have hcn:(fc != 0)=true:=by simpa using hf0
    have ae2:=Z_ (show R<F from Fv.out.2.1);clear HT2 HP2 PZ Ko NV;go_upto_region 12 with (fail)
    refine ah [1,2] (fun i v _=>v=([.agg #[.int .i64 fc,.int .i64 fp],undef,undef]:List Value).getD i undef) (Fh R F (.pointer none) (.pointer none) #[.int .i64 fc,.int .i64 fp] W2) (fun _ _=>True) (frame:=?Ud) (fun x=>?IM) bn.mixed (by kernel_rfl) (by kernel_rfl) (fun _ _ _ _ h _=>h) ?Ue ?Uf ?find
    case IM=>
     simp only [chain.aK,chain.fill,chain.bf,chain.aW,jJ,jK,jL,jM,jO,jP,jQ,jR,jS];exact rfl
    case Ue=>exact⟨HR2.out.drew,HF2.out.drew,(aB.refl _ _).drew⟩
    case Uf=>
     iterate 3 (refine ai.cons (fun x vs u hF hm hb hd K' hK'=>?_) ?_;rotate_left)
     exact ai.nil
     ·have hq:=hF.f.cell;have HF:=Z_ hF;clear hd hm hb hF;go_simp;exact hK'.out _ _ _ (rfl) trivial ⟨rfl,HF.out⟩
     ·obtain rfl:=kF hm;obtain⟨g1,g2,g3⟩:=(show _∧_ from hF);have hq:=g1.cell;have yI:=g1.frozen;have kN:=g1.lt;have HG:=Z_ (And.intro g1 (And.intro g2 g3));clear hd hm hb hF g1 g2 g3;go_simp;obtain⟨g1,g2,g3⟩:=HG.out;have hrf:=Fv.out;exact hK'.out _ _ undef (rfl) trivial ⟨g1.set 0 _,g2.setOther (p:=⟨R,0,none⟩) (by show F≠R;omega) _,g3.setCell (p:=⟨R,0,none⟩) (fun _=>.inl rfl) _⟩
     ·obtain⟨v0,rfl⟩:=lK hm
      have y0:x 53=.agg #[.int .i64 fc,.int .i64 fp]:=(D_ hd 0 :);obtain⟨g1,g2,g3⟩:=(show _∧_ from hF);have hq:=g2.cell;have yI:=g2.frozen;have kN:=g2.lt;have HG:=Z_ (And.intro g1 (And.intro g2 g3));clear hd hm hb hF g1 g2 g3;go_simp;obtain⟨g1,g2,g3⟩:=HG.out;have hrf:=Fv.out;exact hK'.out _ _ undef (by simp only [y0];rfl) trivial ⟨(g1.setOther (p:=⟨F,0,none⟩) (by show R≠F;omega) _).setOther (p:=⟨F,1,none⟩) (by show R≠F;omega) _,(g2.set 0 _).set 1 _,(g3.setCell (p:=⟨F,0,none⟩) (fun _=>.inr rfl) _).setCell (p:=⟨F,1,none⟩) (fun _=>.inr rfl) _⟩
    case find=>
     intro x9 qj w9 hl hF hk9;obtain⟨v0,v1,rfl⟩:=CV hl
     have mN:=Z_ (show _∧_ from hF);clear hk9 hl hF;go_wp2_with fail
     exact⟨_,fM rfl _ _ rfl mN.out.1 Tryz.underlying119 rfl rfl mN.out.2.1 Tryz.underlying27 rfl (by kernel_rfl),rY.out.trans mN.out.2.2 (fun i hi e=>by have:=Fv.out;omega),by rw [←pJ.out,←Ls.out];exact⟨_,rfl⟩⟩
end chk
end Go.Proofs.YtpcihajmcejliacGreatDoor
