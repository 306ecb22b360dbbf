/- The walk of the program's Look: all declarations of a text. -/
import Derived.Test.YtpcihajmcejliacGreatDoorOfMo
import Derived.Test.YtpcihajmcejliacGreatDoorOrdMo
import Derived.Test.YtpcihajmcejliacGreatDoorOfCo
namespace Go.Proofs.YtpcihajmcejliacGreatDoor
open Go.RowKit
namespace J4
open bu cG jf
theorem Lh {w:World} {M:Nat→Bool} (hM:∀ b o s,M b=true→w.cell? ⟨b,o,none⟩≠some (.string s)):∀ x v,fN w x v→fN (hide M w) x v:=by
 refine rq fun k t m l ih v h=>?_
 rw [dL] at h ⊢;obtain⟨a,c,e,h1,h2,h3,h4⟩:=h;refine⟨a,c,e,h1,h2,h3,fun j hj=>?_⟩
 obtain⟨b,o,ea,hb,u,hu,hs,hc⟩:=h4 j hj;obtain⟨ku,tu,mu,au,nu,cu,rfl⟩:=cH hu
 have hMb:M b=false:=by
  cases hq:M b with
  | false=>rfl
  | true=>exact absurd ((hc 1 (by decide)).trans rfl) (hM b _ tu hq)
 refine⟨b,o,ea,by rw [bT];exact hb,_,ih _ (List.getElem_mem hj) _ hu,hs,fun i hi=>?_⟩
 rw [gG M w _ hMb];exact hc i hi
def CQ (w:World) (R:aQ×List ByteArray×Int×Int) (x:Nd) (e:Ending) (w':World):Prop:=
 Ext w w'∧∃ vp,e=.returned (.tuple #[vp,.agg #[.int .i64 R.2.2.1,.int .i64 R.2.2.2]])∧(R.2.2.1=0→∃ D a1 c1 a2 c2 a3 c3 d3 d4 d5 d6 d8,vp=.pointer (some ⟨D,0,none⟩)∧fN (hide (below w.heap.size) w') x (.agg #[d3,d4,d5,d6])∧((dP x.kids).length≤c1∧c1≤maxLen∧(aP x.kids).length≤c2∧c2≤maxLen)∧
  aC w' D #[.string x.tx,.slice a1 (dP x.kids).length c1,.slice a2 (aP x.kids).length c2,d3,d4,d5,d6,.slice a3 (dK x.kids).length c3,d8] 128∧
  bC 4 gy (hide (below w.heap.size) w') a1 (dP x.kids)∧bC 6 dB (hide (below w.heap.size) w') a2 (aP x.kids)∧kJ 1 jo (dK x.kids) (.slice a3 (dK x.kids).length c3) (hide (below w.heap.size) w')∧(dP x.kids).length≤1000∧(aP x.kids).length≤1000∧x.tx.size≤10000∧∀ y∈x.kids,y.tx.size≤10000)
def lJ (w:World) (R:aQ×List ByteArray×Int×Int) (x:Nd) (e:Ending) (w':World):Prop:=
 Ext w w'∧∃ vp,e=.returned (.tuple #[vp,.agg #[.int .i64 R.2.2.1,.int .i64 R.2.2.2]])∧(R.2.2.1=0→∃ D a1 c1 a2 c2 a3 c3 d3 d4 d5 d6 d8,vp=.pointer (some ⟨D,0,none⟩)∧fN (hide (below w.heap.size) w') x (.agg #[d3,d4,d5,d6])∧((dP x.kids).length≤c1∧c1≤maxLen∧(aP x.kids).length≤c2∧c2≤maxLen)∧
  aC w' D #[.string x.tx,.slice a1 (dP x.kids).length c1,.slice a2 (aP x.kids).length c2,d3,d4,d5,d6,.slice a3 (dK x.kids).length c3,d8] 128∧
  bC 4 gy (hide (below w.heap.size) w') a1 (dP x.kids)∧bC 6 dB (hide (below w.heap.size) w') a2 (aP x.kids)∧kJ 1 jo (dK x.kids) (.slice a3 (dK x.kids).length c3) (hide (below w.heap.size) w')∧(dP x.kids).length≤1000∧(aP x.kids).length≤1000∧x.tx.size≤10000∧(∀ y∈x.kids,y.tx.size≤10000)∧∃ Ma A,d8=.map (some Ma)∧jf.iQ w' Ma A∧w.heap.size≤Ma∧w.heap.size≤D∧D≠Ma)
theorem lJ.post {w:World} {R:aQ×List ByteArray×Int×Int} {x:Nd} {e:Ending} {w':World} (h:lJ w R x e w'):CQ w R x e w':=by
 obtain⟨h1,vp,h2,h3⟩:=h;refine⟨h1,vp,h2,fun h0=>?_⟩
 obtain⟨D,a1,c1,a2,c2,a3,c3,d3,d4,d5,d6,d8,k1,k2,k3,k4,k5,k6,k7,k8,k9,k10,k11,-⟩:=h3 h0;exact⟨D,a1,c1,a2,c2,a3,c3,d3,d4,d5,d6,d8,k1,k2,k3,k4,k5,k6,k7,k8,k9,k10,k11⟩
theorem Lj {w:World} {x:Nd} {v:Value} (h:fN w x v):x.tx.size≤10000∧∀ y∈x.kids,y.tx.size≤10000:=by
 obtain⟨k,t,m,l⟩:=x;rw [dL] at h;obtain⟨a,c,e,h1,h2,h3,h4⟩:=h;refine⟨h3,fun y hy=>?_⟩
 obtain⟨j,hj,rfl⟩:=List.getElem_of_mem (show y∈l from hy);obtain⟨b,o,ea,hb,u,hu,hs,hc⟩:=h4 j hj;generalize l[j]=y at hu;obtain⟨k2,t2,m2,l2⟩:=y;rw [dL] at hu;obtain⟨a2,c2,e2,g1,g2,g3,g4⟩:=hu;exact g3
theorem Ll {m:ByteArray} {x:Nd} {r:List Nd} {I L:List (List UInt8)} {p:Nat} (hk:x.kd=2):gQ m (x::r) I L p=if I.contains x.key=true then (5,p) else if x.tx=m then (5,p) else if 5≤I.length then (1,p) else gQ m r (I ++ [x.key]) L (p+fL x):=by
 rw [gQ,if_pos hk]
theorem Lm {m:ByteArray} {x:Nd} {r:List Nd} {I L:List (List UInt8)} {p:Nat} (hk:x.kd≠2):gQ m (x::r) I L p=if L.contains x.key=true then (5,p) else if 20≤L.length then (1,p) else if (qM x p).1=0 then gQ m r I (L ++ [x.key]) (p+fL x) else qM x p:=by
 rw [gQ,if_neg hk]
theorem O0 {x:Nd} (h:Lp x):fL x=1:=by
 obtain⟨k,t,m,l⟩:=x;have e:l=[]:=h.kids;subst e;rfl
theorem o5 (l:List Nd):l.length≤kV l:=by
 induction l with
 | nil=>exact Nat.le_refl _
 | cons x r ih=>have:=JQ x;simp only [List.length_cons,kV];omega
theorem qA {w u w':World} {Q:aQ×List ByteArray×Int×Int} {x:Nd} {LF:Int×Nat} {fa:aQ} {ia:List ByteArray} {c:Int} {p:Nat} {R F:Nat} (hQ:(if LF.1=0 then (fa,ia,(0:Int),(0:Int)) else (gZ,[],LF.1,(LF.2:Int)))=Q) (hF:LF=(c,p)) (hc:c≠0) (hE:Ext w u) (hC:aB (fun i=>i=R∨i=F) u w') (hR:w.heap.size=R) (pU:R<F):lJ w Q x (.returned (.tuple #[.pointer none,.agg #[.int .i64 c,.int .i64 (p:Nat)]])) w':=by
 subst hF;rw [if_neg hc] at hQ;subst hQ;exact⟨hE.trans hC (fun i hi e=>by omega),_,rfl,fun h=>absurd h hc⟩
def Ii (P:List (ByteArray×Int)→World→Prop) (A A2:List (ByteArray×Int)):List Value→World→Prop
 | [],u=>P A u
 | _::_,u=>P A2 u
theorem Ii.any {P:List (ByteArray×Int)→World→Prop} {A A2:List (ByteArray×Int)} {vs:List Value} {u:World} (h:Ii P A A2 vs u):∃ X,P X u:=by
 match vs,h with
 | [],h=>exact⟨_,h⟩
 | _::_,h=>exact⟨_,h⟩
theorem Ij {m:ByteArray} {x:Nd} {r:List Nd} {I:List (List UInt8)} {L:List (ByteArray×Int)} {p:Nat} (hk:x.kd≠2):gQ m (x::r) I (eX L) p=if (qh L x p).1=0 then gQ m r I (eX L ++ [x.key]) (p+fL x) else qh L x p:=by
 rw [Lm hk];unfold qh;have e:(eX L).length=L.length:=by simp [eX]
 rw [e];by_cases h1:(eX L).contains x.key=true
 ·rw [if_pos h1,if_pos h1,if_neg (show ¬ (5:Int)=0 by decide)]
 ·rw [if_neg h1,if_neg h1]
  by_cases h2:20≤L.length
  ·rw [if_pos h2,if_pos h2,if_neg (show ¬ (1:Int)=0 by decide)]
  ·rw [if_neg h2,if_neg h2]
theorem Lr {x:Nd} {L:List (ByteArray×Int)} {p:Nat} (h:(qh L x p).1=0):L.length<20:=by
 unfold qh at h;by_cases h1:(eX L).contains x.key=true
 ·rw [if_pos h1] at h;cases h
 ·rw [if_neg h1] at h
  by_cases h2:20≤L.length
  ·rw [if_pos h2] at h;cases h
  ·omega
theorem Ls (L:List (ByteArray×Int)) (x:Nd) (p:Int):eX (L ++ [(x.tx,p)])=eX L ++ [x.key]:=by simp [eX,Nd.key]
theorem Ik {l:List Nd} {q:Nat} (h:q<l.length):dP (l.take (q+1))=dP (l.take q)++(if isVar l[q]=true then [varOf l[q]] else []):=by
 rw [List.take_succ_eq_append_getElem h];simp only [dP,List.filter_append,List.map_append];congr 1
 cases hv:isVar l[q]<;>simp [List.filter,hv]
theorem EH {l:List Nd} {q:Nat} (h:q<l.length):aP (l.take (q+1))=aP (l.take q)++(if jO l[q]=true then [ry l[q]] else []):=by
 rw [List.take_succ_eq_append_getElem h];simp only [aP,List.filter_append,List.map_append];congr 1
 cases hv:jO l[q]<;>simp [List.filter,hv]
theorem Il {l:List Nd} {q:Nat} (h:q<l.length):dK (l.take (q+1))=dK (l.take q)++(if CU l[q]=true then [l[q].tx] else []):=by
 rw [List.take_succ_eq_append_getElem h];simp only [dK,List.filter_append,List.map_append];congr 1
 cases hv:CU l[q]<;>simp [List.filter,hv]
theorem CV (l:List Nd) (q:Nat):(dP (l.take q)).length≤q:=by
 have h2:(dP (l.take q)).length≤(l.take q).length:=by rw [dP,List.length_map];exact List.length_filter_le _ _
 have h3:=List.length_take_le q l;omega
theorem yV (l:List Nd) (q:Nat):(aP (l.take q)).length≤q:=by
 have h2:(aP (l.take q)).length≤(l.take q).length:=by rw [aP,List.length_map];exact List.length_filter_le _ _
 have h3:=List.length_take_le q l;omega
theorem Io {w w0 wr u:World} {R F D Mn Ma B:Nat} {t0:ByteArray} {n0 n1 n2 n3 rv rp ri:Value} {x:Nd} {L A:List (ByteArray×Int)} {fa:aQ} {ia:List ByteArray} (hD:DS w0 wr D Mn Ma B t0 n0 n1 n2 n3 rv rp ri rv rp ri (dP x.kids) (aP x.kids) (dK x.kids) L A) (ht:x.tx=t0) (hC:aB (fun i=>i=R∨i=F) wr u) (pU:R<F) (Jd:F<D) (hw:Ext w w0) (hwR:w.heap.size=R) (hFw:F<w0.heap.size) (hlen:x.kids.length≤1000) (hsm:x.tx.size≤10000∧∀ y∈x.kids,y.tx.size≤10000) (hnd:fN (hide (below w.heap.size) u) x (.agg #[n0,n1,n2,n3])) :
  lJ w (fa,ia,0,0) x (.returned (.tuple #[.pointer (some ⟨D,0,none⟩),.agg #[.int .i64 0,.int .i64 0]])) u:=by
 have hdB:=hD.Ih;have hblk:=hD.d;obtain⟨a1,c1,e1,p1,p2,p3⟩:=hD.rows.gv.row gB Ba;obtain⟨a2,c2,e2,r1,r2,r3⟩:=tZ hD.rows.gp gY yG;obtain⟨a3,c3,e3,q1,q2,q3⟩:=hD.rows.gi.row iJ CW;have hwB:w.heap.size≤B:=by have:=hw.size;have:=hD.hD;omega
 have hK:bV (hide (below B) wr) (hide (below w.heap.size) u):=(aH (M:=below B) hC (fun i hi e=>by unfold below;rw [decide_eq_true_eq];omega)).trans (aT (Nat.le_refl _) fun i hi hm=>⟨by simp [below] at hm ⊢;omega,rfl⟩);have hv:=CV x.kids x.kids.length;have hp:=yV x.kids x.kids.length;rw [List.take_length] at hv hp;rw [e1,e2,e3] at hblk;refine⟨(hw.ext hD.ext).trans hC (fun i hi e=>by omega),_,rfl,fun _=>⟨D,a1,c1,a2,c2,a3,c3,_,_,_,_,_,rfl,hnd,⟨p1,p2,r1,r2⟩,by rw [ht];exact hblk.aK hC (by omega),p3.keeps hK fun b o y=>gy.keeps hK,r3.keeps hK fun b o y=>dB.keeps hK,⟨a3,c3,rfl,q1,q2,q3.keeps hK fun b o y h=>⟨hK.2 _ _ h.1,h.2⟩⟩,by omega,by omega,hsm.1,hsm.2,Ma,A,rfl,hD.am.aK hC (by have:=hD.hA;omega),by have:=hD.hA;have:=hw.size;omega,by have:=hD.hD;have:=hw.size;omega,hD.dA⟩⟩
theorem Ip (L:List (ByteArray×Int)) (x:ByteArray) (v:Int):eX (L ++ [(x,v)])=eX L ++ [x.data.toList]:=by simp [eX]
set_option maxRecDepth 100000 in
set_option maxHeartbeats 8000000 in
theorem yX (s:ByteArray) (w:World) (hs:s.size≤9223372036854775807) (hv:ErrVar w) (hm:cE w) :
  Calls Tryz.prog 54 #[.string s] w (lJ w (jg s) (aJ s).1):=by
 obtain⟨Q,hQ⟩:∃ Q,jg s=Q:=⟨_,rfl⟩;rw [hQ];unfold jg at hQ;have hwf:=ZT.Lt s;obtain⟨R,hR⟩:∃ R,w.heap.size=R:=⟨_,rfl⟩;obtain⟨F,hF⟩:∃ F,R+1=F:=⟨_,rfl⟩;have hR0:=(aC.made w #[.pointer none] 122).alloc (.cells #[.int .i64 0,.int .i64 0] 27);have kY:=aC.made2 w (.cells #[.pointer none] 122) #[.int .i64 0,.int .i64 0] 27;rw [hR] at hR0 kY;rw [hF] at kY;have lH:=((aB.refl (fun _=>False) w).alloc (.cells #[.pointer none] 122)).alloc (.cells #[.int .i64 0,.int .i64 0] 27);have HC:=Z_ (EI s _ hs (hv.ext lH) (hm.ext lH));have hz0:((w.alloc (.cells #[.pointer none] 122)).alloc (.cells #[.int .i64 0,.int .i64 0] 27)).heap.size=F+1:=by simp;omega
 unfold rJ at HC;rw [hz0] at HC;obtain⟨T,hT⟩:∃ T,aJ s=T:=⟨_,rfl⟩;rw [hT] at hQ hwf HC ⊢;obtain⟨x,c,a⟩:=T;simp only at hQ hwf ⊢;have HQ:=Z_ hQ;have HWF:=Z_ hwf;have pU:R<F:=by omega
 have HR0:=Z_ hR0;have o_:=Z_ kY;have HX0:=Z_ lH;have hmf:∀ (fn:Fn) (first cap:Array Value) (w:World),(Instr.makeFunc fn first cap).run Tryz.prog w=.ok (.func fn first cap) w:=fun _ _ _ _=>rfl
 have hmk:=@run_makeMap Tryz.prog;clear hT hQ hR0 kY lH hwf hv hm;go_enter_defers Tryz.func54,Tryz.ntmps54
 go_upto_region 1 with (fail)
 try rw [hF]
 generalize (w.alloc (.cells #[.pointer none] 122)).alloc (.cells #[.int .i64 0,.int .i64 0] 27)=u0 at *;go_wp2_with fail
 refine HC.out.mono ?_
 rintro e w1 ⟨hE1,v1,rfl,S9⟩;have hn1:=aX (ah _ _) _ _ S9;have hR1:=HR0.out.ext hE1;have hF1:=o_.out.ext hE1;have hX1:=HX0.out.ext hE1
 have hnd1:=Lh (M:=fun i=>decide (i=R) || decide (i=F)) (fun b o s hb=>by
  simp only [Bool.or_eq_true,decide_eq_true_eq] at hb;rcases hb with rfl|rfl
  ·rw [hR1.cell];match o with
   | 0=>simp
   | o+1=>simp
  ·rw [hF1.cell];match o with
   | 0=>simp
   | 1=>simp
   | o+2=>simp) _ _ hn1
 obtain⟨k0,t0,n0,a0,l0,c0,rfl⟩:=cH hn1;have Xk:=Z_ S9;have Xl:=Z_ hnd1;have HR1:=Z_ hR1;have OA:=Z_ hF1;have AV:=Z_ hX1;have hFl:=hF1.lt;clear hn1 S9 hnd1 hR1 hF1 hX1 hE1 HC HR0 o_ HX0;have hf1:=OA.out.cell;have ae5:=OA.out.frozen;go_upto_region 2 with (fail)
 have Qm:=(aB.refl (fun i=>i=F) w1).setCell (p:=⟨F,0,none⟩) (fun _=>rfl) (.int .i64 c);have Lu:=(Qm.setCell (p:=⟨F,1,none⟩) (fun _=>rfl) (.int .i64 a)).alloc (.cells #[.int .i64 k0,.string t0,.int .i64 n0,.slice a0 l0 c0] 24);have Ed:=Z_ (HR1.out.aK Lu (by omega));have UL:=Z_ (((OA.out.set 0 (.int .i64 c)).set 1 (.int .i64 a)).alloc (.cells #[.int .i64 k0,.string t0,.int .i64 n0,.slice a0 l0 c0] 24));have DW:=Z_ (aC.made ((w1.setCell ⟨F,0,none⟩ (.int .i64 c)).setCell ⟨F,1,none⟩ (.int .i64 a)) #[.int .i64 k0,.string t0,.int .i64 n0,.slice a0 l0 c0] 24);have HXB:=Z_ (AV.out.trans Lu (fun i hi e=>by omega));have MZ:=Z_ (aX (aH (M:=fun i=>decide (i=R) || decide (i=F)) Lu fun i _ e=>by simp [e]) _ _ Xl.out);have I9:=Z_ (aX (aH (M:=below (F+1)) Lu fun i _ e=>by subst e;simp [below]) _ _ Xk.out)
 clear Xk;obtain⟨N0,hN0⟩:∃ N0,((w1.setCell ⟨F,0,none⟩ (.int .i64 c)).setCell ⟨F,1,none⟩ (.int .i64 a)).heap.size=N0:=⟨_,rfl⟩;have hNw:w1.heap.size=N0:=by rw [←hN0];simp
 rw [hN0] at DW;rw [hNw] at hFl ⊢;clear Qm Lu hf1 ae5 HR1 OA AV Xl hN0 hNw;generalize ((w1.setCell ⟨F,0,none⟩ (.int .i64 c)).setCell ⟨F,1,none⟩ (.int .i64 a)).alloc (.cells #[.int .i64 k0,.string t0,.int .i64 n0,.slice a0 l0 c0] 24)=u1 at *;have hf:=UL.out.cell;by_cases hc0:c=0
 ·subst hc0
  obtain⟨hdk,hsz,ha0⟩:=HWF.out rfl;have ae6:a=0:=ha0;subst ae6;have hq:=HQ.out;rw [if_pos rfl] at hq;have pI:=Z_ hq;obtain⟨kx,tx,nx,l⟩:=x;have MV:=Z_ (Lj MZ.out);have hnd:=MZ.out;rw [dL] at hnd;obtain⟨a9,c9,e9,hl1,hl2,hl3,hl4⟩:=hnd;cases e9
  obtain⟨N,hN⟩:∃ N,l.length=N:=⟨_,rfl⟩;rw [hN] at DW hl1;have ak2:kV l≤499:=by have h:kV l+1≤500:=hsz;omega
  have HDK:=Z_ (show ∀ y∈l,qi y from hdk);have HN:=Z_ hN;have HI:=Z_ (fun (u:World) (hE:Ext u1 u)=>hl4.keeps (aH (M:=fun i=>decide (i=R) || decide (i=F)) hE fun i _ e=>e.elim) fun b o y=>g_ (aH hE fun i _ e=>e.elim) b o y);have HHF:=Z_ (fun (i:Nat) (h:(decide (i=R) || decide (i=F))=false)=>h);rw [hN];have hl0:gQ t0 l [] [] 1=gQ t0 l [] [] 1:=rfl;obtain⟨LF,ZU⟩:∃ LF,gQ t0 l [] [] 1=LF:=⟨_,rfl⟩;have hlo:=ZT.look_ok t0 l [] [] 1;rw [ZU] at hlo;have HLO:=Z_ hlo;have Uu:=Z_ ZU;have F_:=Z_ (show (if LF.1=0 then (CX false (.mk k0 t0 n0 l),dK l,(0:Int),(0:Int)) else (gZ,[],LF.1,(LF.2:Int)))=Q by rw [←ZU];exact pI.out);have U2:=Z_ hl3;have h_:=I9;rw [hN] at h_;clear I9;clear hq HQ pI HWF hdk hN hl4 hlo ZU hl0 ha0 MZ hsz
  have HNU:=Z_ (fun (u:World) (hE:aB (fun i=>i=R∨i=F) u1 u)=>aX (aT (M':=below R) (Nat.le_refl _) fun i hi hm=>⟨by simp [below] at hm ⊢;omega,rfl⟩) _ _ (aX (aH (M:=below (F+1)) hE fun i _ e=>by rcases e with e|e<;>(subst e;simp [below];try omega)) _ _ h_.out));clear h_;have hr1:=Ed.out.cell;have ae7:=Ed.out.frozen;have Xm:=Ed.out.lt;have hn1:=DW.out.cell;have ae8:=DW.out.lt;go_upto_region 6 with (fail)
  obtain⟨Ma,ZV⟩:∃ Ma,u1.heap.size=Ma:=⟨_,rfl⟩;obtain⟨D,hD⟩:∃ D,Ma+1=D:=⟨_,rfl⟩;rw [ZV] at Xm ae8
  try rw [ZV]
  try rw [hD]
  obtain⟨w0,hw0⟩:∃ w0,u1.setCell ⟨R,0,none⟩ (.pointer (some ⟨D,0,none⟩))=w0:=⟨_,rfl⟩;rw [hw0];have hC0:aB (fun i=>i=R) u1 w0:=by rw [←hw0];exact ai (aB.refl _ _) 0 _
  have hsz0:w0.heap.size=Ma:=by rw [←hw0,←ZV];simp
  have HR0:=Z_ (show aC w0 R #[.pointer (some ⟨D,0,none⟩)] 122 from by rw [←hw0];have:=Ed.out.set 0 (.pointer (some ⟨D,0,none⟩));exact this);have o_:=Z_ (show aC w0 F #[.int .i64 0,.int .i64 0] 27 from UL.out.aK hC0 (by omega));have U3:=Z_ (DW.out.aK hC0 (by have:=DW.out.lt;have:=hFl;omega));have HX0:=Z_ (HXB.out.trans hC0 (fun i hi e=>by omega));have Zn:=Z_ (fun (u:World) (hE:aB (fun i=>i=R∨i=F) w0 u)=>HNU.out u ((hC0.weak fun _ _ e=>.inl e).then hE));clear HNU;have HI0:=Z_ (fun (u:World) (hE:Ext w0 u)=>(HI.out u1 (aB.refl _ _)).keeps (aH (M:=fun i=>decide (i=R) || decide (i=F)) (hC0.then (hE.weak fun _ _ h=>h.elim)) fun i _ e=>by simp [e]) fun b o y=>g_ (aH (M:=fun i=>decide (i=R) || decide (i=F)) (hC0.then (hE.weak fun _ _ h=>h.elim)) fun i _ e=>by simp [e]) b o y)
  have hDA:=aC.made (w0.alloc (.map #[] 0)) #[.string ⟨#[]⟩,.slice none 0 0,.slice none 0 0,.int .i64 k0,.string t0,.int .i64 n0,.slice a0 N c0,.slice none 0 0,.map (some Ma)] 128;rw [show (w0.alloc (.map #[] 0)).heap.size=D by simp [hsz0,hD]] at hDA;have hAM:=iQ.made w0;rw [hsz0] at hAM;have hEA:Ext w0 ((w0.alloc (.map #[] 0)).alloc (.cells #[.string ⟨#[]⟩,.slice none 0 0,.slice none 0 0,.int .i64 k0,.string t0,.int .i64 n0,.slice a0 N c0,.slice none 0 0,.map (some Ma)] 128)):=((aB.refl _ _).alloc _).alloc _;have Xn:=hAM.aK ((aB.refl (fun _=>False) (w0.alloc (.map #[] 0))).alloc (.cells #[.string ⟨#[]⟩,.slice none 0 0,.slice none 0 0,.int .i64 k0,.string t0,.int .i64 n0,.slice a0 N c0,.slice none 0 0,.map (some Ma)] 128)) id;have hszA:((w0.alloc (.map #[] 0)).alloc (.cells #[.string ⟨#[]⟩,.slice none 0 0,.slice none 0 0,.int .i64 k0,.string t0,.int .i64 n0,.slice a0 N c0,.slice none 0 0,.map (some Ma)] 128)).heap.size=Ma+2:=by simp [hsz0]
  clear hr1 ae7 Xm hn1 hf HI Ed UL DW HXB hw0 hAM ZV;generalize (w0.alloc (.map #[] 0)).alloc (.cells #[.string ⟨#[]⟩,.slice none 0 0,.slice none 0 0,.int .i64 k0,.string t0,.int .i64 n0,.slice a0 N c0,.slice none 0 0,.map (some Ma)] 128)=uA at *;have Xo:=Z_ hDA;have HAM:=Z_ Xn;have ZW:=Z_ hEA;have HSA:=Z_ hszA;clear hDA Xn hEA hszA;have hr:=(HR0.out.ext ZW.out).cell;have hn:=(U3.out.ext ZW.out).cell;have hd:=Xo.out.cell;have hdf:=Xo.out.frozen;have hdl:=Xo.out.lt;go_upto_region 8 with (fail)
  obtain⟨Mn,hMn⟩:∃ Mn,uA.heap.size=Mn:=⟨_,rfl⟩;have hCD:=ai (S:=D) (aB.refl _ uA) 0 (.string t0);have hEB:=hCD.alloc (.map #[] 0);have hNM:=iQ.made (uA.setCell ⟨D,0,none⟩ (.string t0));rw [show (uA.setCell ⟨D,0,none⟩ (.string t0)).heap.size=Mn by rw [←hMn];simp] at hNM;have hDB:aC ((uA.setCell ⟨D,0,none⟩ (.string t0)).alloc (.map #[] 0)) D #[.string t0,.slice none 0 0,.slice none 0 0,.int .i64 k0,.string t0,.int .i64 n0,.slice a0 N c0,.slice none 0 0,.map (some Ma)] 128:=by have:=(Xo.out.set 0 (.string t0)).alloc (.map #[] 0);exact this
  have hsA:=HSA.out;obtain⟨B,hB⟩:∃ B,Mn+1=B:=⟨_,rfl⟩
  have hDS:DS w0 ((uA.setCell ⟨D,0,none⟩ (.string t0)).alloc (.map #[] 0)) D Mn Ma B t0 (.int .i64 k0) (.string t0) (.int .i64 n0) (.slice a0 N c0) (.slice none 0 0) (.slice none 0 0) (.slice none 0 0) (.slice none 0 0) (.slice none 0 0) (.slice none 0 0) [] [] [] [] []:=
   ⟨ZW.out.trans hEB (fun i hi e=>by omega),hDB,hNM,HAM.out.aK hEB (by omega),Three.nil _ _,by omega,by omega,by omega,by omega,by omega,by omega,by omega,by omega,by omega,by simp;omega⟩
  have AX:=Z_ hDS
  try rw [hMn]
  clear hr hn hd hdf hdl hCD hEB hNM hDB hDS Xo HAM ZW HSA;generalize (uA.setCell ⟨D,0,none⟩ (.string t0)).alloc (.map #[] 0)=uB at *;have hn:=(U3.out.ext AX.out.ext).cell;have Oa:N≤9223372036854775807:=by have h1:=hl1;have h2:=hl2;unfold maxLen at h2;omega
  clear hl1 hl2 hmk;go_wp2_with fail
  go_loopw [6,35] (fun p i wr=>∃ (q pn:Nat) (rv rp ri:Value) (L A:List (ByteArray×Int)),q≤N∧p=.int .i64 (pn:Nat)∧i=.int .i64 (q:Nat)∧Hid (gQ t0 (l.drop q) (eX A) (eX L) pn=LF)∧Hid (DS w0 wr D Mn Ma B t0 (.int .i64 k0) (.string t0) (.int .i64 n0) (.slice a0 N c0) rv rp ri rv rp ri (dP (l.take q)) (aP (l.take q)) (dK (l.take q)) L A)∧A.length≤5∧L.length≤20∧A.length=(dK (l.take q)).length∧Hid (pn+kV (l.drop q)≤1000)) (fun _ i _=>N-(intOf i).toNat)
  case atStart=>exact⟨0,1,.slice none 0 0,.slice none 0 0,.slice none 0 0,[],[],Nat.zero_le _,rfl,rfl,Uu,AX,Nat.zero_le _,Nat.zero_le _,rfl,Z_ (by show 1+kV l≤1000;omega)⟩
  clear AX Uu hn
  case round=>
   obtain⟨q,pn,rv,rp,ri,L,A,hq,rfl,rfl,HT,AX,hAl,hLl,J5,HZ⟩:=hrel;by_cases hlt:q<N
   ·have hqi:(q:Int)<(N:Int):=by omega
    have MP:decide ((q:Int)<(N:Int))=true:=by simpa using hqi
    have kW:q<l.length:=by rw [HN.out];exact hlt
    obtain⟨b,o,rfl,hb,u,hu,hus,hcl⟩:=HI0.out w0 (aB.refl _ _) q kW;rw [bT] at hb;have hbl:=Nat.lt_of_lt_of_le hb AX.out.ext.size;have hy:=HDK.out l[q] (List.getElem_mem kW);have hT:=HT.out;rw [List.drop_eq_getElem_cons kW] at hT;have hZ:=HZ.out;rw [CY kW] at hZ;have AQ:=Z_ (Ik kW);have ZX:=Z_ (EH kW);have HIT:=Z_ (Il kW);have HU:=Z_ hu;generalize l[q]=y at hy hT hZ HU hu AQ ZX HIT;obtain⟨k1,t1,n1,l1⟩:=y;rw [dL] at hu;obtain⟨a1,c1,rfl,h11,h12,h13,h14⟩:=hu;have q0:wr.cell? ⟨b,o+q*4,none⟩=some (.int .i64 k1):=(AX.out.ext.cell (p:=⟨b,o+q*4,none⟩) hb id).trans ((ah _ w0).2 _ _ ((hcl 0 (by decide)).trans rfl));have q1:wr.cell? ⟨b,o+q*4+1,none⟩=some (.string t1):=(AX.out.ext.cell (p:=⟨b,o+q*4+1,none⟩) hb id).trans ((ah _ w0).2 _ _ ((hcl 1 (by decide)).trans rfl))
    have q2:wr.cell? ⟨b,o+q*4+2,none⟩=some (.int .i64 n1):=(AX.out.ext.cell (p:=⟨b,o+q*4+2,none⟩) hb id).trans ((ah _ w0).2 _ _ ((hcl 2 (by decide)).trans rfl));have q3:wr.cell? ⟨b,o+q*4+3,none⟩=some (.slice a1 l1.length c1):=(AX.out.ext.cell (p:=⟨b,o+q*4+3,none⟩) hb id).trans ((ah _ w0).2 _ _ ((hcl 3 (by decide)).trans rfl));obtain⟨N1,hN1⟩:∃ N1,l1.length=N1:=⟨_,rfl⟩;rw [hN1] at q3 h11 HU;have Oh:=Z_ hN1;have sS:=Z_ (AX.out.extend ((aB.refl (fun _=>False) wr).alloc (.cells #[.int .i64 k1,.string t1,.int .i64 n1,.slice a1 N1 c1] 24)));have HK:=Z_ (aC.made wr #[.int .i64 k1,.string t1,.int .i64 n1,.slice a1 N1 c1] 24);have HU1:=Z_ (fun (u:World) (hE:Ext w0 u)=>aX (aH (M:=fun i=>decide (i=R) || decide (i=F)) hE fun i _ e=>e.elim) _ _ HU.out)
    obtain⟨K,hK⟩:∃ K,wr.heap.size=K:=⟨_,rfl⟩;have HOWN:=Z_ (fun i e=>(bn AX.out.rows.gi i e).2);have Xp:=Z_ (fun i e=>(bn AX.out.rows.gv i e).2);have Xq:=Z_ (fun i e=>(bH AX.out.rows.gp i e).2);rw [hK] at HK HOWN Xp Xq;have hBK:B≤K:=by have:=AX.out.hu;omega
    have Nk:=Z_ hZ;clear hcl hus h14 HU HT HZ hZ hN1;go_upto_region 12 with (fail)
    clear q0 q1 q2 q3 AX
    try rw [hK]
    generalize wr.alloc (.cells #[.int .i64 k1,.string t1,.int .i64 n1,.slice a1 N1 c1] 24)=u1 at *;have hk:=HK.out.cell;have hbig:K<u1.heap.size:=HK.out.lt;have hr:=(HR0.out.ext sS.out.ext).cell;have hd:=sS.out.d.cell;have hn:=(U3.out.ext sS.out.ext).cell;have hrl:=(HR0.out.ext sS.out.ext).lt;by_cases hki:k1=2
    ·subst hki
     have hT2:=hT;rw [Ll (by rfl)] at hT2
     have himp:Lp (.mk 2 t1 n1 l1):=by
      rcases hy with h|h|h
      ·exact h
      ·exact absurd h.kd (by show ¬ (2:Int)=3;decide)
      ·exact absurd h.kd (by show ¬ (2:Int)=4;decide)
     have hs1:=O0 himp;rw [hs1] at hT2 Nk;have HS1:=Z_ hs1;have HT:=Z_ hT2;clear hT hT2 hy himp hs1;obtain⟨Bq,DJ⟩:∃ Bq,(dD A t1).isSome=Bq:=⟨_,rfl⟩;have hlook:=fun n=>(sS.out.am.drewN n).look (s:=t1) (by unfold maxLen;omega)
     rw [DJ] at hlook;have ZY:=Z_ ((xB A t1).symm.trans DJ);generalize (dD A t1).getD 0=ca at *;go_upto_region 13 with (fail)
     go_quiet (fail)
     have hnq:=(aB.refl (fun _=>False) u1).drewN nq;replace sS:=Z_ (sS.out.extend hnq);replace HK:=Z_ (HK.out.ext hnq);have ah5:=HK.out.lt;clear hlook hr hd hn hk hrl hbig hnq;generalize u1.drewN nq=u2 at *;have hr:=(HR0.out.ext sS.out.ext).cell;have hd:=sS.out.d.cell;have hn:=(U3.out.ext sS.out.ext).cell;have hk:=HK.out.cell;cases Bq with
     | true=>
      have lu:=Z_ (show LF=(5,pn) from(by have h:=HT.out;rw [if_pos (show (eX A).contains (Nd.mk 2 t1 n1 l1).key=true from ZY.out)] at h;exact h.symm));clear DJ;go_wp2_with fail
      refine(bY 5 (pn:Nat) _).mono ?_
      rintro e w2 ⟨rfl,rfl⟩;have J7:=HR0.out.ext sS.out.ext;have J8:=o_.out.ext sS.out.ext;have Eb:=HX0.out.ext sS.out.ext;go_wp2_with fail
      refine leaves_cons (f:=111) (args:=#[.pointer (some ⟨R,0,none⟩),.pointer (some ⟨F,0,none⟩)]) (by simp) (by simp [go_sem]) ?_
      refine(UW.jA R F _ _ _ 5 (pn:Nat) _ J7 J8 (by omega)).mono ?_
      rintro e u' w'' ⟨rfl,rfl,qN,qO,rC⟩;exact⟨_,bQ rfl _ _ rfl qN Tryz.underlying122 rfl rfl qO Tryz.underlying27 rfl (by kernel_rfl),qA F_.out lu.out (by decide) Eb rC hR pU⟩
     | false=>
      have hT2:=HT.out;rw [if_neg (by rw [show (eX A).contains (Nd.mk 2 t1 n1 l1).key=false from ZY.out];exact Bool.false_ne_true)] at hT2;have HT:=Z_ hT2
      have hnone:dD A t1=none:=by cases hq:dD A t1 with
       | none=>rfl
       | some c=>rw [hq] at DJ;cases DJ
      clear hT2 DJ;by_cases htt:t1=t0
      ·have h3:(t1.toList == t0.toList)=true:=by rw [htt];simp
       have ru:=Z_ htt;clear htt;have lu:=Z_ (show LF=(5,pn) from(by have h:=HT.out;rw [if_pos (show (Nd.mk 2 t1 n1 l1).tx=t0 from ru.out)] at h;exact h.symm));go_wp2_with fail
       refine(bY 5 (pn:Nat) _).mono ?_
       rintro e w2 ⟨rfl,rfl⟩;have J7:=HR0.out.ext sS.out.ext;have J8:=o_.out.ext sS.out.ext;have Eb:=HX0.out.ext sS.out.ext;go_wp2_with fail
       refine leaves_cons (f:=111) (args:=#[.pointer (some ⟨R,0,none⟩),.pointer (some ⟨F,0,none⟩)]) (by simp) (by simp [go_sem]) ?_
       refine(UW.jA R F _ _ _ 5 (pn:Nat) _ J7 J8 (by omega)).mono ?_
       rintro e u' w'' ⟨rfl,rfl,qN,qO,rC⟩;exact⟨_,bQ rfl _ _ rfl qN Tryz.underlying122 rfl rfl qO Tryz.underlying27 rfl (by kernel_rfl),qA F_.out lu.out (by decide) Eb rC hR pU⟩
      ·have h3:(t1.toList == t0.toList)=false:=by rw [ByteArray.toList_eq,ByteArray.toList_eq];simpa using fun e=>htt (ByteArray.ext (Array.toList_inj.1 e))
       have hT2:=HT.out;rw [if_neg (show ¬ (Nd.mk 2 t1 n1 l1).tx=t0 from htt)] at hT2;have HT:=Z_ hT2;clear hT2 htt;go_wp2_with fail
       refine(bM 5 (pn:Nat) _).mono ?_
       rintro e w2 ⟨rfl,rfl⟩;obtain⟨ra,rc,hrow,-,-⟩:=dZ sS.out.rows.gi;subst hrow;by_cases h5:5≤(dK (l.take q)).length
       ·have UU:¬ ((dK (l.take q)).length:Int)<5:=by omega
        have Xf:decide (((dK (l.take q)).length:Int)<5)=false:=by simpa using UU
        have h5n:decide ((dK (l.take q)).length<5)=false:=by simpa using h5
        have lu:=Z_ (show LF=(1,pn) from(by have h:=HT.out;rw [if_pos (show 5≤(eX A).length by unfold eX;rw [List.length_map,J5];exact h5)] at h;exact h.symm));go_wp2_with fail
        refine(bY 1 (pn:Nat) _).mono ?_
        rintro e w2 ⟨rfl,rfl⟩;have J7:=HR0.out.ext sS.out.ext;have J8:=o_.out.ext sS.out.ext;have Eb:=HX0.out.ext sS.out.ext;go_wp2_with fail
        refine leaves_cons (f:=111) (args:=#[.pointer (some ⟨R,0,none⟩),.pointer (some ⟨F,0,none⟩)]) (by simp) (by simp [go_sem]) ?_
        refine(UW.jA R F _ _ _ 1 (pn:Nat) _ J7 J8 (by omega)).mono ?_
        rintro e u' w'' ⟨rfl,rfl,qN,qO,rC⟩;exact⟨_,bQ rfl _ _ rfl qN Tryz.underlying122 rfl rfl qO Tryz.underlying27 rfl (by kernel_rfl),qA F_.out lu.out (by decide) Eb rC hR pU⟩
       ·have UU:((dK (l.take q)).length:Int)<5:=by omega
        have Xf:decide (((dK (l.take q)).length:Int)<5)=true:=by simpa using UU
        have h5n:decide ((dK (l.take q)).length<5)=true:=by simp;omega
        have hT2:=HT.out;rw [if_neg (show ¬ 5≤(eX A).length by unfold eX;rw [List.length_map,J5];exact h5)] at hT2;have HT:=Z_ hT2;clear hT2;go_wp2_with fail
        refine(bM 1 (pn:Nat) _).mono ?_
        rintro e w2 ⟨rfl,rfl⟩;clear hr hd hn hk;go_upto_region 16 with (fail)
        have ZZ:=Z_ J5;have HH5:=Z_ h5;clear h3 UU Xf h5n h5 MP hqi J5 hmf hsz0 hMn hsA hR hD hB;refine aj [7] (fun i v _=>v=([.pointer (some ⟨D,0,none⟩),.pointer (some ⟨D,0,none⟩),.pointer (some ⟨D,8,none⟩),.map (some Ma),.pointer (some ⟨K,1,none⟩),.string t1,.int .i64 (pn:Nat),undef]:List Value).getD i undef) (Ii (fun A u=>DS w0 u D Mn Ma B t0 (.int .i64 k0) (.string t0) (.int .i64 n0) (.slice (some ⟨b,o,none⟩) N c0) rv rp (.slice ra (dK (l.take q)).length rc) rv rp (.slice ra (dK (l.take q)).length rc) (dP (l.take q)) (aP (l.take q)) (dK (l.take q)) L A∧aC u K #[.int .i64 2,.string t1,.int .i64 n1,.slice a1 N1 c1] 24) A (A ++ [(t1,(pn:Int))])) (fun _ _=>True) (frame:=?ab3) (fun x=>?Rt) bu.mixed (by kernel_rfl) (by kernel_rfl) (fun _ _ _ _ h _=>h) ?h0m ?stm ?Ru
        case Rt=>
         simp only [chain.aN,chain.fill,chain.bf,chain.aY,jW,jX,jY,jZ,kz,kC,kD,kE,kF];exact rfl
        case h0m=>exact⟨sS.out.extend (aB.refl _ _).drew,HK.out.ext (aB.refl _ _).drew⟩
        case stm=>
         iterate 8 (refine ak.cons (fun x vs u hF hm hb hd K' hK'=>?_) ?_;rotate_left)
         exact ak.nil
         ·obtain⟨A9,Nl,hK9⟩:=Ii.any hF;have hr:=(HR0.out.ext Nl.ext).cell;clear Nl hK9;have HF:=Z_ hF;clear hd hm hb hF;go_simp;exact hK'.out _ _ _ (rfl) trivial ⟨rfl,HF.out⟩
         ·have y0:x 71=.pointer (some ⟨D,0,none⟩):=(D_ hd 0 :);have HF:=Z_ hF;clear hd hm hb hF;go_simp;exact hK'.out _ _ _ (by simp only [y0];rfl) trivial ⟨rfl,HF.out⟩
         ·have y0:x 72=.pointer (some ⟨D,0,none⟩):=(D_ hd 1 :);have HF:=Z_ hF;clear hd hm hb hF;go_simp;exact hK'.out _ _ _ (by simp only [y0];rfl) trivial ⟨rfl,HF.out⟩
         ·obtain⟨A9,Nl,hK9⟩:=Ii.any hF;have hdc:u.cell? ⟨D,8,none⟩=some (.map (some Ma)):=(Nl.d.cell 8).trans rfl;clear Nl hK9;have y0:x 73=.pointer (some ⟨D,8,none⟩):=(D_ hd 2 :);have HF:=Z_ hF;clear hd hm hb hF;go_simp;exact hK'.out _ _ _ (by simp only [y0];rfl) trivial ⟨rfl,HF.out⟩
         ·have HF:=Z_ hF;clear hd hm hb hF;go_simp;exact hK'.out _ _ _ (rfl) trivial ⟨rfl,HF.out⟩
         ·obtain⟨A9,Nl,hK9⟩:=Ii.any hF;have hk:=hK9.cell;clear Nl hK9;have y0:x 75=.pointer (some ⟨K,1,none⟩):=(D_ hd 4 :);have HF:=Z_ hF;clear hd hm hb hF;go_simp;exact hK'.out _ _ _ (by simp only [y0];rfl) trivial ⟨rfl,HF.out⟩
         ·have HF:=Z_ hF;clear hd hm hb hF;go_simp;exact hK'.out _ _ _ (rfl) trivial ⟨rfl,HF.out⟩
         ·obtain rfl:=kS hm;have y0:x 74=.map (some Ma):=(D_ hd 3 :);have y1:x 76=.string t1:=(D_ hd 5 :);have y2:x 77=.int .i64 (pn:Nat):=(D_ hd 6 :);have hpn:pn≤1000:=by have:=Nk.out;omega
          have kY:=(show _∧_ from hF);obtain⟨Jd,Jb⟩:=kY;obtain⟨w9,hput,hM2,hg2⟩:=Jd.am.put (x:=t1) (v:=(pn:Nat)) hnone (by unfold maxLen;omega) (by unfold maxLen;omega) (by omega) (by omega);have Xr:=Z_ (Jd.imp hg2 hM2);have Wu:=Z_ (Jb.aK (gU hg2) (by have:=Jd.Qn;omega));clear hd hm hb hF hM2 hg2 Jd Jb;go_simp;exact hK'.out _ _ undef (by simp only [y0,y1,y2];rfl) trivial ⟨Xr.out,Wu.out⟩
        case Ru=>
         intro x vs w9 hl hF hk9;obtain⟨v0,rfl⟩:=L1_ hl
         clear hk9 hl;obtain⟨Jd,Jb⟩:=(show _∧_ from hF);have tP:=Z_ Jd;have yx:=Z_ Jb;clear hF Jd Jb sS HK;go_upto_region 17 with (fail)
         refine aj [7,8,11] (fun i v _=>v=([.pointer (some ⟨D,0,none⟩),.pointer (some ⟨D,0,none⟩),.pointer (some ⟨D,0,none⟩),.pointer (some ⟨D,7,none⟩),.slice ra (dK (l.take q)).length rc,.pointer (some ⟨K,1,none⟩),.string t1,undef,undef,.pointer (some ⟨D,0,none⟩),.pointer (some ⟨D,7,none⟩),undef]:List Value).getD i undef) (cG.eF (fun u rN r lq=>DS w0 u D Mn Ma B t0 (.int .i64 k0) (.string t0) (.int .i64 n0) (.slice (some ⟨b,o,none⟩) N c0) rv rp rN rv rp r (dP (l.take q)) (aP (l.take q)) lq L (A ++ [(t1,(pn:Int))])∧aC u K #[.int .i64 2,.string t1,.int .i64 n1,.slice a1 N1 c1] 24) (fun _=>false) yz (B) 9 (.slice ra (dK (l.take q)).length rc) (dK (l.take q)) t1 (.string t1)) (fun _ _=>True) (frame:=?ak3) (fun x=>?ae9) bu.mixed (by kernel_rfl) (by kernel_rfl) (fun _ _ _ _ h _=>h) ?h0i ?sti ?ae_
         case ae9=>
          simp only [chain.aN,chain.fill,chain.bf,chain.aY,jW,jX,jY,jZ,kz,kC,kD,kE,kF];exact rfl
         case h0i=>exact⟨⟨tP.out.extend (aB.refl _ _).drew,yx.out.ext (aB.refl _ _).drew⟩,rfl,h13⟩
         case sti=>
          iterate 12 (refine ak.cons (fun x vs u hF hm hb hd K' hK'=>?_) ?_;rotate_left)
          exact ak.nil
          ·obtain⟨_,_,_,Ly⟩:=cG.eF.any hF;have hr:=(HR0.out.ext Ly.1.ext).cell;clear Ly;have HF:=Z_ hF;clear hd hm hb hF;go_simp;exact hK'.out _ _ _ (rfl) trivial ⟨rfl,HF.out⟩
          ·obtain⟨_,_,_,Ly⟩:=cG.eF.any hF;have hr:=(HR0.out.ext Ly.1.ext).cell;clear Ly;have HF:=Z_ hF;clear hd hm hb hF;go_simp;exact hK'.out _ _ _ (rfl) trivial ⟨rfl,HF.out⟩
          ·have y0:x 79=.pointer (some ⟨D,0,none⟩):=(D_ hd 1 :);have HF:=Z_ hF;clear hd hm hb hF;go_simp;exact hK'.out _ _ _ (by simp only [y0];rfl) trivial ⟨rfl,HF.out⟩
          ·have y0:x 80=.pointer (some ⟨D,0,none⟩):=(D_ hd 2 :);have HF:=Z_ hF;clear hd hm hb hF;go_simp;exact hK'.out _ _ _ (by simp only [y0];rfl) trivial ⟨rfl,HF.out⟩
          ·have Ly:=cG.eF.B hF (by have:=hb 1 _ (by decide) rfl (by kernel_rfl);omega);have hc:u.cell? ⟨D,7,none⟩=some (.slice ra (dK (l.take q)).length rc):=(Ly.1.d.cell 7).trans rfl;clear Ly;have y0:x 81=.pointer (some ⟨D,7,none⟩):=(D_ hd 3 :);have HF:=Z_ hF;clear hd hm hb hF;go_simp;exact hK'.out _ _ _ (by simp only [y0];rfl) trivial ⟨rfl,HF.out⟩
          ·have HF:=Z_ hF;clear hd hm hb hF;go_simp;exact hK'.out _ _ _ (rfl) trivial ⟨rfl,HF.out⟩
          ·have Ly:=cG.eF.B hF (by have:=hb 0 _ (by decide) rfl (by kernel_rfl);omega);have hc:=Ly.2.cell;clear Ly;have y0:x 83=.pointer (some ⟨K,1,none⟩):=(D_ hd 5 :);have HF:=Z_ hF;clear hd hm hb hF;go_simp;exact hK'.out _ _ _ (by simp only [y0];rfl) trivial ⟨rfl,HF.out⟩
          ·obtain rfl:=kS hm;have y0:x 84=.string t1:=(D_ hd 6 :);have aO:=hF.1;have HG:=Z_ (cG.bH (nJ aO.1.rows.gi sU (fun _=>false)));have HF:=Z_ hF;clear hd hm hb hF aO;go_simp;exact hK'.out _ _ _ (by simp only [y0];rfl) trivial (cG.fF cG.iJ (fun u' hE=>⟨HF.out.1.1.extend hE,HF.out.1.2.ext hE⟩) (fun i e=>(HG.out i e).2) HF.out rfl)
          ·obtain⟨v0,rfl⟩:=mD hm
           have y0:x 82=.slice ra (dK (l.take q)).length rc:=(D_ hd 4 :);have y1:x 85=v0:=((D_ hd 7) 85 (by kernel_rfl) :);have hF2:=hF;obtain⟨aO,hxx,gg,rfl,hgb,hgr⟩:=hF2;obtain⟨us,hu1,ho,hu3⟩:=(nJ aO.1.rows.gi sU (fun _=>false)).ex;obtain⟨iW,iY,hz0,hz1,hz2⟩:=bu.aW cG.CZ;have hbz:B≤u.heap.size:=by exact aO.1.hu
           refine wp_append_lies _ _ _ 39 rfl (B) 9 iW (.string ⟨#[]⟩) 1 16 Tryz.underlying39 iY hz0 hz1 hz2 rfl (by decide) (.slice ra (dK (l.take q)).length rc) (dK (l.take q)).length (us.flatMap fun u=>u.cells.toList) y0 ho ⟨gg,0,none⟩ 1 1 [.string t1] y1 rfl ?_ (by intro z_ mN;simp only [List.mem_cons,List.not_mem_nil,or_false] at mN;rcases mN with rfl<;>rfl) (by decide) (by unfold maxLen;have:=HH5.out;omega) (by have:=HH5.out;omega) hbz u.heap.size rfl ?_
           ·intro j q hj;have e:(⟨gg,0,none⟩:Addr).add j=⟨gg,j,none⟩:=(by unfold Addr.add;split<;>simp_all);rw [e,hgb.cell];simpa [Value.cells] using hj
           ·intro g9 c9 w9 ju iZ kU uI
            exact hK'.out _ _ _ rfl trivial (cG.eG cG.iJ hF hu1 hu3 rfl (fun r tY hG hC ha=>⟨aO.1.turn hC (fun i e=>(bn aO.1.rows.gi i e).1) (aO.1.rows.Xt (zO hG sU) hC ha),aO.2.aK hC (fun e=>by have:=HOWN.out _ e;omega)⟩) ju iZ kU)
          ·have y0:x 78=.pointer (some ⟨D,0,none⟩):=(D_ hd 0 :);have HF:=Z_ hF;clear hd hm hb hF;go_simp;exact hK'.out _ _ _ (by simp only [y0];rfl) trivial ⟨rfl,HF.out⟩
          ·have y0:x 87=.pointer (some ⟨D,0,none⟩):=(D_ hd 9 :);have HF:=Z_ hF;clear hd hm hb hF;go_simp;exact hK'.out _ _ _ (by simp only [y0];rfl) trivial ⟨rfl,HF.out⟩
          ·obtain⟨v0,v1,rfl⟩:=tN hm
           have y0:x 88=.pointer (some ⟨D,7,none⟩):=(D_ hd 10 :);have y1:x 86=v1:=((D_ hd 8) 86 (by kernel_rfl) :);have hF2:=hF;obtain⟨aO,gg,cc,rfl⟩:=hF2;have hc:=aO.1.d.cell 7;have hf:=aO.1.d.frozen 7;have hl:=aO.1.d.lt;simp at hc
           have HF:=Z_ hF;clear hd hm hb hF aO;go_simp;exact hK'.out _ _ undef (by simp only [y0,y1];rfl) trivial (cG.fG (z:=undef) HF.out (fun h=>⟨h.1.af0,h.2.setOther (p:=⟨D,7,none⟩) (by have:=h.1.Ih;show K≠D;omega) _⟩))
         case ae_=>
          intro x9 qX w9 hl hF hk9;obtain⟨v0,v1,v2,rfl⟩:=NR hl
          clear hk9 hl;obtain⟨Jd,Jb⟩:=(show _∧_ from hF);have Ql:=Z_ Jd;have hk:=Jb.cell;have S_:=VH.xE (.mk 2 t1 n1 l1) _ w9 _ (HU1.out _ Jd.ext) (by rw [HS1.out];decide);rw [HS1.out] at S_;have Xu:=Z_ S_;clear hF Jd Jb S_;go_wp2_with fail
          refine Xu.out.mono ?_
          rintro e w5 ⟨rfl,xG⟩;have HD5:=Z_ (Ql.out.extend xG);clear xG hk Xu Ql;have hw1:IntKind.i64.wrap ((pn:Int)+1)=((pn+1:Nat):Int):=by have:=Nk.out;rw [wrap_small _ (by omega) (by omega)];omega
          have hw3:IntKind.i64.wrap ((pn:Int)+((1:Nat):Int))=((pn+1:Nat):Int):=hw1;go_wp2_with fail
          go_roundw
          case rel=>
           have hv:dP (l.take (q+1))=dP (l.take q):=by have h:=AQ.out;rw [show isVar (Nd.mk 2 t1 n1 l1)=false from rfl] at h;simpa using h
           have hp:aP (l.take (q+1))=aP (l.take q):=by have h:=ZX.out;rw [show jO (Nd.mk 2 t1 n1 l1)=false from rfl] at h;simpa using h
           have hi:dK (l.take (q+1))=dK (l.take q) ++ [t1]:=by have h:=HIT.out;rw [show CU (Nd.mk 2 t1 n1 l1)=true from rfl,if_pos rfl] at h;exact h
           have h5q:=HH5.out;have hai:=ZZ.out;exact⟨q+1,pn+1,rv,rp,_,L,A ++ [(t1,(pn:Int))],by omega,by first|rfl|go_num,by go_num,Z_ (by rw [Ip];exact HT.out),by rw [hv,hp,hi];exact HD5,by simp;omega,hLl,by rw [hi];simp;omega,Z_ (by have:=Nk.out;omega)⟩
          case measure=>simp [intOf];omega
    ·have ad8:(k1 == 2)=false:=by simpa using hki
     have hT2:=hT;rw [Ij (show (Nd.mk k1 t1 n1 l1).kd≠2 from hki)] at hT2
     have hvp:Le (.mk k1 t1 n1 l1)∨xA (.mk k1 t1 n1 l1):=by
      rcases hy with h|h
      ·exact absurd h.kd hki
      ·exact h
     have hzz:fL (.mk k1 t1 n1 l1)=kV l1+1:=by simp [fL,Nat.add_comm]
     have hpn:pn≤1000:=by have:=Nk.out;omega
     have hkl:(Nd.mk k1 t1 n1 l1).kids.length≤1000:=by have h1:=o5 l1;have:=Nk.out;show l1.length≤1000;omega
     have hvs:(dP (l.take q)).length≤1000:=by have h1:=CV l q;have h2:=o5 l;have:=HN.out;omega
     have hps:(aP (l.take q)).length≤1000:=by have h1:=yV l q;have h2:=o5 l;have:=HN.out;omega
     have hdc:=Qi.CG pn sS.out (HU1.out w0 (aB.refl _ _)) hvp hkl hpn hLl hvs hps;have Jp:=Z_ (Lr (x:=.mk k1 t1 n1 l1) (L:=L) (p:=pn));obtain⟨FX,UY⟩:∃ FX,qh L (.mk k1 t1 n1 l1) pn=FX:=⟨_,rfl⟩;rw [UY] at hT2 hdc Jp;have QV:=Z_ hdc;have HT:=Z_ hT2;have HVP:=Z_ hvp;have HZZ:=Z_ hzz;clear hT hT2 hy hvp hzz hkl hvs hps hdc UY;go_wp2_with fail
     refine QV.out.mono ?_
     rintro e w2 hpost;clear QV hk hr hd hn hrl hbig;by_cases kY:FX.1=0
     ·obtain⟨rfl,U4,U5,Xv,hC2⟩:=hpost.1 kY
      have tP:=Z_ Xv
      have yx:=Z_ (HK.out.aK hC2 (fun e=>by
       have h1:=sS.out.Ih;have h2:=sS.out.OV
       rcases e with e|e|e|e
       ·omega
       ·omega
       ·have:=Xp.out _ e;omega
       ·have:=Xq.out _ e;omega))
      have ak4:=Jp.out kY;have HTL:=Z_ (show gQ t0 (l.drop (q+1)) (eX A) (eX L ++ [Nd.key (.mk k1 t1 n1 l1)]) (pn+fL (.mk k1 t1 n1 l1))=LF by have h:=HT.out;rw [if_pos kY] at h;exact h);clear hpost Xv hC2 kY HT Jp sS HK;have hk:=yx.out.cell;have hbig:=yx.out.lt;have S_:=VH.xE (.mk k1 t1 n1 l1) _ w2 _ (HU1.out _ tP.out.ext) (by have:=Nk.out;omega);obtain⟨z,hz⟩:∃ z,fL (.mk k1 t1 n1 l1)=z:=⟨_,rfl⟩;rw [hz] at S_ Nk HTL;have Xu:=Z_ S_;clear hz S_;go_wp2_with fail
      refine Xu.out.mono ?_
      rintro e w5 ⟨rfl,xG⟩;have HD5:=Z_ (tP.out.extend xG);clear xG hk Xu tP;have hw1:IntKind.i64.wrap ((pn:Int)+(z:Nat))=((pn+z:Nat):Int):=by have:=Nk.out;rw [wrap_small _ (by omega) (by omega)];omega
      go_wp2_with fail
      go_roundw
      case rel=>
       have Z4:CU (Nd.mk k1 t1 n1 l1)=false:=decide_eq_false hki;have hi:dK (l.take (q+1))=dK (l.take q):=by have h:=HIT.out;rw [Z4] at h;simpa using h
       have Z5:=HD5.out
       have af1:(isVar (Nd.mk k1 t1 n1 l1)=true∧jO (Nd.mk k1 t1 n1 l1)=false)∨(isVar (Nd.mk k1 t1 n1 l1)=false∧jO (Nd.mk k1 t1 n1 l1)=true):=by
        rcases HVP.out with h|h
        ·have e:k1=3:=h.kd
         subst e;exact .inl ⟨rfl,rfl⟩
        ·have e:k1=4:=h.kd
         subst e;exact .inr ⟨rfl,rfl⟩
       have af2:DS w0 w5 D Mn Ma B t0 (.int .i64 k0) (.string t0) (.int .i64 n0) (.slice (some ⟨b,o,none⟩) N c0) U4 U5 ri U4 U5 ri (dP (l.take (q+1))) (aP (l.take (q+1))) (dK (l.take (q+1))) (L ++ [(t1,(pn:Int))]) A:=by
        rcases af1 with ⟨h1,h2⟩|⟨h1,h2⟩
        ·have hv:=AQ.out;have hp:=ZX.out
         rw [h1,if_pos rfl] at hv;rw [h2,if_neg Bool.false_ne_true,List.append_nil] at hp;rw [h1,if_pos rfl,if_pos rfl] at Z5;rw [hv,hp,hi];exact Z5
        ·have hv:=AQ.out;have hp:=ZX.out
         rw [h1,if_neg Bool.false_ne_true,List.append_nil] at hv;rw [h2,if_pos rfl] at hp;rw [h1,if_neg Bool.false_ne_true,if_neg Bool.false_ne_true] at Z5;rw [hv,hp,hi];exact Z5
       exact⟨q+1,pn+z,U4,U5,ri,L ++ [(t1,(pn:Int))],A,by omega,by first|rfl|go_num,by go_num,Z_ (by rw [show eX (L ++ [(t1,(pn:Int))])=eX L ++ [Nd.key (.mk k1 t1 n1 l1)] from Ls L (.mk k1 t1 n1 l1) pn];exact HTL.out),Z_ af2,hAl,by simp;omega,by rw [hi];exact J5,Z_ (by have:=Nk.out;omega)⟩
      case measure=>simp [intOf];omega
     ·obtain⟨rfl,hE2⟩:=hpost.2 kY
      have lG:=Z_ hE2;have af4:=Z_ kY;have Z7:=Z_ (show LF=(FX.1,FX.2) by have h:=HT.out;rw [if_neg kY] at h;exact h.symm);clear hpost hE2 kY HT sS HK;go_wp2_with fail
      have J7:=HR0.out.ext lG.out;have J8:=o_.out.ext lG.out;have Eb:=HX0.out.ext lG.out;obtain⟨c9,p9⟩:=FX;have rQ:c9≠0:=af4.out;refine leaves_cons (f:=111) (args:=#[.pointer (some ⟨R,0,none⟩),.pointer (some ⟨F,0,none⟩)]) (by simp) (by simp [go_sem]) ?_
      refine(UW.jA R F _ _ _ c9 (p9:Nat) _ J7 J8 (by omega)).mono ?_
      rintro e u' w'' ⟨rfl,rfl,qN,qO,rC⟩;exact⟨_,bQ rfl _ _ rfl qN Tryz.underlying122 rfl rfl qO Tryz.underlying27 rfl (by kernel_rfl),qA F_.out Z7.out rQ Eb rC hR pU⟩
   ·obtain rfl:q=N:=by omega
    have MP:decide ((q:Int)<(q:Int))=false:=by simp
    have hT2:=HT.out;have hDL:l.drop q=[]:=by rw [List.drop_eq_nil_iff];have:=HN.out;omega
    rw [hDL] at hT2;have Xw:LF=(0,0):=hT2.symm;have Vw:=Z_ (show (CX false (Nd.mk k0 t0 n0 l),dK l,(0:Int),(0:Int))=Q by have h:=F_.out;rw [Xw] at h;exact h);have U6:l.take q=l:=by rw [List.take_of_length_le];have:=HN.out;omega
    have hDE:=AX.out;rw [U6] at hDE;have Xj:=Z_ hDE;have gu:=Z_ (show (Nd.mk k0 t0 n0 l).kids.length≤1000 by have h1:=o5 l;show l.length≤1000;omega);have H3:=Z_ (And.intro (HR0.out.ext AX.out.ext) (o_.out.ext AX.out.ext));clear hT2 hDL Xw U6 hDE;go_upto_region 21 with (fail)
    refine aj [2,3] (fun i v _=>v=([.pointer (some ⟨D,0,none⟩),.agg #[.int .i64 0,.int .i64 0],undef,undef]:List Value).getD i undef) (fun _ u=>aC u R #[.pointer (some ⟨D,0,none⟩)] 122∧aC u F #[.int .i64 0,.int .i64 0] 27∧aB (fun i=>i=R∨i=F) wr u) (fun _ _=>True) (frame:=?NU) (fun x=>?zM) bu.mixed (by kernel_rfl) (by kernel_rfl) (fun _ _ _ _ h _=>h) ?NV ?NW ?fine
    case zM=>
     simp only [chain.aN,chain.fill,chain.bf,chain.aY,jW,jX,jY,jZ,kz,kC,kD,kE,kF];exact rfl
    case NV=>exact⟨H3.out.1.drew,H3.out.2.drew,(aB.refl _ _).drew⟩
    case NW=>
     iterate 4 (refine ak.cons (fun x vs u hF hm hb hd K' hK'=>?_) ?_;rotate_left)
     exact ak.nil
     ·have hc:=hF.1.cell;have HF:=Z_ hF;clear hd hm hb hF;go_simp;exact hK'.out _ _ _ (rfl) trivial ⟨rfl,HF.out⟩
     ·have hc:=hF.2.1.cell;have HF:=Z_ hF;clear hd hm hb hF;go_simp;exact hK'.out _ _ _ (rfl) trivial ⟨rfl,HF.out⟩
     ·have y0:x 99=.pointer (some ⟨D,0,none⟩):=(D_ hd 0 :);have hc:=hF.1.cell;have hf:=hF.1.frozen;have hl:=hF.1.lt;have HF:=Z_ hF;clear hd hm hb hF;go_simp;exact hK'.out _ _ undef (by simp only [y0];rfl) trivial ⟨HF.out.1.set 0 _,HF.out.2.1.setOther (p:=⟨R,0,none⟩) (by show F≠R;omega) _,HF.out.2.2.setCell (p:=⟨R,0,none⟩) (fun _=>.inl rfl) _⟩
     ·have y0:x 100=.agg #[.int .i64 0,.int .i64 0]:=(D_ hd 1 :);have hc:=hF.2.1.cell;have hf:=hF.2.1.frozen;have hl:=hF.2.1.lt;have HF:=Z_ hF;clear hd hm hb hF;go_simp;exact hK'.out _ _ undef (by simp only [y0];rfl) trivial ⟨(HF.out.1.setOther (p:=⟨F,0,none⟩) (by show R≠F;omega) _).setOther (p:=⟨F,1,none⟩) (by show R≠F;omega) _,(HF.out.2.1.set 0 _).set 1 _,(HF.out.2.2.setCell (p:=⟨F,0,none⟩) (fun _=>.inr rfl) _).setCell (p:=⟨F,1,none⟩) (fun _=>.inr rfl) _⟩
    case fine=>
     intro x9 qX w9 hl hF hk9;have jy:=Z_ hF;clear hk9 hl hF;go_wp2_with fail
     refine leaves_cons (f:=111) (args:=#[.pointer (some ⟨R,0,none⟩),.pointer (some ⟨F,0,none⟩)]) (by simp) (by simp [go_sem]) ?_
     refine(UW.ug R F _).mono ?_
     rintro e u' w'' ⟨rfl,rfl,rfl⟩;exact⟨_,bQ rfl _ _ rfl jy.out.1 Tryz.underlying122 rfl rfl jy.out.2.1 Tryz.underlying27 rfl (by kernel_rfl),by rw [←Vw.out];exact Io Xj.out rfl jy.out.2.2 pU (by omega) HX0.out hR o_.out.lt (by have:=gu.out;exact this) MV.out (by rw [hR];exact Zn.out _ ((Xj.out.ext.weak fun _ _ e=>e.elim).then jy.out.2.2))⟩
 ·have pI:=Z_ (show (gZ,[],c,a)=Q by have h:=HQ.out;rw [if_neg hc0] at h;exact h)
  have hcn:(c != 0)=true:=by simpa using hc0
  clear HQ;go_upto_region 3 with (fail)
  have Iq:aC u1 R #[.pointer none] 122:=Ed.out;have hF3:aC u1 F #[.int .i64 c,.int .i64 a] 27:=UL.out;have qU:Ext w u1:=HXB.out;have H3:=Z_ (And.intro Iq (And.intro hF3 qU));clear Iq hF3 qU;refine aj [1,2] (fun i v _=>v=([.agg #[.int .i64 c,.int .i64 a],undef,undef]:List Value).getD i undef) (fun _ u=>aC u R #[.pointer none] 122∧aC u F #[.int .i64 c,.int .i64 a] 27∧Ext w u) (fun _ _=>True) (frame:=?KJ) (fun x=>?r_) bu.mixed (by kernel_rfl) (by kernel_rfl) (fun _ _ _ _ h _=>h) ?h0c ?KL ?wV
  case r_=>
   simp only [chain.aN,chain.fill,chain.bf,chain.aY,jW,jX,jY,jZ,kz,kC,kD,kE,kF];exact rfl
  case h0c=>exact⟨H3.out.1.drew,H3.out.2.1.drew,H3.out.2.2.drew⟩
  case KL=>
   iterate 3 (refine ak.cons (fun x vs u hF hm hb hd K' hK'=>?_) ?_;rotate_left)
   exact ak.nil
   ·have hc:=hF.2.1.cell;have HF:=Z_ hF;clear hd hm hb hF;go_simp;exact hK'.out _ _ _ (rfl) trivial ⟨rfl,HF.out⟩
   ·have hc:=hF.1.cell;have hf:=hF.1.frozen;have hl:=hF.1.lt;have HF:=Z_ hF;clear hd hm hb hF;go_simp;exact hK'.out _ _ undef rfl trivial ⟨HF.out.1.set 0 _,HF.out.2.1.setOther (p:=⟨R,0,none⟩) (by show F≠R;omega) _,HF.out.2.2.bI (p:=⟨R,0,none⟩) (by show w.heap.size≤R;omega) _⟩
   ·have y0:x 19=.agg #[.int .i64 c,.int .i64 a]:=(D_ hd 0 :);have hc:=hF.2.1.cell;have hf:=hF.2.1.frozen;have hl:=hF.2.1.lt;have HF:=Z_ hF;clear hd hm hb hF;go_simp;exact hK'.out _ _ undef (by simp only [y0];rfl) trivial ⟨(HF.out.1.setOther (p:=⟨F,0,none⟩) (by show R≠F;omega) _).setOther (p:=⟨F,1,none⟩) (by show R≠F;omega) _,(HF.out.2.1.set 0 _).set 1 _,(HF.out.2.2.bI (p:=⟨F,0,none⟩) (by show w.heap.size≤F;omega) _).bI (p:=⟨F,1,none⟩) (by show w.heap.size≤F;omega) _⟩
  case wV=>
   intro x9 qX w9 hl hF hk9;have jy:=Z_ hF;clear hk9 hl hF;go_wp2_with fail
   exact⟨_,bQ rfl _ _ rfl jy.out.1 Tryz.underlying122 rfl rfl jy.out.2.1 Tryz.underlying27 rfl (by kernel_rfl),jy.out.2.2,_,by rw [←pI.out],fun h=>absurd (by rw [←pI.out] at h;exact h) hc0⟩
theorem rZ (s:ByteArray) (w:World) (hs:s.size≤9223372036854775807) (hv:ErrVar w) (hm:cE w) :
  Calls Tryz.prog 54 #[.string s] w (CQ w (jg s) (aJ s).1):=(yX s w hs hv hm).mono fun _ _ h=>h.post
end J4
end Go.Proofs.YtpcihajmcejliacGreatDoor
