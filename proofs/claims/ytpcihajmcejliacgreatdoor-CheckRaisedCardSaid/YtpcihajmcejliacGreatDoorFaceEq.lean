/- The walk of the program's Look: all declarations of a text. The walks of chapter 4's small functions: what a label is; a text's place in a list; whether two rows, two procedures are one. The walks of slices.Equal, as the faces' comparisons use it: of rows of numbers, of rows of variables. -/
import Derived.Test.YtpcihajmcejliacGreatDoorOfD
import Derived.Test.YtpcihajmcejliacGreatDoorChkV
import Derived.Test.YtpcihajmcejliacGreatDoorRaiR
namespace Go.Proofs.YtpcihajmcejliacGreatDoor
open Go.RowKit
namespace ad4
open bH fF uY
theorem Rj {w:World} {M:Nat→Bool} (hM:∀ b o s,M b=true→w.cell? ⟨b,o,none⟩≠some (.string s)):∀ x v,ij w x v→ij (hide M w) x v:=by
 refine gz fun k t m l ih v h=>?_
 rw [dY] at h ⊢;obtain⟨a,c,e,h1,h2,h3,h4⟩:=h;refine⟨a,c,e,h1,h2,h3,fun j hj=>?_⟩
 obtain⟨b,o,ea,hb,u,hu,hs,hc⟩:=h4 j hj;obtain⟨ku,tu,mu,au,nu,cu,rfl⟩:=dF hu
 have hMb:M b=false:=by
  cases hq:M b with
  | false=>rfl
  | true=>exact absurd ((hc 1 (by decide)).trans rfl) (hM b _ tu hq)
 refine⟨b,o,ea,by rw [dK];exact hb,_,ih _ (List.getElem_mem hj) _ hu,hs,fun i hi=>?_⟩
 rw [jD M w _ hMb];exact hc i hi
def Bl (w:World) (R:bf×List ByteArray×Int×Int) (x:Nd) (e:Ending) (w':World):Prop:=
 Ext w w'∧∃ vp,e=.returned (.tuple #[vp,.agg #[.int .i64 R.2.2.1,.int .i64 R.2.2.2]])∧(R.2.2.1=0→∃ D a1 c1 a2 c2 a3 c3 d3 d4 d5 d6 d8,vp=.pointer (some ⟨D,0,none⟩)∧ij (hide (below w.heap.size) w') x (.agg #[d3,d4,d5,d6])∧((iy x.kids).length≤c1∧c1≤maxLen∧(bh x.kids).length≤c2∧c2≤maxLen)∧
  aJ w' D #[.string x.tx,.slice a1 (iy x.kids).length c1,.slice a2 (bh x.kids).length c2,d3,d4,d5,d6,.slice a3 (iC x.kids).length c3,d8] 128∧
  fN 4 og (hide (below w.heap.size) w') a1 (iy x.kids)∧fN 6 jJ (hide (below w.heap.size) w') a2 (bh x.kids)∧Rk 1 W6 (iC x.kids) (.slice a3 (iC x.kids).length c3) (hide (below w.heap.size) w')∧(iy x.kids).length≤1000∧(bh x.kids).length≤1000∧x.tx.size≤10000∧∀ y∈x.kids,y.tx.size≤10000)
theorem Rl {w:World} {x:Nd} {v:Value} (h:ij w x v):x.tx.size≤10000∧∀ y∈x.kids,y.tx.size≤10000:=by
 obtain⟨k,t,m,l⟩:=x;rw [dY] at h;obtain⟨a,c,e,h1,h2,h3,h4⟩:=h;refine⟨h3,fun y hy=>?_⟩
 obtain⟨j,hj,rfl⟩:=List.getElem_of_mem (show y∈l from hy);obtain⟨b,o,ea,hb,u,hu,hs,hc⟩:=h4 j hj;generalize l[j]=y at hu;obtain⟨k2,t2,m2,l2⟩:=y;rw [dY] at hu;obtain⟨a2,c2,e2,g1,g2,g3,g4⟩:=hu;exact g3
theorem Rn {m:ByteArray} {x:Nd} {r:List Nd} {I L:List (List UInt8)} {p:Nat} (hk:x.kd=2):jM m (x::r) I L p=if I.contains x.key=true then (5,p) else if x.tx=m then (5,p) else if 5≤I.length then (1,p) else jM m r (I ++ [x.key]) L (p+dL x):=by
 rw [jM,if_pos hk]
theorem Ro {m:ByteArray} {x:Nd} {r:List Nd} {I L:List (List UInt8)} {p:Nat} (hk:x.kd≠2):jM m (x::r) I L p=if L.contains x.key=true then (5,p) else if 20≤L.length then (1,p) else if (qN x p).1=0 then jM m r I (L ++ [x.key]) (p+dL x) else qN x p:=by
 rw [jM,if_neg hk]
theorem U3 {x:Nd} (h:Rq x):dL x=1:=by
 obtain⟨k,t,m,l⟩:=x;have e:l=[]:=h.kids;subst e;rfl
theorem uh (l:List Nd):l.length≤gm l:=by
 induction l with
 | nil=>exact Nat.le_refl _
 | cons x r ih=>have:=QN x;simp only [List.length_cons,gm];omega
theorem vT {w u w':World} {Q:bf×List ByteArray×Int×Int} {x:Nd} {LF:Int×Nat} {fa:bf} {ia:List ByteArray} {c:Int} {p:Nat} {R F:Nat} (hQ:(if LF.1=0 then (fa,ia,(0:Int),(0:Int)) else (kC,[],LF.1,(LF.2:Int)))=Q) (hF:LF=(c,p)) (hc:c≠0) (hE:Ext w u) (hC:aB (fun i=>i=R∨i=F) u w') (hR:w.heap.size=R) (xC:R<F):Bl w Q x (.returned (.tuple #[.pointer none,.agg #[.int .i64 c,.int .i64 (p:Nat)]])) w':=by
 subst hF;rw [if_neg hc] at hQ;subst hQ;exact⟨hE.trans hC (fun i hi e=>by omega),_,rfl,fun h=>absurd h hc⟩
def Om (P:List (ByteArray×Int)→World→Prop) (A A2:List (ByteArray×Int)):List Value→World→Prop
 | [],u=>P A u
 | _::_,u=>P A2 u
theorem Om.any {P:List (ByteArray×Int)→World→Prop} {A A2:List (ByteArray×Int)} {vs:List Value} {u:World} (h:Om P A A2 vs u):∃ X,P X u:=by
 match vs,h with
 | [],h=>exact⟨_,h⟩
 | _::_,h=>exact⟨_,h⟩
theorem Oo {m:ByteArray} {x:Nd} {r:List Nd} {I:List (List UInt8)} {L:List (ByteArray×Int)} {p:Nat} (hk:x.kd≠2):jM m (x::r) I (ig L) p=if (vk L x p).1=0 then jM m r I (ig L ++ [x.key]) (p+dL x) else vk L x p:=by
 rw [Ro hk];unfold vk;have e:(ig L).length=L.length:=by simp [ig]
 rw [e];by_cases h1:(ig L).contains x.key=true
 ·rw [if_pos h1,if_pos h1,if_neg (show ¬ (5:Int)=0 by decide)]
 ·rw [if_neg h1,if_neg h1]
  by_cases h2:20≤L.length
  ·rw [if_pos h2,if_pos h2,if_neg (show ¬ (1:Int)=0 by decide)]
  ·rw [if_neg h2,if_neg h2]
theorem Rt {x:Nd} {L:List (ByteArray×Int)} {p:Nat} (h:(vk L x p).1=0):L.length<20:=by
 unfold vk at h;by_cases h1:(ig L).contains x.key=true
 ·rw [if_pos h1] at h;cases h
 ·rw [if_neg h1] at h
  by_cases h2:20≤L.length
  ·rw [if_pos h2] at h;cases h
  ·omega
theorem Ru (L:List (ByteArray×Int)) (x:Nd) (p:Int):ig (L ++ [(x.tx,p)])=ig L ++ [x.key]:=by simp [ig,Nd.key]
theorem Oq {l:List Nd} {q:Nat} (h:q<l.length):iy (l.take (q+1))=iy (l.take q)++(if isVar l[q]=true then [varOf l[q]] else []):=by
 rw [List.take_succ_eq_append_getElem h];simp only [iy,List.filter_append,List.map_append];congr 1
 cases hv:isVar l[q]<;>simp [List.filter,hv]
theorem J6 {l:List Nd} {q:Nat} (h:q<l.length):bh (l.take (q+1))=bh (l.take q)++(if mN l[q]=true then [rO l[q]] else []):=by
 rw [List.take_succ_eq_append_getElem h];simp only [bh,List.filter_append,List.map_append];congr 1
 cases hv:mN l[q]<;>simp [List.filter,hv]
theorem Ot {l:List Nd} {q:Nat} (h:q<l.length):iC (l.take (q+1))=iC (l.take q)++(if He l[q]=true then [l[q].tx] else []):=by
 rw [List.take_succ_eq_append_getElem h];simp only [iC,List.filter_append,List.map_append];congr 1
 cases hv:He l[q]<;>simp [List.filter,hv]
theorem Hf (l:List Nd) (q:Nat):(iy (l.take q)).length≤q:=by
 have h2:(iy (l.take q)).length≤(l.take q).length:=by rw [iy,List.length_map];exact List.length_filter_le _ _
 have h3:=List.length_take_le q l;omega
theorem DT (l:List Nd) (q:Nat):(bh (l.take q)).length≤q:=by
 have h2:(bh (l.take q)).length≤(l.take q).length:=by rw [bh,List.length_map];exact List.length_filter_le _ _
 have h3:=List.length_take_le q l;omega
theorem Ou {w w0 wr u:World} {R F D Mn Ma B:Nat} {t0:ByteArray} {n0 n1 n2 n3 rv rp ri:Value} {x:Nd} {L A:List (ByteArray×Int)} {fa:bf} {ia:List ByteArray} (hD:DS w0 wr D Mn Ma B t0 n0 n1 n2 n3 rv rp ri rv rp ri (iy x.kids) (bh x.kids) (iC x.kids) L A) (ht:x.tx=t0) (hC:aB (fun i=>i=R∨i=F) wr u) (xC:R<F) (P7:F<D) (hw:Ext w w0) (hwR:w.heap.size=R) (hlen:x.kids.length≤1000) (hsm:x.tx.size≤10000∧∀ y∈x.kids,y.tx.size≤10000) (hnd:ij (hide (below w.heap.size) u) x (.agg #[n0,n1,n2,n3])) :
  Bl w (fa,ia,0,0) x (.returned (.tuple #[.pointer (some ⟨D,0,none⟩),.agg #[.int .i64 0,.int .i64 0]])) u:=by
 have hdB:=hD.Ov;have hblk:=hD.d;obtain⟨a1,c1,e1,p1,p2,p3⟩:=hD.rows.gv.row pX Rw;obtain⟨a2,c2,e2,r1,r2,r3⟩:=yR hD.rows.gp kY Ox;obtain⟨a3,c3,e3,q1,q2,q3⟩:=hD.rows.gi.row vU Rx;have hwB:w.heap.size≤B:=by have:=hw.size;have:=hD.hD;omega
 have hK:gh (hide (below B) wr) (hide (below w.heap.size) u):=(aN (M:=below B) hC (fun i hi e=>by unfold below;rw [decide_eq_true_eq];omega)).trans (bJ (Nat.le_refl _) fun i hi hm=>⟨by simp [below] at hm ⊢;omega,rfl⟩);have hv:=Hf x.kids x.kids.length;have hp:=DT x.kids x.kids.length;rw [List.take_length] at hv hp;rw [e1,e2,e3] at hblk;refine⟨(hw.ext hD.ext).trans hC (fun i hi e=>by omega),_,rfl,fun _=>⟨D,a1,c1,a2,c2,a3,c3,_,_,_,_,_,rfl,hnd,⟨p1,p2,r1,r2⟩,by rw [ht];exact hblk.aU hC (by omega),p3.keeps hK fun b o y=>og.keeps hK,r3.keeps hK fun b o y=>jJ.keeps hK,⟨a3,c3,rfl,q1,q2,q3.keeps hK fun b o y h=>⟨hK.2 _ _ h.1,h.2⟩⟩,by omega,by omega,hsm⟩⟩
theorem Oy (L:List (ByteArray×Int)) (x:ByteArray) (v:Int):ig (L ++ [(x,v)])=ig L ++ [x.data.toList]:=by simp [ig]
set_option maxRecDepth 100000 in
set_option maxHeartbeats 8000000 in
theorem Q8 (s:ByteArray) (w:World) (hs:s.size≤9223372036854775807) (hv:ErrVar w) (hm:dG w) :
  Calls Tryz.prog 54 #[.string s] w (Bl w (zF s) (aZ s).1):=by
 obtain⟨Q,hQ⟩:∃ Q,zF s=Q:=⟨_,rfl⟩;rw [hQ];unfold zF at hQ;have hwf:=ofd.Ry s;obtain⟨R,hR⟩:∃ R,w.heap.size=R:=⟨_,rfl⟩;obtain⟨F,hF⟩:∃ F,R+1=F:=⟨_,rfl⟩;have hR0:=(aJ.made w #[.pointer none] 122).alloc (.cells #[.int .i64 0,.int .i64 0] 27);have oO:=aJ.made2 w (.cells #[.pointer none] 122) #[.int .i64 0,.int .i64 0] 27;rw [hR] at hR0 oO;rw [hF] at oO;have uQ:=((aB.refl (fun _=>False) w).alloc (.cells #[.pointer none] 122)).alloc (.cells #[.int .i64 0,.int .i64 0] 27);have HC:=Z_ (J7 s _ hs (hv.ext uQ) (hm.ext uQ));have hz0:((w.alloc (.cells #[.pointer none] 122)).alloc (.cells #[.int .i64 0,.int .i64 0] 27)).heap.size=F+1:=by simp;omega
 unfold xe at HC;rw [hz0] at HC;obtain⟨T,hT⟩:∃ T,aZ s=T:=⟨_,rfl⟩;rw [hT] at hQ hwf HC ⊢;obtain⟨x,c,a⟩:=T;simp only at hQ hwf ⊢;have HQ:=Z_ hQ;have HWF:=Z_ hwf;have xC:R<F:=by omega
 have HR0:=Z_ hR0;have vP:=Z_ oO;have HX0:=Z_ uQ;have hmf:∀ (fn:Fn) (first cap:Array Value) (w:World),(Instr.makeFunc fn first cap).run Tryz.prog w=.ok (.func fn first cap) w:=fun _ _ _ _=>rfl
 have hmk:=@run_makeMap Tryz.prog;clear hT hQ hR0 oO uQ hwf hv hm;go_enter_defers Tryz.func54,Tryz.ntmps54
 go_upto_region 1 with (fail)
 try rw [hF]
 generalize (w.alloc (.cells #[.pointer none] 122)).alloc (.cells #[.int .i64 0,.int .i64 0] 27)=u0 at *;go_wp2_with fail
 refine HC.out.mono ?_
 rintro e w1 ⟨hE1,v1,rfl,Yo⟩;have hn1:=aQ (aC _ _) _ _ Yo;have hR1:=HR0.out.ext hE1;have hF1:=vP.out.ext hE1;have hX1:=HX0.out.ext hE1
 have hnd1:=Rj (M:=fun i=>decide (i=R) || decide (i=F)) (fun b o s hb=>by
  simp only [Bool.or_eq_true,decide_eq_true_eq] at hb;rcases hb with rfl|rfl
  ·rw [hR1.cell];match o with
   | 0=>simp
   | o+1=>simp
  ·rw [hF1.cell];match o with
   | 0=>simp
   | 1=>simp
   | o+2=>simp) _ _ hn1
 obtain⟨k0,t0,n0,a0,l0,c0,rfl⟩:=dF hn1;have ad8:=Z_ Yo;have ad9:=Z_ hnd1;have HR1:=Z_ hR1;have Gm:=Z_ hF1;have Yp:=Z_ hX1;have hFl:=hF1.lt;clear hn1 Yo hnd1 hR1 hF1 hX1 hE1 HC HR0 vP HX0;have hf1:=Gm.out.cell;have au7:=Gm.out.frozen;go_upto_region 2 with (fail)
 have hEN:=(aB.refl (fun i=>i=F) w1).setCell (p:=⟨F,0,none⟩) (fun _=>rfl) (.int .i64 c);have RD:=(hEN.setCell (p:=⟨F,1,none⟩) (fun _=>rfl) (.int .i64 a)).alloc (.cells #[.int .i64 k0,.string t0,.int .i64 n0,.slice a0 l0 c0] 24);have JR:=Z_ (HR1.out.aU RD (by omega));have Ud:=Z_ (((Gm.out.set 0 (.int .i64 c)).set 1 (.int .i64 a)).alloc (.cells #[.int .i64 k0,.string t0,.int .i64 n0,.slice a0 l0 c0] 24));have C7:=Z_ (aJ.made ((w1.setCell ⟨F,0,none⟩ (.int .i64 c)).setCell ⟨F,1,none⟩ (.int .i64 a)) #[.int .i64 k0,.string t0,.int .i64 n0,.slice a0 l0 c0] 24);have HXB:=Z_ (Yp.out.trans RD (fun i hi e=>by omega));have Jh:=Z_ (aQ (aN (M:=fun i=>decide (i=R) || decide (i=F)) RD fun i _ e=>by simp [e]) _ _ ad9.out);have PV:=Z_ (aQ (aN (M:=below (F+1)) RD fun i _ e=>by subst e;simp [below]) _ _ ad8.out)
 clear ad8;obtain⟨N0,hN0⟩:∃ N0,((w1.setCell ⟨F,0,none⟩ (.int .i64 c)).setCell ⟨F,1,none⟩ (.int .i64 a)).heap.size=N0:=⟨_,rfl⟩;have hNw:w1.heap.size=N0:=by rw [←hN0];simp
 rw [hN0] at C7;rw [hNw] at hFl ⊢;clear hEN RD hf1 au7 HR1 Gm Yp ad9 hN0 hNw;generalize ((w1.setCell ⟨F,0,none⟩ (.int .i64 c)).setCell ⟨F,1,none⟩ (.int .i64 a)).alloc (.cells #[.int .i64 k0,.string t0,.int .i64 n0,.slice a0 l0 c0] 24)=u1 at *;have hf:=Ud.out.cell;by_cases hc0:c=0
 ·subst hc0
  obtain⟨hdk,hsz,ha0⟩:=HWF.out rfl;have au8:a=0:=ha0;subst au8;have hq:=HQ.out;rw [if_pos rfl] at hq;have uM:=Z_ hq;obtain⟨kx,tx,nx,l⟩:=x;have WS:=Z_ (Rl Jh.out);have hnd:=Jh.out;rw [dY] at hnd;obtain⟨a9,c9,e9,hl1,hl2,hl3,hl4⟩:=hnd;cases e9
  obtain⟨N,hN⟩:∃ N,l.length=N:=⟨_,rfl⟩;rw [hN] at C7 hl1;have a19:gm l≤499:=by have h:gm l+1≤500:=hsz;omega
  have HDK:=Z_ (show ∀ y∈l,vu y from hdk);have HN:=Z_ hN;have HI:=Z_ (fun (u:World) (hE:Ext u1 u)=>hl4.keeps (aN (M:=fun i=>decide (i=R) || decide (i=F)) hE fun i _ e=>e.elim) fun b o y=>jd (aN hE fun i _ e=>e.elim) b o y);have HHF:=Z_ (fun (i:Nat) (h:(decide (i=R) || decide (i=F))=false)=>h);rw [hN];have hl0:jM t0 l [] [] 1=jM t0 l [] [] 1:=rfl;obtain⟨LF,hLF⟩:∃ LF,jM t0 l [] [] 1=LF:=⟨_,rfl⟩;have hlo:=ofd.look_ok t0 l [] [] 1;rw [hLF] at hlo;have HLO:=Z_ hlo;have JV:=Z_ hLF;have Ue:=Z_ (show (if LF.1=0 then (RE false (.mk k0 t0 n0 l),iC l,(0:Int),(0:Int)) else (kC,[],LF.1,(LF.2:Int)))=Q by rw [←hLF];exact uM.out);have HL3:=Z_ hl3;have jO:=PV;rw [hN] at jO;clear PV;clear hq HQ uM HWF hdk hN hl4 hlo hLF hl0 ha0 Jh hsz
  have HNU:=Z_ (fun (u:World) (hE:aB (fun i=>i=R∨i=F) u1 u)=>aQ (bJ (M':=below R) (Nat.le_refl _) fun i hi hm=>⟨by simp [below] at hm ⊢;omega,rfl⟩) _ _ (aQ (aN (M:=below (F+1)) hE fun i _ e=>by rcases e with e|e<;>(subst e;simp [below];try omega)) _ _ jO.out));clear jO;have hr1:=JR.out.cell;have au9:=JR.out.frozen;have ad_:=JR.out.lt;have hn1:=C7.out.cell;have au_:=C7.out.lt;go_upto_region 6 with (fail)
  obtain⟨Ma,hMa⟩:∃ Ma,u1.heap.size=Ma:=⟨_,rfl⟩;obtain⟨D,hD⟩:∃ D,Ma+1=D:=⟨_,rfl⟩;rw [hMa] at ad_ au_
  try rw [hMa]
  try rw [hD]
  obtain⟨w0,hw0⟩:∃ w0,u1.setCell ⟨R,0,none⟩ (.pointer (some ⟨D,0,none⟩))=w0:=⟨_,rfl⟩;rw [hw0];have hC0:aB (fun i=>i=R) u1 w0:=by rw [←hw0];exact aA (aB.refl _ _) 0 _
  have hsz0:w0.heap.size=Ma:=by rw [←hw0,←hMa];simp
  have HR0:=Z_ (show aJ w0 R #[.pointer (some ⟨D,0,none⟩)] 122 from by rw [←hw0];have:=JR.out.set 0 (.pointer (some ⟨D,0,none⟩));exact this);have vP:=Z_ (show aJ w0 F #[.int .i64 0,.int .i64 0] 27 from Ud.out.aU hC0 (by omega));have HN0:=Z_ (C7.out.aU hC0 (by have:=C7.out.lt;have:=hFl;omega));have HX0:=Z_ (HXB.out.trans hC0 (fun i hi e=>by omega));have HNV:=Z_ (fun (u:World) (hE:aB (fun i=>i=R∨i=F) w0 u)=>HNU.out u ((hC0.weak fun _ _ e=>.inl e).then hE));clear HNU;have HI0:=Z_ (fun (u:World) (hE:Ext w0 u)=>(HI.out u1 (aB.refl _ _)).keeps (aN (M:=fun i=>decide (i=R) || decide (i=F)) (hC0.then (hE.weak fun _ _ h=>h.elim)) fun i _ e=>by simp [e]) fun b o y=>jd (aN (M:=fun i=>decide (i=R) || decide (i=F)) (hC0.then (hE.weak fun _ _ h=>h.elim)) fun i _ e=>by simp [e]) b o y)
  have hDA:=aJ.made (w0.alloc (.map #[] 0)) #[.string ⟨#[]⟩,.slice none 0 0,.slice none 0 0,.int .i64 k0,.string t0,.int .i64 n0,.slice a0 N c0,.slice none 0 0,.map (some Ma)] 128;rw [show (w0.alloc (.map #[] 0)).heap.size=D by simp [hsz0,hD]] at hDA;have hAM:=pG.made w0;rw [hsz0] at hAM;have hEA:Ext w0 ((w0.alloc (.map #[] 0)).alloc (.cells #[.string ⟨#[]⟩,.slice none 0 0,.slice none 0 0,.int .i64 k0,.string t0,.int .i64 n0,.slice a0 N c0,.slice none 0 0,.map (some Ma)] 128)):=((aB.refl _ _).alloc _).alloc _;have ae0:=hAM.aU ((aB.refl (fun _=>False) (w0.alloc (.map #[] 0))).alloc (.cells #[.string ⟨#[]⟩,.slice none 0 0,.slice none 0 0,.int .i64 k0,.string t0,.int .i64 n0,.slice a0 N c0,.slice none 0 0,.map (some Ma)] 128)) id;have hszA:((w0.alloc (.map #[] 0)).alloc (.cells #[.string ⟨#[]⟩,.slice none 0 0,.slice none 0 0,.int .i64 k0,.string t0,.int .i64 n0,.slice a0 N c0,.slice none 0 0,.map (some Ma)] 128)).heap.size=Ma+2:=by simp [hsz0]
  clear hr1 au9 ad_ hn1 hf HI JR Ud C7 HXB hw0 hAM hMa;generalize (w0.alloc (.map #[] 0)).alloc (.cells #[.string ⟨#[]⟩,.slice none 0 0,.slice none 0 0,.int .i64 k0,.string t0,.int .i64 n0,.slice a0 N c0,.slice none 0 0,.map (some Ma)] 128)=uA at *;have HDA:=Z_ hDA;have HAM:=Z_ ae0;have HEA:=Z_ hEA;have HSA:=Z_ hszA;clear hDA ae0 hEA hszA;have hr:=(HR0.out.ext HEA.out).cell;have hn:=(HN0.out.ext HEA.out).cell;have hd:=HDA.out.cell;have hdf:=HDA.out.frozen;have hdl:=HDA.out.lt;go_upto_region 8 with (fail)
  obtain⟨Mn,hMn⟩:∃ Mn,uA.heap.size=Mn:=⟨_,rfl⟩;have hCD:=aA (S:=D) (aB.refl _ uA) 0 (.string t0);have hEB:=hCD.alloc (.map #[] 0);have hNM:=pG.made (uA.setCell ⟨D,0,none⟩ (.string t0));rw [show (uA.setCell ⟨D,0,none⟩ (.string t0)).heap.size=Mn by rw [←hMn];simp] at hNM;have hDB:aJ ((uA.setCell ⟨D,0,none⟩ (.string t0)).alloc (.map #[] 0)) D #[.string t0,.slice none 0 0,.slice none 0 0,.int .i64 k0,.string t0,.int .i64 n0,.slice a0 N c0,.slice none 0 0,.map (some Ma)] 128:=by have:=(HDA.out.set 0 (.string t0)).alloc (.map #[] 0);exact this
  have hsA:=HSA.out;obtain⟨B,hB⟩:∃ B,Mn+1=B:=⟨_,rfl⟩
  have hDS:DS w0 ((uA.setCell ⟨D,0,none⟩ (.string t0)).alloc (.map #[] 0)) D Mn Ma B t0 (.int .i64 k0) (.string t0) (.int .i64 n0) (.slice a0 N c0) (.slice none 0 0) (.slice none 0 0) (.slice none 0 0) (.slice none 0 0) (.slice none 0 0) (.slice none 0 0) [] [] [] [] []:=
   ⟨HEA.out.trans hEB (fun i hi e=>by omega),hDB,hNM,HAM.out.aU hEB (by omega),Three.nil _ _,by omega,by omega,by omega,by omega,by omega,by omega,by omega,by omega,by omega,by simp;omega⟩
  have Gn:=Z_ hDS
  try rw [hMn]
  clear hr hn hd hdf hdl hCD hEB hNM hDB hDS HDA HAM HEA HSA;generalize (uA.setCell ⟨D,0,none⟩ (.string t0)).alloc (.map #[] 0)=uB at *;have hn:=(HN0.out.ext Gn.out.ext).cell;have Uc:N≤9223372036854775807:=by have h1:=hl1;have h2:=hl2;unfold maxLen at h2;omega
  clear hl1 hl2 hmk;go_wp2_with fail
  go_loopw [6,35] (fun p i wr=>∃ (q pn:Nat) (rv rp ri:Value) (L A:List (ByteArray×Int)),q≤N∧p=.int .i64 (pn:Nat)∧i=.int .i64 (q:Nat)∧Hid (jM t0 (l.drop q) (ig A) (ig L) pn=LF)∧Hid (DS w0 wr D Mn Ma B t0 (.int .i64 k0) (.string t0) (.int .i64 n0) (.slice a0 N c0) rv rp ri rv rp ri (iy (l.take q)) (bh (l.take q)) (iC (l.take q)) L A)∧A.length≤5∧L.length≤20∧A.length=(iC (l.take q)).length∧Hid (pn+gm (l.drop q)≤1000)) (fun _ i _=>N-(intOf i).toNat)
  case atStart=>exact⟨0,1,.slice none 0 0,.slice none 0 0,.slice none 0 0,[],[],Nat.zero_le _,rfl,rfl,JV,Gn,Nat.zero_le _,Nat.zero_le _,rfl,Z_ (by show 1+gm l≤1000;omega)⟩
  clear Gn JV hn
  case round=>
   obtain⟨q,pn,rv,rp,ri,L,A,hq,rfl,rfl,HT,Gn,hAl,hLl,Ym,HZ⟩:=hrel;by_cases hlt:q<N
   ·have hqi:(q:Int)<(N:Int):=by omega
    have ZT:decide ((q:Int)<(N:Int))=true:=by simpa using hqi
    have kN:q<l.length:=by rw [HN.out];exact hlt
    obtain⟨b,o,rfl,hb,u,hu,hus,hcl⟩:=HI0.out w0 (aB.refl _ _) q kN;rw [dK] at hb;have hbl:=Nat.lt_of_lt_of_le hb Gn.out.ext.size;have hy:=HDK.out l[q] (List.getElem_mem kN);have hT:=HT.out;rw [List.drop_eq_getElem_cons kN] at hT;have hZ:=HZ.out;rw [Hg kN] at hZ;have Gp:=Z_ (Oq kN);have HPT:=Z_ (J6 kN);have HIT:=Z_ (Ot kN);have HU:=Z_ hu;generalize l[q]=y at hy hT hZ HU hu Gp HPT HIT;obtain⟨k1,t1,n1,l1⟩:=y;rw [dY] at hu;obtain⟨a1,c1,rfl,h11,h12,h13,h14⟩:=hu;have q0:wr.cell? ⟨b,o+q*4,none⟩=some (.int .i64 k1):=(Gn.out.ext.cell (p:=⟨b,o+q*4,none⟩) hb id).trans ((aC _ w0).2 _ _ ((hcl 0 (by decide)).trans rfl));have q1:wr.cell? ⟨b,o+q*4+1,none⟩=some (.string t1):=(Gn.out.ext.cell (p:=⟨b,o+q*4+1,none⟩) hb id).trans ((aC _ w0).2 _ _ ((hcl 1 (by decide)).trans rfl))
    have q2:wr.cell? ⟨b,o+q*4+2,none⟩=some (.int .i64 n1):=(Gn.out.ext.cell (p:=⟨b,o+q*4+2,none⟩) hb id).trans ((aC _ w0).2 _ _ ((hcl 2 (by decide)).trans rfl));have q3:wr.cell? ⟨b,o+q*4+3,none⟩=some (.slice a1 l1.length c1):=(Gn.out.ext.cell (p:=⟨b,o+q*4+3,none⟩) hb id).trans ((aC _ w0).2 _ _ ((hcl 3 (by decide)).trans rfl));obtain⟨N1,hN1⟩:∃ N1,l1.length=N1:=⟨_,rfl⟩;rw [hN1] at q3 h11 HU;have Gh:=Z_ hN1;have xK:=Z_ (Gn.out.extend ((aB.refl (fun _=>False) wr).alloc (.cells #[.int .i64 k1,.string t1,.int .i64 n1,.slice a1 N1 c1] 24)));have HK:=Z_ (aJ.made wr #[.int .i64 k1,.string t1,.int .i64 n1,.slice a1 N1 c1] 24);have HU1:=Z_ (fun (u:World) (hE:Ext w0 u)=>aQ (aN (M:=fun i=>decide (i=R) || decide (i=F)) hE fun i _ e=>e.elim) _ _ HU.out)
    obtain⟨K,hK⟩:∃ K,wr.heap.size=K:=⟨_,rfl⟩;have HOWN:=Z_ (fun i e=>(bG Gn.out.rows.gi i e).2);have ae1:=Z_ (fun i e=>(bG Gn.out.rows.gv i e).2);have ae2:=Z_ (fun i e=>(dm Gn.out.rows.gp i e).2);rw [hK] at HK HOWN ae1 ae2;have hBK:B≤K:=by have:=Gn.out.hu;omega
    have Uf:=Z_ hZ;clear hcl hus h14 HU HT HZ hZ hN1;go_upto_region 12 with (fail)
    clear q0 q1 q2 q3 Gn
    try rw [hK]
    generalize wr.alloc (.cells #[.int .i64 k1,.string t1,.int .i64 n1,.slice a1 N1 c1] 24)=u1 at *;have hk:=HK.out.cell;have hbig:K<u1.heap.size:=HK.out.lt;have hr:=(HR0.out.ext xK.out.ext).cell;have hd:=xK.out.d.cell;have hn:=(HN0.out.ext xK.out.ext).cell;have hrl:=(HR0.out.ext xK.out.ext).lt;by_cases hki:k1=2
    ·subst hki
     have hT2:=hT;rw [Rn (by rfl)] at hT2
     have himp:Rq (.mk 2 t1 n1 l1):=by
      rcases hy with h|h|h
      ·exact h
      ·exact absurd h.kd (by show ¬ (2:Int)=3;decide)
      ·exact absurd h.kd (by show ¬ (2:Int)=4;decide)
     have hs1:=U3 himp;rw [hs1] at hT2 Uf;have HS1:=Z_ hs1;have HT:=Z_ hT2;clear hT hT2 hy himp hs1;obtain⟨Bq,ZY⟩:∃ Bq,(oC A t1).isSome=Bq:=⟨_,rfl⟩;have hlook:=fun n=>(xK.out.am.drewN n).look (s:=t1) (by unfold maxLen;omega)
     rw [ZY] at hlook;have HBQ:=Z_ ((A8 A t1).symm.trans ZY);generalize (oC A t1).getD 0=ca at *;go_upto_region 13 with (fail)
     go_quiet (fail)
     have hnq:=(aB.refl (fun _=>False) u1).drewN nq;replace xK:=Z_ (xK.out.extend hnq);replace HK:=Z_ (HK.out.ext hnq);have az1:=HK.out.lt;clear hlook hr hd hn hk hrl hbig hnq;generalize u1.drewN nq=u2 at *;have hr:=(HR0.out.ext xK.out.ext).cell;have hd:=xK.out.d.cell;have hn:=(HN0.out.ext xK.out.ext).cell;have hk:=HK.out.cell;cases Bq with
     | true=>
      have pW:=Z_ (show LF=(5,pn) from(by have h:=HT.out;rw [if_pos (show (ig A).contains (Nd.mk 2 t1 n1 l1).key=true from HBQ.out)] at h;exact h.symm));clear ZY;go_wp2_with fail
      refine(iq 5 (pn:Nat) _).mono ?_
      rintro e w2 ⟨rfl,rfl⟩;have Q_:=HR0.out.ext xK.out.ext;have Rf:=vP.out.ext xK.out.ext;have JQ:=HX0.out.ext xK.out.ext;go_wp2_with fail
      refine leaves_cons (f:=111) (args:=#[.pointer (some ⟨R,0,none⟩),.pointer (some ⟨F,0,none⟩)]) (by simp) (by simp [go_sem]) ?_
      refine(ZQ.mL R F _ _ _ 5 (pn:Nat) _ Q_ Rf (by omega)).mono ?_
      rintro e u' w'' ⟨rfl,rfl,DN,DR,J5⟩;exact⟨_,iQ rfl _ _ rfl DN Tryz.underlying122 rfl rfl DR Tryz.underlying27 rfl (by kernel_rfl),vT Ue.out pW.out (by decide) JQ J5 hR xC⟩
     | false=>
      have hT2:=HT.out;rw [if_neg (by rw [show (ig A).contains (Nd.mk 2 t1 n1 l1).key=false from HBQ.out];exact Bool.false_ne_true)] at hT2;have HT:=Z_ hT2
      have hnone:oC A t1=none:=by cases hq:oC A t1 with
       | none=>rfl
       | some c=>rw [hq] at ZY;cases ZY
      clear hT2 ZY;by_cases htt:t1=t0
      ·have h3:(t1.toList == t0.toList)=true:=by rw [htt];simp
       have WN:=Z_ htt;clear htt;have pW:=Z_ (show LF=(5,pn) from(by have h:=HT.out;rw [if_pos (show (Nd.mk 2 t1 n1 l1).tx=t0 from WN.out)] at h;exact h.symm));go_wp2_with fail
       refine(iq 5 (pn:Nat) _).mono ?_
       rintro e w2 ⟨rfl,rfl⟩;have Q_:=HR0.out.ext xK.out.ext;have Rf:=vP.out.ext xK.out.ext;have JQ:=HX0.out.ext xK.out.ext;go_wp2_with fail
       refine leaves_cons (f:=111) (args:=#[.pointer (some ⟨R,0,none⟩),.pointer (some ⟨F,0,none⟩)]) (by simp) (by simp [go_sem]) ?_
       refine(ZQ.mL R F _ _ _ 5 (pn:Nat) _ Q_ Rf (by omega)).mono ?_
       rintro e u' w'' ⟨rfl,rfl,DN,DR,J5⟩;exact⟨_,iQ rfl _ _ rfl DN Tryz.underlying122 rfl rfl DR Tryz.underlying27 rfl (by kernel_rfl),vT Ue.out pW.out (by decide) JQ J5 hR xC⟩
      ·have h3:(t1.toList == t0.toList)=false:=by rw [ByteArray.toList_eq,ByteArray.toList_eq];simpa using fun e=>htt (ByteArray.ext (Array.toList_inj.1 e))
       have hT2:=HT.out;rw [if_neg (show ¬ (Nd.mk 2 t1 n1 l1).tx=t0 from htt)] at hT2;have HT:=Z_ hT2;clear hT2 htt;go_wp2_with fail
       refine(fO 5 (pn:Nat) _).mono ?_
       rintro e w2 ⟨rfl,rfl⟩;obtain⟨ra,rc,hrow,-,-⟩:=je xK.out.rows.gi;subst hrow;by_cases h5:5≤(iC (l.take q)).length
       ·have ZZ:¬ ((iC (l.take q)).length:Int)<5:=by omega
        have h5d:decide (((iC (l.take q)).length:Int)<5)=false:=by simpa using ZZ
        have h5n:decide ((iC (l.take q)).length<5)=false:=by simpa using h5
        have pW:=Z_ (show LF=(1,pn) from(by have h:=HT.out;rw [if_pos (show 5≤(ig A).length by unfold ig;rw [List.length_map,Ym];exact h5)] at h;exact h.symm));go_wp2_with fail
        refine(iq 1 (pn:Nat) _).mono ?_
        rintro e w2 ⟨rfl,rfl⟩;have Q_:=HR0.out.ext xK.out.ext;have Rf:=vP.out.ext xK.out.ext;have JQ:=HX0.out.ext xK.out.ext;go_wp2_with fail
        refine leaves_cons (f:=111) (args:=#[.pointer (some ⟨R,0,none⟩),.pointer (some ⟨F,0,none⟩)]) (by simp) (by simp [go_sem]) ?_
        refine(ZQ.mL R F _ _ _ 1 (pn:Nat) _ Q_ Rf (by omega)).mono ?_
        rintro e u' w'' ⟨rfl,rfl,DN,DR,J5⟩;exact⟨_,iQ rfl _ _ rfl DN Tryz.underlying122 rfl rfl DR Tryz.underlying27 rfl (by kernel_rfl),vT Ue.out pW.out (by decide) JQ J5 hR xC⟩
       ·have ZZ:((iC (l.take q)).length:Int)<5:=by omega
        have h5d:decide (((iC (l.take q)).length:Int)<5)=true:=by simpa using ZZ
        have h5n:decide ((iC (l.take q)).length<5)=true:=by simp;omega
        have hT2:=HT.out;rw [if_neg (show ¬ 5≤(ig A).length by unfold ig;rw [List.length_map,Ym];exact h5)] at hT2;have HT:=Z_ hT2;clear hT2;go_wp2_with fail
        refine(fO 1 (pn:Nat) _).mono ?_
        rintro e w2 ⟨rfl,rfl⟩;clear hr hd hn hk;go_upto_region 16 with (fail)
        have HAI:=Z_ Ym;have HH5:=Z_ h5;clear h3 ZZ h5d h5n h5 ZT hqi Ym hmf hsz0 hMn hsA hR hD hB;refine aj [7] (fun i v _=>v=([.pointer (some ⟨D,0,none⟩),.pointer (some ⟨D,0,none⟩),.pointer (some ⟨D,8,none⟩),.map (some Ma),.pointer (some ⟨K,1,none⟩),.string t1,.int .i64 (pn:Nat),undef]:List Value).getD i undef) (Om (fun A u=>DS w0 u D Mn Ma B t0 (.int .i64 k0) (.string t0) (.int .i64 n0) (.slice (some ⟨b,o,none⟩) N c0) rv rp (.slice ra (iC (l.take q)).length rc) rv rp (.slice ra (iC (l.take q)).length rc) (iy (l.take q)) (bh (l.take q)) (iC (l.take q)) L A∧aJ u K #[.int .i64 2,.string t1,.int .i64 n1,.slice a1 N1 c1] 24) A (A ++ [(t1,(pn:Int))])) (fun _ _=>True) (frame:=?as1) (fun x=>?X7) bH.mixed (by kernel_rfl) (by kernel_rfl) (fun _ _ _ _ h _=>h) ?h0m ?stm ?X8
        case X7=>
         simp only [chain.aS,chain.fill,chain.bT,chain.bC,oV,oW,oZ,o5,o6,o7,o8,o_,pq];exact rfl
        case h0m=>exact⟨xK.out.extend (aB.refl _ _).drew,HK.out.ext (aB.refl _ _).drew⟩
        case stm=>
         iterate 8 (refine ak.cons (fun x vs u hF hm hb hd K' hK'=>?_) ?_;rotate_left)
         exact ak.nil
         ·obtain⟨A9,Ug,hK9⟩:=Om.any hF;have hr:=(HR0.out.ext Ug.ext).cell;clear Ug hK9;have HF:=Z_ hF;clear hd hm hb hF;go_simp;exact hK'.out _ _ _ (rfl) trivial ⟨rfl,HF.out⟩
         ·have y0:x 71=.pointer (some ⟨D,0,none⟩):=(D_ hd 0 :);have HF:=Z_ hF;clear hd hm hb hF;go_simp;exact hK'.out _ _ _ (by simp only [y0];rfl) trivial ⟨rfl,HF.out⟩
         ·have y0:x 72=.pointer (some ⟨D,0,none⟩):=(D_ hd 1 :);have HF:=Z_ hF;clear hd hm hb hF;go_simp;exact hK'.out _ _ _ (by simp only [y0];rfl) trivial ⟨rfl,HF.out⟩
         ·obtain⟨A9,Ug,hK9⟩:=Om.any hF;have hdc:u.cell? ⟨D,8,none⟩=some (.map (some Ma)):=(Ug.d.cell 8).trans rfl;clear Ug hK9;have y0:x 73=.pointer (some ⟨D,8,none⟩):=(D_ hd 2 :);have HF:=Z_ hF;clear hd hm hb hF;go_simp;exact hK'.out _ _ _ (by simp only [y0];rfl) trivial ⟨rfl,HF.out⟩
         ·have HF:=Z_ hF;clear hd hm hb hF;go_simp;exact hK'.out _ _ _ (rfl) trivial ⟨rfl,HF.out⟩
         ·obtain⟨A9,Ug,hK9⟩:=Om.any hF;have hk:=hK9.cell;clear Ug hK9;have y0:x 75=.pointer (some ⟨K,1,none⟩):=(D_ hd 4 :);have HF:=Z_ hF;clear hd hm hb hF;go_simp;exact hK'.out _ _ _ (by simp only [y0];rfl) trivial ⟨rfl,HF.out⟩
         ·have HF:=Z_ hF;clear hd hm hb hF;go_simp;exact hK'.out _ _ _ (rfl) trivial ⟨rfl,HF.out⟩
         ·obtain rfl:=pR hm;have y0:x 74=.map (some Ma):=(D_ hd 3 :);have y1:x 76=.string t1:=(D_ hd 5 :);have y2:x 77=.int .i64 (pn:Nat):=(D_ hd 6 :);have hpn:pn≤1000:=by have:=Uf.out;omega
          have oO:=(show _∧_ from hF);obtain⟨P7,P6⟩:=oO;obtain⟨w9,hput,hM2,hg2⟩:=P7.am.put (x:=t1) (v:=(pn:Nat)) hnone (by unfold maxLen;omega) (by unfold maxLen;omega) (by omega) (by omega);have HD7:=Z_ (P7.imp hg2 hM2);have HK7:=Z_ (P6.aU (kF hg2) (by have:=P7.W7;omega));clear hd hm hb hF hM2 hg2 P7 P6;go_simp;exact hK'.out _ _ undef (by simp only [y0,y1,y2];rfl) trivial ⟨HD7.out,HK7.out⟩
        case X8=>
         intro x vs w9 hl hF hk9;obtain⟨v0,rfl⟩:=L1_ hl
         clear hk9 hl;obtain⟨P7,P6⟩:=(show _∧_ from hF);have yM:=Z_ P7;have Jj:=Z_ P6;clear hF P7 P6 xK HK;go_upto_region 17 with (fail)
         refine aj [7,8,11] (fun i v _=>v=([.pointer (some ⟨D,0,none⟩),.pointer (some ⟨D,0,none⟩),.pointer (some ⟨D,0,none⟩),.pointer (some ⟨D,7,none⟩),.slice ra (iC (l.take q)).length rc,.pointer (some ⟨K,1,none⟩),.string t1,undef,undef,.pointer (some ⟨D,0,none⟩),.pointer (some ⟨D,7,none⟩),undef]:List Value).getD i undef) (fF.gV (fun u rN r lq=>DS w0 u D Mn Ma B t0 (.int .i64 k0) (.string t0) (.int .i64 n0) (.slice (some ⟨b,o,none⟩) N c0) rv rp rN rv rp r (iy (l.take q)) (bh (l.take q)) lq L (A ++ [(t1,(pn:Int))])∧aJ u K #[.int .i64 2,.string t1,.int .i64 n1,.slice a1 N1 c1] 24) (fun _=>false) Hh (B) 9 (.slice ra (iC (l.take q)).length rc) (iC (l.take q)) t1 (.string t1)) (fun _ _=>True) (frame:=?a1_) (fun x=>?av1) bH.mixed (by kernel_rfl) (by kernel_rfl) (fun _ _ _ _ h _=>h) ?h0i ?sti ?av2
         case av1=>
          simp only [chain.aS,chain.fill,chain.bT,chain.bC,oV,oW,oZ,o5,o6,o7,o8,o_,pq];exact rfl
         case h0i=>exact⟨⟨yM.out.extend (aB.refl _ _).drew,Jj.out.ext (aB.refl _ _).drew⟩,rfl,h13⟩
         case sti=>
          iterate 12 (refine ak.cons (fun x vs u hF hm hb hd K' hK'=>?_) ?_;rotate_left)
          exact ak.nil
          ·obtain⟨_,_,_,RF⟩:=fF.gV.any hF;have hr:=(HR0.out.ext RF.1.ext).cell;clear RF;have HF:=Z_ hF;clear hd hm hb hF;go_simp;exact hK'.out _ _ _ (rfl) trivial ⟨rfl,HF.out⟩
          ·obtain⟨_,_,_,RF⟩:=fF.gV.any hF;have hr:=(HR0.out.ext RF.1.ext).cell;clear RF;have HF:=Z_ hF;clear hd hm hb hF;go_simp;exact hK'.out _ _ _ (rfl) trivial ⟨rfl,HF.out⟩
          ·have y0:x 79=.pointer (some ⟨D,0,none⟩):=(D_ hd 1 :);have HF:=Z_ hF;clear hd hm hb hF;go_simp;exact hK'.out _ _ _ (by simp only [y0];rfl) trivial ⟨rfl,HF.out⟩
          ·have y0:x 80=.pointer (some ⟨D,0,none⟩):=(D_ hd 2 :);have HF:=Z_ hF;clear hd hm hb hF;go_simp;exact hK'.out _ _ _ (by simp only [y0];rfl) trivial ⟨rfl,HF.out⟩
          ·have RF:=fF.gV.B hF (by have:=hb 1 _ (by decide) rfl (by kernel_rfl);omega);have hc:u.cell? ⟨D,7,none⟩=some (.slice ra (iC (l.take q)).length rc):=(RF.1.d.cell 7).trans rfl;clear RF;have y0:x 81=.pointer (some ⟨D,7,none⟩):=(D_ hd 3 :);have HF:=Z_ hF;clear hd hm hb hF;go_simp;exact hK'.out _ _ _ (by simp only [y0];rfl) trivial ⟨rfl,HF.out⟩
          ·have HF:=Z_ hF;clear hd hm hb hF;go_simp;exact hK'.out _ _ _ (rfl) trivial ⟨rfl,HF.out⟩
          ·have RF:=fF.gV.B hF (by have:=hb 0 _ (by decide) rfl (by kernel_rfl);omega);have hc:=RF.2.cell;clear RF;have y0:x 83=.pointer (some ⟨K,1,none⟩):=(D_ hd 5 :);have HF:=Z_ hF;clear hd hm hb hF;go_simp;exact hK'.out _ _ _ (by simp only [y0];rfl) trivial ⟨rfl,HF.out⟩
          ·obtain rfl:=pR hm;have y0:x 84=.string t1:=(D_ hd 6 :);have aY:=hF.1;have HG:=Z_ (fF.dm (rM aY.1.rows.gi xM (fun _=>false)));have HF:=Z_ hF;clear hd hm hb hF aY;go_simp;exact hK'.out _ _ _ (by simp only [y0];rfl) trivial (fF.iE fF.vU (fun u' hE=>⟨HF.out.1.1.extend hE,HF.out.1.2.ext hE⟩) (fun i e=>(HG.out i e).2) HF.out rfl)
          ·obtain⟨v0,rfl⟩:=rE hm
           have y0:x 82=.slice ra (iC (l.take q)).length rc:=(D_ hd 4 :);have y1:x 85=v0:=((D_ hd 7) 85 (by kernel_rfl) :);have hF2:=hF;obtain⟨aY,hxx,gg,rfl,hgb,hgr⟩:=hF2;obtain⟨us,hu1,ho,hu3⟩:=(rM aY.1.rows.gi xM (fun _=>false)).ex;obtain⟨mg,mD,hz0,hz1,hz2⟩:=bH.bD fF.RG;have hbz:B≤u.heap.size:=by exact aY.1.hu
           refine wp_append_lies _ _ _ 39 rfl (B) 9 mg (.string ⟨#[]⟩) 1 16 Tryz.underlying39 mD hz0 hz1 hz2 rfl (by decide) (.slice ra (iC (l.take q)).length rc) (iC (l.take q)).length (us.flatMap fun u=>u.cells.toList) y0 ho ⟨gg,0,none⟩ 1 1 [.string t1] y1 rfl ?_ (by intro z_ qL;simp only [List.mem_cons,List.not_mem_nil,or_false] at qL;rcases qL with rfl<;>rfl) (by decide) (by unfold maxLen;have:=HH5.out;omega) (by have:=HH5.out;omega) hbz u.heap.size rfl ?_
           ·intro j q hj;have e:(⟨gg,0,none⟩:Addr).add j=⟨gg,j,none⟩:=(by unfold Addr.add;split<;>simp_all);rw [e,hgb.cell];simpa [Value.cells] using hj
           ·intro g9 c9 w9 kQ kM mF yK
            exact hK'.out _ _ _ rfl trivial (fF.gW fF.vU hF hu1 hu3 rfl (fun r yQ hG hC ha=>⟨aY.1.turn hC (fun i e=>(bG aY.1.rows.gi i e).1) (aY.1.rows.ae3 (Fa hG xM) hC ha),aY.2.aU hC (fun e=>by have:=HOWN.out _ e;omega)⟩) kQ kM mF)
          ·have y0:x 78=.pointer (some ⟨D,0,none⟩):=(D_ hd 0 :);have HF:=Z_ hF;clear hd hm hb hF;go_simp;exact hK'.out _ _ _ (by simp only [y0];rfl) trivial ⟨rfl,HF.out⟩
          ·have y0:x 87=.pointer (some ⟨D,0,none⟩):=(D_ hd 9 :);have HF:=Z_ hF;clear hd hm hb hF;go_simp;exact hK'.out _ _ _ (by simp only [y0];rfl) trivial ⟨rfl,HF.out⟩
          ·obtain⟨v0,v1,rfl⟩:=yP hm
           have y0:x 88=.pointer (some ⟨D,7,none⟩):=(D_ hd 10 :);have y1:x 86=v1:=((D_ hd 8) 86 (by kernel_rfl) :);have hF2:=hF;obtain⟨aY,gg,cc,rfl⟩:=hF2;have hc:=aY.1.d.cell 7;have hf:=aY.1.d.frozen 7;have hl:=aY.1.d.lt;simp at hc
           have HF:=Z_ hF;clear hd hm hb hF aY;go_simp;exact hK'.out _ _ undef (by simp only [y0,y1];rfl) trivial (fF.iF (z:=undef) HF.out (fun h=>⟨h.1.av3,h.2.setOther (p:=⟨D,7,none⟩) (by have:=h.1.Ov;show K≠D;omega) _⟩))
         case av2=>
          intro x9 wJ w9 hl hF hk9;obtain⟨v0,v1,v2,rfl⟩:=UH hl
          clear hk9 hl;obtain⟨P7,P6⟩:=(show _∧_ from hF);have W8:=Z_ P7;have hk:=P6.cell;have Yq:=ofw.Bo (.mk 2 t1 n1 l1) _ w9 _ (HU1.out _ P7.ext) (by rw [HS1.out];decide);rw [HS1.out] at Yq;have HWW:=Z_ Yq;clear hF P7 P6 Yq;go_wp2_with fail
          refine HWW.out.mono ?_
          rintro e w5 ⟨rfl,xN⟩;have HD5:=Z_ (W8.out.extend xN);clear xN hk HWW W8;have hw1:IntKind.i64.wrap ((pn:Int)+1)=((pn+1:Nat):Int):=by have:=Uf.out;rw [wrap_small _ (by omega) (by omega)];omega
          have hw3:IntKind.i64.wrap ((pn:Int)+((1:Nat):Int))=((pn+1:Nat):Int):=hw1;go_wp2_with fail
          go_roundw
          case rel=>
           have hv:iy (l.take (q+1))=iy (l.take q):=by have h:=Gp.out;rw [show isVar (Nd.mk 2 t1 n1 l1)=false from rfl] at h;simpa using h
           have hp:bh (l.take (q+1))=bh (l.take q):=by have h:=HPT.out;rw [show mN (Nd.mk 2 t1 n1 l1)=false from rfl] at h;simpa using h
           have hi:iC (l.take (q+1))=iC (l.take q) ++ [t1]:=by have h:=HIT.out;rw [show He (Nd.mk 2 t1 n1 l1)=true from rfl,if_pos rfl] at h;exact h
           have h5q:=HH5.out;have hai:=HAI.out;exact⟨q+1,pn+1,rv,rp,_,L,A ++ [(t1,(pn:Int))],by omega,by first|rfl|go_num,by go_num,Z_ (by rw [Oy];exact HT.out),by rw [hv,hp,hi];exact HD5,by simp;omega,hLl,by rw [hi];simp;omega,Z_ (by have:=Uf.out;omega)⟩
          case measure=>simp [intOf];omega
    ·have av4:(k1 == 2)=false:=by simpa using hki
     have hT2:=hT;rw [Oo (show (Nd.mk k1 t1 n1 l1).kd≠2 from hki)] at hT2
     have hvp:RH (.mk k1 t1 n1 l1)∨Bv (.mk k1 t1 n1 l1):=by
      rcases hy with h|h
      ·exact absurd h.kd hki
      ·exact h
     have hzz:dL (.mk k1 t1 n1 l1)=gm l1+1:=by simp [dL,Nat.add_comm]
     have hpn:pn≤1000:=by have:=Uf.out;omega
     have hkl:(Nd.mk k1 t1 n1 l1).kids.length≤1000:=by have h1:=uh l1;have:=Uf.out;show l1.length≤1000;omega
     have hvs:(iy (l.take q)).length≤1000:=by have h1:=Hf l q;have h2:=uh l;have:=HN.out;omega
     have hps:(bh (l.take q)).length≤1000:=by have h1:=DT l q;have h2:=uh l;have:=HN.out;omega
     have hdc:=W9.Hj pn xK.out (HU1.out w0 (aB.refl _ _)) hvp hkl hpn hLl hvs hps;have Wh:=Z_ (Rt (x:=.mk k1 t1 n1 l1) (L:=L) (p:=pn));obtain⟨FX,Z4⟩:∃ FX,vk L (.mk k1 t1 n1 l1) pn=FX:=⟨_,rfl⟩;rw [Z4] at hT2 hdc Wh;have HDC:=Z_ hdc;have HT:=Z_ hT2;have HVP:=Z_ hvp;have HZZ:=Z_ hzz;clear hT hT2 hy hvp hzz hkl hvs hps hdc Z4;go_wp2_with fail
     refine HDC.out.mono ?_
     rintro e w2 hpost;clear HDC hk hr hd hn hrl hbig;by_cases oO:FX.1=0
     ·obtain⟨rfl,Z5,Z7,ae4,hC2⟩:=hpost.1 oO
      have yM:=Z_ ae4
      have Jj:=Z_ (HK.out.aU hC2 (fun e=>by
       have h1:=xK.out.Ov;have h2:=xK.out.U4
       rcases e with e|e|e|e
       ·omega
       ·omega
       ·have:=ae1.out _ e;omega
       ·have:=ae2.out _ e;omega))
      have a2_:=Wh.out oO;have HTL:=Z_ (show jM t0 (l.drop (q+1)) (ig A) (ig L ++ [Nd.key (.mk k1 t1 n1 l1)]) (pn+dL (.mk k1 t1 n1 l1))=LF by have h:=HT.out;rw [if_pos oO] at h;exact h);clear hpost ae4 hC2 oO HT Wh xK HK;have hk:=Jj.out.cell;have hbig:=Jj.out.lt;have Yq:=ofw.Bo (.mk k1 t1 n1 l1) _ w2 _ (HU1.out _ yM.out.ext) (by have:=Uf.out;omega);obtain⟨z,hz⟩:∃ z,dL (.mk k1 t1 n1 l1)=z:=⟨_,rfl⟩;rw [hz] at Yq Uf HTL;have HWW:=Z_ Yq;clear hz Yq;go_wp2_with fail
      refine HWW.out.mono ?_
      rintro e w5 ⟨rfl,xN⟩;have HD5:=Z_ (yM.out.extend xN);clear xN hk HWW yM;have hw1:IntKind.i64.wrap ((pn:Int)+(z:Nat))=((pn+z:Nat):Int):=by have:=Uf.out;rw [wrap_small _ (by omega) (by omega)];omega
      go_wp2_with fail
      go_roundw
      case rel=>
       have hnI:He (Nd.mk k1 t1 n1 l1)=false:=decide_eq_false hki;have hi:iC (l.take (q+1))=iC (l.take q):=by have h:=HIT.out;rw [hnI] at h;simpa using h
       have hD9:=HD5.out
       have av5:(isVar (Nd.mk k1 t1 n1 l1)=true∧mN (Nd.mk k1 t1 n1 l1)=false)∨(isVar (Nd.mk k1 t1 n1 l1)=false∧mN (Nd.mk k1 t1 n1 l1)=true):=by
        rcases HVP.out with h|h
        ·have e:k1=3:=h.kd
         subst e;exact .inl ⟨rfl,rfl⟩
        ·have e:k1=4:=h.kd
         subst e;exact .inr ⟨rfl,rfl⟩
       have av6:DS w0 w5 D Mn Ma B t0 (.int .i64 k0) (.string t0) (.int .i64 n0) (.slice (some ⟨b,o,none⟩) N c0) Z5 Z7 ri Z5 Z7 ri (iy (l.take (q+1))) (bh (l.take (q+1))) (iC (l.take (q+1))) (L ++ [(t1,(pn:Int))]) A:=by
        rcases av5 with ⟨h1,h2⟩|⟨h1,h2⟩
        ·have hv:=Gp.out;have hp:=HPT.out
         rw [h1,if_pos rfl] at hv;rw [h2,if_neg Bool.false_ne_true,List.append_nil] at hp;rw [h1,if_pos rfl,if_pos rfl] at hD9;rw [hv,hp,hi];exact hD9
        ·have hv:=Gp.out;have hp:=HPT.out
         rw [h1,if_neg Bool.false_ne_true,List.append_nil] at hv;rw [h2,if_pos rfl] at hp;rw [h1,if_neg Bool.false_ne_true,if_neg Bool.false_ne_true] at hD9;rw [hv,hp,hi];exact hD9
       exact⟨q+1,pn+z,Z5,Z7,ri,L ++ [(t1,(pn:Int))],A,by omega,by first|rfl|go_num,by go_num,Z_ (by rw [show ig (L ++ [(t1,(pn:Int))])=ig L ++ [Nd.key (.mk k1 t1 n1 l1)] from Ru L (.mk k1 t1 n1 l1) pn];exact HTL.out),Z_ av6,hAl,by simp;omega,by rw [hi];exact Ym,Z_ (by have:=Uf.out;omega)⟩
      case measure=>simp [intOf];omega
     ·obtain⟨rfl,hE2⟩:=hpost.2 oO
      have tK:=Z_ hE2;have av7:=Z_ oO;have HTN:=Z_ (show LF=(FX.1,FX.2) by have h:=HT.out;rw [if_neg oO] at h;exact h.symm);clear hpost hE2 oO HT xK HK;go_wp2_with fail
      have Q_:=HR0.out.ext tK.out;have Rf:=vP.out.ext tK.out;have JQ:=HX0.out.ext tK.out;obtain⟨c9,p9⟩:=FX;have rG:c9≠0:=av7.out;refine leaves_cons (f:=111) (args:=#[.pointer (some ⟨R,0,none⟩),.pointer (some ⟨F,0,none⟩)]) (by simp) (by simp [go_sem]) ?_
      refine(ZQ.mL R F _ _ _ c9 (p9:Nat) _ Q_ Rf (by omega)).mono ?_
      rintro e u' w'' ⟨rfl,rfl,DN,DR,J5⟩;exact⟨_,iQ rfl _ _ rfl DN Tryz.underlying122 rfl rfl DR Tryz.underlying27 rfl (by kernel_rfl),vT Ue.out HTN.out rG JQ J5 hR xC⟩
   ·obtain rfl:q=N:=by omega
    have ZT:decide ((q:Int)<(q:Int))=false:=by simp
    have hT2:=HT.out;have hDL:l.drop q=[]:=by rw [List.drop_eq_nil_iff];have:=HN.out;omega
    rw [hDL] at hT2;have ae5:LF=(0,0):=hT2.symm;have HQ9:=Z_ (show (RE false (Nd.mk k0 t0 n0 l),iC l,(0:Int),(0:Int))=Q by have h:=Ue.out;rw [ae5] at h;exact h);have hTK:l.take q=l:=by rw [List.take_of_length_le];have:=HN.out;omega
    have hDE:=Gn.out;rw [hTK] at hDE;have HDE:=Z_ hDE;have iY:=Z_ (show (Nd.mk k0 t0 n0 l).kids.length≤1000 by have h1:=uh l;show l.length≤1000;omega);have H3:=Z_ (And.intro (HR0.out.ext Gn.out.ext) (vP.out.ext Gn.out.ext));clear hT2 hDL ae5 hTK hDE;go_upto_region 21 with (fail)
    refine aj [2,3] (fun i v _=>v=([.pointer (some ⟨D,0,none⟩),.agg #[.int .i64 0,.int .i64 0],undef,undef]:List Value).getD i undef) (fun _ u=>aJ u R #[.pointer (some ⟨D,0,none⟩)] 122∧aJ u F #[.int .i64 0,.int .i64 0] 27∧aB (fun i=>i=R∨i=F) wr u) (fun _ _=>True) (frame:=?UN) (fun x=>?E8) bH.mixed (by kernel_rfl) (by kernel_rfl) (fun _ _ _ _ h _=>h) ?UO ?UQ ?fine
    case E8=>
     simp only [chain.aS,chain.fill,chain.bT,chain.bC,oV,oW,oZ,o5,o6,o7,o8,o_,pq];exact rfl
    case UO=>exact⟨H3.out.1.drew,H3.out.2.drew,(aB.refl _ _).drew⟩
    case UQ=>
     iterate 4 (refine ak.cons (fun x vs u hF hm hb hd K' hK'=>?_) ?_;rotate_left)
     exact ak.nil
     ·have hc:=hF.1.cell;have HF:=Z_ hF;clear hd hm hb hF;go_simp;exact hK'.out _ _ _ (rfl) trivial ⟨rfl,HF.out⟩
     ·have hc:=hF.2.1.cell;have HF:=Z_ hF;clear hd hm hb hF;go_simp;exact hK'.out _ _ _ (rfl) trivial ⟨rfl,HF.out⟩
     ·have y0:x 99=.pointer (some ⟨D,0,none⟩):=(D_ hd 0 :);have hc:=hF.1.cell;have hf:=hF.1.frozen;have hl:=hF.1.lt;have HF:=Z_ hF;clear hd hm hb hF;go_simp;exact hK'.out _ _ undef (by simp only [y0];rfl) trivial ⟨HF.out.1.set 0 _,HF.out.2.1.setOther (p:=⟨R,0,none⟩) (by show F≠R;omega) _,HF.out.2.2.setCell (p:=⟨R,0,none⟩) (fun _=>.inl rfl) _⟩
     ·have y0:x 100=.agg #[.int .i64 0,.int .i64 0]:=(D_ hd 1 :);have hc:=hF.2.1.cell;have hf:=hF.2.1.frozen;have hl:=hF.2.1.lt;have HF:=Z_ hF;clear hd hm hb hF;go_simp;exact hK'.out _ _ undef (by simp only [y0];rfl) trivial ⟨(HF.out.1.setOther (p:=⟨F,0,none⟩) (by show R≠F;omega) _).setOther (p:=⟨F,1,none⟩) (by show R≠F;omega) _,(HF.out.2.1.set 0 _).set 1 _,(HF.out.2.2.setCell (p:=⟨F,0,none⟩) (fun _=>.inr rfl) _).setCell (p:=⟨F,1,none⟩) (fun _=>.inr rfl) _⟩
    case fine=>
     intro x9 wJ w9 hl hF hk9;have vh:=Z_ hF;clear hk9 hl hF;go_wp2_with fail
     refine leaves_cons (f:=111) (args:=#[.pointer (some ⟨R,0,none⟩),.pointer (some ⟨F,0,none⟩)]) (by simp) (by simp [go_sem]) ?_
     refine(ZQ.yT R F _).mono ?_
     rintro e u' w'' ⟨rfl,rfl,rfl⟩;exact⟨_,iQ rfl _ _ rfl vh.out.1 Tryz.underlying122 rfl rfl vh.out.2.1 Tryz.underlying27 rfl (by kernel_rfl),by rw [←HQ9.out];exact Ou HDE.out rfl vh.out.2.2 xC (by omega) HX0.out hR (by have:=iY.out;exact this) WS.out (by rw [hR];exact HNV.out _ ((HDE.out.ext.weak fun _ _ e=>e.elim).then vh.out.2.2))⟩
 ·have uM:=Z_ (show (kC,[],c,a)=Q by have h:=HQ.out;rw [if_neg hc0] at h;exact h)
  have hcn:(c != 0)=true:=by simpa using hc0
  clear HQ;go_upto_region 3 with (fail)
  have Hl:aJ u1 R #[.pointer none] 122:=JR.out;have hF3:aJ u1 F #[.int .i64 c,.int .i64 a] 27:=Ud.out;have Oz:Ext w u1:=HXB.out;have H3:=Z_ (And.intro Hl (And.intro hF3 Oz));clear Hl hF3 Oz;refine aj [1,2] (fun i v _=>v=([.agg #[.int .i64 c,.int .i64 a],undef,undef]:List Value).getD i undef) (fun _ u=>aJ u R #[.pointer none] 122∧aJ u F #[.int .i64 c,.int .i64 a] 27∧Ext w u) (fun _ _=>True) (frame:=?UJ) (fun x=>?zV) bH.mixed (by kernel_rfl) (by kernel_rfl) (fun _ _ _ _ h _=>h) ?h0c ?UK ?EU
  case zV=>
   simp only [chain.aS,chain.fill,chain.bT,chain.bC,oV,oW,oZ,o5,o6,o7,o8,o_,pq];exact rfl
  case h0c=>exact⟨H3.out.1.drew,H3.out.2.1.drew,H3.out.2.2.drew⟩
  case UK=>
   iterate 3 (refine ak.cons (fun x vs u hF hm hb hd K' hK'=>?_) ?_;rotate_left)
   exact ak.nil
   ·have hc:=hF.2.1.cell;have HF:=Z_ hF;clear hd hm hb hF;go_simp;exact hK'.out _ _ _ (rfl) trivial ⟨rfl,HF.out⟩
   ·have hc:=hF.1.cell;have hf:=hF.1.frozen;have hl:=hF.1.lt;have HF:=Z_ hF;clear hd hm hb hF;go_simp;exact hK'.out _ _ undef rfl trivial ⟨HF.out.1.set 0 _,HF.out.2.1.setOther (p:=⟨R,0,none⟩) (by show F≠R;omega) _,HF.out.2.2.bM (p:=⟨R,0,none⟩) (by show w.heap.size≤R;omega) _⟩
   ·have y0:x 19=.agg #[.int .i64 c,.int .i64 a]:=(D_ hd 0 :);have hc:=hF.2.1.cell;have hf:=hF.2.1.frozen;have hl:=hF.2.1.lt;have HF:=Z_ hF;clear hd hm hb hF;go_simp;exact hK'.out _ _ undef (by simp only [y0];rfl) trivial ⟨(HF.out.1.setOther (p:=⟨F,0,none⟩) (by show R≠F;omega) _).setOther (p:=⟨F,1,none⟩) (by show R≠F;omega) _,(HF.out.2.1.set 0 _).set 1 _,(HF.out.2.2.bM (p:=⟨F,0,none⟩) (by show w.heap.size≤F;omega) _).bM (p:=⟨F,1,none⟩) (by show w.heap.size≤F;omega) _⟩
  case EU=>
   intro x9 wJ w9 hl hF hk9;have vh:=Z_ hF;clear hk9 hl hF;go_wp2_with fail
   exact⟨_,iQ rfl _ _ rfl vh.out.1 Tryz.underlying122 rfl rfl vh.out.2.1 Tryz.underlying27 rfl (by kernel_rfl),vh.out.2.2,_,by rw [←uM.out],fun h=>absurd (by rw [←uM.out] at h;exact h) hc0⟩
end ad4
end Go.Proofs.YtpcihajmcejliacGreatDoor
namespace Go.Proofs.YtpcihajmcejliacGreatDoor
open Go.RowKit
namespace face
theorem cE (n:Int) (w:World):Calls Tryz.prog 57 #[.int .i64 n] w fun e w'=>e=.returned (.bool (uN n))∧w'=w:=by
 go_enter Tryz.func57,Tryz.ntmps57
 go_wp2
 all_goals go_ret
 all_goals go_light
 all_goals refine⟨dO ?_,rfl⟩
 all_goals simp_all [uN]
end face
end Go.Proofs.YtpcihajmcejliacGreatDoor
namespace Go.Proofs.YtpcihajmcejliacGreatDoor
open Go.RowKit
instance:DecidableEq jw:=fun ⟨a,b,c,d⟩ ⟨a',b',c',d'⟩=>decidable_of_iff (a=a'∧b=b'∧c=c'∧d=d') (by simp)
instance:DecidableEq aO:=fun ⟨a,b,c,d,e,f⟩ ⟨a',b',c',d',e',f'⟩=>decidable_of_iff (a=a'∧b=b'∧c=c'∧d=d'∧e=e'∧f=f') (by simp)
instance:DecidableEq bf:=fun ⟨a,b,c⟩ ⟨a',b',c'⟩=>decidable_of_iff (a=a'∧b=b'∧c=c') (by simp)
namespace face
end face
end Go.Proofs.YtpcihajmcejliacGreatDoor
