/- The walk of the program's Look: all declarations of a text. The walks of chapter 4's small functions: what a label is; a text's place in a list; whether two rows, two procedures are one. The walks of slices.Equal, as the faces' comparisons use it: of rows of numbers, of rows of variables. -/
import Derived.Test.YtpcihajmcejliacGreatDoorOfDm
import Derived.Test.YtpcihajmcejliacGreatDoorChkVm
import Derived.Test.YtpcihajmcejliacGreatDoorOfSm
namespace Go.Proofs.YtpcihajmcejliacGreatDoor
open Go.RowKit
namespace PY
open bn dn oV
theorem IP {w:World} {M:Nat→Bool} (hM:∀ b o s,M b=true→w.cell? ⟨b,o,none⟩≠some (.string s)):∀ x v,fE w x v→fE (hide M w) x v:=by
 refine oP fun k t m l ih v h=>?_
 rw [cG] at h ⊢;obtain⟨a,c,e,h1,h2,h3,h4⟩:=h;refine⟨a,c,e,h1,h2,h3,fun j hj=>?_⟩
 obtain⟨b,o,ea,hb,u,hu,hs,hc⟩:=h4 j hj;obtain⟨ku,tu,mu,au,nu,cu,rfl⟩:=bU hu
 have hMb:M b=false:=by
  cases hq:M b with
  | false=>rfl
  | true=>exact absurd ((hc 1 (by decide)).trans rfl) (hM b _ tu hq)
 refine⟨b,o,ea,by rw [bK];exact hb,_,ih _ (List.getElem_mem hj) _ hu,hs,fun i hi=>?_⟩
 rw [fU M w _ hMb];exact hc i hi
def vG (w:World) (R:aN×List ByteArray×Int×Int) (x:Nd) (e:Ending) (w':World):Prop:=
 Ext w w'∧∃ vp,e=.returned (.tuple #[vp,.agg #[.int .i64 R.2.2.1,.int .i64 R.2.2.2]])∧(R.2.2.1=0→∃ D a1 c1 a2 c2 a3 c3 d3 d4 d5 d6 d8,vp=.pointer (some ⟨D,0,none⟩)∧fE (hide (below w.heap.size) w') x (.agg #[d3,d4,d5,d6])∧((fH x.kids).length≤c1∧c1≤maxLen∧(aY x.kids).length≤c2∧c2≤maxLen)∧
  aH w' D #[.string x.tx,.slice a1 (fH x.kids).length c1,.slice a2 (aY x.kids).length c2,d3,d4,d5,d6,.slice a3 (dR x.kids).length c3,d8] 128∧
  bW 4 h_ (hide (below w.heap.size) w') a1 (fH x.kids)∧bW 6 dY (hide (below w.heap.size) w') a2 (aY x.kids)∧kK 1 kC (dR x.kids) (.slice a3 (dR x.kids).length c3) (hide (below w.heap.size) w')∧(fH x.kids).length≤1000∧(aY x.kids).length≤1000∧x.tx.size≤10000∧∀ y∈x.kids,y.tx.size≤10000)
theorem IQ {w:World} {x:Nd} {v:Value} (h:fE w x v):x.tx.size≤10000∧∀ y∈x.kids,y.tx.size≤10000:=by
 obtain⟨k,t,m,l⟩:=x;rw [cG] at h;obtain⟨a,c,e,h1,h2,h3,h4⟩:=h;refine⟨h3,fun y hy=>?_⟩
 obtain⟨j,hj,rfl⟩:=List.getElem_of_mem (show y∈l from hy);obtain⟨b,o,ea,hb,u,hu,hs,hc⟩:=h4 j hj;generalize l[j]=y at hu;obtain⟨k2,t2,m2,l2⟩:=y;rw [cG] at hu;obtain⟨a2,c2,e2,g1,g2,g3,g4⟩:=hu;exact g3
theorem IU {m:ByteArray} {x:Nd} {r:List Nd} {I L:List (List UInt8)} {p:Nat} (hk:x.kd=2):iw m (x::r) I L p=if I.contains x.key=true then (5,p) else if x.tx=m then (5,p) else if 5≤I.length then (1,p) else iw m r (I ++ [x.key]) L (p+fP x):=by
 rw [iw,if_pos hk]
theorem IV {m:ByteArray} {x:Nd} {r:List Nd} {I L:List (List UInt8)} {p:Nat} (hk:x.kd≠2):iw m (x::r) I L p=if L.contains x.key=true then (5,p) else if 20≤L.length then (1,p) else if (qA x p).1=0 then iw m r I (L ++ [x.key]) (p+fP x) else qA x p:=by
 rw [iw,if_neg hk]
theorem Lu {x:Nd} (h:IW x):fP x=1:=by
 obtain⟨k,t,m,l⟩:=x;have e:l=[]:=h.kids;subst e;rfl
theorem og (l:List Nd):l.length≤kJ l:=by
 induction l with
 | nil=>exact Nat.le_refl _
 | cons x r ih=>have:=Ic x;simp only [List.length_cons,kJ];omega
theorem pU {w u w':World} {Q:aN×List ByteArray×Int×Int} {x:Nd} {LF:Int×Nat} {fa:aN} {ia:List ByteArray} {c:Int} {p:Nat} {R F:Nat} (hQ:(if LF.1=0 then (fa,ia,(0:Int),(0:Int)) else (gY,[],LF.1,(LF.2:Int)))=Q) (hF:LF=(c,p)) (hc:c≠0) (hE:Ext w u) (hC:aB (fun i=>i=R∨i=F) u w') (hR:w.heap.size=R) (oM:R<F):vG w Q x (.returned (.tuple #[.pointer none,.agg #[.int .i64 c,.int .i64 (p:Nat)]])) w':=by
 subst hF;rw [if_neg hc] at hQ;subst hQ;exact⟨hE.trans hC (fun i hi e=>by omega),_,rfl,fun h=>absurd h hc⟩
def FG (P:List (ByteArray×Int)→World→Prop) (A A2:List (ByteArray×Int)):List Value→World→Prop
 | [],u=>P A u
 | _::_,u=>P A2 u
theorem FG.any {P:List (ByteArray×Int)→World→Prop} {A A2:List (ByteArray×Int)} {vs:List Value} {u:World} (h:FG P A A2 vs u):∃ X,P X u:=by
 match vs,h with
 | [],h=>exact⟨_,h⟩
 | _::_,h=>exact⟨_,h⟩
theorem FH {m:ByteArray} {x:Nd} {r:List Nd} {I:List (List UInt8)} {L:List (ByteArray×Int)} {p:Nat} (hk:x.kd≠2):iw m (x::r) I (eU L) p=if (oZ L x p).1=0 then iw m r I (eU L ++ [x.key]) (p+fP x) else oZ L x p:=by
 rw [IV hk];unfold oZ;have e:(eU L).length=L.length:=by simp [eU]
 rw [e];by_cases h1:(eU L).contains x.key=true
 ·rw [if_pos h1,if_pos h1,if_neg (show ¬ (5:Int)=0 by decide)]
 ·rw [if_neg h1,if_neg h1]
  by_cases h2:20≤L.length
  ·rw [if_pos h2,if_pos h2,if_neg (show ¬ (1:Int)=0 by decide)]
  ·rw [if_neg h2,if_neg h2]
theorem IX {x:Nd} {L:List (ByteArray×Int)} {p:Nat} (h:(oZ L x p).1=0):L.length<20:=by
 unfold oZ at h;by_cases h1:(eU L).contains x.key=true
 ·rw [if_pos h1] at h;cases h
 ·rw [if_neg h1] at h
  by_cases h2:20≤L.length
  ·rw [if_pos h2] at h;cases h
  ·omega
theorem IY (L:List (ByteArray×Int)) (x:Nd) (p:Int):eU (L ++ [(x.tx,p)])=eU L ++ [x.key]:=by simp [eU,Nd.key]
theorem FI {l:List Nd} {q:Nat} (h:q<l.length):fH (l.take (q+1))=fH (l.take q)++(if isVar l[q]=true then [varOf l[q]] else []):=by
 rw [List.take_succ_eq_append_getElem h];simp only [fH,List.filter_append,List.map_append];congr 1
 cases hv:isVar l[q]<;>simp [List.filter,hv]
theorem Dl {l:List Nd} {q:Nat} (h:q<l.length):aY (l.take (q+1))=aY (l.take q)++(if jw l[q]=true then [qI l[q]] else []):=by
 rw [List.take_succ_eq_append_getElem h];simp only [aY,List.filter_append,List.map_append];congr 1
 cases hv:jw l[q]<;>simp [List.filter,hv]
theorem FK {l:List Nd} {q:Nat} (h:q<l.length):dR (l.take (q+1))=dR (l.take q)++(if xE l[q]=true then [l[q].tx] else []):=by
 rw [List.take_succ_eq_append_getElem h];simp only [dR,List.filter_append,List.map_append];congr 1
 cases hv:xE l[q]<;>simp [List.filter,hv]
theorem AA (l:List Nd) (q:Nat):(fH (l.take q)).length≤q:=by
 have h2:(fH (l.take q)).length≤(l.take q).length:=by rw [fH,List.length_map];exact List.length_filter_le _ _
 have h3:=List.length_take_le q l;omega
theorem xG (l:List Nd) (q:Nat):(aY (l.take q)).length≤q:=by
 have h2:(aY (l.take q)).length≤(l.take q).length:=by rw [aY,List.length_map];exact List.length_filter_le _ _
 have h3:=List.length_take_le q l;omega
theorem FM {w w0 wr u:World} {R F D Mn Ma B:Nat} {t0:ByteArray} {n0 n1 n2 n3 rv rp ri:Value} {x:Nd} {L A:List (ByteArray×Int)} {fa:aN} {ia:List ByteArray} (hD:DS w0 wr D Mn Ma B t0 n0 n1 n2 n3 rv rp ri rv rp ri (fH x.kids) (aY x.kids) (dR x.kids) L A) (ht:x.tx=t0) (hC:aB (fun i=>i=R∨i=F) wr u) (oM:R<F) (GY:F<D) (hw:Ext w w0) (hwR:w.heap.size=R) (hlen:x.kids.length≤1000) (hsm:x.tx.size≤10000∧∀ y∈x.kids,y.tx.size≤10000) (hnd:fE (hide (below w.heap.size) u) x (.agg #[n0,n1,n2,n3])) :
  vG w (fa,ia,0,0) x (.returned (.tuple #[.pointer (some ⟨D,0,none⟩),.agg #[.int .i64 0,.int .i64 0]])) u:=by
 have hdB:=hD.FN;have hblk:=hD.d;obtain⟨a1,c1,e1,p1,p2,p3⟩:=hD.rows.gv.row gK AB;obtain⟨a2,c2,e2,r1,r2,r3⟩:=sF hD.rows.gp gZ xH;obtain⟨a3,c3,e3,q1,q2,q3⟩:=hD.rows.gi.row pV IZ;have hwB:w.heap.size≤B:=by have:=hw.size;have:=hD.hD;omega
 have hK:bZ (hide (below B) wr) (hide (below w.heap.size) u):=(aC (M:=below B) hC (fun i hi e=>by unfold below;rw [decide_eq_true_eq];omega)).trans (aZ (Nat.le_refl _) fun i hi hm=>⟨by simp [below] at hm ⊢;omega,rfl⟩);have hv:=AA x.kids x.kids.length;have hp:=xG x.kids x.kids.length;rw [List.take_length] at hv hp;rw [e1,e2,e3] at hblk;refine⟨(hw.ext hD.ext).trans hC (fun i hi e=>by omega),_,rfl,fun _=>⟨D,a1,c1,a2,c2,a3,c3,_,_,_,_,_,rfl,hnd,⟨p1,p2,r1,r2⟩,by rw [ht];exact hblk.aO hC (by omega),p3.keeps hK fun b o y=>h_.keeps hK,r3.keeps hK fun b o y=>dY.keeps hK,⟨a3,c3,rfl,q1,q2,q3.keeps hK fun b o y h=>⟨hK.2 _ _ h.1,h.2⟩⟩,by omega,by omega,hsm⟩⟩
theorem FO (L:List (ByteArray×Int)) (x:ByteArray) (v:Int):eU (L ++ [(x,v)])=eU L ++ [x.data.toList]:=by simp [eU]
set_option maxRecDepth 100000 in
set_option maxHeartbeats 8000000 in
theorem Az (s:ByteArray) (w:World) (hs:s.size≤9223372036854775807) (hv:ErrVar w) (hm:dw w) :
  Calls Tryz.prog 54 #[.string s] w (vG w (qB s) (aT s).1):=by
 obtain⟨Q,hQ⟩:∃ Q,qB s=Q:=⟨_,rfl⟩;rw [hQ];unfold qB at hQ;have hwf:=XG.I0 s;obtain⟨R,hR⟩:∃ R,w.heap.size=R:=⟨_,rfl⟩;obtain⟨F,hF⟩:∃ F,R+1=F:=⟨_,rfl⟩;have hR0:=(aH.made w #[.pointer none] 122).alloc (.cells #[.int .i64 0,.int .i64 0] 27);have kY:=aH.made2 w (.cells #[.pointer none] 122) #[.int .i64 0,.int .i64 0] 27;rw [hR] at hR0 kY;rw [hF] at kY;have oH:=((aB.refl (fun _=>False) w).alloc (.cells #[.pointer none] 122)).alloc (.cells #[.int .i64 0,.int .i64 0] 27);have HC:=Z_ (Dn s _ hs (hv.ext oH) (hm.ext oH));have hz0:((w.alloc (.cells #[.pointer none] 122)).alloc (.cells #[.int .i64 0,.int .i64 0] 27)).heap.size=F+1:=by simp;omega
 unfold qK at HC;rw [hz0] at HC;obtain⟨T,hT⟩:∃ T,aT s=T:=⟨_,rfl⟩;rw [hT] at hQ hwf HC ⊢;obtain⟨x,c,a⟩:=T;simp only at hQ hwf ⊢;have HQ:=Z_ hQ;have HWF:=Z_ hwf;have oM:R<F:=by omega
 have HR0:=Z_ hR0;have pM:=Z_ kY;have HX0:=Z_ oH;have hmf:∀ (fn:Fn) (first cap:Array Value) (w:World),(Instr.makeFunc fn first cap).run Tryz.prog w=.ok (.func fn first cap) w:=fun _ _ _ _=>rfl
 have hmk:=@run_makeMap Tryz.prog;clear hT hQ hR0 kY oH hwf hv hm;go_enter_defers Tryz.func54,Tryz.ntmps54
 go_upto_region 1 with (fail)
 try rw [hF]
 generalize (w.alloc (.cells #[.pointer none] 122)).alloc (.cells #[.int .i64 0,.int .i64 0] 27)=u0 at *;go_wp2_with fail
 refine HC.out.mono ?_
 rintro e w1 ⟨hE1,v1,rfl,P7⟩;have hn1:=aJ (az _ _) _ _ P7;have hR1:=HR0.out.ext hE1;have hF1:=pM.out.ext hE1;have hX1:=HX0.out.ext hE1
 have hnd1:=IP (M:=fun i=>decide (i=R) || decide (i=F)) (fun b o s hb=>by
  simp only [Bool.or_eq_true,decide_eq_true_eq] at hb;rcases hb with rfl|rfl
  ·rw [hR1.cell];match o with
   | 0=>simp
   | o+1=>simp
  ·rw [hF1.cell];match o with
   | 0=>simp
   | 1=>simp
   | o+2=>simp) _ _ hn1
 obtain⟨k0,t0,n0,a0,l0,c0,rfl⟩:=bU hn1;have Ug:=Z_ P7;have Uh:=Z_ hnd1;have HR1:=Z_ hR1;have AK:=Z_ hF1;have Kr:=Z_ hX1;have hFl:=hF1.lt;clear hn1 P7 hnd1 hR1 hF1 hX1 hE1 HC HR0 pM HX0;have hf1:=AK.out.cell;have Zq:=AK.out.frozen;go_upto_region 2 with (fail)
 have NW:=(aB.refl (fun i=>i=F) w1).setCell (p:=⟨F,0,none⟩) (fun _=>rfl) (.int .i64 c);have I4:=(NW.setCell (p:=⟨F,1,none⟩) (fun _=>rfl) (.int .i64 a)).alloc (.cells #[.int .i64 k0,.string t0,.int .i64 n0,.slice a0 l0 c0] 24);have Dh:=Z_ (HR1.out.aO I4 (by omega));have IL:=Z_ (((AK.out.set 0 (.int .i64 c)).set 1 (.int .i64 a)).alloc (.cells #[.int .i64 k0,.string t0,.int .i64 n0,.slice a0 l0 c0] 24));have yG:=Z_ (aH.made ((w1.setCell ⟨F,0,none⟩ (.int .i64 c)).setCell ⟨F,1,none⟩ (.int .i64 a)) #[.int .i64 k0,.string t0,.int .i64 n0,.slice a0 l0 c0] 24);have Zr:=Z_ (Kr.out.trans I4 (fun i hi e=>by omega));have GV:=Z_ (aJ (aC (M:=fun i=>decide (i=R) || decide (i=F)) I4 fun i _ e=>by simp [e]) _ _ Uh.out);have GM:=Z_ (aJ (aC (M:=below (F+1)) I4 fun i _ e=>by subst e;simp [below]) _ _ Ug.out)
 clear Ug;obtain⟨N0,hN0⟩:∃ N0,((w1.setCell ⟨F,0,none⟩ (.int .i64 c)).setCell ⟨F,1,none⟩ (.int .i64 a)).heap.size=N0:=⟨_,rfl⟩;have hNw:w1.heap.size=N0:=by rw [←hN0];simp
 rw [hN0] at yG;rw [hNw] at hFl ⊢;clear NW I4 hf1 Zq HR1 AK Kr Uh hN0 hNw;generalize ((w1.setCell ⟨F,0,none⟩ (.int .i64 c)).setCell ⟨F,1,none⟩ (.int .i64 a)).alloc (.cells #[.int .i64 k0,.string t0,.int .i64 n0,.slice a0 l0 c0] 24)=u1 at *;have hf:=IL.out.cell;by_cases hc0:c=0
 ·subst hc0
  obtain⟨hdk,hsz,ha0⟩:=HWF.out rfl;have Zt:a=0:=ha0;subst Zt;have hq:=HQ.out;rw [if_pos rfl] at hq;have oK:=Z_ hq;obtain⟨kx,tx,nx,l⟩:=x;have J8:=Z_ (IQ GV.out);have hnd:=GV.out;rw [cG] at hnd;obtain⟨a9,c9,e9,hl1,hl2,hl3,hl4⟩:=hnd;cases e9
  obtain⟨N,hN⟩:∃ N,l.length=N:=⟨_,rfl⟩;rw [hN] at yG hl1;have ae3:kJ l≤499:=by have h:kJ l+1≤500:=hsz;omega
  have HDK:=Z_ (show ∀ y∈l,o5 y from hdk);have HN:=Z_ hN;have HI:=Z_ (fun (u:World) (hE:Ext u1 u)=>hl4.keeps (aC (M:=fun i=>decide (i=R) || decide (i=F)) hE fun i _ e=>e.elim) fun b o y=>fL (aC hE fun i _ e=>e.elim) b o y);have HHF:=Z_ (fun (i:Nat) (h:(decide (i=R) || decide (i=F))=false)=>h);rw [hN];have hl0:iw t0 l [] [] 1=iw t0 l [] [] 1:=rfl;obtain⟨LF,XH⟩:∃ LF,iw t0 l [] [] 1=LF:=⟨_,rfl⟩;have hlo:=XG.look_ok t0 l [] [] 1;rw [XH] at hlo;have HLO:=Z_ hlo;have Ry:=Z_ XH;have Ei:=Z_ (show (if LF.1=0 then (AL false (.mk k0 t0 n0 l),dR l,(0:Int),(0:Int)) else (gY,[],LF.1,(LF.2:Int)))=Q by rw [←XH];exact oK.out);have HL3:=Z_ hl3;have ig:=GM;rw [hN] at ig;clear GM;clear hq HQ oK HWF hdk hN hl4 hlo XH hl0 ha0 GV hsz
  have HNU:=Z_ (fun (u:World) (hE:aB (fun i=>i=R∨i=F) u1 u)=>aJ (aZ (M':=below R) (Nat.le_refl _) fun i hi hm=>⟨by simp [below] at hm ⊢;omega,rfl⟩) _ _ (aJ (aC (M:=below (F+1)) hE fun i _ e=>by rcases e with e|e<;>(subst e;simp [below];try omega)) _ _ ig.out));clear ig;have hr1:=Dh.out.cell;have Zu:=Dh.out.frozen;have Ui:=Dh.out.lt;have hn1:=yG.out.cell;have Zv:=yG.out.lt;go_upto_region 6 with (fail)
  obtain⟨Ma,XI⟩:∃ Ma,u1.heap.size=Ma:=⟨_,rfl⟩;obtain⟨D,hD⟩:∃ D,Ma+1=D:=⟨_,rfl⟩;rw [XI] at Ui Zv
  try rw [XI]
  try rw [hD]
  obtain⟨w0,hw0⟩:∃ w0,u1.setCell ⟨R,0,none⟩ (.pointer (some ⟨D,0,none⟩))=w0:=⟨_,rfl⟩;rw [hw0];have hC0:aB (fun i=>i=R) u1 w0:=by rw [←hw0];exact ak (aB.refl _ _) 0 _
  have hsz0:w0.heap.size=Ma:=by rw [←hw0,←XI];simp
  have HR0:=Z_ (show aH w0 R #[.pointer (some ⟨D,0,none⟩)] 122 from by rw [←hw0];have:=Dh.out.set 0 (.pointer (some ⟨D,0,none⟩));exact this);have pM:=Z_ (show aH w0 F #[.int .i64 0,.int .i64 0] 27 from IL.out.aO hC0 (by omega));have XJ:=Z_ (yG.out.aO hC0 (by have:=yG.out.lt;have:=hFl;omega));have HX0:=Z_ (Zr.out.trans hC0 (fun i hi e=>by omega));have PO:=Z_ (fun (u:World) (hE:aB (fun i=>i=R∨i=F) w0 u)=>HNU.out u ((hC0.weak fun _ _ e=>.inl e).then hE));clear HNU;have HI0:=Z_ (fun (u:World) (hE:Ext w0 u)=>(HI.out u1 (aB.refl _ _)).keeps (aC (M:=fun i=>decide (i=R) || decide (i=F)) (hC0.then (hE.weak fun _ _ h=>h.elim)) fun i _ e=>by simp [e]) fun b o y=>fL (aC (M:=fun i=>decide (i=R) || decide (i=F)) (hC0.then (hE.weak fun _ _ h=>h.elim)) fun i _ e=>by simp [e]) b o y)
  have Zw:=aH.made (w0.alloc (.map #[] 0)) #[.string ⟨#[]⟩,.slice none 0 0,.slice none 0 0,.int .i64 k0,.string t0,.int .i64 n0,.slice a0 N c0,.slice none 0 0,.map (some Ma)] 128;rw [show (w0.alloc (.map #[] 0)).heap.size=D by simp [hsz0,hD]] at Zw;have Zx:=kD.made w0;rw [hsz0] at Zx;have hEA:Ext w0 ((w0.alloc (.map #[] 0)).alloc (.cells #[.string ⟨#[]⟩,.slice none 0 0,.slice none 0 0,.int .i64 k0,.string t0,.int .i64 n0,.slice a0 N c0,.slice none 0 0,.map (some Ma)] 128)):=((aB.refl _ _).alloc _).alloc _;have Uj:=Zx.aO ((aB.refl (fun _=>False) (w0.alloc (.map #[] 0))).alloc (.cells #[.string ⟨#[]⟩,.slice none 0 0,.slice none 0 0,.int .i64 k0,.string t0,.int .i64 n0,.slice a0 N c0,.slice none 0 0,.map (some Ma)] 128)) id;have hszA:((w0.alloc (.map #[] 0)).alloc (.cells #[.string ⟨#[]⟩,.slice none 0 0,.slice none 0 0,.int .i64 k0,.string t0,.int .i64 n0,.slice a0 N c0,.slice none 0 0,.map (some Ma)] 128)).heap.size=Ma+2:=by simp [hsz0]
  clear hr1 Zu Ui hn1 hf HI Dh IL yG Zr hw0 Zx XI;generalize (w0.alloc (.map #[] 0)).alloc (.cells #[.string ⟨#[]⟩,.slice none 0 0,.slice none 0 0,.int .i64 k0,.string t0,.int .i64 n0,.slice a0 N c0,.slice none 0 0,.map (some Ma)] 128)=uA at *;have Uk:=Z_ Zw;have HAM:=Z_ Uj;have XK:=Z_ hEA;have HSA:=Z_ hszA;clear Zw Uj hEA hszA;have hr:=(HR0.out.ext XK.out).cell;have hn:=(XJ.out.ext XK.out).cell;have hd:=Uk.out.cell;have hdf:=Uk.out.frozen;have hdl:=Uk.out.lt;go_upto_region 8 with (fail)
  obtain⟨Mn,Zy⟩:∃ Mn,uA.heap.size=Mn:=⟨_,rfl⟩;have hCD:=ak (S:=D) (aB.refl _ uA) 0 (.string t0);have hEB:=hCD.alloc (.map #[] 0);have hNM:=kD.made (uA.setCell ⟨D,0,none⟩ (.string t0));rw [show (uA.setCell ⟨D,0,none⟩ (.string t0)).heap.size=Mn by rw [←Zy];simp] at hNM;have hDB:aH ((uA.setCell ⟨D,0,none⟩ (.string t0)).alloc (.map #[] 0)) D #[.string t0,.slice none 0 0,.slice none 0 0,.int .i64 k0,.string t0,.int .i64 n0,.slice a0 N c0,.slice none 0 0,.map (some Ma)] 128:=by have:=(Uk.out.set 0 (.string t0)).alloc (.map #[] 0);exact this
  have hsA:=HSA.out;obtain⟨B,hB⟩:∃ B,Mn+1=B:=⟨_,rfl⟩
  have hDS:DS w0 ((uA.setCell ⟨D,0,none⟩ (.string t0)).alloc (.map #[] 0)) D Mn Ma B t0 (.int .i64 k0) (.string t0) (.int .i64 n0) (.slice a0 N c0) (.slice none 0 0) (.slice none 0 0) (.slice none 0 0) (.slice none 0 0) (.slice none 0 0) (.slice none 0 0) [] [] [] [] []:=
   ⟨XK.out.trans hEB (fun i hi e=>by omega),hDB,hNM,HAM.out.aO hEB (by omega),Three.nil _ _,by omega,by omega,by omega,by omega,by omega,by omega,by omega,by omega,by omega,by simp;omega⟩
  have zM:=Z_ hDS
  try rw [Zy]
  clear hr hn hd hdf hdl hCD hEB hNM hDB hDS Uk HAM XK HSA;generalize (uA.setCell ⟨D,0,none⟩ (.string t0)).alloc (.map #[] 0)=uB at *;have hn:=(XJ.out.ext zM.out.ext).cell;have XB:N≤9223372036854775807:=by have h1:=hl1;have h2:=hl2;unfold maxLen at h2;omega
  clear hl1 hl2 hmk;go_wp2_with fail
  go_loopw [6,35] (fun p i wr=>∃ (q pn:Nat) (rv rp ri:Value) (L A:List (ByteArray×Int)),q≤N∧p=.int .i64 (pn:Nat)∧i=.int .i64 (q:Nat)∧Hid (iw t0 (l.drop q) (eU A) (eU L) pn=LF)∧Hid (DS w0 wr D Mn Ma B t0 (.int .i64 k0) (.string t0) (.int .i64 n0) (.slice a0 N c0) rv rp ri rv rp ri (fH (l.take q)) (aY (l.take q)) (dR (l.take q)) L A)∧A.length≤5∧L.length≤20∧A.length=(dR (l.take q)).length∧Hid (pn+kJ (l.drop q)≤1000)) (fun _ i _=>N-(intOf i).toNat)
  case atStart=>exact⟨0,1,.slice none 0 0,.slice none 0 0,.slice none 0 0,[],[],Nat.zero_le _,rfl,rfl,Ry,zM,Nat.zero_le _,Nat.zero_le _,rfl,Z_ (by show 1+kJ l≤1000;omega)⟩
  clear zM Ry hn
  case round=>
   obtain⟨q,pn,rv,rp,ri,L,A,hq,rfl,rfl,HT,zM,hAl,hLl,IE,HZ⟩:=hrel;by_cases hlt:q<N
   ·have hqi:(q:Int)<(N:Int):=by omega
    have GX:decide ((q:Int)<(N:Int))=true:=by simpa using hqi
    have kN:q<l.length:=by rw [HN.out];exact hlt
    obtain⟨b,o,rfl,hb,u,hu,hus,hcl⟩:=HI0.out w0 (aB.refl _ _) q kN;rw [bK] at hb;have hbl:=Nat.lt_of_lt_of_le hb zM.out.ext.size;have hy:=HDK.out l[q] (List.getElem_mem kN);have hT:=HT.out;rw [List.drop_eq_getElem_cons kN] at hT;have hZ:=HZ.out;rw [AO kN] at hZ;have zN:=Z_ (FI kN);have RN:=Z_ (Dl kN);have HIT:=Z_ (FK kN);have HU:=Z_ hu;generalize l[q]=y at hy hT hZ HU hu zN RN HIT;obtain⟨k1,t1,n1,l1⟩:=y;rw [cG] at hu;obtain⟨a1,c1,rfl,h11,h12,h13,h14⟩:=hu;have q0:wr.cell? ⟨b,o+q*4,none⟩=some (.int .i64 k1):=(zM.out.ext.cell (p:=⟨b,o+q*4,none⟩) hb id).trans ((az _ w0).2 _ _ ((hcl 0 (by decide)).trans rfl));have q1:wr.cell? ⟨b,o+q*4+1,none⟩=some (.string t1):=(zM.out.ext.cell (p:=⟨b,o+q*4+1,none⟩) hb id).trans ((az _ w0).2 _ _ ((hcl 1 (by decide)).trans rfl))
    have q2:wr.cell? ⟨b,o+q*4+2,none⟩=some (.int .i64 n1):=(zM.out.ext.cell (p:=⟨b,o+q*4+2,none⟩) hb id).trans ((az _ w0).2 _ _ ((hcl 2 (by decide)).trans rfl));have q3:wr.cell? ⟨b,o+q*4+3,none⟩=some (.slice a1 l1.length c1):=(zM.out.ext.cell (p:=⟨b,o+q*4+3,none⟩) hb id).trans ((az _ w0).2 _ _ ((hcl 3 (by decide)).trans rfl));obtain⟨N1,hN1⟩:∃ N1,l1.length=N1:=⟨_,rfl⟩;rw [hN1] at q3 h11 HU;have KL:=Z_ hN1;have rB:=Z_ (zM.out.extend ((aB.refl (fun _=>False) wr).alloc (.cells #[.int .i64 k1,.string t1,.int .i64 n1,.slice a1 N1 c1] 24)));have HK:=Z_ (aH.made wr #[.int .i64 k1,.string t1,.int .i64 n1,.slice a1 N1 c1] 24);have Zz:=Z_ (fun (u:World) (hE:Ext w0 u)=>aJ (aC (M:=fun i=>decide (i=R) || decide (i=F)) hE fun i _ e=>e.elim) _ _ HU.out)
    obtain⟨K,hK⟩:∃ K,wr.heap.size=K:=⟨_,rfl⟩;have HOWN:=Z_ (fun i e=>(bh zM.out.rows.gi i e).2);have Ul:=Z_ (fun i e=>(bh zM.out.rows.gv i e).2);have Um:=Z_ (fun i e=>(bH zM.out.rows.gp i e).2);rw [hK] at HK HOWN Ul Um;have hBK:B≤K:=by have:=zM.out.hu;omega
    have Kt:=Z_ hZ;clear hcl hus h14 HU HT HZ hZ hN1;go_upto_region 12 with (fail)
    clear q0 q1 q2 q3 zM
    try rw [hK]
    generalize wr.alloc (.cells #[.int .i64 k1,.string t1,.int .i64 n1,.slice a1 N1 c1] 24)=u1 at *;have hk:=HK.out.cell;have hbig:K<u1.heap.size:=HK.out.lt;have hr:=(HR0.out.ext rB.out.ext).cell;have hd:=rB.out.d.cell;have hn:=(XJ.out.ext rB.out.ext).cell;have hrl:=(HR0.out.ext rB.out.ext).lt;by_cases hki:k1=2
    ·subst hki
     have hT2:=hT;rw [IU (by rfl)] at hT2
     have himp:IW (.mk 2 t1 n1 l1):=by
      rcases hy with h|h|h
      ·exact h
      ·exact absurd h.kd (by show ¬ (2:Int)=3;decide)
      ·exact absurd h.kd (by show ¬ (2:Int)=4;decide)
     have hs1:=Lu himp;rw [hs1] at hT2 Kt;have HS1:=Z_ hs1;have HT:=Z_ hT2;clear hT hT2 hy himp hs1;obtain⟨Bq,RP⟩:∃ Bq,(jW A t1).isSome=Bq:=⟨_,rfl⟩;have hlook:=fun n=>(rB.out.am.drewN n).look (s:=t1) (by unfold maxLen;omega)
     rw [RP] at hlook;have HBQ:=Z_ ((vH A t1).symm.trans RP);generalize (jW A t1).getD 0=ca at *;go_upto_region 13 with (fail)
     go_quiet (fail)
     have hnq:=(aB.refl (fun _=>False) u1).drewN nq;replace rB:=Z_ (rB.out.extend hnq);replace HK:=Z_ (HK.out.ext hnq);have ab9:=HK.out.lt;clear hlook hr hd hn hk hrl hbig hnq;generalize u1.drewN nq=u2 at *;have hr:=(HR0.out.ext rB.out.ext).cell;have hd:=rB.out.d.cell;have hn:=(XJ.out.ext rB.out.ext).cell;have hk:=HK.out.cell;cases Bq with
     | true=>
      have kS:=Z_ (show LF=(5,pn) from(by have h:=HT.out;rw [if_pos (show (eU A).contains (Nd.mk 2 t1 n1 l1).key=true from HBQ.out)] at h;exact h.symm));clear RP;go_wp2_with fail
      refine(eY 5 (pn:Nat) _).mono ?_
      rintro e w2 ⟨rfl,rfl⟩;have II:=HR0.out.ext rB.out.ext;have IJ:=pM.out.ext rB.out.ext;have Df:=HX0.out.ext rB.out.ext;go_wp2_with fail
      refine leaves_cons (f:=111) (args:=#[.pointer (some ⟨R,0,none⟩),.pointer (some ⟨F,0,none⟩)]) (by simp) (by simp [go_sem]) ?_
      refine(Rx.jl R F _ _ _ 5 (pn:Nat) _ II IJ (by omega)).mono ?_
      rintro e u' w'' ⟨rfl,rfl,Eg,Eh,FC⟩;exact⟨_,fM rfl _ _ rfl Eg Tryz.underlying122 rfl rfl Eh Tryz.underlying27 rfl (by kernel_rfl),pU Ei.out kS.out (by decide) Df FC hR oM⟩
     | false=>
      have hT2:=HT.out;rw [if_neg (by rw [show (eU A).contains (Nd.mk 2 t1 n1 l1).key=false from HBQ.out];exact Bool.false_ne_true)] at hT2;have HT:=Z_ hT2
      have hnone:jW A t1=none:=by cases hq:jW A t1 with
       | none=>rfl
       | some c=>rw [hq] at RP;cases RP
      clear hT2 RP;by_cases htt:t1=t0
      ·have h3:(t1.toList == t0.toList)=true:=by rw [htt];simp
       have NH:=Z_ htt;clear htt;have kS:=Z_ (show LF=(5,pn) from(by have h:=HT.out;rw [if_pos (show (Nd.mk 2 t1 n1 l1).tx=t0 from NH.out)] at h;exact h.symm));go_wp2_with fail
       refine(eY 5 (pn:Nat) _).mono ?_
       rintro e w2 ⟨rfl,rfl⟩;have II:=HR0.out.ext rB.out.ext;have IJ:=pM.out.ext rB.out.ext;have Df:=HX0.out.ext rB.out.ext;go_wp2_with fail
       refine leaves_cons (f:=111) (args:=#[.pointer (some ⟨R,0,none⟩),.pointer (some ⟨F,0,none⟩)]) (by simp) (by simp [go_sem]) ?_
       refine(Rx.jl R F _ _ _ 5 (pn:Nat) _ II IJ (by omega)).mono ?_
       rintro e u' w'' ⟨rfl,rfl,Eg,Eh,FC⟩;exact⟨_,fM rfl _ _ rfl Eg Tryz.underlying122 rfl rfl Eh Tryz.underlying27 rfl (by kernel_rfl),pU Ei.out kS.out (by decide) Df FC hR oM⟩
      ·have h3:(t1.toList == t0.toList)=false:=by rw [ByteArray.toList_eq,ByteArray.toList_eq];simpa using fun e=>htt (ByteArray.ext (Array.toList_inj.1 e))
       have hT2:=HT.out;rw [if_neg (show ¬ (Nd.mk 2 t1 n1 l1).tx=t0 from htt)] at hT2;have HT:=Z_ hT2;clear hT2 htt;go_wp2_with fail
       refine(dK 5 (pn:Nat) _).mono ?_
       rintro e w2 ⟨rfl,rfl⟩;obtain⟨ra,rc,hrow,-,-⟩:=dV rB.out.rows.gi;subst hrow;by_cases h5:5≤(dR (l.take q)).length
       ·have RQ:¬ ((dR (l.take q)).length:Int)<5:=by omega
        have Un:decide (((dR (l.take q)).length:Int)<5)=false:=by simpa using RQ
        have h5n:decide ((dR (l.take q)).length<5)=false:=by simpa using h5
        have kS:=Z_ (show LF=(1,pn) from(by have h:=HT.out;rw [if_pos (show 5≤(eU A).length by unfold eU;rw [List.length_map,IE];exact h5)] at h;exact h.symm));go_wp2_with fail
        refine(eY 1 (pn:Nat) _).mono ?_
        rintro e w2 ⟨rfl,rfl⟩;have II:=HR0.out.ext rB.out.ext;have IJ:=pM.out.ext rB.out.ext;have Df:=HX0.out.ext rB.out.ext;go_wp2_with fail
        refine leaves_cons (f:=111) (args:=#[.pointer (some ⟨R,0,none⟩),.pointer (some ⟨F,0,none⟩)]) (by simp) (by simp [go_sem]) ?_
        refine(Rx.jl R F _ _ _ 1 (pn:Nat) _ II IJ (by omega)).mono ?_
        rintro e u' w'' ⟨rfl,rfl,Eg,Eh,FC⟩;exact⟨_,fM rfl _ _ rfl Eg Tryz.underlying122 rfl rfl Eh Tryz.underlying27 rfl (by kernel_rfl),pU Ei.out kS.out (by decide) Df FC hR oM⟩
       ·have RQ:((dR (l.take q)).length:Int)<5:=by omega
        have Un:decide (((dR (l.take q)).length:Int)<5)=true:=by simpa using RQ
        have h5n:decide ((dR (l.take q)).length<5)=true:=by simp;omega
        have hT2:=HT.out;rw [if_neg (show ¬ 5≤(eU A).length by unfold eU;rw [List.length_map,IE];exact h5)] at hT2;have HT:=Z_ hT2;clear hT2;go_wp2_with fail
        refine(dK 1 (pn:Nat) _).mono ?_
        rintro e w2 ⟨rfl,rfl⟩;clear hr hd hn hk;go_upto_region 16 with (fail)
        have XL:=Z_ IE;have ZA:=Z_ h5;clear h3 RQ Un h5n h5 GX hqi IE hmf hsz0 Zy hsA hR hD hB;refine ah [7] (fun i v _=>v=([.pointer (some ⟨D,0,none⟩),.pointer (some ⟨D,0,none⟩),.pointer (some ⟨D,8,none⟩),.map (some Ma),.pointer (some ⟨K,1,none⟩),.string t1,.int .i64 (pn:Nat),undef]:List Value).getD i undef) (FG (fun A u=>DS w0 u D Mn Ma B t0 (.int .i64 k0) (.string t0) (.int .i64 n0) (.slice (some ⟨b,o,none⟩) N c0) rv rp (.slice ra (dR (l.take q)).length rc) rv rp (.slice ra (dR (l.take q)).length rc) (fH (l.take q)) (aY (l.take q)) (dR (l.take q)) L A∧aH u K #[.int .i64 2,.string t1,.int .i64 n1,.slice a1 N1 c1] 24) A (A ++ [(t1,(pn:Int))])) (fun _ _=>True) (frame:=?YJ) (fun x=>?Pn) bn.mixed (by kernel_rfl) (by kernel_rfl) (fun _ _ _ _ h _=>h) ?YK ?YL ?Po
        case Pn=>
         simp only [chain.aK,chain.fill,chain.bf,chain.aW,jJ,jK,jL,jM,jO,jP,jQ,jR,jS];exact rfl
        case YK=>exact⟨rB.out.extend (aB.refl _ _).drew,HK.out.ext (aB.refl _ _).drew⟩
        case YL=>
         iterate 8 (refine ai.cons (fun x vs u hF hm hb hd K' hK'=>?_) ?_;rotate_left)
         exact ai.nil
         ·obtain⟨A9,Ku,hK9⟩:=FG.any hF;have hr:=(HR0.out.ext Ku.ext).cell;clear Ku hK9;have HF:=Z_ hF;clear hd hm hb hF;go_simp;exact hK'.out _ _ _ (rfl) trivial ⟨rfl,HF.out⟩
         ·have y0:x 71=.pointer (some ⟨D,0,none⟩):=(D_ hd 0 :);have HF:=Z_ hF;clear hd hm hb hF;go_simp;exact hK'.out _ _ _ (by simp only [y0];rfl) trivial ⟨rfl,HF.out⟩
         ·have y0:x 72=.pointer (some ⟨D,0,none⟩):=(D_ hd 1 :);have HF:=Z_ hF;clear hd hm hb hF;go_simp;exact hK'.out _ _ _ (by simp only [y0];rfl) trivial ⟨rfl,HF.out⟩
         ·obtain⟨A9,Ku,hK9⟩:=FG.any hF;have hdc:u.cell? ⟨D,8,none⟩=some (.map (some Ma)):=(Ku.d.cell 8).trans rfl;clear Ku hK9;have y0:x 73=.pointer (some ⟨D,8,none⟩):=(D_ hd 2 :);have HF:=Z_ hF;clear hd hm hb hF;go_simp;exact hK'.out _ _ _ (by simp only [y0];rfl) trivial ⟨rfl,HF.out⟩
         ·have HF:=Z_ hF;clear hd hm hb hF;go_simp;exact hK'.out _ _ _ (rfl) trivial ⟨rfl,HF.out⟩
         ·obtain⟨A9,Ku,hK9⟩:=FG.any hF;have hk:=hK9.cell;clear Ku hK9;have y0:x 75=.pointer (some ⟨K,1,none⟩):=(D_ hd 4 :);have HF:=Z_ hF;clear hd hm hb hF;go_simp;exact hK'.out _ _ _ (by simp only [y0];rfl) trivial ⟨rfl,HF.out⟩
         ·have HF:=Z_ hF;clear hd hm hb hF;go_simp;exact hK'.out _ _ _ (rfl) trivial ⟨rfl,HF.out⟩
         ·obtain rfl:=kF hm;have y0:x 74=.map (some Ma):=(D_ hd 3 :);have y1:x 76=.string t1:=(D_ hd 5 :);have y2:x 77=.int .i64 (pn:Nat):=(D_ hd 6 :);have hpn:pn≤1000:=by have:=Kt.out;omega
          have kY:=(show _∧_ from hF);obtain⟨GY,GU⟩:=kY;obtain⟨w9,hput,hM2,hg2⟩:=GY.am.put (x:=t1) (v:=(pn:Nat)) hnone (by unfold maxLen;omega) (by unfold maxLen;omega) (by omega) (by omega);have ZB:=Z_ (GY.imp hg2 hM2);have Ub:=Z_ (GU.aO (iF hg2) (by have:=GY.NY;omega));clear hd hm hb hF hM2 hg2 GY GU;go_simp;exact hK'.out _ _ undef (by simp only [y0,y1,y2];rfl) trivial ⟨ZB.out,Ub.out⟩
        case Po=>
         intro x vs w9 hl hF hk9;obtain⟨v0,rfl⟩:=L1_ hl
         clear hk9 hl;obtain⟨GY,GU⟩:=(show _∧_ from hF);have rZ:=Z_ GY;have Ej:=Z_ GU;clear hF GY GU rB HK;go_upto_region 17 with (fail)
         refine ah [7,8,11] (fun i v _=>v=([.pointer (some ⟨D,0,none⟩),.pointer (some ⟨D,0,none⟩),.pointer (some ⟨D,0,none⟩),.pointer (some ⟨D,7,none⟩),.slice ra (dR (l.take q)).length rc,.pointer (some ⟨K,1,none⟩),.string t1,undef,undef,.pointer (some ⟨D,0,none⟩),.pointer (some ⟨D,7,none⟩),undef]:List Value).getD i undef) (dn.eu (fun u rN r lq=>DS w0 u D Mn Ma B t0 (.int .i64 k0) (.string t0) (.int .i64 n0) (.slice (some ⟨b,o,none⟩) N c0) rv rp rN rv rp r (fH (l.take q)) (aY (l.take q)) lq L (A ++ [(t1,(pn:Int))])∧aH u K #[.int .i64 2,.string t1,.int .i64 n1,.slice a1 N1 c1] 24) (fun _=>false) AP (B) 9 (.slice ra (dR (l.take q)).length rc) (dR (l.take q)) t1 (.string t1)) (fun _ _=>True) (frame:=?ae4) (fun x=>?ZC) bn.mixed (by kernel_rfl) (by kernel_rfl) (fun _ _ _ _ h _=>h) ?h0i ?sti ?ZE
         case ZC=>
          simp only [chain.aK,chain.fill,chain.bf,chain.aW,jJ,jK,jL,jM,jO,jP,jQ,jR,jS];exact rfl
         case h0i=>exact⟨⟨rZ.out.extend (aB.refl _ _).drew,Ej.out.ext (aB.refl _ _).drew⟩,rfl,h13⟩
         case sti=>
          iterate 12 (refine ai.cons (fun x vs u hF hm hb hd K' hK'=>?_) ?_;rotate_left)
          exact ai.nil
          ·obtain⟨_,_,_,I5⟩:=dn.eu.any hF;have hr:=(HR0.out.ext I5.1.ext).cell;clear I5;have HF:=Z_ hF;clear hd hm hb hF;go_simp;exact hK'.out _ _ _ (rfl) trivial ⟨rfl,HF.out⟩
          ·obtain⟨_,_,_,I5⟩:=dn.eu.any hF;have hr:=(HR0.out.ext I5.1.ext).cell;clear I5;have HF:=Z_ hF;clear hd hm hb hF;go_simp;exact hK'.out _ _ _ (rfl) trivial ⟨rfl,HF.out⟩
          ·have y0:x 79=.pointer (some ⟨D,0,none⟩):=(D_ hd 1 :);have HF:=Z_ hF;clear hd hm hb hF;go_simp;exact hK'.out _ _ _ (by simp only [y0];rfl) trivial ⟨rfl,HF.out⟩
          ·have y0:x 80=.pointer (some ⟨D,0,none⟩):=(D_ hd 2 :);have HF:=Z_ hF;clear hd hm hb hF;go_simp;exact hK'.out _ _ _ (by simp only [y0];rfl) trivial ⟨rfl,HF.out⟩
          ·have I5:=dn.eu.B hF (by have:=hb 1 _ (by decide) rfl (by kernel_rfl);omega);have hc:u.cell? ⟨D,7,none⟩=some (.slice ra (dR (l.take q)).length rc):=(I5.1.d.cell 7).trans rfl;clear I5;have y0:x 81=.pointer (some ⟨D,7,none⟩):=(D_ hd 3 :);have HF:=Z_ hF;clear hd hm hb hF;go_simp;exact hK'.out _ _ _ (by simp only [y0];rfl) trivial ⟨rfl,HF.out⟩
          ·have HF:=Z_ hF;clear hd hm hb hF;go_simp;exact hK'.out _ _ _ (rfl) trivial ⟨rfl,HF.out⟩
          ·have I5:=dn.eu.B hF (by have:=hb 0 _ (by decide) rfl (by kernel_rfl);omega);have hc:=I5.2.cell;clear I5;have y0:x 83=.pointer (some ⟨K,1,none⟩):=(D_ hd 5 :);have HF:=Z_ hF;clear hd hm hb hF;go_simp;exact hK'.out _ _ _ (by simp only [y0];rfl) trivial ⟨rfl,HF.out⟩
          ·obtain rfl:=kF hm;have y0:x 84=.string t1:=(D_ hd 6 :);have aP:=hF.1;have HG:=Z_ (dn.bH (mM aP.1.rows.gi rC (fun _=>false)));have HF:=Z_ hF;clear hd hm hb hF aP;go_simp;exact hK'.out _ _ _ (by simp only [y0];rfl) trivial (dn.fF dn.pV (fun u' hE=>⟨HF.out.1.1.extend hE,HF.out.1.2.ext hE⟩) (fun i e=>(HG.out i e).2) HF.out rfl)
          ·obtain⟨v0,rfl⟩:=lK hm
           have y0:x 82=.slice ra (dR (l.take q)).length rc:=(D_ hd 4 :);have y1:x 85=v0:=((D_ hd 7) 85 (by kernel_rfl) :);have hF2:=hF;obtain⟨aP,hxx,gg,rfl,hgb,hgr⟩:=hF2;obtain⟨us,hu1,ho,hu3⟩:=(mM aP.1.rows.gi rC (fun _=>false)).ex;obtain⟨jc,jd,hz0,hz1,hz2⟩:=bn.aX dn.I7;have hbz:B≤u.heap.size:=by exact aP.1.hu
           refine wp_append_lies _ _ _ 39 rfl (B) 9 jc (.string ⟨#[]⟩) 1 16 Tryz.underlying39 jd hz0 hz1 hz2 rfl (by decide) (.slice ra (dR (l.take q)).length rc) (dR (l.take q)).length (us.flatMap fun u=>u.cells.toList) y0 ho ⟨gg,0,none⟩ 1 1 [.string t1] y1 rfl ?_ (by intro z_ kW;simp only [List.mem_cons,List.not_mem_nil,or_false] at kW;rcases kW with rfl<;>rfl) (by decide) (by unfold maxLen;have:=ZA.out;omega) (by have:=ZA.out;omega) hbz u.heap.size rfl ?_
           ·intro j q hj;have e:(⟨gg,0,none⟩:Addr).add j=⟨gg,j,none⟩:=(by unfold Addr.add;split<;>simp_all);rw [e,hgb.cell];simpa [Value.cells] using hj
           ·intro g9 c9 w9 iQ iJ jU qF
            exact hK'.out _ _ _ rfl trivial (dn.eF dn.pV hF hu1 hu3 rfl (fun r sD hG hC ha=>⟨aP.1.turn hC (fun i e=>(bh aP.1.rows.gi i e).1) (aP.1.rows.Uo (yX hG rC) hC ha),aP.2.aO hC (fun e=>by have:=HOWN.out _ e;omega)⟩) iQ iJ jU)
          ·have y0:x 78=.pointer (some ⟨D,0,none⟩):=(D_ hd 0 :);have HF:=Z_ hF;clear hd hm hb hF;go_simp;exact hK'.out _ _ _ (by simp only [y0];rfl) trivial ⟨rfl,HF.out⟩
          ·have y0:x 87=.pointer (some ⟨D,0,none⟩):=(D_ hd 9 :);have HF:=Z_ hF;clear hd hm hb hF;go_simp;exact hK'.out _ _ _ (by simp only [y0];rfl) trivial ⟨rfl,HF.out⟩
          ·obtain⟨v0,v1,rfl⟩:=qX hm
           have y0:x 88=.pointer (some ⟨D,7,none⟩):=(D_ hd 10 :);have y1:x 86=v1:=((D_ hd 8) 86 (by kernel_rfl) :);have hF2:=hF;obtain⟨aP,gg,cc,rfl⟩:=hF2;have hc:=aP.1.d.cell 7;have hf:=aP.1.d.frozen 7;have hl:=aP.1.d.lt;simp at hc
           have HF:=Z_ hF;clear hd hm hb hF aP;go_simp;exact hK'.out _ _ undef (by simp only [y0,y1];rfl) trivial (dn.fG (z:=undef) HF.out (fun h=>⟨h.1.ZF,h.2.setOther (p:=⟨D,7,none⟩) (by have:=h.1.FN;show K≠D;omega) _⟩))
         case ZE=>
          intro x9 qj w9 hl hF hk9;obtain⟨v0,v1,v2,rfl⟩:=KR hl
          clear hk9 hl;obtain⟨GY,GU⟩:=(show _∧_ from hF);have N7:=Z_ GY;have hk:=GU.cell;have P8:=SS.vJ (.mk 2 t1 n1 l1) _ w9 _ (Zz.out _ GY.ext) (by rw [HS1.out];decide);rw [HS1.out] at P8;have Ur:=Z_ P8;clear hF GY GU P8;go_wp2_with fail
          refine Ur.out.mono ?_
          rintro e w5 ⟨rfl,qU⟩;have ZG:=Z_ (N7.out.extend qU);clear qU hk Ur N7;have hw1:IntKind.i64.wrap ((pn:Int)+1)=((pn+1:Nat):Int):=by have:=Kt.out;rw [wrap_small _ (by omega) (by omega)];omega
          have hw3:IntKind.i64.wrap ((pn:Int)+((1:Nat):Int))=((pn+1:Nat):Int):=hw1;go_wp2_with fail
          go_roundw
          case rel=>
           have hv:fH (l.take (q+1))=fH (l.take q):=by have h:=zN.out;rw [show isVar (Nd.mk 2 t1 n1 l1)=false from rfl] at h;simpa using h
           have hp:aY (l.take (q+1))=aY (l.take q):=by have h:=RN.out;rw [show jw (Nd.mk 2 t1 n1 l1)=false from rfl] at h;simpa using h
           have hi:dR (l.take (q+1))=dR (l.take q) ++ [t1]:=by have h:=HIT.out;rw [show xE (Nd.mk 2 t1 n1 l1)=true from rfl,if_pos rfl] at h;exact h
           have h5q:=ZA.out;have hai:=XL.out;exact⟨q+1,pn+1,rv,rp,_,L,A ++ [(t1,(pn:Int))],by omega,by first|rfl|go_num,by go_num,Z_ (by rw [FO];exact HT.out),by rw [hv,hp,hi];exact ZG,by simp;omega,hLl,by rw [hi];simp;omega,Z_ (by have:=Kt.out;omega)⟩
          case measure=>simp [intOf];omega
    ·have ZH:(k1 == 2)=false:=by simpa using hki
     have hT2:=hT;rw [FH (show (Nd.mk k1 t1 n1 l1).kd≠2 from hki)] at hT2
     have hvp:I8 (.mk k1 t1 n1 l1)∨vK (.mk k1 t1 n1 l1):=by
      rcases hy with h|h
      ·exact absurd h.kd hki
      ·exact h
     have hzz:fP (.mk k1 t1 n1 l1)=kJ l1+1:=by simp [fP,Nat.add_comm]
     have hpn:pn≤1000:=by have:=Kt.out;omega
     have hkl:(Nd.mk k1 t1 n1 l1).kids.length≤1000:=by have h1:=og l1;have:=Kt.out;show l1.length≤1000;omega
     have hvs:(fH (l.take q)).length≤1000:=by have h1:=AA l q;have h2:=og l;have:=HN.out;omega
     have hps:(aY (l.take q)).length≤1000:=by have h1:=xG l q;have h2:=og l;have:=HN.out;omega
     have hdc:=N8.AQ pn rB.out (Zz.out w0 (aB.refl _ _)) hvp hkl hpn hLl hvs hps;have Nv:=Z_ (IX (x:=.mk k1 t1 n1 l1) (L:=L) (p:=pn));obtain⟨FX,RR⟩:∃ FX,oZ L (.mk k1 t1 n1 l1) pn=FX:=⟨_,rfl⟩;rw [RR] at hT2 hdc Nv;have P9:=Z_ hdc;have HT:=Z_ hT2;have HVP:=Z_ hvp;have HZZ:=Z_ hzz;clear hT hT2 hy hvp hzz hkl hvs hps hdc RR;go_wp2_with fail
     refine P9.out.mono ?_
     rintro e w2 hpost;clear P9 hk hr hd hn hrl hbig;by_cases kY:FX.1=0
     ·obtain⟨rfl,RS,RU,Us,hC2⟩:=hpost.1 kY
      have rZ:=Z_ Us
      have Ej:=Z_ (HK.out.aO hC2 (fun e=>by
       have h1:=rB.out.FN;have h2:=rB.out.Ly
       rcases e with e|e|e|e
       ·omega
       ·omega
       ·have:=Ul.out _ e;omega
       ·have:=Um.out _ e;omega))
      have ae5:=Nv.out kY;have HTL:=Z_ (show iw t0 (l.drop (q+1)) (eU A) (eU L ++ [Nd.key (.mk k1 t1 n1 l1)]) (pn+fP (.mk k1 t1 n1 l1))=LF by have h:=HT.out;rw [if_pos kY] at h;exact h);clear hpost Us hC2 kY HT Nv rB HK;have hk:=Ej.out.cell;have hbig:=Ej.out.lt;have P8:=SS.vJ (.mk k1 t1 n1 l1) _ w2 _ (Zz.out _ rZ.out.ext) (by have:=Kt.out;omega);obtain⟨z,hz⟩:∃ z,fP (.mk k1 t1 n1 l1)=z:=⟨_,rfl⟩;rw [hz] at P8 Kt HTL;have Ur:=Z_ P8;clear hz P8;go_wp2_with fail
      refine Ur.out.mono ?_
      rintro e w5 ⟨rfl,qU⟩;have ZG:=Z_ (rZ.out.extend qU);clear qU hk Ur rZ;have hw1:IntKind.i64.wrap ((pn:Int)+(z:Nat))=((pn+z:Nat):Int):=by have:=Kt.out;rw [wrap_small _ (by omega) (by omega)];omega
      go_wp2_with fail
      go_roundw
      case rel=>
       have XM:xE (Nd.mk k1 t1 n1 l1)=false:=decide_eq_false hki;have hi:dR (l.take (q+1))=dR (l.take q):=by have h:=HIT.out;rw [XM] at h;simpa using h
       have XN:=ZG.out
       have ZI:(isVar (Nd.mk k1 t1 n1 l1)=true∧jw (Nd.mk k1 t1 n1 l1)=false)∨(isVar (Nd.mk k1 t1 n1 l1)=false∧jw (Nd.mk k1 t1 n1 l1)=true):=by
        rcases HVP.out with h|h
        ·have e:k1=3:=h.kd
         subst e;exact .inl ⟨rfl,rfl⟩
        ·have e:k1=4:=h.kd
         subst e;exact .inr ⟨rfl,rfl⟩
       have ZJ:DS w0 w5 D Mn Ma B t0 (.int .i64 k0) (.string t0) (.int .i64 n0) (.slice (some ⟨b,o,none⟩) N c0) RS RU ri RS RU ri (fH (l.take (q+1))) (aY (l.take (q+1))) (dR (l.take (q+1))) (L ++ [(t1,(pn:Int))]) A:=by
        rcases ZI with ⟨h1,h2⟩|⟨h1,h2⟩
        ·have hv:=zN.out;have hp:=RN.out
         rw [h1,if_pos rfl] at hv;rw [h2,if_neg Bool.false_ne_true,List.append_nil] at hp;rw [h1,if_pos rfl,if_pos rfl] at XN;rw [hv,hp,hi];exact XN
        ·have hv:=zN.out;have hp:=RN.out
         rw [h1,if_neg Bool.false_ne_true,List.append_nil] at hv;rw [h2,if_pos rfl] at hp;rw [h1,if_neg Bool.false_ne_true,if_neg Bool.false_ne_true] at XN;rw [hv,hp,hi];exact XN
       exact⟨q+1,pn+z,RS,RU,ri,L ++ [(t1,(pn:Int))],A,by omega,by first|rfl|go_num,by go_num,Z_ (by rw [show eU (L ++ [(t1,(pn:Int))])=eU L ++ [Nd.key (.mk k1 t1 n1 l1)] from IY L (.mk k1 t1 n1 l1) pn];exact HTL.out),Z_ ZJ,hAl,by simp;omega,by rw [hi];exact IE,Z_ (by have:=Kt.out;omega)⟩
      case measure=>simp [intOf];omega
     ·obtain⟨rfl,hE2⟩:=hpost.2 kY
      have nY:=Z_ hE2;have ZK:=Z_ kY;have HTN:=Z_ (show LF=(FX.1,FX.2) by have h:=HT.out;rw [if_neg kY] at h;exact h.symm);clear hpost hE2 kY HT rB HK;go_wp2_with fail
      have II:=HR0.out.ext nY.out;have IJ:=pM.out.ext nY.out;have Df:=HX0.out.ext nY.out;obtain⟨c9,p9⟩:=FX;have qy:c9≠0:=ZK.out;refine leaves_cons (f:=111) (args:=#[.pointer (some ⟨R,0,none⟩),.pointer (some ⟨F,0,none⟩)]) (by simp) (by simp [go_sem]) ?_
      refine(Rx.jl R F _ _ _ c9 (p9:Nat) _ II IJ (by omega)).mono ?_
      rintro e u' w'' ⟨rfl,rfl,Eg,Eh,FC⟩;exact⟨_,fM rfl _ _ rfl Eg Tryz.underlying122 rfl rfl Eh Tryz.underlying27 rfl (by kernel_rfl),pU Ei.out HTN.out qy Df FC hR oM⟩
   ·obtain rfl:q=N:=by omega
    have GX:decide ((q:Int)<(q:Int))=false:=by simp
    have hT2:=HT.out;have hDL:l.drop q=[]:=by rw [List.drop_eq_nil_iff];have:=HN.out;omega
    rw [hDL] at hT2;have Ut:LF=(0,0):=hT2.symm;have SK:=Z_ (show (AL false (Nd.mk k0 t0 n0 l),dR l,(0:Int),(0:Int))=Q by have h:=Ei.out;rw [Ut] at h;exact h);have hTK:l.take q=l:=by rw [List.take_of_length_le];have:=HN.out;omega
    have ZL:=zM.out;rw [hTK] at ZL;have Uu:=Z_ ZL;have gI:=Z_ (show (Nd.mk k0 t0 n0 l).kids.length≤1000 by have h1:=og l;show l.length≤1000;omega);have H3:=Z_ (And.intro (HR0.out.ext zM.out.ext) (pM.out.ext zM.out.ext));clear hT2 hDL Ut hTK ZL;go_upto_region 21 with (fail)
    refine ah [2,3] (fun i v _=>v=([.pointer (some ⟨D,0,none⟩),.agg #[.int .i64 0,.int .i64 0],undef,undef]:List Value).getD i undef) (fun _ u=>aH u R #[.pointer (some ⟨D,0,none⟩)] 122∧aH u F #[.int .i64 0,.int .i64 0] 27∧aB (fun i=>i=R∨i=F) wr u) (fun _ _=>True) (frame:=?La) (fun x=>?yT) bn.mixed (by kernel_rfl) (by kernel_rfl) (fun _ _ _ _ h _=>h) ?Lc ?Ld ?fine
    case yT=>
     simp only [chain.aK,chain.fill,chain.bf,chain.aW,jJ,jK,jL,jM,jO,jP,jQ,jR,jS];exact rfl
    case Lc=>exact⟨H3.out.1.drew,H3.out.2.drew,(aB.refl _ _).drew⟩
    case Ld=>
     iterate 4 (refine ai.cons (fun x vs u hF hm hb hd K' hK'=>?_) ?_;rotate_left)
     exact ai.nil
     ·have hc:=hF.1.cell;have HF:=Z_ hF;clear hd hm hb hF;go_simp;exact hK'.out _ _ _ (rfl) trivial ⟨rfl,HF.out⟩
     ·have hc:=hF.2.1.cell;have HF:=Z_ hF;clear hd hm hb hF;go_simp;exact hK'.out _ _ _ (rfl) trivial ⟨rfl,HF.out⟩
     ·have y0:x 99=.pointer (some ⟨D,0,none⟩):=(D_ hd 0 :);have hc:=hF.1.cell;have hf:=hF.1.frozen;have hl:=hF.1.lt;have HF:=Z_ hF;clear hd hm hb hF;go_simp;exact hK'.out _ _ undef (by simp only [y0];rfl) trivial ⟨HF.out.1.set 0 _,HF.out.2.1.setOther (p:=⟨R,0,none⟩) (by show F≠R;omega) _,HF.out.2.2.setCell (p:=⟨R,0,none⟩) (fun _=>.inl rfl) _⟩
     ·have y0:x 100=.agg #[.int .i64 0,.int .i64 0]:=(D_ hd 1 :);have hc:=hF.2.1.cell;have hf:=hF.2.1.frozen;have hl:=hF.2.1.lt;have HF:=Z_ hF;clear hd hm hb hF;go_simp;exact hK'.out _ _ undef (by simp only [y0];rfl) trivial ⟨(HF.out.1.setOther (p:=⟨F,0,none⟩) (by show R≠F;omega) _).setOther (p:=⟨F,1,none⟩) (by show R≠F;omega) _,(HF.out.2.1.set 0 _).set 1 _,(HF.out.2.2.setCell (p:=⟨F,0,none⟩) (fun _=>.inr rfl) _).setCell (p:=⟨F,1,none⟩) (fun _=>.inr rfl) _⟩
    case fine=>
     intro x9 qj w9 hl hF hk9;have mN:=Z_ hF;clear hk9 hl hF;go_wp2_with fail
     refine leaves_cons (f:=111) (args:=#[.pointer (some ⟨R,0,none⟩),.pointer (some ⟨F,0,none⟩)]) (by simp) (by simp [go_sem]) ?_
     refine(Rx.sH R F _).mono ?_
     rintro e u' w'' ⟨rfl,rfl,rfl⟩;exact⟨_,fM rfl _ _ rfl mN.out.1 Tryz.underlying122 rfl rfl mN.out.2.1 Tryz.underlying27 rfl (by kernel_rfl),by rw [←SK.out];exact FM Uu.out rfl mN.out.2.2 oM (by omega) HX0.out hR (by have:=gI.out;exact this) J8.out (by rw [hR];exact PO.out _ ((Uu.out.ext.weak fun _ _ e=>e.elim).then mN.out.2.2))⟩
 ·have oK:=Z_ (show (gY,[],c,a)=Q by have h:=HQ.out;rw [if_neg hc0] at h;exact h)
  have hcn:(c != 0)=true:=by simpa using hc0
  clear HQ;go_upto_region 3 with (fail)
  have FP:aH u1 R #[.pointer none] 122:=Dh.out;have hF3:aH u1 F #[.int .i64 c,.int .i64 a] 27:=IL.out;have AU:Ext w u1:=Zr.out;have H3:=Z_ (And.intro FP (And.intro hF3 AU));clear FP hF3 AU;refine ah [1,2] (fun i v _=>v=([.agg #[.int .i64 c,.int .i64 a],undef,undef]:List Value).getD i undef) (fun _ u=>aH u R #[.pointer none] 122∧aH u F #[.int .i64 c,.int .i64 a] 27∧Ext w u) (fun _ _=>True) (frame:=?KX) (fun x=>?uh) bn.mixed (by kernel_rfl) (by kernel_rfl) (fun _ _ _ _ h _=>h) ?h0c ?KY ?yN
  case uh=>
   simp only [chain.aK,chain.fill,chain.bf,chain.aW,jJ,jK,jL,jM,jO,jP,jQ,jR,jS];exact rfl
  case h0c=>exact⟨H3.out.1.drew,H3.out.2.1.drew,H3.out.2.2.drew⟩
  case KY=>
   iterate 3 (refine ai.cons (fun x vs u hF hm hb hd K' hK'=>?_) ?_;rotate_left)
   exact ai.nil
   ·have hc:=hF.2.1.cell;have HF:=Z_ hF;clear hd hm hb hF;go_simp;exact hK'.out _ _ _ (rfl) trivial ⟨rfl,HF.out⟩
   ·have hc:=hF.1.cell;have hf:=hF.1.frozen;have hl:=hF.1.lt;have HF:=Z_ hF;clear hd hm hb hF;go_simp;exact hK'.out _ _ undef rfl trivial ⟨HF.out.1.set 0 _,HF.out.2.1.setOther (p:=⟨R,0,none⟩) (by show F≠R;omega) _,HF.out.2.2.bI (p:=⟨R,0,none⟩) (by show w.heap.size≤R;omega) _⟩
   ·have y0:x 19=.agg #[.int .i64 c,.int .i64 a]:=(D_ hd 0 :);have hc:=hF.2.1.cell;have hf:=hF.2.1.frozen;have hl:=hF.2.1.lt;have HF:=Z_ hF;clear hd hm hb hF;go_simp;exact hK'.out _ _ undef (by simp only [y0];rfl) trivial ⟨(HF.out.1.setOther (p:=⟨F,0,none⟩) (by show R≠F;omega) _).setOther (p:=⟨F,1,none⟩) (by show R≠F;omega) _,(HF.out.2.1.set 0 _).set 1 _,(HF.out.2.2.bI (p:=⟨F,0,none⟩) (by show w.heap.size≤F;omega) _).bI (p:=⟨F,1,none⟩) (by show w.heap.size≤F;omega) _⟩
  case yN=>
   intro x9 qj w9 hl hF hk9;have mN:=Z_ hF;clear hk9 hl hF;go_wp2_with fail
   exact⟨_,fM rfl _ _ rfl mN.out.1 Tryz.underlying122 rfl rfl mN.out.2.1 Tryz.underlying27 rfl (by kernel_rfl),mN.out.2.2,_,by rw [←oK.out],fun h=>absurd (by rw [←oK.out] at h;exact h) hc0⟩
end PY
end Go.Proofs.YtpcihajmcejliacGreatDoor
namespace Go.Proofs.YtpcihajmcejliacGreatDoor
open Go.RowKit
namespace face
theorem dD (n:Int) (w:World):Calls Tryz.prog 57 #[.int .i64 n] w fun e w'=>e=.returned (.bool (oL n))∧w'=w:=by
 go_enter Tryz.func57,Tryz.ntmps57
 go_wp2
 all_goals go_ret
 all_goals go_light
 all_goals refine⟨bY ?_,rfl⟩
 all_goals simp_all [oL]
end face
end Go.Proofs.YtpcihajmcejliacGreatDoor
namespace Go.Proofs.YtpcihajmcejliacGreatDoor
open Go.RowKit
instance:DecidableEq fB:=fun ⟨a,b,c,d⟩ ⟨a',b',c',d'⟩=>decidable_of_iff (a=a'∧b=b'∧c=c'∧d=d') (by simp)
instance:DecidableEq aI:=fun ⟨a,b,c,d,e,f⟩ ⟨a',b',c',d',e',f'⟩=>decidable_of_iff (a=a'∧b=b'∧c=c'∧d=d'∧e=e'∧f=f') (by simp)
instance:DecidableEq aN:=fun ⟨a,b,c⟩ ⟨a',b',c'⟩=>decidable_of_iff (a=a'∧b=b'∧c=c') (by simp)
namespace face
end face
end Go.Proofs.YtpcihajmcejliacGreatDoor
