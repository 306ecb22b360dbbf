/- The walk of the checker's stat. -/
import Derived.Test.YtpcihajmcejliacGreatDoorChkKm
namespace Go.Proofs.YtpcihajmcejliacGreatDoor
open Go.RowKit
namespace chk
open bn dn
def uj (z:Value) (pre:World→Prop) (sb:Value→List Loc→Array Value→World→Value→Value→List Tr→Prop) (X:Nat) (row:Value) (ks:List Tr) (T:Rz (Tr×List Loc)):List Value→World→Prop
 | [],u=>pre u
 | v::r,u=>v=z∧oJ pre sb X row ks T r u
theorem uj.any {z:Value} {pre:World→Prop} {sb:Value→List Loc→Array Value→World→Value→Value→List Tr→Prop} {X:Nat} {row:Value} {ks:List Tr} {T:Rz (Tr×List Loc)} {vs:List Value} {u:World} {Q:Prop} (h:uj z pre sb X row ks T vs u) (h1:pre u→Q) (h2:∀ vl L pc rN r lq,sb vl L pc u rN r lq→Q):Q:=by
 match vs,h with
 | [],h=>exact h1 h
 | _::_,h=>exact oJ.any h.2 h1 h2
theorem uj.low {z:Value} {pre:World→Prop} {sb:Value→List Loc→Array Value→World→Value→Value→List Tr→Prop} {X:Nat} {row:Value} {ks:List Tr} {T:Rz (Tr×List Loc)} {vs:List Value} {u:World} {Q:Prop} (h:uj z pre sb X row ks T vs u) (hl:vs.length≤3) (h1:pre u→Q) (h2:∀ vl L pc,sb vl L pc u row row ks→Q):Q:=by
 match vs,hl,h with
 | [],_,h=>exact h1 h
 | _::_,hl,h=>exact oJ.low h.2 (by simpa using hl) h1 h2
theorem uj.pre {z:Value} {pre:World→Prop} {sb:Value→List Loc→Array Value→World→Value→Value→List Tr→Prop} {X:Nat} {row:Value} {ks:List Tr} {T:Rz (Tr×List Loc)} {vs:List Value} {u:World} (h:uj z pre sb X row ks T vs u) (hl:vs.length≤1):pre u:=by
 match vs,hl,h with
 | [],_,h=>exact h
 | [_],_,h=>exact h.2
def K_ (ks:List Tr):Option Int:=ks.head?.map Tr.lab
theorem Pq (ks:List Tr) (y:Tr):K_ (ks ++ [y])=some ((K_ ks).getD y.lab):=by
 cases ks<;>rfl
def uk (E:dH) (pr:aI) (ctx:Int) (alone:Bool) (L:List Loc) (deep:Int) (l:List Nd) (p:Nat) (ks:List Tr):Rz (List Tr):=(kz E pr ctx alone L deep l (K_ ks) p).bind fun ys=>.ok (ks++ys)
theorem EZ {E:dH} {pr:aI} {ctx:Int} {alone:Bool} {L:List Loc} {deep:Int} {x:Nd} {r:List Nd} {p:Nat} {ks:List Tr}:uk E pr ctx alone L deep (x::r) p ks=match (if x.kd=6 then yE E pr (iM ctx ((K_ ks).getD 0)) false L (deep+1) x p else wY E L ctx alone x p) with
 | .bad c q=>.bad c q
 | .ok y=>uk E pr ctx alone L deep r (p+fP x) (ks ++ [y]):=by
 unfold uk;rw [kz];cases (if x.kd=6 then yE E pr (iM ctx ((K_ ks).getD 0)) false L (deep+1) x p else wY E L ctx alone x p) with
 | bad c q=>rfl
 | ok y=>
  simp only [Rz.bind];rw [Pq];cases kz E pr ctx alone L deep r (some ((K_ ks).getD y.lab)) (p+fP x) with
  | bad c q=>rfl
  | ok ys=>simp
theorem E5 {k:Int} {t:ByteArray} {m:Int} {l:List Nd} (h:Form k t m l) (hk:sG k):(∀ y∈l,y.kd=6∨lN y.kd)∧(∀ (h:0<l.length),l[0].kd≠6)∧0<l.length∧(k=8→l.length=2):=by
 unfold sG at hk;have pe:∀ {y:Nd},Rt y.kd→lN y.kd:=fun h=>Pv.NG h
 have ne:∀ {y:Nd},lN y.kd→y.kd≠6:=fun h=>by unfold lN at h;omega
 have l1:∀ {y:Nd},lN y.kd→∀ z∈[y],z.kd=6∨lN z.kd:=fun h z hz=>by rw [List.mem_singleton] at hz;subst hz;exact .inr h
 cases h
 all_goals first
  | (exfalso;omega)
  | skip
 case loc x hx ht h0 h1=>exact⟨l1 hx,fun _=>ne hx,by simp,fun h=>by omega⟩
 case set p x hp hx=>exact⟨fun z hz=>by simp only [List.mem_cons,List.not_mem_nil,or_false] at hz;rcases hz with rfl|rfl;exact .inr (pe hp);exact .inr hx,fun _=>ne (pe hp),by simp,fun _=>rfl⟩
 case do_ c hc=>exact⟨l1 (by rw [hc];unfold lN;omega),fun _=>by show c.kd≠6;rw [hc];decide,by simp,fun h=>by omega⟩
 case if2 x b hx hb=>exact⟨fun z hz=>by simp only [List.mem_cons,List.not_mem_nil,or_false] at hz;rcases hz with rfl|rfl;exact .inr hx;exact .inl hb,fun _=>ne hx,by simp,fun h=>by omega⟩
 case if3 x b c hx hb hc=>exact⟨fun z hz=>by simp only [List.mem_cons,List.not_mem_nil,or_false] at hz;rcases hz with rfl|rfl|rfl;exact .inr hx;exact .inl hb;exact .inl hc,fun _=>ne hx,by simp,fun h=>by omega⟩
 case Ii x b hx hb=>exact⟨fun z hz=>by simp only [List.mem_cons,List.not_mem_nil,or_false] at hz;rcases hz with rfl|rfl;exact .inr hx;exact .inl hb,fun _=>ne hx,by simp,fun h=>by omega⟩
 case out x hx h0 h1=>exact⟨l1 hx,fun _=>ne hx,by simp,fun h=>by omega⟩
 case inp x hx h0 h1=>exact⟨l1 (pe hx),fun _=>ne (pe hx),by simp,fun h=>by omega⟩
 case ret x hx=>exact⟨l1 hx,fun _=>ne hx,by simp,fun h=>by omega⟩
theorem Ij {X Kb S i:Nat} {row vl:Value} (hr:∀ i,row.ownBlock=some i→i<Kb) (hv:∀ i,vl.ownBlock=some i→i<Kb) (hx:X<Kb) (hs:Kb<S) (hm:below S i=false):(bM (X+1) row i || dn.ownB vl i)=false:=by
 simp only [below,bM,dn.ownB,Bool.or_eq_false_iff,decide_eq_false_iff_not] at hm ⊢;exact⟨⟨by omega,fun e=>by have:=hr i e;omega⟩,fun e=>by have:=hv i e;omega⟩
theorem E8 {w:World} {X:Nat→Bool} {B:Nat} {row:Value} {ks:List Tr} (h:je X 1 219 zH B w row ks):∃ a c,row=.slice a ks.length c∧bW 1 zS w a ks:=by
 obtain⟨a,c,e,-,-,h3⟩:=sF h b_ qZ;exact⟨a,c,e,h3.keeps (az _ _) (jT (az _ _))⟩
theorem E_ {w:World} {X:Nat→Bool} {B:Nat} {row:Value} {ks:List Tr} (h:je X 1 219 zH B w row ks) (hp:0<ks.length):∃ rb ro g0 c,row=.slice (some ⟨rb,ro,none⟩) ks.length c∧rb<w.heap.size∧g0<w.heap.size∧w.cell? ⟨rb,ro,none⟩=some (.pointer (some ⟨g0,0,none⟩))∧w.cell? ⟨g0,14,none⟩=some (.int .i64 ((K_ ks).getD 0)):=by
 obtain⟨a,c,e,h3⟩:=E8 h;obtain⟨rb,ro,rfl,hb,u,hu,ht⟩:=h3 0 hp;obtain⟨g,a2,c2,p0,p1,p2,p3,p4,p5,rfl,hg,hc,-⟩:=mZ ht;refine⟨rb,ro,g,c,e,hb,hg,by simpa using hu,(hc 14 (by decide)).trans ?_⟩
 cases ks with
 | nil=>cases hp
 | cons y r=>rfl
set_option maxRecDepth 100000 in
set_option maxHeartbeats 32000000 in
theorem uV {W:World} {C Mo D K P B:Nat} {E:dH} {cH dB:Value} {dc:Array Value} {pr:aI} {H:Nat→Bool} (hmv:dw W) (x:Nd) (his:jk x) (hks:sG x.kd) (SN:∀ y∈x.kids,y.kd=6→uP W C Mo D K P B E cH dB dc pr H y):DZ W C Mo D K P B E cH dB dc pr H x:=by
 intro v last ctx u p vl L deep pc hCS hpc hnd hsz hL hd0 hd1;obtain⟨k,t,m,l⟩:=x;have hkids:=his.kids;obtain⟨hfk,hf0,hpos,hf8⟩:=E5 his.form hks;have HFK:=Z_ hfk;have pM:=Z_ hf0;have Xu:=Z_ hf8;have HIS:=Z_ (show ∀ y∈l,jk y from hkids);have ab8:=Z_ his.form;rw [cG] at hnd;obtain⟨a,cc,rfl,hl1,hl2,hl3,hl4⟩:=hnd;have HTX:=Z_ hl3;obtain⟨T,hT⟩:∃ T,D5 E pr ctx last L deep (.mk k t m l) p=T:=⟨_,rfl⟩;rw [hT];rw [D5] at hT;have HIH:=Z_ (show ∀ y∈l,y.kd=6→uP W C Mo D K P B E cH dB dc pr H y from SN);obtain⟨N,hN⟩:∃ N,l.length=N:=⟨_,rfl⟩;rw [hN] at hl1 ⊢;have HN:=Z_ hN;obtain⟨pe,hpe⟩:∃ pe,p+fP (.mk k t m l)=pe:=⟨_,rfl⟩;have He:deep+(kJ l:Int)+1≤2000:=by simp only [fP] at hd1;omega
 rw [hpe] at hsz ⊢;have zY:p+1+kJ l=pe:=by rw [←hpe];simp only [fP];omega
 have SQ:=Z_ zY;have HI:=Z_ (fun (u:World) (hE:Ext W u)=>hl4.keeps (aC hE fun i _ e=>e.elim) fun b o y=>fL (aC hE fun i _ e=>e.elim) b o y);obtain⟨ba,hba⟩:∃ ba,(k == 9)=ba:=⟨_,rfl⟩;have TC:decide (k=9)=ba:=by rw [←hba];by_cases e:k=9<;>simp [e]
 rw [TC] at hT;have HBA:=Z_ hba;obtain⟨TR,Xv⟩:∃ TR,kz E pr ctx ba L deep l none (p+1)=TR:=⟨_,rfl⟩;rw [Xv] at hT;have NH:=Z_ (show (TR.bind fun ks=>t_ pr L deep ctx last k t m ks p)=T from hT);have HST:=Z_ Xv;have HT:=Z_ (show uk E pr ctx ba L deep l (p+1) []=TR by rw [←Xv];unfold uk;show (kz E pr ctx ba L deep l none (p+1)).bind _=_;cases kz E pr ctx ba L deep l none (p+1)<;>rfl);have Hf:=Z_ (fun i e=>(bh hCS.loc i e).2);have Q4:=Z_ hL;have EL:=Z_ hCS.hu;have uS:=Z_ (And.intro hd0 He);have tC:=Z_ hmv;have Ya:=Z_ (show sG k from hks);have hE0:=(aB.refl (fun _=>False) u).alloc (.cells #[.int .i64 k,.string t,.int .i64 m,.slice a N cc] 24);have HC:=Z_ (hCS.extend hE0);have HB:=Z_ (aH.made u #[.int .i64 k,.string t,.int .i64 m,.slice a N cc] 24)
 have HE:=Z_ (hE0.weak (S':=LS C P vl) fun _ _ e=>e.elim);have SR:=Z_ hpc;obtain⟨Nb,hNb⟩:∃ Nb,u.heap.size=Nb:=⟨_,rfl⟩;have yG:=Z_ hNb;rw [hNb] at HB Hf EL;have hNl:N≤1000:=by have h1:=nX l;omega
 have TD:=Z_ (show 0<N by rw [←hN];exact hpos);have hp:p≤1000:=by omega
 obtain⟨n,hn⟩:∃ n,L.length=n:=⟨_,rfl⟩;have xx:=Z_ hn;have Yk:n≤20:=by omega
 clear hE0 hCS hl4 hT Xv SN hN hpe zY hpc hL hd0 hd1 He hn hkids hfk hf0 hpos hf8 his hks hmv hba TC;go_enter Tryz.func235,Tryz.ntmps235
 go_upto_region 1 with (fail)
 try rw [hNb]
 generalize u.alloc (.cells #[.int .i64 k,.string t,.int .i64 m,.slice a N cc] 24)=u1 at *;go_wp2_with fail
 refine(next_any HC.out.c (by omega) (by omega)).mono ?_
 rintro e w2 ⟨rfl,hC2,hB2⟩;have HC2:=Z_ (HC.out.kV hC2 hB2);have HB2:=Z_ (HB.out.aO hC2 (by have:=HC.out.cB;have:=EL.out;omega));have nY:=Z_ (HE.out.then (hC2.weak fun i _ e=>.inl e));clear hC2 hB2 HC HB HE;have hbc:=HB2.out.cell;obtain⟨la,lc,hvl,-,-⟩:=dV HC2.out.loc;rw [xx.out] at hvl;subst hvl;go_upto_region 3 with (fail)
 have HX:=Z_ (show aH (w2.alloc (.cells #[.int .i64 k,.int .i64 m,.slice none 0 0,.int .i64 0,.string ⟨#[]⟩,.string ⟨#[]⟩,.int .i64 0,.int .i64 0,.string ⟨#[]⟩,.bool false,.slice none 0 0,.int .i64 0,.bool false,.int .i64 0,.int .i64 0,.int .i64 ctx] 345)) w2.heap.size #[.int .i64 k,.int .i64 m,.slice none 0 0,.int .i64 0,.string ⟨#[]⟩,.string ⟨#[]⟩,.int .i64 0,.int .i64 0,.string ⟨#[]⟩,.bool false,.slice none 0 0,.int .i64 0,.bool false,.int .i64 0,.int .i64 0,.int .i64 ctx] 345 from aH.made w2 _ _);have HB3:=Z_ (HB2.out.alloc (.cells #[.int .i64 k,.int .i64 m,.slice none 0 0,.int .i64 0,.string ⟨#[]⟩,.string ⟨#[]⟩,.int .i64 0,.int .i64 0,.string ⟨#[]⟩,.bool false,.slice none 0 0,.int .i64 0,.bool false,.int .i64 0,.int .i64 0,.int .i64 ctx] 345));have wV:=Z_ (HC2.out.extend ((aB.refl _ w2).alloc (.cells #[.int .i64 k,.int .i64 m,.slice none 0 0,.int .i64 0,.string ⟨#[]⟩,.string ⟨#[]⟩,.int .i64 0,.int .i64 0,.string ⟨#[]⟩,.bool false,.slice none 0 0,.int .i64 0,.bool false,.int .i64 0,.int .i64 0,.int .i64 ctx] 345)))
 have wR:=Z_ (nY.out.alloc (.cells #[.int .i64 k,.int .i64 m,.slice none 0 0,.int .i64 0,.string ⟨#[]⟩,.string ⟨#[]⟩,.int .i64 0,.int .i64 0,.string ⟨#[]⟩,.bool false,.slice none 0 0,.int .i64 0,.bool false,.int .i64 0,.int .i64 0,.int .i64 ctx] 345));obtain⟨X,hX⟩:∃ X,w2.heap.size=X:=⟨_,rfl⟩;rw [hX] at HX;have wS:Nb<X:=by have:=HB2.out.lt;omega
 try rw [hX]
 clear hbc hX HC2 HB2 nY;generalize w2.alloc (.cells #[.int .i64 k,.int .i64 m,.slice none 0 0,.int .i64 0,.string ⟨#[]⟩,.string ⟨#[]⟩,.int .i64 0,.int .i64 0,.string ⟨#[]⟩,.bool false,.slice none 0 0,.int .i64 0,.bool false,.int .i64 0,.int .i64 0,.int .i64 ctx] 345)=u3 at *;have OJ:=Z_ (show SB W u u3 C Mo D K P B Nb X E (.slice la n lc) (.slice la n lc) L deep ((p+1):Nat) cH dB dc pc pr #[.int .i64 k,.string t,.int .i64 m,.slice a N cc] (fun rv=>jh k m rv gG (.string ⟨#[]⟩) (.bool false) (.slice none 0 0) (.int .i64 0) (.bool false) (.int .i64 0) 0 ctx) (.slice none 0 0) (.slice none 0 0) [] from⟨wV.out,SR.out,HB3.out,HX.out,su _ _ _ _ _ _,wR.out,fun i e=>.inl ⟨e,Hf.out i e⟩,fun i e=>(by cases e),by have:=yG.out;omega,EL.out,wS⟩);clear wV SR HB3 HX wR;have hbc:=OJ.out.nb.cell;go_wp2_with fail
 clear hbc;go_loopw [30] (fun i wr=>∃ (j q:Nat) (row CW:Value) (ks:List Tr) (D6:Array Value),j≤N∧i=.int .i64 (j:Nat)∧Hid (ks.length=j)∧Hid (q+kJ (l.drop j)=pe)∧Hid (uk E pr ctx ba L deep (l.drop j) q ks=TR)∧Hid (SB W u wr C Mo D K P B Nb X E (.slice la n lc) CW L deep (q:Nat) cH dB dc D6 pr #[.int .i64 k,.string t,.int .i64 m,.slice a N cc] (fun rv=>jh k m rv gG (.string ⟨#[]⟩) (.bool false) (.slice none 0 0) (.int .i64 0) (.bool false) (.int .i64 0) 0 ctx) row row ks)) (fun i _=>N-(intOf i).toNat)
 case atStart=>exact⟨0,p+1,.slice none 0 0,.slice la n lc,[],_,Nat.zero_le _,rfl,Z_ rfl,Z_ (by have:=SQ.out;rw [List.drop_zero];exact this),by rw [List.drop_zero];exact HT,OJ⟩
 clear OJ HT
 case round=>
  obtain⟨j,q,row,CW,ks,D6,hj,rfl,qx,HQ,HT,HS⟩:=hrel;by_cases hlt:j<N
  ·have hji:(j:Int)<(N:Int):=by omega
   have hjd:decide ((j:Int)<(N:Int))=true:=by simpa using hji
   have hjl:j<l.length:=by rw [HN.out];exact hlt
   obtain⟨b,o,rfl,hb,uv,hu,hus,hcl⟩:=HI.out W (aB.refl _ _) j hjl;rw [bK] at hb;have hE:=HS.out.cs.ext;have hbl:=Nat.lt_of_lt_of_le hb hE.size;have KD:=Z_ (HIH.out l[j] (List.getElem_mem hjl));have HFY:=Z_ (HFK.out l[j] (List.getElem_mem hjl));have TE:=Z_ (HIS.out l[j] (List.getElem_mem hjl))
   have HJ0:=Z_ (show l[j].kd=6→0<j from fun e=>by
    rcases Nat.eq_zero_or_pos j with h0|h0
    ·subst h0;exact absurd e (pM.out hjl)
    ·exact h0)
   have hT:=HT.out;rw [List.drop_eq_getElem_cons hjl,EZ] at hT;have hQ:=HQ.out;rw [List.drop_eq_getElem_cons hjl] at hQ;simp only [kJ] at hQ;have KE:=Z_ (show fP l[j]≤kJ l by have h1:=SS.CX l j;rw [List.drop_eq_getElem_cons hjl] at h1;simp only [kJ] at h1;omega);have O_:=Z_ (show (l[j]).kd=(l[j]).kd from rfl);generalize l[j]=y at hu hT hQ KD KE HFY TE HJ0 O_;have HU:=Z_ hu;obtain⟨k1,t1,m1,a1,N1,c1,rfl⟩:=bU hu
   have hyk:y.kd=k1:=by
    obtain⟨k9,t9,m9,l9⟩:=y;rw [cG] at hu;obtain⟨_,_,e9,-⟩:=hu;injection e9 with e9
    injection e9 with e9
    injection e9 with e9 _
    injection e9 with _ e9
    exact e9.symm
   rw [hyk] at hT;have YN:=Z_ hyk;have q0:wr.cell? ⟨b,o+j*4,none⟩=some (.int .i64 k1):=(hE.cell (p:=⟨b,o+j*4,none⟩) hb id).trans ((az _ W).2 _ _ ((hcl 0 (by decide)).trans rfl));have q1:wr.cell? ⟨b,o+j*4+1,none⟩=some (.string t1):=(hE.cell (p:=⟨b,o+j*4+1,none⟩) hb id).trans ((az _ W).2 _ _ ((hcl 1 (by decide)).trans rfl));have q2:wr.cell? ⟨b,o+j*4+2,none⟩=some (.int .i64 m1):=(hE.cell (p:=⟨b,o+j*4+2,none⟩) hb id).trans ((az _ W).2 _ _ ((hcl 2 (by decide)).trans rfl));have q3:wr.cell? ⟨b,o+j*4+3,none⟩=some (.slice a1 N1 c1):=(hE.cell (p:=⟨b,o+j*4+3,none⟩) hb id).trans ((az _ W).2 _ _ ((hcl 3 (by decide)).trans rfl));have HK:=Z_ (aH.made wr #[.int .i64 k1,.string t1,.int .i64 m1,.slice a1 N1 c1] 24);have uT:=Z_ (HS.out.extend ((aB.refl (fun _=>False) wr).alloc (.cells #[.int .i64 k1,.string t1,.int .i64 m1,.slice a1 N1 c1] 24)))
   have hw5:=HS.out.x.lt;have CY:=Z_ (fun i e=>(bH HS.out.grow i e).2);have OL:=Z_ (fun i e=>(bh HS.out.cs.loc i e).2);obtain⟨Kb,hKb⟩:∃ Kb,wr.heap.size=Kb:=⟨_,rfl⟩;rw [hKb] at HK hw5 CY OL;have Cm:=Z_ hw5;have HT2:=Z_ hT;have oK:=Z_ hQ;clear hT hQ HT HQ hcl hus hu hw5 HS hE hyk O_;go_upto_region 7 with (fail)
   try rw [hKb]
   generalize wr.alloc (.cells #[.int .i64 k1,.string t1,.int .i64 m1,.slice a1 N1 c1] 24)=u5 at *;clear q0 q1 q2 q3 hKb;obtain⟨ra,rc,hrow,-,-⟩:=dn.lT uT.out.grow;rw [qx.out] at hrow;subst hrow;have hkc:=HK.out.cell;have hkl:=HK.out.lt;by_cases h6:k1=6
   ·have h6b:(k1 == 6)=true:=by simpa using h6
    have hj0:=HJ0.out (YN.out.trans h6);subst h6
    have HT3:=Z_ (show (match yE E pr (iM ctx ((K_ ks).getD 0)) false L (deep+1) y q with
     | .bad c q=>(.bad c q:Rz (List Tr))
     | .ok y_1=>uk E pr ctx ba L deep (l.drop (j+1)) (q+fP y) (ks ++ [y_1]))=TR from by have h:=HT2.out;rw [if_pos rfl] at h;exact h)
    have hcc:=uT.out.cs.c.cell;have hcf:=uT.out.cs.c.frozen;have hcl:=uT.out.cs.c.lt;unfold qw at hcc;have hwd:IntKind.i64.wrap (deep+1)=deep+1:=IntWalk.i64_in _ (by have:=uS.out;omega);have jv:=Z_ (uT.out.kV (deep':=deep+1) (ak (aB.refl _ u5) 3 (.int .i64 (deep+1))) (uT.out.cs.c.set 3 (.int .i64 (deep+1))));have HKA:=Z_ (HK.out.setOther (p:=⟨C,3,none⟩) (by have h1:=uT.out.cs.cB;have h3:=uT.out.hB;have h4:=uT.out.wS;have h5:=Cm.out;show Kb≠C;omega) (.int .i64 (deep+1)));obtain⟨rb,ro,g0,rc2,hrw,hrb,hg0,hr0,hl0⟩:=E_ jv.out.grow (by rw [qx.out];exact hj0);rw [qx.out] at hrw;obtain⟨w_,NI⟩:∃ w_,(K_ ks).getD 0=w_:=⟨_,rfl⟩;rw [NI] at hl0;rw [NI] at HT3;injection hrw with hra _ hrc
    subst hra;subst hrc;have Px:=Z_ (And.intro (And.intro hrb hg0) (And.intro hr0 hl0));have HBK:=Z_ (KD.out (YN.out));clear hr0 hl0 hrb hg0 HT2;go_upto_region 9 with (fail)
    clear hkc hkl hcc hcf hcl;generalize u5.setCell ⟨C,3,none⟩ (.int .i64 (deep+1))=u6 at *;refine di [17,18,19,20,23] (fun i v _=>v=([.pointer (some ⟨X,0,none⟩),.pointer (some ⟨X,0,none⟩),.pointer (some ⟨X,0,none⟩),.pointer (some ⟨X,2,none⟩),.slice (some ⟨rb,ro,none⟩) j rc,.pointer (some ⟨C,0,none⟩),.agg #[.int .i64 6,.string t1,.int .i64 m1,.slice a1 N1 c1],.int .i64 ctx,.pointer (some ⟨X,0,none⟩),.pointer (some ⟨X,0,none⟩),.pointer (some ⟨X,2,none⟩),.slice (some ⟨rb,ro,none⟩) j rc,.pointer (some ⟨rb,ro,none⟩),.pointer (some ⟨g0,0,none⟩),.pointer (some ⟨g0,0,none⟩),.pointer (some ⟨g0,14,none⟩),.int .i64 w_,undef,undef,undef,undef,.pointer (some ⟨X,0,none⟩),.pointer (some ⟨X,2,none⟩),undef]:List Value).getD i undef) (uj (.int .i64 (iM ctx w_)) (fun u9=>(SB W u u9 C Mo D K P B Nb X E (.slice la n lc) CW L (deep+1) (q:Nat) cH dB dc D6 pr #[.int .i64 k,.string t,.int .i64 m,.slice (some ⟨b,o,none⟩) N cc] (fun rv=>jh k m rv gG (.string ⟨#[]⟩) (.bool false) (.slice none 0 0) (.int .i64 0) (.bool false) (.int .i64 0) 0 ctx) (.slice (some ⟨rb,ro,none⟩) j rc) (.slice (some ⟨rb,ro,none⟩) j rc) ks∧aH u9 Kb #[.int .i64 6,.string t1,.int .i64 m1,.slice a1 N1 c1] 24)∧(rb<u9.heap.size∧g0<u9.heap.size)∧u9.cell? ⟨rb,ro,none⟩=some (.pointer (some ⟨g0,0,none⟩))∧u9.cell? ⟨g0,14,none⟩=some (.int .i64 w_)) (fun D7 L9 GH u9 OO r9 OT=>SB W u u9 C Mo D K P B Nb X E (.slice la n lc) D7 L (deep+1) ((q+fP y):Nat) cH dB dc GH pr #[.int .i64 k,.string t,.int .i64 m,.slice (some ⟨b,o,none⟩) N cc] (fun rv=>jh k m rv gG (.string ⟨#[]⟩) (.bool false) (.slice none 0 0) (.int .i64 0) (.bool false) (.int .i64 0) 0 ctx) OO r9 OT∧aH u9 Kb #[.int .i64 6,.string t1,.int .i64 m1,.slice a1 N1 c1] 24) X (.slice (some ⟨rb,ro,none⟩) j rc) ks ((yE E pr (iM ctx w_) false L (deep+1) y q).bind fun t=>.ok (t,L))) (fun _ _=>True) (frame:=?Yg) (fun x=>?OD) bn.mixed (by kernel_rfl) (by kernel_rfl) (fun _ _ _ _ h _=>h) ?h0k ?stk ?OE
    case OD=>
     simp only [chain.aK,chain.fill,chain.bf,chain.aW,jJ,jK,jL,jM,jO,jP,jQ,jR,jS];exact rfl
    case h0k=>exact⟨⟨jv.out.extend (aB.refl _ _).drew,HKA.out.drew⟩,Px.out⟩
    case stk=>
     iterate 24 (refine ai.cons (fun x vs u hF hm hb hd K' hK'=>?_) ?_;rotate_left)
     exact ai.nil
     ·refine aj.af rfl ?_
      have HF:=Z_ hF;clear hd hm hb hF;go_simp;exact hK'.out _ _ _ (rfl) trivial ⟨rfl,HF.out⟩
     ·refine aj.af rfl ?_
      have HF:=Z_ hF;clear hd hm hb hF;go_simp;exact hK'.out _ _ _ (rfl) trivial ⟨rfl,HF.out⟩
     ·refine aj.af rfl ?_
      have y0:x 62=.pointer (some ⟨X,0,none⟩):=(D_ hd 1 :);have HF:=Z_ hF;clear hd hm hb hF;go_simp;exact hK'.out _ _ _ (by simp only [y0];rfl) trivial ⟨rfl,HF.out⟩
     ·refine aj.af rfl ?_
      have y0:x 63=.pointer (some ⟨X,0,none⟩):=(D_ hd 2 :);have HF:=Z_ hF;clear hd hm hb hF;go_simp;exact hK'.out _ _ _ (by simp only [y0];rfl) trivial ⟨rfl,HF.out⟩
     ·refine aj.af rfl ?_
      have hq:=uj.low hF (by have:=hb 3 _ (by decide) rfl (by kernel_rfl);omega) (Q:=u.cell? ⟨X,2,none⟩=some (.slice (some ⟨rb,ro,none⟩) j rc)) (fun h=>(h.1.1.x.cell 2).trans rfl) (fun _ _ _ h=>(h.1.x.cell 2).trans rfl);have y0:x 64=.pointer (some ⟨X,2,none⟩):=(D_ hd 3 :);have HF:=Z_ hF;clear hd hm hb hF;go_simp;exact hK'.out _ _ _ (by simp only [y0];rfl) trivial ⟨rfl,HF.out⟩
     ·refine aj.af rfl ?_
      have HF:=Z_ hF;clear hd hm hb hF;go_simp;exact hK'.out _ _ _ (rfl) trivial ⟨rfl,HF.out⟩
     ·refine aj.af rfl ?_
      have hq:=uj.any hF (Q:=∀ o9,u.cell? ⟨Kb,o9,none⟩=#[.int .i64 6,.string t1,.int .i64 m1,.slice a1 N1 c1][o9]?) (fun h=>h.1.2.cell) (fun _ _ _ _ _ _ h=>h.2.cell);have HF:=Z_ hF;clear hd hm hb hF;go_simp;exact hK'.out _ _ _ (rfl) trivial ⟨rfl,HF.out⟩
     ·refine aj.af rfl ?_
      have HF:=Z_ hF;clear hd hm hb hF;go_simp;exact hK'.out _ _ _ (rfl) trivial ⟨rfl,HF.out⟩
     ·refine aj.af rfl ?_
      have HF:=Z_ hF;clear hd hm hb hF;go_simp;exact hK'.out _ _ _ (rfl) trivial ⟨rfl,HF.out⟩
     ·refine aj.af rfl ?_
      have y0:x 69=.pointer (some ⟨X,0,none⟩):=(D_ hd 8 :);have HF:=Z_ hF;clear hd hm hb hF;go_simp;exact hK'.out _ _ _ (by simp only [y0];rfl) trivial ⟨rfl,HF.out⟩
     ·refine aj.af rfl ?_
      have y0:x 70=.pointer (some ⟨X,0,none⟩):=(D_ hd 9 :);have HF:=Z_ hF;clear hd hm hb hF;go_simp;exact hK'.out _ _ _ (by simp only [y0];rfl) trivial ⟨rfl,HF.out⟩
     ·refine aj.af rfl ?_
      have hq:=uj.low hF (by have:=hb 3 _ (by decide) rfl (by kernel_rfl);omega) (Q:=u.cell? ⟨X,2,none⟩=some (.slice (some ⟨rb,ro,none⟩) j rc)) (fun h=>(h.1.1.x.cell 2).trans rfl) (fun _ _ _ h=>(h.1.x.cell 2).trans rfl);have y0:x 71=.pointer (some ⟨X,2,none⟩):=(D_ hd 10 :);have HF:=Z_ hF;clear hd hm hb hF;go_simp;exact hK'.out _ _ _ (by simp only [y0];rfl) trivial ⟨rfl,HF.out⟩
     ·refine aj.af rfl ?_
      have hj9:=hj0;have hj8:(0:Int)<(j:Int):=by omega
      have y0:x 72=.slice (some ⟨rb,ro,none⟩) j rc:=(D_ hd 11 :);have HF:=Z_ hF;clear hd hm hb hF;go_simp;exact hK'.out _ _ _ (by simp only [y0];rfl) trivial ⟨rfl,HF.out⟩
     ·refine aj.af rfl ?_
      have hq:=(uj.pre hF (by have:=hb 0 _ (by decide) rfl (by kernel_rfl);omega)).2;have hq1:=hq.2.1;have hq2:=hq.2.2;have hq3:=hq.1.1;have hq4:=hq.1.2;have y0:x 73=.pointer (some ⟨rb,ro,none⟩):=(D_ hd 12 :);have HF:=Z_ hF;clear hd hm hb hF;go_simp;exact hK'.out _ _ _ (by simp only [y0];rfl) trivial ⟨rfl,HF.out⟩
     ·refine aj.af rfl ?_
      have y0:x 74=.pointer (some ⟨g0,0,none⟩):=(D_ hd 13 :);have HF:=Z_ hF;clear hd hm hb hF;go_simp;exact hK'.out _ _ _ (by simp only [y0];rfl) trivial ⟨rfl,HF.out⟩
     ·refine aj.af rfl ?_
      have y0:x 75=.pointer (some ⟨g0,0,none⟩):=(D_ hd 14 :);have HF:=Z_ hF;clear hd hm hb hF;go_simp;exact hK'.out _ _ _ (by simp only [y0];rfl) trivial ⟨rfl,HF.out⟩
     ·refine aj.af rfl ?_
      have hq:=(uj.pre hF (by have:=hb 0 _ (by decide) rfl (by kernel_rfl);omega)).2;have hq1:=hq.2.1;have hq2:=hq.2.2;have hq3:=hq.1.1;have hq4:=hq.1.2;have y0:x 76=.pointer (some ⟨g0,14,none⟩):=(D_ hd 15 :);have HF:=Z_ hF;clear hd hm hb hF;go_simp;exact hK'.out _ _ _ (by simp only [y0];rfl) trivial ⟨rfl,HF.out⟩
     ·refine aj.af rfl ?_
      obtain rfl:=kF hm;have y0:x 68=.int .i64 ctx:=(D_ hd 7 :);have y1:x 77=.int .i64 w_:=(D_ hd 16 :);have HF:=Z_ hF;clear hd hm hb hF;go_simp;refine(uZ _ _ u).mono ?_
      rintro e u2 ⟨rfl,rfl⟩;exact hK'.out _ _ _ (by simp only [y0,y1];rfl) trivial ⟨rfl,HF.out⟩
     ·refine aj.af rfl ?_
      obtain⟨v0,rfl⟩:=lK hm
      have y0:x 66=.pointer (some ⟨C,0,none⟩):=(D_ hd 5 :);have y1:x 67=.agg #[.int .i64 6,.string t1,.int .i64 m1,.slice a1 N1 c1]:=(D_ hd 6 :);have y2:x 78=v0:=((D_ hd 17) 78 (by kernel_rfl) :);obtain⟨rz,hF⟩:=hF;subst rz;have qy:=(show (_∧_)∧_ from hF).1;have kR:=Z_ (HBK.out _ false (iM ctx w_) u q CW L (deep+1) D6 qy.1.cs qy.1.pc HU.out (by have:=oK.out;omega) Q4.out (by have:=uS.out.1;omega) (by have h1:=uS.out.2;have h2:=KE.out;omega));have HF:=Z_ qy.1;have EM:=Z_ qy.2;clear hd hm hb hF qy;go_simp;refine kR.out.mono ?_
      rintro e u2 ⟨iU,jH⟩;obtain⟨RX,Fa⟩:∃ RX,yE E pr (iM ctx w_) false L (deep+1) y q=RX:=⟨_,rfl⟩;rw [Fa] at jH;have YO:=Z_ Fa;cases RX with
      | bad c9 p9=>
       obtain rfl:e=_:=jH;have uz:=HF.out.aO.trans iU HF.out.ls;go_wp2_with fail
       exact⟨rfl,uz,by rw [←NH.out,←HT3.out,YO.out];rfl⟩
      | ok t6=>
       obtain⟨g6,oD,oG,rfl,ND,CZ,C0,uf,EN,EO⟩:=jH;have C7:=HF.out.call iU CZ C0 EN
       have yH:=EM.out.aO iU (fun e=>by
        have h1:=HF.out.cs.cB;have h2:=HF.out.cs.pB;have h3:=HF.out.hB;have h4:=HF.out.wS;have h5:=Cm.out
        rcases e with e|e|e
        ·omega
        ·omega
        ·have:=OL.out _ e;omega)
       exact hK'.out _ _ _ (by simp only [y0,y1,y2];rfl) trivial ⟨rfl,(t6,L),by rw [Fa];rfl,g6,oD,oG,rfl,⟨C7,yH⟩,gm (aZ (Nat.le_refl _) fun i hi hm=>⟨yF CY.out Cm.out EM.out.lt hm,rfl⟩) _ _ uf,g6,rfl⟩
     ·refine aj.af rfl ?_
      obtain⟨v0,v1,rfl⟩:=qX hm
      have y0:x 79=v1:=((D_ hd 18) 79 (by kernel_rfl) :);obtain⟨rz,t6,ng,g6,oD,oG,rfl,hF⟩:=hF;have aP:=hF.1;have HG:=Z_ (dn.bH (aP.1.grow));have HF:=Z_ hF;clear hd hm hb hF aP;go_simp;exact hK'.out _ _ _ (by simp only [y0];rfl) trivial (⟨rz,t6,ng,g6,oD,oG,rfl,(dn.fF chk.b_ (fun u' hE=>⟨HF.out.1.1.extend hE,HF.out.1.2.ext hE⟩) (fun i e=>(HG.out i e).2) HF.out rfl)⟩)
     ·refine aj.af rfl ?_
      obtain⟨v0,v1,v2,rfl⟩:=xy hm
      have y0:x 65=.slice (some ⟨rb,ro,none⟩) j rc:=(D_ hd 4 :);have y1:x 80=v2:=((D_ hd 19) 80 (by kernel_rfl) :);obtain⟨rz,t6,ng,g6,oD,oG,rfl,hF⟩:=hF;have hF2:=hF;obtain⟨aP,hxx,gg,rfl,hgb,hgr⟩:=hF2;obtain⟨us,hu1,ho,hu3⟩:=(aP.1.grow).ex;obtain⟨jc,jd,hz0,hz1,hz2⟩:=bn.aX dn.pK;have hbz:(X+1)≤u.heap.size:=by have:=aP.1.x.lt;omega
      refine wp_append_lies _ _ _ 341 rfl ((X+1)) 219 jc (.pointer none) 1 8 Tryz.underlying341 jd hz0 hz1 hz2 rfl (by decide) (.slice (some ⟨rb,ro,none⟩) j rc) ks.length (us.flatMap fun u=>u.cells.toList) y0 ho ⟨gg,0,none⟩ 1 1 [.pointer (some ⟨g6,0,none⟩)] y1 rfl ?_ (by intro z_ kW;simp only [List.mem_cons,List.not_mem_nil,or_false] at kW;rcases kW with rfl<;>rfl) (by decide) (by unfold maxLen;have:=qx.out;omega) (by have:=qx.out;omega) hbz u.heap.size rfl ?_
      ·intro j q hj;have e:(⟨gg,0,none⟩:Addr).add j=⟨gg,j,none⟩:=(by unfold Addr.add;split<;>simp_all);rw [e,hgb.cell];simpa [Value.cells] using hj
      ·intro g9 c9 w9 iQ iJ jU qF
       exact hK'.out _ _ _ rfl trivial (⟨rz,t6,ng,g6,oD,oG,rfl,(dn.eF chk.b_ hF hu1 hu3 rfl (fun r sD hG hC ha=>⟨aP.1.more hG hC ha,aP.2.aO hC (fun e=>by have:=CY.out _ e;omega)⟩) iQ iJ jU)⟩)
     ·refine aj.af rfl ?_
      have y0:x 61=.pointer (some ⟨X,0,none⟩):=(D_ hd 0 :);have HF:=Z_ hF;clear hd hm hb hF;go_simp;exact hK'.out _ _ _ (by simp only [y0];rfl) trivial ⟨rfl,HF.out⟩
     ·refine aj.af rfl ?_
      have y0:x 82=.pointer (some ⟨X,0,none⟩):=(D_ hd 21 :);have HF:=Z_ hF;clear hd hm hb hF;go_simp;exact hK'.out _ _ _ (by simp only [y0];rfl) trivial ⟨rfl,HF.out⟩
     ·refine aj.af rfl ?_
      obtain⟨v0,v1,v2,v3,rfl⟩:=V4_ hm
      have y0:x 83=.pointer (some ⟨X,2,none⟩):=(D_ hd 22 :);have y1:x 81=v3:=((D_ hd 20) 81 (by kernel_rfl) :);obtain⟨rz,t6,ng,g6,oD,oG,rfl,hF⟩:=hF;have hF2:=hF;obtain⟨aP,gg,cc,rfl⟩:=hF2;have hq:=aP.1.x.cell;have yI:=aP.1.x.frozen;have kN:=aP.1.x.lt;unfold jh at hq;have HF:=Z_ hF;clear hd hm hb hF aP;go_simp;exact hK'.out _ _ undef (by simp only [y0,y1];rfl) trivial (⟨rz,t6,ng,g6,oD,oG,rfl,(dn.fG (z:=undef) HF.out (fun h=>⟨h.1.put (j:=2) rfl,h.2.setOther (p:=⟨X,2,none⟩) (by have:=Cm.out;show Kb≠X;omega) _⟩))⟩)
    case OE=>
     intro x9 qj w9 hl hF hk9;obtain⟨v0,v1,v2,v3,v4,rfl⟩:∃ v0 v1 v2 v3 v4,qj=[v0,v1,v2,v3,v4]:=by match qj,hl with|[v0,v1,v2,v3,v4],_=>exact⟨_,_,_,_,_,rfl⟩
     obtain⟨-,t6,ng,g6,oD,oG,-,hF⟩:=hF;have Hg:=(show _∧_ from hF).1;obtain⟨RX,Fa⟩:∃ RX,yE E pr (iM ctx w_) false L (deep+1) y q=RX:=⟨_,rfl⟩;have xe:=HT3.out;rw [Fa] at ng xe;cases RX with
     | bad c9 p9=>cases ng
     | ok y6=>
      cases ng
      have tH:=Z_ Hg;have kS:=Z_ (show uk E pr ctx ba L deep (l.drop (j+1)) (q+fP y) (ks ++ [y6])=TR from xe);clear hk9 hl hF Hg xe Fa;have hcc:=tH.out.cs.c.cell;have hcf:=tH.out.cs.c.frozen;have hcl:=tH.out.cs.c.lt;unfold qw at hcc;have ad5:wrap64 deep=deep:=IntWalk.wrap64_in _ (by have:=uS.out;omega);have YP:=Z_ (tH.out.kV (deep':=deep) (ak (aB.refl _ w9) 3 (.int .i64 deep)) (tH.out.cs.c.set 3 (.int .i64 deep)));go_wp2_with fail
      go_roundw
      case rel=>exact⟨j+1,q+fP y,_,oD,ks ++ [y6],oG,by omega,by go_num,Z_ (by rw [List.length_append,qx.out];rfl),Z_ (by have:=oK.out;omega),kS,YP⟩
      case measure=>simp [intOf];omega
   ·have h6b:(k1 == 6)=false:=beq_eq_false_iff_ne.2 h6
    have HEX:=Z_ (uY (H:=H) tC.out (show L.length≤1000 by have:=xx.out;omega) y TE.out (by rcases HFY.out with h|h;exact absurd (YN.out.symm.trans h) h6;exact h) (W:=W) (C:=C) (Mo:=Mo) (D:=D) (K:=K) (P:=P) (B:=B) (E:=E) (vl:=CW) (deep:=deep) (cH:=cH) (dB:=dB) (dc:=dc) (pc:=D6) (ctx:=ctx))
    have HT3:=Z_ (show (match wY E L ctx ba y q with
     | .bad c q=>(.bad c q:Rz (List Tr))
     | .ok y_1=>uk E pr ctx ba L deep (l.drop (j+1)) (q+fP y) (ks ++ [y_1]))=TR by have h:=HT2.out;rw [if_neg h6] at h;exact h)
    clear HT2;have hba:=HBA.out;go_upto_region 6 with (fail)
    clear hkc hkl;refine di [11,12,13,16] (fun i v _=>v=([.pointer (some ⟨X,0,none⟩),.pointer (some ⟨X,0,none⟩),.pointer (some ⟨X,0,none⟩),.pointer (some ⟨X,2,none⟩),.slice ra j rc,.pointer (some ⟨C,0,none⟩),.agg #[.int .i64 k1,.string t1,.int .i64 m1,.slice a1 N1 c1],.int .i64 ctx,.pointer (some ⟨Nb,0,none⟩),.int .i64 k,.bool ba,undef,undef,undef,.pointer (some ⟨X,0,none⟩),.pointer (some ⟨X,2,none⟩),undef]:List Value).getD i undef) (oJ (fun u9=>SB W u u9 C Mo D K P B Nb X E (.slice la n lc) CW L deep (q:Nat) cH dB dc D6 pr #[.int .i64 k,.string t,.int .i64 m,.slice (some ⟨b,o,none⟩) N cc] (fun rv=>jh k m rv gG (.string ⟨#[]⟩) (.bool false) (.slice none 0 0) (.int .i64 0) (.bool false) (.int .i64 0) 0 ctx) (.slice ra j rc) (.slice ra j rc) ks∧aH u9 Kb #[.int .i64 k1,.string t1,.int .i64 m1,.slice a1 N1 c1] 24) (fun D7 L9 GH u9 OO r9 OT=>SB W u u9 C Mo D K P B Nb X E (.slice la n lc) D7 L deep ((q+fP y):Nat) cH dB dc GH pr #[.int .i64 k,.string t,.int .i64 m,.slice (some ⟨b,o,none⟩) N cc] (fun rv=>jh k m rv gG (.string ⟨#[]⟩) (.bool false) (.slice none 0 0) (.int .i64 0) (.bool false) (.int .i64 0) 0 ctx) OO r9 OT∧aH u9 Kb #[.int .i64 k1,.string t1,.int .i64 m1,.slice a1 N1 c1] 24) X (.slice ra j rc) ks ((wY E L ctx ba y q).bind fun t=>.ok (t,L))) (fun _ _=>True) (frame:=?La) (fun x=>?yT) bn.mixed (by kernel_rfl) (by kernel_rfl) (fun _ _ _ _ h _=>h) ?Lc ?Ld ?fine
    case yT=>
     simp only [chain.aK,chain.fill,chain.bf,chain.aW,jJ,jK,jL,jM,jO,jP,jQ,jR,jS];exact rfl
    case Lc=>exact⟨uT.out.extend (aB.refl _ _).drew,HK.out.drew⟩
    case Ld=>
     iterate 17 (refine ai.cons (fun x vs u hF hm hb hd K' hK'=>?_) ?_;rotate_left)
     exact ai.nil
     ·refine aj.af rfl ?_
      have HF:=Z_ hF;clear hd hm hb hF;go_simp;exact hK'.out _ _ _ (rfl) trivial ⟨rfl,HF.out⟩
     ·refine aj.af rfl ?_
      have HF:=Z_ hF;clear hd hm hb hF;go_simp;exact hK'.out _ _ _ (rfl) trivial ⟨rfl,HF.out⟩
     ·refine aj.af rfl ?_
      have y0:x 35=.pointer (some ⟨X,0,none⟩):=(D_ hd 1 :);have HF:=Z_ hF;clear hd hm hb hF;go_simp;exact hK'.out _ _ _ (by simp only [y0];rfl) trivial ⟨rfl,HF.out⟩
     ·refine aj.af rfl ?_
      have y0:x 36=.pointer (some ⟨X,0,none⟩):=(D_ hd 2 :);have HF:=Z_ hF;clear hd hm hb hF;go_simp;exact hK'.out _ _ _ (by simp only [y0];rfl) trivial ⟨rfl,HF.out⟩
     ·refine aj.af rfl ?_
      have hq:=oJ.low hF (by have:=hb 2 _ (by decide) rfl (by kernel_rfl);omega) (Q:=u.cell? ⟨X,2,none⟩=some (.slice ra j rc)) (fun h=>(h.1.x.cell 2).trans rfl) (fun _ _ _ h=>(h.1.x.cell 2).trans rfl);have y0:x 37=.pointer (some ⟨X,2,none⟩):=(D_ hd 3 :);have HF:=Z_ hF;clear hd hm hb hF;go_simp;exact hK'.out _ _ _ (by simp only [y0];rfl) trivial ⟨rfl,HF.out⟩
     ·refine aj.af rfl ?_
      have HF:=Z_ hF;clear hd hm hb hF;go_simp;exact hK'.out _ _ _ (rfl) trivial ⟨rfl,HF.out⟩
     ·refine aj.af rfl ?_
      have hq:=oJ.any hF (Q:=∀ o9,u.cell? ⟨Kb,o9,none⟩=#[.int .i64 k1,.string t1,.int .i64 m1,.slice a1 N1 c1][o9]?) (fun h=>h.2.cell) (fun _ _ _ _ _ _ h=>h.2.cell);have HF:=Z_ hF;clear hd hm hb hF;go_simp;exact hK'.out _ _ _ (rfl) trivial ⟨rfl,HF.out⟩
     ·refine aj.af rfl ?_
      have HF:=Z_ hF;clear hd hm hb hF;go_simp;exact hK'.out _ _ _ (rfl) trivial ⟨rfl,HF.out⟩
     ·refine aj.af rfl ?_
      have HF:=Z_ hF;clear hd hm hb hF;go_simp;exact hK'.out _ _ _ (rfl) trivial ⟨rfl,HF.out⟩
     ·refine aj.af rfl ?_
      have hq:=oJ.any hF (Q:=∀ o9,u.cell? ⟨Nb,o9,none⟩=#[.int .i64 k,.string t,.int .i64 m,.slice (some ⟨b,o,none⟩) N cc][o9]?) (fun h=>h.1.nb.cell) (fun _ _ _ _ _ _ h=>h.1.nb.cell);have y0:x 42=.pointer (some ⟨Nb,0,none⟩):=(D_ hd 8 :);have HF:=Z_ hF;clear hd hm hb hF;go_simp;exact hK'.out _ _ _ (by simp only [y0];rfl) trivial ⟨rfl,HF.out⟩
     ·refine aj.af rfl ?_
      have y0:x 43=.int .i64 k:=(D_ hd 9 :);have HF:=Z_ hF;clear hd hm hb hF;go_simp;exact hK'.out _ _ _ (by simp only [y0];rfl) trivial ⟨rfl,HF.out⟩
     ·refine aj.af rfl ?_
      obtain rfl:=kF hm;have y0:x 39=.pointer (some ⟨C,0,none⟩):=(D_ hd 5 :);have y1:x 40=.agg #[.int .i64 k1,.string t1,.int .i64 m1,.slice a1 N1 c1]:=(D_ hd 6 :);have y2:x 41=.int .i64 ctx:=(D_ hd 7 :);have y3:x 44=.bool ba:=(D_ hd 10 :);have qy:=(show _∧_ from hF);have kR:=Z_ (HEX.out _ ba u q qy.1.cs HU.out (by have:=oK.out;omega));have HF:=Z_ qy.1;have EM:=Z_ qy.2;clear hd hm hb hF qy;go_simp;refine kR.out.mono ?_
      rintro e u2 ⟨iU,jH⟩;obtain⟨RX,Fa⟩:∃ RX,wY E L ctx ba y q=RX:=⟨_,rfl⟩;rw [Fa] at jH;have YO:=Z_ Fa;cases RX with
      | bad c9 p9=>
       obtain rfl:e=_:=jH;have uz:=HF.out.aO.trans (iU.weak (S':=LS C P CW) fun _ _ e=>.inl e) HF.out.ls;go_wp2_with fail
       exact⟨rfl,uz,by rw [←NH.out,←HT3.out,YO.out];rfl⟩
      | ok t6=>
       obtain⟨g6,rfl,ND,uf,YQ,EO⟩:=jH;have C7:=HF.out.kV iU YQ;have yH:=EM.out.aO iU (by have h1:=HF.out.cs.cB;have h3:=HF.out.hB;have h4:=HF.out.wS;have h5:=Cm.out;omega);exact hK'.out _ _ _ (by simp only [y0,y1,y2,y3];rfl) trivial ⟨(t6,L),by rw [Fa];rfl,g6,CW,D6,rfl,⟨C7,yH⟩,gm (aZ (Nat.le_refl _) fun i hi hm=>⟨Ij CY.out OL.out Cm.out EM.out.lt hm,rfl⟩) _ _ uf,g6,rfl⟩
     ·refine aj.af rfl ?_
      obtain⟨v0,rfl⟩:=lK hm
      have y0:x 45=v0:=((D_ hd 11) 45 (by kernel_rfl) :);obtain⟨t6,ng,g6,oD,oG,rfl,hF⟩:=hF;have aP:=hF.1;have HG:=Z_ (dn.bH (aP.1.grow));have HF:=Z_ hF;clear hd hm hb hF aP;go_simp;exact hK'.out _ _ _ (by simp only [y0];rfl) trivial (⟨t6,ng,g6,oD,oG,rfl,(dn.fF chk.b_ (fun u' hE=>⟨HF.out.1.1.extend hE,HF.out.1.2.ext hE⟩) (fun i e=>(HG.out i e).2) HF.out rfl)⟩)
     ·refine aj.af rfl ?_
      obtain⟨v0,v1,rfl⟩:=qX hm
      have y0:x 38=.slice ra j rc:=(D_ hd 4 :);have y1:x 46=v1:=((D_ hd 12) 46 (by kernel_rfl) :);obtain⟨t6,ng,g6,oD,oG,rfl,hF⟩:=hF;have hF2:=hF;obtain⟨aP,hxx,gg,rfl,hgb,hgr⟩:=hF2;obtain⟨us,hu1,ho,hu3⟩:=(aP.1.grow).ex;obtain⟨jc,jd,hz0,hz1,hz2⟩:=bn.aX dn.pK;have hbz:(X+1)≤u.heap.size:=by have:=aP.1.x.lt;omega
      refine wp_append_lies _ _ _ 341 rfl ((X+1)) 219 jc (.pointer none) 1 8 Tryz.underlying341 jd hz0 hz1 hz2 rfl (by decide) (.slice ra j rc) ks.length (us.flatMap fun u=>u.cells.toList) y0 ho ⟨gg,0,none⟩ 1 1 [.pointer (some ⟨g6,0,none⟩)] y1 rfl ?_ (by intro z_ kW;simp only [List.mem_cons,List.not_mem_nil,or_false] at kW;rcases kW with rfl<;>rfl) (by decide) (by unfold maxLen;have:=qx.out;omega) (by have:=qx.out;omega) hbz u.heap.size rfl ?_
      ·intro j q hj;have e:(⟨gg,0,none⟩:Addr).add j=⟨gg,j,none⟩:=(by unfold Addr.add;split<;>simp_all);rw [e,hgb.cell];simpa [Value.cells] using hj
      ·intro g9 c9 w9 iQ iJ jU qF
       exact hK'.out _ _ _ rfl trivial (⟨t6,ng,g6,oD,oG,rfl,(dn.eF chk.b_ hF hu1 hu3 rfl (fun r sD hG hC ha=>⟨aP.1.more hG hC ha,aP.2.aO hC (fun e=>by have:=CY.out _ e;omega)⟩) iQ iJ jU)⟩)
     ·refine aj.af rfl ?_
      have y0:x 34=.pointer (some ⟨X,0,none⟩):=(D_ hd 0 :);have HF:=Z_ hF;clear hd hm hb hF;go_simp;exact hK'.out _ _ _ (by simp only [y0];rfl) trivial ⟨rfl,HF.out⟩
     ·refine aj.af rfl ?_
      have y0:x 48=.pointer (some ⟨X,0,none⟩):=(D_ hd 14 :);have HF:=Z_ hF;clear hd hm hb hF;go_simp;exact hK'.out _ _ _ (by simp only [y0];rfl) trivial ⟨rfl,HF.out⟩
     ·refine aj.af rfl ?_
      obtain⟨v0,v1,v2,rfl⟩:=xy hm
      have y0:x 49=.pointer (some ⟨X,2,none⟩):=(D_ hd 15 :);have y1:x 47=v2:=((D_ hd 13) 47 (by kernel_rfl) :);obtain⟨t6,ng,g6,oD,oG,rfl,hF⟩:=hF;have hF2:=hF;obtain⟨aP,gg,cc,rfl⟩:=hF2;have hq:=aP.1.x.cell;have yI:=aP.1.x.frozen;have kN:=aP.1.x.lt;unfold jh at hq;have HF:=Z_ hF;clear hd hm hb hF aP;go_simp;exact hK'.out _ _ undef (by simp only [y0,y1];rfl) trivial (⟨t6,ng,g6,oD,oG,rfl,(dn.fG (z:=undef) HF.out (fun h=>⟨h.1.put (j:=2) rfl,h.2.setOther (p:=⟨X,2,none⟩) (by have:=Cm.out;show Kb≠X;omega) _⟩))⟩)
    case fine=>
     intro x9 qj w9 hl hF hk9;obtain⟨v0,v1,v2,v3,rfl⟩:=xA hl
     obtain⟨t6,ng,g6,oD,oG,-,hF⟩:=hF;have Hg:=(show _∧_ from hF).1;obtain⟨RX,Fa⟩:∃ RX,wY E L ctx ba y q=RX:=⟨_,rfl⟩;have xe:=HT3.out;rw [Fa] at ng xe;cases RX with
     | bad c9 p9=>cases ng
     | ok y6=>
      cases ng
      have tH:=Z_ Hg;have kS:=Z_ (show uk E pr ctx ba L deep (l.drop (j+1)) (q+fP y) (ks ++ [y6])=TR from xe);clear hk9 hl hF Hg xe Fa;go_wp2_with fail
      go_roundw
      case rel=>exact⟨j+1,q+fP y,_,oD,ks ++ [y6],oG,by omega,by go_num,Z_ (by rw [List.length_append,qx.out];rfl),Z_ (by have:=oK.out;omega),kS,tH⟩
      case measure=>simp [intOf];omega
  ·obtain rfl:j=N:=by omega
   have hjd:decide ((j:Int)<(j:Int))=false:=by simp
   have hT:=HT.out;have hQ:=HQ.out;rw [List.drop_of_length_le (by rw [HN.out];exact Nat.le_refl _)] at hT hQ;obtain rfl:q=pe:=hQ;have hR0:uk E pr ctx ba L deep [] q ks=.ok ks:=by unfold uk;simp [kz,Rz.bind]
   rw [hR0] at hT;have u_:=Z_ (show t_ pr L deep ctx last k t m ks p=T by have h:=NH.out;rw [←hT] at h;exact h);obtain⟨-,TF⟩:=Hq l none (p+1) ks (by rw [HST.out,←hT]) HIS.out;have yU:0<ks.length:=by rw [qx.out];exact TD.out
   obtain⟨rb,ro,rc,hrow,hrb,hall⟩:=O0 HS.out.grow yU;obtain⟨g0,a2,c2,p0,p1,p2,p3,p4,p5,hr0,hg0,ht0,hc0⟩:=hall 0 yU;rw [←yJ yU] at ht0 hc0;have Ap:=Z_ hall;rw [qx.out] at hrow;subst hrow;have hI0:=KH yU TF;obtain⟨ji,hy0⟩:∃ ji,ks.headD default=ji:=⟨_,rfl⟩;rw [hy0] at ht0 hc0 hI0;have HI0:=Z_ hI0;have TG:=Z_ hy0;have Dh:=Z_ hrb;have HR0:=Z_ hr0;have Le:=Z_ hg0;have HT0:=Z_ ht0;have Aq:=Z_ hc0;clear hT hR0 hy0 HT HQ HI HIH TF hI0 hall hrb hr0 hg0 ht0 hc0 HST NH HIS HFK;have hbc:=HS.out.nb.cell;have hks:=Ya.out;unfold sG at hks;obtain rfl|rfl|rfl|rfl|rfl|rfl|rfl|rfl:k=7∨k=8∨k=9∨k=10∨k=11∨k=12∨k=13∨k=14:=by omega
   ·have jH:=u_.out
    unfold t_ at jH;rw [TG.out] at jH;have kS:=Z_ (show (if (L.any fun l=>decide (l.deep=deep)&&decide (l.name=t))=true then .bad 5 p else if 20≤L.length then .bad 1 p else if dQ m [ji.lab,ctx]=false then .bad 7 p else .ok (.mk 7 m ks ⟨(L.length:Nat),aS,aS,m,0⟩ 0 ctx,L ++ [⟨t,m,deep⟩]):Rz (Tr×List Loc))=T from jH);obtain⟨ga,gc,hvl,YR,ad6,NJ⟩:=HS.out.cs.loc.row gJ Ar;rw [xx.out] at hvl YR;subst hvl;have NK:=Z_ NJ;have hcc:=HS.out.cs.c.cell;unfold qw at hcc;clear jH NJ;go_wp2_with fail
    clear hcc hbc;obtain⟨wo,hwo⟩:∃ wo,wo=wr:=⟨_,rfl⟩;subst hwo;go_loopw [103] (fun i wr=>∃ e:Nat,e≤n∧i=.int .i64 (e:Nat)∧Hid (((L.take e).any fun l=>decide (l.deep=deep)&&decide (l.name=t))=false)∧Hid (Ext wo wr)) (fun i _=>n-(intOf i).toNat)
    case atStart=>exact⟨0,Nat.zero_le _,rfl,Z_ (by simp),Z_ (aB.refl _ _)⟩
    case round=>
     obtain⟨e,he,rfl,HA,HZ⟩:=hrel;by_cases hlt:e<n
     ·have hei:(e:Int)<(n:Int):=by omega
      have hed:decide ((e:Int)<(n:Int))=true:=by simpa using hei
      have hel:e<L.length:=by rw [xx.out];exact hlt
      obtain⟨lb,lo,rfl,hlb,hin⟩:=NK.out e hel;rw [bK] at hlb;have hin:=lU (Ext.keeps HZ.out) _ _ _ (lU (az _ _) _ _ _ hin);have SU:=Nat.lt_of_lt_of_le hlb HZ.out.size;have tG:=Z_ (Hr hel (P:=fun l=>decide (l.deep=deep)&&decide (l.name=t)));have Au:=Z_ (OZ hel (P:=fun l=>decide (l.deep=deep)&&decide (l.name=t)));generalize L[e]=y at hin tG Au;obtain⟨yn,yb,yd⟩:=y;obtain⟨q0,q1,q2,-⟩:=hin;simp only at q0 q1 q2;have Py:=Z_ (aH.made wr #[.string yn,.int .i64 yb,.int .i64 yd] 340);have J7:=Z_ (HZ.out.alloc (.cells #[.string yn,.int .i64 yb,.int .i64 yd] 340));have yR:=Z_ (HS.out.extend J7.out);obtain⟨Lb,hLb⟩:∃ Lb,wr.heap.size=Lb:=⟨_,rfl⟩;rw [hLb] at Py;have nZ:=Py;clear Py hlb;go_upto_region 18 with (fail)
      try rw [hLb]
      generalize wr.alloc (.cells #[.string yn,.int .i64 yb,.int .i64 yd] 340)=u6 at *;clear q0 q1 q2 hLb SU;by_cases TI:yd=deep
      ·have YS:=TI.symm
       subst YS;have Pz:=Z_ (And.intro (rfl:deep=deep) (rfl:deep=deep));by_cases hyn:yn=t
       ·have pO:=Z_ (show T=.bad 5 p from by rw [←kS.out,if_pos (Au.out (by simp [hyn]))])
        have NL:=Z_ (And.intro (show (yn.toList == t.toList)=true by rw [hyn];simp) (show (yn.toList != t.toList)=false by rw [hyn];simp));clear u_ kS tG Au HA hyn;refine di [15] (fun i v _=>v=([.pointer (some ⟨Lb,2,none⟩),.int .i64 deep,.pointer (some ⟨C,0,none⟩),.pointer (some ⟨C,0,none⟩),.pointer (some ⟨C,3,none⟩),.int .i64 deep,.bool false,.bool false,.pointer (some ⟨Lb,0,none⟩),.string yn,.pointer (some ⟨Nb,1,none⟩),.string t,.bool false,.bool false,.int .i64 (p:Nat),undef]:List Value).getD i undef) (fun (vs:List Value) (u:World)=>vs=[]∧Ext u6 u) (fun _ _=>True) (frame:=?Yl) (fun x=>?OU) bn.mixed (by kernel_rfl) (by kernel_rfl) (fun _ _ _ _ h _=>h) ?h0t ?stt ?OV
        case OU=>
         simp only [chain.aK,chain.fill,chain.bf,chain.aW,jJ,jK,jL,jM,jO,jP,jQ,jR,jS];exact rfl
        case h0t=>exact⟨rfl,(aB.refl _ _).drew⟩
        case stt=>
         iterate 16 (refine ai.cons (fun x vs u hF hm hb hd K' hK'=>?_) ?_;rotate_left)
         exact ai.nil
         ·refine aj.af rfl ?_
          have HF:=Z_ hF;clear hd hm hb hF;go_simp;exact hK'.out _ _ _ (rfl) trivial ⟨rfl,HF.out⟩
         ·refine aj.af rfl ?_
          have g_:Ext u6 u:=hF.2;have hq:=(nZ.out.ext g_).cell;clear g_;have y0:x 107=.pointer (some ⟨Lb,2,none⟩):=(D_ hd 0 :);have HF:=Z_ hF;clear hd hm hb hF;go_simp;exact hK'.out _ _ _ (by simp only [y0];rfl) trivial ⟨rfl,HF.out⟩
         ·refine aj.af rfl ?_
          have HF:=Z_ hF;clear hd hm hb hF;go_simp;exact hK'.out _ _ _ (rfl) trivial ⟨rfl,HF.out⟩
         ·refine aj.af rfl ?_
          have y0:x 109=.pointer (some ⟨C,0,none⟩):=(D_ hd 2 :);have HF:=Z_ hF;clear hd hm hb hF;go_simp;exact hK'.out _ _ _ (by simp only [y0];rfl) trivial ⟨rfl,HF.out⟩
         ·refine aj.af rfl ?_
          have y0:x 110=.pointer (some ⟨C,0,none⟩):=(D_ hd 3 :);have HF:=Z_ hF;clear hd hm hb hF;go_simp;exact hK'.out _ _ _ (by simp only [y0];rfl) trivial ⟨rfl,HF.out⟩
         ·refine aj.af rfl ?_
          have g_:Ext u6 u:=hF.2;have hq:=(yR.out.extend g_).cs.c.cell;unfold qw at hq;clear g_;have y0:x 111=.pointer (some ⟨C,3,none⟩):=(D_ hd 4 :);have HF:=Z_ hF;clear hd hm hb hF;go_simp;exact hK'.out _ _ _ (by simp only [y0];rfl) trivial ⟨rfl,HF.out⟩
         ·refine aj.af rfl ?_
          have hz1:=Pz.out.1;have hz2:=Pz.out.2;have y0:x 108=.int .i64 deep:=(D_ hd 1 :);have y1:x 112=.int .i64 deep:=(D_ hd 5 :);have HF:=Z_ hF;clear hd hm hb hF;go_simp;exact hK'.out _ _ _ (by simp only [y0,y1];rfl) trivial ⟨rfl,HF.out⟩
         ·refine aj.af rfl ?_
          have y0:x 113=.bool false:=(D_ hd 6 :);have HF:=Z_ hF;clear hd hm hb hF;go_simp;exact hK'.out _ _ _ (by simp only [y0];rfl) trivial ⟨rfl,HF.out⟩
         ·have y0:x 114=.bool false:=(D_ hd 7 :);refine aj.dN rfl (by simp only [y0];rfl) ?_
          have HF:=Z_ hF;clear hd hm hb hF;go_simp;exact hK'.out _ _ _ (by simp only [y0];rfl) trivial ⟨rfl,HF.out⟩
         ·have g_:Ext u6 u:=hF.2;have hq:=(nZ.out.ext g_).cell;clear g_;have y0:x 114=.bool false:=(D_ hd 7 :);have y1:x 115=.pointer (some ⟨Lb,0,none⟩):=(D_ hd 8 :);refine aj.dN rfl (by simp only [y0];rfl) ?_
          have HF:=Z_ hF;clear hd hm hb hF;go_simp;exact hK'.out _ _ _ (by simp only [y0,y1];rfl) trivial ⟨rfl,HF.out⟩
         ·have y0:x 114=.bool false:=(D_ hd 7 :);refine aj.dN rfl (by simp only [y0];rfl) ?_
          have HF:=Z_ hF;clear hd hm hb hF;go_simp;exact hK'.out _ _ _ (by simp only [y0];rfl) trivial ⟨rfl,HF.out⟩
         ·have g_:Ext u6 u:=hF.2;have hq:=(yR.out.extend g_).nb.cell;clear g_;have y0:x 114=.bool false:=(D_ hd 7 :);have y1:x 117=.pointer (some ⟨Nb,1,none⟩):=(D_ hd 10 :);refine aj.dN rfl (by simp only [y0];rfl) ?_
          have HF:=Z_ hF;clear hd hm hb hF;go_simp;exact hK'.out _ _ _ (by simp only [y0,y1];rfl) trivial ⟨rfl,HF.out⟩
         ·have hz1:=NL.out.1;have hz2:=NL.out.2;have y0:x 114=.bool false:=(D_ hd 7 :);have y1:x 116=.string yn:=(D_ hd 9 :);have y2:x 118=.string t:=(D_ hd 11 :);refine aj.dN rfl (by simp only [y0];rfl) ?_
          have HF:=Z_ hF;clear hd hm hb hF;go_simp;exact hK'.out _ _ _ (by simp only [y0,y1,y2];rfl) trivial ⟨rfl,HF.out⟩
         ·refine aj.af rfl ?_
          have y0:x 114=.bool false:=(D_ hd 7 :);have y1:x 119=.bool false:=(D_ hd 12 :);have HF:=Z_ hF;clear hd hm hb hF;go_simp;exact hK'.out _ _ _ (by simp only [y0,y1];rfl) trivial ⟨rfl,HF.out⟩
         ·refine aj.af rfl ?_
          have HF:=Z_ hF;clear hd hm hb hF;go_simp;exact hK'.out _ _ _ (rfl) trivial ⟨rfl,HF.out⟩
         ·refine aj.af rfl ?_
          obtain rfl:=kF hm;have y0:x 120=.bool false:=(D_ hd 13 :);have y1:x 121=.int .i64 (p:Nat):=(D_ hd 14 :);have HF:=Z_ (show Ext u6 u from hF.2);clear hd hm hb hF;go_simp;refine(eY 5 (p:Nat) u).mono ?_
          rintro e u2 ⟨rfl,rfl⟩;go_wp2_with fail
          rw [pO.out];exact⟨rfl,mL (yR.out.extend HF.out)⟩
        case OV=>
         intro x9 qj wz hl hF hk9;obtain⟨rfl,-⟩:=(show qj=[]∧_ from hF);cases hl
       ·have YT:=Z_ (show (decide (deep=deep)&&decide (yn=t))=false by simp [hyn])
        have NL:=Z_ (And.intro (show (yn.toList == t.toList)=false from(Aa hyn)) (show (yn.toList != t.toList)=true by simp [bne,(Aa hyn)]));clear hyn Au;refine di [15] (fun i v _=>v=([.pointer (some ⟨Lb,2,none⟩),.int .i64 deep,.pointer (some ⟨C,0,none⟩),.pointer (some ⟨C,0,none⟩),.pointer (some ⟨C,3,none⟩),.int .i64 deep,.bool false,.bool false,.pointer (some ⟨Lb,0,none⟩),.string yn,.pointer (some ⟨Nb,1,none⟩),.string t,.bool true,.bool true,.int .i64 (p:Nat),undef]:List Value).getD i undef) (fun (_:List Value) (u:World)=>Ext u6 u) (fun _ _=>True) (frame:=?YU) (fun x=>?PD) bn.mixed (by kernel_rfl) (by kernel_rfl) (fun _ _ _ _ h _=>h) ?YV ?YW ?PE
        case PD=>
         simp only [chain.aK,chain.fill,chain.bf,chain.aW,jJ,jK,jL,jM,jO,jP,jQ,jR,jS];exact rfl
        case YV=>exact(aB.refl _ _).drew
        case YW=>
         iterate 16 (refine ai.cons (fun x vs u hF hm hb hd K' hK'=>?_) ?_;rotate_left)
         exact ai.nil
         ·refine aj.af rfl ?_
          have HF:=Z_ hF;clear hd hm hb hF;go_simp;exact hK'.out _ _ _ (rfl) trivial ⟨rfl,HF.out⟩
         ·refine aj.af rfl ?_
          have g_:Ext u6 u:=hF;have hq:=(nZ.out.ext g_).cell;clear g_;have y0:x 107=.pointer (some ⟨Lb,2,none⟩):=(D_ hd 0 :);have HF:=Z_ hF;clear hd hm hb hF;go_simp;exact hK'.out _ _ _ (by simp only [y0];rfl) trivial ⟨rfl,HF.out⟩
         ·refine aj.af rfl ?_
          have HF:=Z_ hF;clear hd hm hb hF;go_simp;exact hK'.out _ _ _ (rfl) trivial ⟨rfl,HF.out⟩
         ·refine aj.af rfl ?_
          have y0:x 109=.pointer (some ⟨C,0,none⟩):=(D_ hd 2 :);have HF:=Z_ hF;clear hd hm hb hF;go_simp;exact hK'.out _ _ _ (by simp only [y0];rfl) trivial ⟨rfl,HF.out⟩
         ·refine aj.af rfl ?_
          have y0:x 110=.pointer (some ⟨C,0,none⟩):=(D_ hd 3 :);have HF:=Z_ hF;clear hd hm hb hF;go_simp;exact hK'.out _ _ _ (by simp only [y0];rfl) trivial ⟨rfl,HF.out⟩
         ·refine aj.af rfl ?_
          have g_:Ext u6 u:=hF;have hq:=(yR.out.extend g_).cs.c.cell;unfold qw at hq;clear g_;have y0:x 111=.pointer (some ⟨C,3,none⟩):=(D_ hd 4 :);have HF:=Z_ hF;clear hd hm hb hF;go_simp;exact hK'.out _ _ _ (by simp only [y0];rfl) trivial ⟨rfl,HF.out⟩
         ·refine aj.af rfl ?_
          have hz1:=Pz.out.1;have hz2:=Pz.out.2;have y0:x 108=.int .i64 deep:=(D_ hd 1 :);have y1:x 112=.int .i64 deep:=(D_ hd 5 :);have HF:=Z_ hF;clear hd hm hb hF;go_simp;exact hK'.out _ _ _ (by simp only [y0,y1];rfl) trivial ⟨rfl,HF.out⟩
         ·refine aj.af rfl ?_
          have y0:x 113=.bool false:=(D_ hd 6 :);have HF:=Z_ hF;clear hd hm hb hF;go_simp;exact hK'.out _ _ _ (by simp only [y0];rfl) trivial ⟨rfl,HF.out⟩
         ·have y0:x 114=.bool false:=(D_ hd 7 :);refine aj.dN rfl (by simp only [y0];rfl) ?_
          have HF:=Z_ hF;clear hd hm hb hF;go_simp;exact hK'.out _ _ _ (by simp only [y0];rfl) trivial ⟨rfl,HF.out⟩
         ·have g_:Ext u6 u:=hF;have hq:=(nZ.out.ext g_).cell;clear g_;have y0:x 114=.bool false:=(D_ hd 7 :);have y1:x 115=.pointer (some ⟨Lb,0,none⟩):=(D_ hd 8 :);refine aj.dN rfl (by simp only [y0];rfl) ?_
          have HF:=Z_ hF;clear hd hm hb hF;go_simp;exact hK'.out _ _ _ (by simp only [y0,y1];rfl) trivial ⟨rfl,HF.out⟩
         ·have y0:x 114=.bool false:=(D_ hd 7 :);refine aj.dN rfl (by simp only [y0];rfl) ?_
          have HF:=Z_ hF;clear hd hm hb hF;go_simp;exact hK'.out _ _ _ (by simp only [y0];rfl) trivial ⟨rfl,HF.out⟩
         ·have g_:Ext u6 u:=hF;have hq:=(yR.out.extend g_).nb.cell;clear g_;have y0:x 114=.bool false:=(D_ hd 7 :);have y1:x 117=.pointer (some ⟨Nb,1,none⟩):=(D_ hd 10 :);refine aj.dN rfl (by simp only [y0];rfl) ?_
          have HF:=Z_ hF;clear hd hm hb hF;go_simp;exact hK'.out _ _ _ (by simp only [y0,y1];rfl) trivial ⟨rfl,HF.out⟩
         ·have hz1:=NL.out.1;have hz2:=NL.out.2;have y0:x 114=.bool false:=(D_ hd 7 :);have y1:x 116=.string yn:=(D_ hd 9 :);have y2:x 118=.string t:=(D_ hd 11 :);refine aj.dN rfl (by simp only [y0];rfl) ?_
          have HF:=Z_ hF;clear hd hm hb hF;go_simp;exact hK'.out _ _ _ (by simp only [y0,y1,y2];rfl) trivial ⟨rfl,HF.out⟩
         ·refine aj.af rfl ?_
          have y0:x 114=.bool false:=(D_ hd 7 :);have y1:x 119=.bool true:=(D_ hd 12 :);have HF:=Z_ hF;clear hd hm hb hF;go_simp;exact hK'.out _ _ _ (by simp only [y0,y1];rfl) trivial ⟨rfl,HF.out⟩
         ·refine aj.af rfl ?_
          have HF:=Z_ hF;clear hd hm hb hF;go_simp;exact hK'.out _ _ _ (rfl) trivial ⟨rfl,HF.out⟩
         ·refine aj.af rfl ?_
          obtain rfl:=kF hm;have y0:x 120=.bool true:=(D_ hd 13 :);have y1:x 121=.int .i64 (p:Nat):=(D_ hd 14 :);have HF:=Z_ (show Ext u6 u from hF);clear hd hm hb hF;go_simp;refine(dK 5 (p:Nat) u).mono ?_
          rintro e u2 ⟨rfl,rfl⟩;exact hK'.out _ _ _ (by simp only [y0,y1];rfl) trivial HF.out
        case PE=>
         intro x9 qj wz hl hF hk9;have YX:=Z_ (show Ext u6 wz from hF);clear hl hF hk9;go_wp2_with fail
         go_roundw
         case rel=>exact⟨e+1,by omega,by go_num,Z_ (by have h1:=tG.out;have h2:=HA.out;have h3:=YT.out;first|(rw [h1,h2,h3];rfl)|(rw [h1,h2];simpa using h3)),Z_ (J7.out.ext YX.out)⟩
         case measure=>simp [intOf];omega
      ·have YT:=Z_ (show (decide (yd=deep)&&decide (yn=t))=false by simp [TI])
       have Pz:=Z_ (And.intro (show (yd == deep)=false by simpa using TI) (show (yd != deep)=true by simpa using TI));clear TI Au;refine di [15] (fun i v _=>v=([.pointer (some ⟨Lb,2,none⟩),.int .i64 yd,.pointer (some ⟨C,0,none⟩),.pointer (some ⟨C,0,none⟩),.pointer (some ⟨C,3,none⟩),.int .i64 deep,.bool true,.bool true,undef,undef,undef,undef,undef,.bool true,.int .i64 (p:Nat),undef]:List Value).getD i undef) (fun (_:List Value) (u:World)=>Ext u6 u) (fun _ _=>True) (frame:=?Yh) (fun x=>?OG) bn.mixed (by kernel_rfl) (by kernel_rfl) (fun _ _ _ _ h _=>h) ?Yi ?Yj ?OH
       case OG=>
        simp only [chain.aK,chain.fill,chain.bf,chain.aW,jJ,jK,jL,jM,jO,jP,jQ,jR,jS];exact rfl
       case Yi=>exact(aB.refl _ _).drew
       case Yj=>
        iterate 16 (refine ai.cons (fun x vs u hF hm hb hd K' hK'=>?_) ?_;rotate_left)
        exact ai.nil
        ·refine aj.af rfl ?_
         have HF:=Z_ hF;clear hd hm hb hF;go_simp;exact hK'.out _ _ _ (rfl) trivial ⟨rfl,HF.out⟩
        ·refine aj.af rfl ?_
         have g_:Ext u6 u:=hF;have hq:=(nZ.out.ext g_).cell;clear g_;have y0:x 107=.pointer (some ⟨Lb,2,none⟩):=(D_ hd 0 :);have HF:=Z_ hF;clear hd hm hb hF;go_simp;exact hK'.out _ _ _ (by simp only [y0];rfl) trivial ⟨rfl,HF.out⟩
        ·refine aj.af rfl ?_
         have HF:=Z_ hF;clear hd hm hb hF;go_simp;exact hK'.out _ _ _ (rfl) trivial ⟨rfl,HF.out⟩
        ·refine aj.af rfl ?_
         have y0:x 109=.pointer (some ⟨C,0,none⟩):=(D_ hd 2 :);have HF:=Z_ hF;clear hd hm hb hF;go_simp;exact hK'.out _ _ _ (by simp only [y0];rfl) trivial ⟨rfl,HF.out⟩
        ·refine aj.af rfl ?_
         have y0:x 110=.pointer (some ⟨C,0,none⟩):=(D_ hd 3 :);have HF:=Z_ hF;clear hd hm hb hF;go_simp;exact hK'.out _ _ _ (by simp only [y0];rfl) trivial ⟨rfl,HF.out⟩
        ·refine aj.af rfl ?_
         have g_:Ext u6 u:=hF;have hq:=(yR.out.extend g_).cs.c.cell;unfold qw at hq;clear g_;have y0:x 111=.pointer (some ⟨C,3,none⟩):=(D_ hd 4 :);have HF:=Z_ hF;clear hd hm hb hF;go_simp;exact hK'.out _ _ _ (by simp only [y0];rfl) trivial ⟨rfl,HF.out⟩
        ·refine aj.af rfl ?_
         have hz1:=Pz.out.1;have hz2:=Pz.out.2;have y0:x 108=.int .i64 yd:=(D_ hd 1 :);have y1:x 112=.int .i64 deep:=(D_ hd 5 :);have HF:=Z_ hF;clear hd hm hb hF;go_simp;exact hK'.out _ _ _ (by simp only [y0,y1];rfl) trivial ⟨rfl,HF.out⟩
        ·refine aj.af rfl ?_
         have y0:x 113=.bool true:=(D_ hd 6 :);have HF:=Z_ hF;clear hd hm hb hF;go_simp;exact hK'.out _ _ _ (by simp only [y0];rfl) trivial ⟨rfl,HF.out⟩
        ·have y0:x 114=.bool true:=(D_ hd 7 :);have HF:=Z_ hF;refine aj.gq (c:=true) rfl (by simp only [y0];rfl) rfl ?_
         exact hK'.out _ _ _ rfl trivial ⟨rfl,HF.out⟩
        ·have y0:x 114=.bool true:=(D_ hd 7 :);have HF:=Z_ hF;refine aj.gq (c:=true) rfl (by simp only [y0];rfl) rfl ?_
         exact hK'.out _ _ _ rfl trivial ⟨rfl,HF.out⟩
        ·have y0:x 114=.bool true:=(D_ hd 7 :);have HF:=Z_ hF;refine aj.gq (c:=true) rfl (by simp only [y0];rfl) rfl ?_
         exact hK'.out _ _ _ rfl trivial ⟨rfl,HF.out⟩
        ·have y0:x 114=.bool true:=(D_ hd 7 :);have HF:=Z_ hF;refine aj.gq (c:=true) rfl (by simp only [y0];rfl) rfl ?_
         exact hK'.out _ _ _ rfl trivial ⟨rfl,HF.out⟩
        ·have y0:x 114=.bool true:=(D_ hd 7 :);have HF:=Z_ hF;refine aj.gq (c:=true) rfl (by simp only [y0];rfl) rfl ?_
         exact hK'.out _ _ _ rfl trivial ⟨rfl,HF.out⟩
        ·refine aj.af rfl ?_
         have y0:x 114=.bool true:=(D_ hd 7 :);have y1:x 119=undef:=(D_ hd 12 :);have HF:=Z_ hF;clear hd hm hb hF;go_simp;exact hK'.out _ _ _ (by simp only [y0,y1];rfl) trivial ⟨rfl,HF.out⟩
        ·refine aj.af rfl ?_
         have HF:=Z_ hF;clear hd hm hb hF;go_simp;exact hK'.out _ _ _ (rfl) trivial ⟨rfl,HF.out⟩
        ·refine aj.af rfl ?_
         obtain rfl:=kF hm;have y0:x 120=.bool true:=(D_ hd 13 :);have y1:x 121=.int .i64 (p:Nat):=(D_ hd 14 :);have HF:=Z_ (show Ext u6 u from hF);clear hd hm hb hF;go_simp;refine(dK 5 (p:Nat) u).mono ?_
         rintro e u2 ⟨rfl,rfl⟩;exact hK'.out _ _ _ (by simp only [y0,y1];rfl) trivial HF.out
       case OH=>
        intro x9 qj wz hl hF hk9;have YX:=Z_ (show Ext u6 wz from hF);clear hl hF hk9;go_wp2_with fail
        go_roundw
        case rel=>exact⟨e+1,by omega,by go_num,Z_ (by have h1:=tG.out;have h2:=HA.out;have h3:=YT.out;first|(rw [h1,h2,h3];rfl)|(rw [h1,h2];simpa using h3)),Z_ (J7.out.ext YX.out)⟩
        case measure=>simp [intOf];omega
     ·obtain rfl:e=n:=by omega
      have hed:decide ((e:Int)<(e:Int))=false:=by simp
      have Xw:=Z_ (show (if 20≤L.length then .bad 1 p else if dQ m [ji.lab,ctx]=false then .bad 7 p else .ok (.mk 7 m ks ⟨(L.length:Nat),aS,aS,m,0⟩ 0 ctx,L ++ [⟨t,m,deep⟩]):Rz (Tr×List Loc))=T from by have h9:=kS.out;have h:=HA.out;rw [List.take_of_length_le (by rw [xx.out];exact Nat.le_refl _)] at h;rw [if_neg (by rw [h];decide)] at h9;exact h9);have HS2:=Z_ (HS.out.extend HZ.out);have hcc:=HS2.out.cs.c.cell;unfold qw at hcc;have mW:=HS2.out.x.cell;unfold jh at mW;have hr0:=(HZ.out.cell (p:=⟨rb,ro,none⟩) Dh.out id).trans HR0.out;have hc0:=(HZ.out.cell (p:=⟨g0,14,none⟩) Le.out id).trans ((Aq.out 14 (by decide)).trans rfl);replace hc0:wr.cell? ⟨g0,14,none⟩=some (.int .i64 ji.lab):=hc0;have hrb:=Nat.lt_of_lt_of_le Dh.out HZ.out.size;have hg0:=Nat.lt_of_lt_of_le Le.out HZ.out.size;have GK:0<j:=by rw [←qx.out];exact yU
      have hjq:(0:Int)<(j:Int):=by omega
      clear u_ kS Ap NK HA HZ;by_cases h20:e<20
      ·have YY:decide ((e:Int)<20)=true:=decide_eq_true (by omega)
       have OI:=Z_ (show (if dQ m [ji.lab,ctx]=false then .bad 7 p else .ok (.mk 7 m ks ⟨(L.length:Nat),aS,aS,m,0⟩ 0 ctx,L ++ [⟨t,m,deep⟩]):Rz (Tr×List Loc))=T from by have h9:=Xw.out;rw [if_neg (by rw [xx.out];omega)] at h9;exact h9);clear Xw;go_wp2_with fail
       refine(dK 1 (p:Nat) _).mono ?_
       rintro e9 w8 ⟨rfl,rfl⟩;go_wp2_with fail
       have uO:=aH.made w8 #[.int .i64 ji.lab,.int .i64 ctx] 3;have tH:=Z_ (HS2.out.extend ((aB.refl _ w8).alloc (.cells #[.int .i64 ji.lab,.int .i64 ctx] 3)));have uy:=Z_ (show Calls Tryz.prog 283 #[.int .i64 (p:Nat),.int .i64 (m),.slice (some ⟨w8.heap.size,0,none⟩) 2 2] (w8.alloc (.cells #[.int .i64 ji.lab,.int .i64 ctx] 3)) (ju (m) [ji.lab,ctx] (p:Nat) _) from jo (p:Nat) (m) (some ⟨w8.heap.size,0,none⟩) 2 [ji.lab,ctx] _ (jZ uO) (Nat.le_refl _) (by simp));clear uO;skip
       refine uy.out.mono ?_
       rintro e9 w9 ⟨hy1,hy2,rfl⟩;cases hfl:dQ (m) [ji.lab,ctx] with
       | true=>
        obtain rfl:=hy1 hfl;have Lh:=Z_ hfl;clear uy hy1 hy2 hfl;generalize w8.alloc (.cells #[.int .i64 ji.lab,.int .i64 ctx] 3)=w9 at *;have pO:=Z_ (show T=.ok (.mk 7 m ks ⟨(L.length:Nat),aS,aS,m,0⟩ 0 ctx,L ++ [⟨t,m,deep⟩]) from by have h9:=OI.out;rw [if_neg (by rw [Lh.out];decide)] at h9;exact h9.symm);clear OI hcc mW hr0 hc0 hrb hg0 GK hjq h20;have hbc:=tH.out.nb.cell;go_wp2_with fail
        refine(Ag tH.out.cs tH.out.pc (by rw [xx.out];omega) t HTX.out m).mono ?_
        rintro e9 w10 ⟨D7,GH,rfl,iU,ry,Af,TJ⟩;have J8:=Z_ (tH.out.call iU ry Af TJ);clear iU ry Af TJ hbc;have mW:=J8.out.x.cell;have Ci:=J8.out.x.frozen;have hxl:=J8.out.x.lt;unfold jh at mW;go_wp2_with fail
        go_ret
        rw [pO.out];have H1:=J8.out.put (j:=3) (v:=.int .i64 (L.length:Nat)) (PG:=fun rv=>jh 7 m rv ⟨(L.length:Nat),aS,aS,0,0⟩ (.string ⟨#[]⟩) (.bool false) (.slice none 0 0) (.int .i64 0) (.bool false) (.int .i64 0) 0 ctx) rfl;have H2:=H1.put (j:=4) (v:=.string ⟨#[]⟩) (PG:=fun rv=>jh 7 m rv ⟨(L.length:Nat),aS,aS,0,0⟩ (.string ⟨#[]⟩) (.bool false) (.slice none 0 0) (.int .i64 0) (.bool false) (.int .i64 0) 0 ctx) rfl;have H3:=H2.put (j:=5) (v:=.string ⟨#[]⟩) (PG:=fun rv=>jh 7 m rv ⟨(L.length:Nat),aS,aS,0,0⟩ (.string ⟨#[]⟩) (.bool false) (.slice none 0 0) (.int .i64 0) (.bool false) (.int .i64 0) 0 ctx) rfl;have H4:=H3.put (j:=6) (v:=.int .i64 m) (PG:=fun rv=>jh 7 m rv ⟨(L.length:Nat),aS,aS,m,0⟩ (.string ⟨#[]⟩) (.bool false) (.slice none 0 0) (.int .i64 0) (.bool false) (.int .i64 0) 0 ctx) rfl
        have H5:=H4.put (j:=7) (v:=.int .i64 0) (PG:=fun rv=>jh 7 m rv ⟨(L.length:Nat),aS,aS,m,0⟩ (.string ⟨#[]⟩) (.bool false) (.slice none 0 0) (.int .i64 0) (.bool false) (.int .i64 0) 0 ctx) rfl;exact oO H5 (by constructor<;>(unfold maxLen;show aS.size≤_;decide))
       | false=>
        obtain rfl:=hy2 hfl;have pO:=Z_ (show T=.bad 7 p from by rw [←OI.out,if_pos hfl]);clear uy hy1 hy2;go_wp2_with fail
        rw [pO.out];exact⟨rfl,mL tH.out⟩
      ·have YY:decide ((e:Int)<20)=false:=decide_eq_false (by omega)
       have pO:=Z_ (show T=.bad 1 p from by rw [←Xw.out,if_pos (by rw [xx.out];omega)]);clear Xw;go_wp2_with fail
       refine(eY 1 (p:Nat) _).mono ?_
       rintro e9 w9 ⟨rfl,rfl⟩;go_wp2_with fail
       rw [pO.out];exact⟨rfl,mL HS2.out⟩
   ·have mW:=HS.out.x.cell
    have Ci:=HS.out.x.frozen;have hxl:=HS.out.x.lt;unfold jh at mW;have hr0:=HR0.out;rw [Nat.add_zero] at hr0;have hc0:=Aq.out 14 (by decide);replace hc0:wr.cell? ⟨g0,14,none⟩=some (.int .i64 ji.lab):=hc0;have hrb:=Dh.out;have hg0:=Le.out;have GK:0<j:=by rw [←qx.out];exact yU
    have hjq:(0:Int)<(j:Int):=by omega
    have hj2:j=2:=by have h1:=Xu.out rfl;rw [HN.out] at h1;exact h1
    have TK:1<ks.length:=by rw [qx.out];omega
    obtain⟨g1,b2,d2,s0,s1,s2,s3,s4,s5,hr1,hg1,ht1,hc1⟩:=Ap.out 1 TK;rw [←tail_at TK] at ht1 hc1;obtain⟨NM,PK⟩:∃ y1,ks.tail.headD default=y1:=⟨_,rfl⟩;rw [PK] at hc1;have hc6:=Aq.out 6 (by decide);replace hc6:wr.cell? ⟨g0,6,none⟩=some (.int .i64 ji.ref.label):=hc6;have Ru:=Z_ hc6;have J9:=Z_ (show wr.cell? ⟨g1,14,none⟩=some (.int .i64 NM.lab) from hc1 14 (by decide));have HR1:=Z_ hr1;have HG1:=Z_ hg1;have jH:=u_.out;unfold t_ at jH;rw [TG.out,PK] at jH;have kS:=Z_ (show (if dQ ji.ref.label [NM.lab,iD ji,ctx]=false then .bad 7 p else .ok (.mk 8 m ks gG 0 ctx,L):Rz (Tr×List Loc))=T from jH);have TN:(1:Int)<(j:Int):=by omega
    have YZ:=Z_ TN;have Y0:=Z_ (show 1<j by omega);clear jH hj2 hr1 hg1 ht1 hc1 hc6 PK;go_upto_region 25 with (fail)
    clear mW Ci hxl hr0 hc0 hrb hg0 GK hjq TN;refine di [16,18,19] (fun i v _=>v=([.int .i64 (p:Nat),.pointer (some ⟨g0,0,none⟩),.pointer (some ⟨g0,0,none⟩),.pointer (some ⟨g0,3,none⟩),.pointer (some ⟨g0,6,none⟩),.int .i64 ji.ref.label,.pointer (some ⟨X,0,none⟩),.pointer (some ⟨X,0,none⟩),.pointer (some ⟨X,2,none⟩),.slice (some ⟨rb,ro,none⟩) j rc,.pointer (some ⟨rb,ro+1,none⟩),.pointer (some ⟨g1,0,none⟩),.pointer (some ⟨g1,0,none⟩),.pointer (some ⟨g1,14,none⟩),.int .i64 NM.lab,.pointer (some ⟨g0,0,none⟩),undef,.int .i64 ctx,undef,undef]:List Value).getD i undef) (qY (.int .i64 (iD ji)) (jr wr ji.ref.label [NM.lab,iD ji,ctx] 3)) (fun _ _=>True) (frame:=?ad7) (fun x=>?Y1) bn.mixed (by kernel_rfl) (by kernel_rfl) (fun _ _ _ _ h _=>h) ?h0s ?sts ?Y2
    case Y1=>
     simp only [chain.aK,chain.fill,chain.bf,chain.aW,jJ,jK,jL,jM,jO,jP,jQ,jR,jS];exact rfl
    case h0s=>exact(aB.refl _ _).drew
    case sts=>
     iterate 20 (refine ai.cons (fun x vs u hF hm hb hd K' hK'=>?_) ?_;rotate_left)
     exact ai.nil
     ·refine aj.af rfl ?_
      have HF:=Z_ hF;clear hd hm hb hF;go_simp;exact hK'.out _ _ _ (rfl) trivial ⟨rfl,HF.out⟩
     ·refine aj.af rfl ?_
      have HF:=Z_ hF;clear hd hm hb hF;go_simp;exact hK'.out _ _ _ (rfl) trivial ⟨rfl,HF.out⟩
     ·refine aj.af rfl ?_
      have y0:x 165=.pointer (some ⟨g0,0,none⟩):=(D_ hd 1 :);have HF:=Z_ hF;clear hd hm hb hF;go_simp;exact hK'.out _ _ _ (by simp only [y0];rfl) trivial ⟨rfl,HF.out⟩
     ·refine aj.af rfl ?_
      have y0:x 166=.pointer (some ⟨g0,0,none⟩):=(D_ hd 2 :);have HF:=Z_ hF;clear hd hm hb hF;go_simp;exact hK'.out _ _ _ (by simp only [y0];rfl) trivial ⟨rfl,HF.out⟩
     ·refine aj.af rfl ?_
      have y0:x 167=.pointer (some ⟨g0,3,none⟩):=(D_ hd 3 :);have HF:=Z_ hF;clear hd hm hb hF;go_simp;exact hK'.out _ _ _ (by simp only [y0];rfl) trivial ⟨rfl,HF.out⟩
     ·refine aj.af rfl ?_
      have g_:=qY.ext hF;have hq:=(g_.cell (p:=⟨g0,6,none⟩) Le.out id).trans Ru.out;clear g_;have y0:x 168=.pointer (some ⟨g0,6,none⟩):=(D_ hd 4 :);have HF:=Z_ hF;clear hd hm hb hF;go_simp;exact hK'.out _ _ _ (by simp only [y0];rfl) trivial ⟨rfl,HF.out⟩
     ·refine aj.af rfl ?_
      have HF:=Z_ hF;clear hd hm hb hF;go_simp;exact hK'.out _ _ _ (rfl) trivial ⟨rfl,HF.out⟩
     ·refine aj.af rfl ?_
      have y0:x 170=.pointer (some ⟨X,0,none⟩):=(D_ hd 6 :);have HF:=Z_ hF;clear hd hm hb hF;go_simp;exact hK'.out _ _ _ (by simp only [y0];rfl) trivial ⟨rfl,HF.out⟩
     ·refine aj.af rfl ?_
      have y0:x 171=.pointer (some ⟨X,0,none⟩):=(D_ hd 7 :);have HF:=Z_ hF;clear hd hm hb hF;go_simp;exact hK'.out _ _ _ (by simp only [y0];rfl) trivial ⟨rfl,HF.out⟩
     ·refine aj.af rfl ?_
      have g_:=qY.ext hF;have hq:=(HS.out.extend g_).x.cell 2;replace hq:u.cell? ⟨X,2,none⟩=some (.slice (some ⟨rb,ro,none⟩) j rc):=hq;clear g_;have y0:x 172=.pointer (some ⟨X,2,none⟩):=(D_ hd 8 :);have HF:=Z_ hF;clear hd hm hb hF;go_simp;exact hK'.out _ _ _ (by simp only [y0];rfl) trivial ⟨rfl,HF.out⟩
     ·refine aj.af rfl ?_
      have hj8:=YZ.out;have hj9:=Y0.out;have y0:x 173=.slice (some ⟨rb,ro,none⟩) j rc:=(D_ hd 9 :);have HF:=Z_ hF;clear hd hm hb hF;go_simp;exact hK'.out _ _ _ (by simp only [y0];rfl) trivial ⟨rfl,HF.out⟩
     ·refine aj.af rfl ?_
      have g_:=qY.ext hF;have hq:=(g_.cell (p:=⟨rb,ro+1,none⟩) Dh.out id).trans HR1.out;clear g_;have y0:x 174=.pointer (some ⟨rb,ro+1,none⟩):=(D_ hd 10 :);have HF:=Z_ hF;clear hd hm hb hF;go_simp;exact hK'.out _ _ _ (by simp only [y0];rfl) trivial ⟨rfl,HF.out⟩
     ·refine aj.af rfl ?_
      have y0:x 175=.pointer (some ⟨g1,0,none⟩):=(D_ hd 11 :);have HF:=Z_ hF;clear hd hm hb hF;go_simp;exact hK'.out _ _ _ (by simp only [y0];rfl) trivial ⟨rfl,HF.out⟩
     ·refine aj.af rfl ?_
      have y0:x 176=.pointer (some ⟨g1,0,none⟩):=(D_ hd 12 :);have HF:=Z_ hF;clear hd hm hb hF;go_simp;exact hK'.out _ _ _ (by simp only [y0];rfl) trivial ⟨rfl,HF.out⟩
     ·refine aj.af rfl ?_
      have g_:=qY.ext hF;have hq:=(g_.cell (p:=⟨g1,14,none⟩) HG1.out id).trans J9.out;clear g_;have y0:x 177=.pointer (some ⟨g1,14,none⟩):=(D_ hd 13 :);have HF:=Z_ hF;clear hd hm hb hF;go_simp;exact hK'.out _ _ _ (by simp only [y0];rfl) trivial ⟨rfl,HF.out⟩
     ·refine aj.af rfl ?_
      have HF:=Z_ hF;clear hd hm hb hF;go_simp;exact hK'.out _ _ _ (rfl) trivial ⟨rfl,HF.out⟩
     ·refine aj.af rfl ?_
      obtain rfl:=kF hm;have y0:x 179=.pointer (some ⟨g0,0,none⟩):=(D_ hd 15 :);have HF:=Z_ hF;have kR:=Z_ (pR ji _ u (gm (Ext.keeps ((aB.refl _ wr).ext hF)) _ _ HT0.out) HI0.out);clear hd hm hb hF;go_simp;refine kR.out.mono ?_
      rintro e u2 ⟨rfl,rfl⟩;exact hK'.out _ _ _ (by simp only [y0];rfl) trivial ⟨rfl,HF.out⟩
     ·refine aj.af rfl ?_
      have HF:=Z_ hF;clear hd hm hb hF;go_simp;exact hK'.out _ _ _ (rfl) trivial ⟨rfl,HF.out⟩
     ·refine aj.af rfl ?_
      obtain⟨v0,rfl⟩:=lK hm
      have y0:x 178=.int .i64 NM.lab:=(D_ hd 14 :);have y1:x 180=v0:=((D_ hd 16) 180 (by kernel_rfl) :);have y2:x 181=.int .i64 ctx:=(D_ hd 17 :);obtain⟨rv,hF⟩:=hF;subst rv;have HF:=Z_ hF;clear hd hm hb hF;go_simp;exact hK'.out _ _ _ (by simp only [y0,y1,y2];rfl) trivial (⟨rfl,mY HF.out rfl⟩)
     ·refine aj.af rfl ?_
      obtain⟨v0,v1,rfl⟩:=qX hm
      have y0:x 164=.int .i64 (p:Nat):=(D_ hd 0 :);have y1:x 169=.int .i64 ji.ref.label:=(D_ hd 5 :);have y2:x 182=v1:=((D_ hd 18) 182 (by kernel_rfl) :);obtain⟨rv,hF⟩:=hF;subst rv;obtain⟨kG,g9,rfl,uO⟩:=hF;have uy:=Z_ (show Calls Tryz.prog 283 #[.int .i64 (p:Nat),.int .i64 (ji.ref.label),.slice (some ⟨g9,0,none⟩) 3 3] u (ju (ji.ref.label) [NM.lab,iD ji,ctx] (p:Nat) u) from jo (p:Nat) (ji.ref.label) (some ⟨g9,0,none⟩) 3 [NM.lab,iD ji,ctx] u (jZ uO) (Nat.le_refl _) (by simp));have NP:=Z_ kG;clear hd hm hb kG uO;go_simp;refine uy.out.mono ?_
      rintro e u2 ⟨hy1,hy2,rfl⟩;cases hfl:dQ (ji.ref.label) [NM.lab,iD ji,ctx] with
      | true=>
       obtain rfl:=hy1 hfl;exact hK'.out _ _ _ (by simp only [y0,y1,y2];rfl) trivial ⟨rfl,⟨hfl,NP.out⟩⟩
      | false=>
       obtain rfl:=hy2 hfl;have pO:=Z_ (show T=.bad 7 p from by rw [←kS.out,if_pos hfl]);clear u_ uy hy1 hy2;go_wp2_with fail
       rw [pO.out];exact⟨rfl,mL (HS.out.extend NP.out)⟩
    case Y2=>
     intro x9 qj wz hl hF hk9;obtain⟨v0,v1,v2,rfl⟩:=KR hl
     obtain⟨-,hfl,NQ⟩:=hF;have lM:=Z_ (HS.out.extend NQ);have pO:=Z_ (show T=.ok (.mk _ m ks gG 0 ctx,L) from by rw [←kS.out,if_neg (by rw [hfl];decide)]);clear u_ hfl NQ hk9 hl;go_wp2_with fail
     go_ret
     rw [pO.out];exact oO lM.out (by constructor<;>decide)
   ·have pO:=Z_ (show T=.ok (.mk _ m ks gG 0 ctx,L) from u_.out.symm)
    clear u_;go_wp2_with fail
    go_ret
    rw [pO.out];exact oO HS.out (by constructor<;>decide)
   ·have pO:=Z_ (show T=.ok (.mk _ m ks gG 0 ctx,L) from u_.out.symm)
    clear u_;go_wp2_with fail
    go_ret
    rw [pO.out];exact oO HS.out (by constructor<;>decide)
   ·have pO:=Z_ (show T=.ok (.mk _ m ks gG 0 ctx,L) from u_.out.symm)
    clear u_;go_wp2_with fail
    go_ret
    rw [pO.out];exact oO HS.out (by constructor<;>decide)
   ·have mW:=HS.out.x.cell
    have Ci:=HS.out.x.frozen;have hxl:=HS.out.x.lt;unfold jh at mW;have hr0:=HR0.out;rw [Nat.add_zero] at hr0;have hc0:=Aq.out 14 (by decide);replace hc0:wr.cell? ⟨g0,14,none⟩=some (.int .i64 ji.lab):=hc0;have hrb:=Dh.out;have hg0:=Le.out;have GK:0<j:=by rw [←qx.out];exact yU
    have hjq:(0:Int)<(j:Int):=by omega
    have jH:=u_.out;unfold t_ at jH;rw [TG.out] at jH;have kS:=Z_ (show (if dQ m [ji.lab,ctx]=false then .bad 7 p else .ok (.mk 12 m ks gG 0 ctx,L):Rz (Tr×List Loc))=T from jH);clear jH;go_upto_region 27 with (fail)
    go_wp2_with fail
    have uO:=aH.made wr #[.int .i64 ji.lab,.int .i64 ctx] 3;have tH:=Z_ (HS.out.extend ((aB.refl _ wr).alloc (.cells #[.int .i64 ji.lab,.int .i64 ctx] 3)));have uy:=Z_ (show Calls Tryz.prog 283 #[.int .i64 (p:Nat),.int .i64 (m),.slice (some ⟨wr.heap.size,0,none⟩) 2 2] (wr.alloc (.cells #[.int .i64 ji.lab,.int .i64 ctx] 3)) (ju (m) [ji.lab,ctx] (p:Nat) _) from jo (p:Nat) (m) (some ⟨wr.heap.size,0,none⟩) 2 [ji.lab,ctx] _ (jZ uO) (Nat.le_refl _) (by simp));clear uO;have yB:=Z_ (show Ext wr (wr.alloc (.cells #[.int .i64 ji.lab,.int .i64 ctx] 3)) from(aB.refl _ wr).alloc _);refine uy.out.mono ?_
    rintro e9 w9 ⟨hy1,hy2,rfl⟩;cases hfl:dQ (m) [ji.lab,ctx] with
    | true=>
     obtain rfl:=hy1 hfl;have pO:=Z_ (show T=.ok (.mk _ m ks gG 0 ctx,L) from by rw [←kS.out,if_neg (by rw [hfl];decide)]);clear u_ uy hy1 hy2;go_wp2_with fail
     go_ret
     rw [pO.out];exact oO tH.out (by constructor<;>decide)
    | false=>
     obtain rfl:=hy2 hfl;have pO:=Z_ (show T=.bad 7 p from by rw [←kS.out,if_pos hfl]);clear u_ uy hy1 hy2;go_wp2_with fail
     rw [pO.out];exact⟨rfl,mL tH.out⟩
   ·have mW:=HS.out.x.cell
    have Ci:=HS.out.x.frozen;have hxl:=HS.out.x.lt;unfold jh at mW;have hr0:=HR0.out;rw [Nat.add_zero] at hr0;have hc0:=Aq.out 14 (by decide);replace hc0:wr.cell? ⟨g0,14,none⟩=some (.int .i64 ji.lab):=hc0;have hrb:=Dh.out;have hg0:=Le.out;have GK:0<j:=by rw [←qx.out];exact yU
    have hjq:(0:Int)<(j:Int):=by omega
    have hc6:=Aq.out 6 (by decide);replace hc6:wr.cell? ⟨g0,6,none⟩=some (.int .i64 ji.ref.label):=hc6;have Ru:=Z_ hc6;clear hc6;have jH:=u_.out;unfold t_ at jH;rw [TG.out] at jH;have kS:=Z_ (show (if dQ m [ctx]=false then .bad 7 p else if dQ ji.ref.label [m,iD ji,ctx]=false then .bad 7 p else .ok (.mk 13 m ks gG 0 ctx,L):Rz (Tr×List Loc))=T from jH);clear jH;go_upto_region 30 with (fail)
    go_wp2_with fail
    have uO:=aH.made wr #[.int .i64 ctx] 3;have tH:=Z_ (HS.out.extend ((aB.refl _ wr).alloc (.cells #[.int .i64 ctx] 3)));have uy:=Z_ (show Calls Tryz.prog 283 #[.int .i64 (p:Nat),.int .i64 (m),.slice (some ⟨wr.heap.size,0,none⟩) 1 1] (wr.alloc (.cells #[.int .i64 ctx] 3)) (ju (m) [ctx] (p:Nat) _) from jo (p:Nat) (m) (some ⟨wr.heap.size,0,none⟩) 1 [ctx] _ (jZ uO) (Nat.le_refl _) (by simp));clear uO;have yB:=Z_ (show Ext wr (wr.alloc (.cells #[.int .i64 ctx] 3)) from(aB.refl _ wr).alloc _);refine uy.out.mono ?_
    rintro e9 w9 ⟨hy1,hy2,rfl⟩;cases hfl:dQ (m) [ctx] with
    | true=>
     obtain rfl:=hy1 hfl;have Lh:=Z_ hfl;clear uy hy1 hy2 hfl;generalize wr.alloc (.cells #[.int .i64 ctx] 3)=w9 at *;go_upto_region 31 with (fail)
     refine di [8,10,11] (fun i v _=>v=([.int .i64 (p:Nat),.pointer (some ⟨g0,0,none⟩),.pointer (some ⟨g0,0,none⟩),.pointer (some ⟨g0,3,none⟩),.pointer (some ⟨g0,6,none⟩),.int .i64 ji.ref.label,.int .i64 m,.pointer (some ⟨g0,0,none⟩),undef,.int .i64 ctx,undef,undef]:List Value).getD i undef) (qY (.int .i64 (iD ji)) (jr w9 ji.ref.label [m,iD ji,ctx] 3)) (fun _ _=>True) (frame:=?ad8) (fun x=>?Y3) bn.mixed (by kernel_rfl) (by kernel_rfl) (fun _ _ _ _ h _=>h) ?h0q ?stq ?Y4
     case Y3=>
      simp only [chain.aK,chain.fill,chain.bf,chain.aW,jJ,jK,jL,jM,jO,jP,jQ,jR,jS];exact rfl
     case h0q=>exact(aB.refl _ _).drew
     case stq=>
      iterate 12 (refine ai.cons (fun x vs u hF hm hb hd K' hK'=>?_) ?_;rotate_left)
      exact ai.nil
      ·refine aj.af rfl ?_
       have HF:=Z_ hF;clear hd hm hb hF;go_simp;exact hK'.out _ _ _ (rfl) trivial ⟨rfl,HF.out⟩
      ·refine aj.af rfl ?_
       have HF:=Z_ hF;clear hd hm hb hF;go_simp;exact hK'.out _ _ _ (rfl) trivial ⟨rfl,HF.out⟩
      ·refine aj.af rfl ?_
       have y0:x 214=.pointer (some ⟨g0,0,none⟩):=(D_ hd 1 :);have HF:=Z_ hF;clear hd hm hb hF;go_simp;exact hK'.out _ _ _ (by simp only [y0];rfl) trivial ⟨rfl,HF.out⟩
      ·refine aj.af rfl ?_
       have y0:x 215=.pointer (some ⟨g0,0,none⟩):=(D_ hd 2 :);have HF:=Z_ hF;clear hd hm hb hF;go_simp;exact hK'.out _ _ _ (by simp only [y0];rfl) trivial ⟨rfl,HF.out⟩
      ·refine aj.af rfl ?_
       have y0:x 216=.pointer (some ⟨g0,3,none⟩):=(D_ hd 3 :);have HF:=Z_ hF;clear hd hm hb hF;go_simp;exact hK'.out _ _ _ (by simp only [y0];rfl) trivial ⟨rfl,HF.out⟩
      ·refine aj.af rfl ?_
       have g_:=yB.out.ext (qY.ext hF);have hq:=(g_.cell (p:=⟨g0,6,none⟩) Le.out id).trans Ru.out;clear g_;have y0:x 217=.pointer (some ⟨g0,6,none⟩):=(D_ hd 4 :);have HF:=Z_ hF;clear hd hm hb hF;go_simp;exact hK'.out _ _ _ (by simp only [y0];rfl) trivial ⟨rfl,HF.out⟩
      ·refine aj.af rfl ?_
       have HF:=Z_ hF;clear hd hm hb hF;go_simp;exact hK'.out _ _ _ (rfl) trivial ⟨rfl,HF.out⟩
      ·refine aj.af rfl ?_
       have HF:=Z_ hF;clear hd hm hb hF;go_simp;exact hK'.out _ _ _ (rfl) trivial ⟨rfl,HF.out⟩
      ·refine aj.af rfl ?_
       obtain rfl:=kF hm;have y0:x 220=.pointer (some ⟨g0,0,none⟩):=(D_ hd 7 :);have HF:=Z_ hF;have kR:=Z_ (pR ji _ u (gm (Ext.keeps (yB.out.ext hF)) _ _ HT0.out) HI0.out);clear hd hm hb hF;go_simp;refine kR.out.mono ?_
       rintro e u2 ⟨rfl,rfl⟩;exact hK'.out _ _ _ (by simp only [y0];rfl) trivial ⟨rfl,HF.out⟩
      ·refine aj.af rfl ?_
       have HF:=Z_ hF;clear hd hm hb hF;go_simp;exact hK'.out _ _ _ (rfl) trivial ⟨rfl,HF.out⟩
      ·refine aj.af rfl ?_
       obtain⟨v0,rfl⟩:=lK hm
       have y0:x 219=.int .i64 m:=(D_ hd 6 :);have y1:x 221=v0:=((D_ hd 8) 221 (by kernel_rfl) :);have y2:x 222=.int .i64 ctx:=(D_ hd 9 :);obtain⟨rv,hF⟩:=hF;subst rv;have HF:=Z_ hF;clear hd hm hb hF;go_simp;exact hK'.out _ _ _ (by simp only [y0,y1,y2];rfl) trivial (⟨rfl,mY HF.out rfl⟩)
      ·refine aj.af rfl ?_
       obtain⟨v0,v1,rfl⟩:=qX hm
       have y0:x 213=.int .i64 (p:Nat):=(D_ hd 0 :);have y1:x 218=.int .i64 ji.ref.label:=(D_ hd 5 :);have y2:x 223=v1:=((D_ hd 10) 223 (by kernel_rfl) :);obtain⟨rv,hF⟩:=hF;subst rv;obtain⟨kG,g9,rfl,uO⟩:=hF;have uy:=Z_ (show Calls Tryz.prog 283 #[.int .i64 (p:Nat),.int .i64 (ji.ref.label),.slice (some ⟨g9,0,none⟩) 3 3] u (ju (ji.ref.label) [m,iD ji,ctx] (p:Nat) u) from jo (p:Nat) (ji.ref.label) (some ⟨g9,0,none⟩) 3 [m,iD ji,ctx] u (jZ uO) (Nat.le_refl _) (by simp));have NP:=Z_ kG;clear hd hm hb kG uO;go_simp;refine uy.out.mono ?_
       rintro e u2 ⟨hy1,hy2,rfl⟩;cases hfl:dQ (ji.ref.label) [m,iD ji,ctx] with
       | true=>
        obtain rfl:=hy1 hfl;exact hK'.out _ _ _ (by simp only [y0,y1,y2];rfl) trivial ⟨rfl,⟨hfl,NP.out⟩⟩
       | false=>
        obtain rfl:=hy2 hfl;have pO:=Z_ (show T=.bad 7 p from by rw [←kS.out,if_neg (by rw [Lh.out];decide),if_pos hfl]);clear u_ uy hy1 hy2;go_wp2_with fail
        rw [pO.out];exact⟨rfl,mL (tH.out.extend NP.out)⟩
     case Y4=>
      intro x9 qj wz hl hF hk9;obtain⟨v0,v1,v2,rfl⟩:=KR hl
      obtain⟨-,hfl,NQ⟩:=hF;have lM:=Z_ (tH.out.extend NQ);have pO:=Z_ (show T=.ok (.mk _ m ks gG 0 ctx,L) from by rw [←kS.out,if_neg (by rw [Lh.out];decide),if_neg (by rw [hfl];decide)]);clear u_ hfl NQ hk9 hl;go_wp2_with fail
      go_ret
      rw [pO.out];exact oO lM.out (by constructor<;>decide)
    | false=>
     obtain rfl:=hy2 hfl;have pO:=Z_ (show T=.bad 7 p from by rw [←kS.out,if_pos hfl]);clear u_ uy hy1 hy2;go_wp2_with fail
     rw [pO.out];exact⟨rfl,mL tH.out⟩
   ·have mW:=HS.out.x.cell
    have Ci:=HS.out.x.frozen;have hxl:=HS.out.x.lt;unfold jh at mW;have hr0:=HR0.out;rw [Nat.add_zero] at hr0;have hc0:=Aq.out 14 (by decide);replace hc0:wr.cell? ⟨g0,14,none⟩=some (.int .i64 ji.lab):=hc0;have hrb:=Dh.out;have hg0:=Le.out;have GK:0<j:=by rw [←qx.out];exact yU
    have hjq:(0:Int)<(j:Int):=by omega
    have hcc:=HS.out.cs.c.cell;unfold qw at hcc;obtain⟨p1,p2,p3,pbl,pmo,PM,-⟩:=HS.out.pc;have hpp:=HS.out.cs.p.cell;rw [PM] at hpp;obtain⟨gv,hgv⟩:∃ gv,pr.gives=gv:=⟨_,rfl⟩;rw [hgv] at hpp;have Y5:=Z_ PM;have Q7:=Z_ hgv;have jH:=u_.out;unfold t_ at jH;rw [TG.out,hgv] at jH;have kS:=Z_ (show (if (last&&gv)=false then .bad 2 p else if dQ pr.given [ji.lab]=false then .bad 7 p else .ok (.mk 14 m ks gG 0 ctx,L):Rz (Tr×List Loc))=T from jH);clear jH PM hgv;by_cases Rw:last=true∧gv=true
    ·obtain⟨rfl,rfl⟩:=Rw
     go_wp2_with fail
     refine(dK 2 (p:Nat) _).mono ?_
     rintro e w9 ⟨rfl,rfl⟩;have Y6:=Z_ hc0;have YZ:=Z_ hjq;have Y0:=Z_ GK;have HRR:=Z_ hr0;go_upto_region 34 with (fail)
     clear hcc hpp mW Ci hxl hr0 hc0 hrb hg0 GK hjq;refine di [18,19] (fun i v _=>v=([.int .i64 (p:Nat),.pointer (some ⟨C,0,none⟩),.pointer (some ⟨C,0,none⟩),.pointer (some ⟨C,5,none⟩),.pointer (some ⟨P,0,none⟩),.pointer (some ⟨P,0,none⟩),.pointer (some ⟨P,0,none⟩),.pointer (some ⟨P,5,none⟩),.int .i64 pr.given,.pointer (some ⟨X,0,none⟩),.pointer (some ⟨X,0,none⟩),.pointer (some ⟨X,2,none⟩),.slice (some ⟨rb,ro,none⟩) j rc,.pointer (some ⟨rb,ro,none⟩),.pointer (some ⟨g0,0,none⟩),.pointer (some ⟨g0,0,none⟩),.pointer (some ⟨g0,14,none⟩),.int .i64 ji.lab,undef,undef]:List Value).getD i undef) (jr w9 pr.given [ji.lab] 1) (fun _ _=>True) (frame:=?ad9) (fun x=>?Y7) bn.mixed (by kernel_rfl) (by kernel_rfl) (fun _ _ _ _ h _=>h) ?h0r ?str ?Y8
     case Y7=>
      simp only [chain.aK,chain.fill,chain.bf,chain.aW,jJ,jK,jL,jM,jO,jP,jQ,jR,jS];exact rfl
     case h0r=>exact(aB.refl _ _).drew
     case str=>
      iterate 20 (refine ai.cons (fun x vs u hF hm hb hd K' hK'=>?_) ?_;rotate_left)
      exact ai.nil
      ·refine aj.af rfl ?_
       have HF:=Z_ hF;clear hd hm hb hF;go_simp;exact hK'.out _ _ _ (rfl) trivial ⟨rfl,HF.out⟩
      ·refine aj.af rfl ?_
       have HF:=Z_ hF;clear hd hm hb hF;go_simp;exact hK'.out _ _ _ (rfl) trivial ⟨rfl,HF.out⟩
      ·refine aj.af rfl ?_
       have y0:x 241=.pointer (some ⟨C,0,none⟩):=(D_ hd 1 :);have HF:=Z_ hF;clear hd hm hb hF;go_simp;exact hK'.out _ _ _ (by simp only [y0];rfl) trivial ⟨rfl,HF.out⟩
      ·refine aj.af rfl ?_
       have y0:x 242=.pointer (some ⟨C,0,none⟩):=(D_ hd 2 :);have HF:=Z_ hF;clear hd hm hb hF;go_simp;exact hK'.out _ _ _ (by simp only [y0];rfl) trivial ⟨rfl,HF.out⟩
      ·refine aj.af rfl ?_
       have g_:=jr.ext hF;have hq:=(HS.out.extend g_).cs.c.cell;unfold qw at hq;clear g_;have y0:x 243=.pointer (some ⟨C,5,none⟩):=(D_ hd 3 :);have HF:=Z_ hF;clear hd hm hb hF;go_simp;exact hK'.out _ _ _ (by simp only [y0];rfl) trivial ⟨rfl,HF.out⟩
      ·refine aj.af rfl ?_
       have y0:x 244=.pointer (some ⟨P,0,none⟩):=(D_ hd 4 :);have HF:=Z_ hF;clear hd hm hb hF;go_simp;exact hK'.out _ _ _ (by simp only [y0];rfl) trivial ⟨rfl,HF.out⟩
      ·refine aj.af rfl ?_
       have y0:x 245=.pointer (some ⟨P,0,none⟩):=(D_ hd 5 :);have HF:=Z_ hF;clear hd hm hb hF;go_simp;exact hK'.out _ _ _ (by simp only [y0];rfl) trivial ⟨rfl,HF.out⟩
      ·refine aj.af rfl ?_
       have y0:x 246=.pointer (some ⟨P,0,none⟩):=(D_ hd 6 :);have HF:=Z_ hF;clear hd hm hb hF;go_simp;exact hK'.out _ _ _ (by simp only [y0];rfl) trivial ⟨rfl,HF.out⟩
      ·refine aj.af rfl ?_
       have g_:=jr.ext hF;have hq:=(HS.out.extend g_).cs.p.cell 5;rw [Y5.out] at hq;replace hq:u.cell? ⟨P,5,none⟩=some (.int .i64 pr.given):=hq;clear g_;have y0:x 247=.pointer (some ⟨P,5,none⟩):=(D_ hd 7 :);have HF:=Z_ hF;clear hd hm hb hF;go_simp;exact hK'.out _ _ _ (by simp only [y0];rfl) trivial ⟨rfl,HF.out⟩
      ·refine aj.af rfl ?_
       have HF:=Z_ hF;clear hd hm hb hF;go_simp;exact hK'.out _ _ _ (rfl) trivial ⟨rfl,HF.out⟩
      ·refine aj.af rfl ?_
       have y0:x 249=.pointer (some ⟨X,0,none⟩):=(D_ hd 9 :);have HF:=Z_ hF;clear hd hm hb hF;go_simp;exact hK'.out _ _ _ (by simp only [y0];rfl) trivial ⟨rfl,HF.out⟩
      ·refine aj.af rfl ?_
       have y0:x 250=.pointer (some ⟨X,0,none⟩):=(D_ hd 10 :);have HF:=Z_ hF;clear hd hm hb hF;go_simp;exact hK'.out _ _ _ (by simp only [y0];rfl) trivial ⟨rfl,HF.out⟩
      ·refine aj.af rfl ?_
       have g_:=jr.ext hF;have hq:=(HS.out.extend g_).x.cell 2;replace hq:u.cell? ⟨X,2,none⟩=some (.slice (some ⟨rb,ro,none⟩) j rc):=hq;clear g_;have y0:x 251=.pointer (some ⟨X,2,none⟩):=(D_ hd 11 :);have HF:=Z_ hF;clear hd hm hb hF;go_simp;exact hK'.out _ _ _ (by simp only [y0];rfl) trivial ⟨rfl,HF.out⟩
      ·refine aj.af rfl ?_
       have hj8:=YZ.out;have hj9:=Y0.out;have y0:x 252=.slice (some ⟨rb,ro,none⟩) j rc:=(D_ hd 12 :);have HF:=Z_ hF;clear hd hm hb hF;go_simp;exact hK'.out _ _ _ (by simp only [y0];rfl) trivial ⟨rfl,HF.out⟩
      ·refine aj.af rfl ?_
       have g_:=jr.ext hF;have hq:=(g_.cell (p:=⟨rb,ro,none⟩) Dh.out id).trans HRR.out;clear g_;have y0:x 253=.pointer (some ⟨rb,ro,none⟩):=(D_ hd 13 :);have HF:=Z_ hF;clear hd hm hb hF;go_simp;exact hK'.out _ _ _ (by simp only [y0];rfl) trivial ⟨rfl,HF.out⟩
      ·refine aj.af rfl ?_
       have y0:x 254=.pointer (some ⟨g0,0,none⟩):=(D_ hd 14 :);have HF:=Z_ hF;clear hd hm hb hF;go_simp;exact hK'.out _ _ _ (by simp only [y0];rfl) trivial ⟨rfl,HF.out⟩
      ·refine aj.af rfl ?_
       have y0:x 255=.pointer (some ⟨g0,0,none⟩):=(D_ hd 15 :);have HF:=Z_ hF;clear hd hm hb hF;go_simp;exact hK'.out _ _ _ (by simp only [y0];rfl) trivial ⟨rfl,HF.out⟩
      ·refine aj.af rfl ?_
       have g_:=jr.ext hF;have hq:=(g_.cell (p:=⟨g0,14,none⟩) Le.out id).trans Y6.out;clear g_;have y0:x 256=.pointer (some ⟨g0,14,none⟩):=(D_ hd 16 :);have HF:=Z_ hF;clear hd hm hb hF;go_simp;exact hK'.out _ _ _ (by simp only [y0];rfl) trivial ⟨rfl,HF.out⟩
      ·refine aj.af rfl ?_
       obtain rfl:=kF hm;have y0:x 257=.int .i64 ji.lab:=(D_ hd 17 :);have HF:=Z_ hF;clear hd hm hb hF;go_simp;exact hK'.out _ _ _ (by simp only [y0];rfl) trivial (mY HF.out rfl)
      ·refine aj.af rfl ?_
       obtain⟨v0,rfl⟩:=lK hm
       have y0:x 240=.int .i64 (p:Nat):=(D_ hd 0 :);have y1:x 248=.int .i64 pr.given:=(D_ hd 8 :);have y2:x 258=v0:=((D_ hd 18) 258 (by kernel_rfl) :);obtain⟨kG,g9,rfl,uO⟩:=hF;have uy:=Z_ (show Calls Tryz.prog 283 #[.int .i64 (p:Nat),.int .i64 (pr.given),.slice (some ⟨g9,0,none⟩) 1 1] u (ju (pr.given) [ji.lab] (p:Nat) u) from jo (p:Nat) (pr.given) (some ⟨g9,0,none⟩) 1 [ji.lab] u (jZ uO) (Nat.le_refl _) (by simp));have NP:=Z_ kG;clear hd hm hb kG uO;go_simp;refine uy.out.mono ?_
       rintro e u2 ⟨hy1,hy2,rfl⟩;cases hfl:dQ (pr.given) [ji.lab] with
       | true=>
        obtain rfl:=hy1 hfl;exact hK'.out _ _ _ (by simp only [y0,y1,y2];rfl) trivial ⟨hfl,NP.out⟩
       | false=>
        obtain rfl:=hy2 hfl;have pO:=Z_ (show T=.bad 7 p from by rw [←kS.out,if_neg (by decide),if_pos hfl]);clear u_ uy hy1 hy2;go_wp2_with fail
        rw [pO.out];exact⟨rfl,mL (HS.out.extend NP.out)⟩
     case Y8=>
      intro x9 qj wz hl hF hk9;obtain⟨v0,v1,rfl⟩:=CV hl
      obtain⟨hfl,NQ⟩:=hF;have lM:=Z_ (HS.out.extend NQ);have pO:=Z_ (show T=.ok (.mk _ m ks gG 0 ctx,L) from by rw [←kS.out,if_neg (by decide),if_neg (by rw [hfl];decide)]);clear u_ hfl NQ hk9 hl;go_wp2_with fail
      go_ret
      rw [pO.out];exact oO lM.out (by constructor<;>decide)
    ·have pO:=Z_ (show T=.bad 2 p from by rw [←kS.out,if_pos (by cases last<;>cases gv<;>simp_all)])
     have hkey:last=false∨(last=true∧gv=false):=by cases last<;>cases gv<;>simp_all
     clear u_ kS Rw;rcases hkey with rfl|⟨rfl,rfl⟩
     ·go_wp2_with fail
      refine(eY 2 (p:Nat) _).mono ?_
      rintro e w9 ⟨rfl,rfl⟩;go_wp2_with fail
      rw [pO.out];exact⟨rfl,mL HS.out⟩
     ·go_wp2_with fail
      refine(eY 2 (p:Nat) _).mono ?_
      rintro e w9 ⟨rfl,rfl⟩;go_wp2_with fail
      rw [pO.out];exact⟨rfl,mL HS.out⟩
end chk
end Go.Proofs.YtpcihajmcejliacGreatDoor
