/- The walk of the checker's stat. -/
import Derived.Test.YtpcihajmcejliacGreatDoorChkKo
namespace Go.Proofs.YtpcihajmcejliacGreatDoor
open Go.RowKit
namespace chk
open bu cG
def vh (z:Value) (pre:World→Prop) (sb:Value→List Loc→Array Value→World→Value→Value→List Tr→Prop) (X:Nat) (row:Value) (ks:List Tr) (T:Rz (Tr×List Loc)):List Value→World→Prop
 | [],u=>pre u
 | v::r,u=>v=z∧pJ pre sb X row ks T r u
theorem vh.any {z:Value} {pre:World→Prop} {sb:Value→List Loc→Array Value→World→Value→Value→List Tr→Prop} {X:Nat} {row:Value} {ks:List Tr} {T:Rz (Tr×List Loc)} {vs:List Value} {u:World} {Q:Prop} (h:vh z pre sb X row ks T vs u) (h1:pre u→Q) (h2:∀ vl L pc rN r lq,sb vl L pc u rN r lq→Q):Q:=by
 match vs,h with
 | [],h=>exact h1 h
 | _::_,h=>exact pJ.any h.2 h1 h2
theorem vh.low {z:Value} {pre:World→Prop} {sb:Value→List Loc→Array Value→World→Value→Value→List Tr→Prop} {X:Nat} {row:Value} {ks:List Tr} {T:Rz (Tr×List Loc)} {vs:List Value} {u:World} {Q:Prop} (h:vh z pre sb X row ks T vs u) (hl:vs.length≤3) (h1:pre u→Q) (h2:∀ vl L pc,sb vl L pc u row row ks→Q):Q:=by
 match vs,hl,h with
 | [],_,h=>exact h1 h
 | _::_,hl,h=>exact pJ.low h.2 (by simpa using hl) h1 h2
theorem vh.pre {z:Value} {pre:World→Prop} {sb:Value→List Loc→Array Value→World→Value→Value→List Tr→Prop} {X:Nat} {row:Value} {ks:List Tr} {T:Rz (Tr×List Loc)} {vs:List Value} {u:World} (h:vh z pre sb X row ks T vs u) (hl:vs.length≤1):pre u:=by
 match vs,hl,h with
 | [],_,h=>exact h
 | [_],_,h=>exact h.2
def NS (ks:List Tr):Option Int:=ks.head?.map Tr.lab
theorem Rw (ks:List Tr) (y:Tr):NS (ks ++ [y])=some ((NS ks).getD y.lab):=by
 cases ks<;>rfl
def vk (E:dI) (pr:aI) (ctx:Int) (alone:Bool) (L:List Loc) (deep:Int) (l:List Nd) (p:Nat) (ks:List Tr):Rz (List Tr):=(kT E pr ctx alone L deep l (NS ks) p).bind fun ys=>.ok (ks++ys)
theorem GN {E:dI} {pr:aI} {ctx:Int} {alone:Bool} {L:List Loc} {deep:Int} {x:Nd} {r:List Nd} {p:Nat} {ks:List Tr}:vk E pr ctx alone L deep (x::r) p ks=match (if x.kd=6 then zC E pr (iM ctx ((NS ks).getD 0)) false L (deep+1) x p else x_ E L ctx alone x p) with
 | .bad c q=>.bad c q
 | .ok y=>vk E pr ctx alone L deep r (p+fL x) (ks ++ [y]):=by
 unfold vk;rw [kT];cases (if x.kd=6 then zC E pr (iM ctx ((NS ks).getD 0)) false L (deep+1) x p else x_ E L ctx alone x p) with
 | bad c q=>rfl
 | ok y=>
  simp only [Rz.bind];rw [Rw];cases kT E pr ctx alone L deep r (some ((NS ks).getD y.lab)) (p+fL x) with
  | bad c q=>rfl
  | ok ys=>simp
theorem GR {k:Int} {t:ByteArray} {m:Int} {l:List Nd} (h:Form k t m l) (hk:t_ k):(∀ y∈l,y.kd=6∨mF y.kd)∧(∀ (h:0<l.length),l[0].kd≠6)∧0<l.length∧(k=8→l.length=2):=by
 unfold t_ at hk;have pe:∀ {y:Nd},UA y.kd→mF y.kd:=fun h=>Rx.PW h
 have ne:∀ {y:Nd},mF y.kd→y.kd≠6:=fun h=>by unfold mF at h;omega
 have l1:∀ {y:Nd},mF y.kd→∀ z∈[y],z.kd=6∨mF z.kd:=fun h z hz=>by rw [List.mem_singleton] at hz;subst hz;exact .inr h
 cases h
 all_goals first
  | (exfalso;omega)
  | skip
 case loc x hx ht h0 h1=>exact⟨l1 hx,fun _=>ne hx,by simp,fun h=>by omega⟩
 case set p x hp hx=>exact⟨fun z hz=>by simp only [List.mem_cons,List.not_mem_nil,or_false] at hz;rcases hz with rfl|rfl;exact .inr (pe hp);exact .inr hx,fun _=>ne (pe hp),by simp,fun _=>rfl⟩
 case do_ c hc=>exact⟨l1 (by rw [hc];unfold mF;omega),fun _=>by show c.kd≠6;rw [hc];decide,by simp,fun h=>by omega⟩
 case if2 x b hx hb=>exact⟨fun z hz=>by simp only [List.mem_cons,List.not_mem_nil,or_false] at hz;rcases hz with rfl|rfl;exact .inr hx;exact .inl hb,fun _=>ne hx,by simp,fun h=>by omega⟩
 case if3 x b c hx hb hc=>exact⟨fun z hz=>by simp only [List.mem_cons,List.not_mem_nil,or_false] at hz;rcases hz with rfl|rfl|rfl;exact .inr hx;exact .inl hb;exact .inl hc,fun _=>ne hx,by simp,fun h=>by omega⟩
 case JV x b hx hb=>exact⟨fun z hz=>by simp only [List.mem_cons,List.not_mem_nil,or_false] at hz;rcases hz with rfl|rfl;exact .inr hx;exact .inl hb,fun _=>ne hx,by simp,fun h=>by omega⟩
 case out x hx h0 h1=>exact⟨l1 hx,fun _=>ne hx,by simp,fun h=>by omega⟩
 case inp x hx h0 h1=>exact⟨l1 (pe hx),fun _=>ne (pe hx),by simp,fun h=>by omega⟩
 case ret x hx=>exact⟨l1 hx,fun _=>ne hx,by simp,fun h=>by omega⟩
theorem JW {X Kb S i:Nat} {row vl:Value} (hr:∀ i,row.ownBlock=some i→i<Kb) (hv:∀ i,vl.ownBlock=some i→i<Kb) (hx:X<Kb) (hs:Kb<S) (hm:below S i=false):(bg (X+1) row i || cG.ownB vl i)=false:=by
 simp only [below,bg,cG.ownB,Bool.or_eq_false_iff,decide_eq_false_iff_not] at hm ⊢;exact⟨⟨by omega,fun e=>by have:=hr i e;omega⟩,fun e=>by have:=hv i e;omega⟩
theorem GU {w:World} {X:Nat→Bool} {B:Nat} {row:Value} {ks:List Tr} (h:jk X 1 219 AK B w row ks):∃ a c,row=.slice a ks.length c∧bC 1 A7 w a ks:=by
 obtain⟨a,c,e,-,-,h3⟩:=tZ h bZ rW;exact⟨a,c,e,h3.keeps (ah _ _) (kK (ah _ _))⟩
theorem GV {w:World} {X:Nat→Bool} {B:Nat} {row:Value} {ks:List Tr} (h:jk X 1 219 AK B w row ks) (hp:0<ks.length):∃ rb ro g0 c,row=.slice (some ⟨rb,ro,none⟩) ks.length c∧rb<w.heap.size∧g0<w.heap.size∧w.cell? ⟨rb,ro,none⟩=some (.pointer (some ⟨g0,0,none⟩))∧w.cell? ⟨g0,14,none⟩=some (.int .i64 ((NS ks).getD 0)):=by
 obtain⟨a,c,e,h3⟩:=GU h;obtain⟨rb,ro,rfl,hb,u,hu,ht⟩:=h3 0 hp;obtain⟨g,a2,c2,p0,p1,p2,p3,p4,p5,rfl,hg,hc,-⟩:=nR ht;refine⟨rb,ro,g,c,e,hb,hg,by simpa using hu,(hc 14 (by decide)).trans ?_⟩
 cases ks with
 | nil=>cases hp
 | cons y r=>rfl
set_option maxRecDepth 100000 in
set_option maxHeartbeats 32000000 in
theorem wO {W:World} {C Mo D K P B:Nat} {E:dI} {cO dw:Value} {dc:Array Value} {pr:aI} {H:Nat→Bool} (hmv:cE W) (x:Nd) (his:jw x) (hks:t_ x.kd) (VD:∀ y∈x.kids,y.kd=6→wI W C Mo D K P B E cO dw dc pr H y):FH W C Mo D K P B E cO dw dc pr H x:=by
 intro v last ctx u p vl L deep pc hCS hpc hnd hsz hL hd0 hd1;obtain⟨k,t,m,l⟩:=x;have hkids:=his.kids;obtain⟨hfk,hf0,hpos,hf8⟩:=GR his.form hks;have HFK:=Z_ hfk;have o_:=Z_ hf0;have Zw:=Z_ hf8;have HIS:=Z_ (show ∀ y∈l,jw y from hkids);have ah4:=Z_ his.form;rw [dL] at hnd;obtain⟨a,cc,rfl,hl1,hl2,hl3,hl4⟩:=hnd;have UB:=Z_ hl3;obtain⟨T,hT⟩:∃ T,FI E pr ctx last L deep (.mk k t m l) p=T:=⟨_,rfl⟩;rw [hT];rw [FI] at hT;have HIH:=Z_ (show ∀ y∈l,y.kd=6→wI W C Mo D K P B E cO dw dc pr H y from VD);obtain⟨N,hN⟩:∃ N,l.length=N:=⟨_,rfl⟩;rw [hN] at hl1 ⊢;have HN:=Z_ hN;obtain⟨pe,hpe⟩:∃ pe,p+fL (.mk k t m l)=pe:=⟨_,rfl⟩;have JD:deep+(kV l:Int)+1≤2000:=by simp only [fL] at hd1;omega
 rw [hpe] at hsz ⊢;have Bd:p+1+kV l=pe:=by rw [←hpe];simp only [fL];omega
 have VE:=Z_ Bd;have HI:=Z_ (fun (u:World) (hE:Ext W u)=>hl4.keeps (aH hE fun i _ e=>e.elim) fun b o y=>g_ (aH hE fun i _ e=>e.elim) b o y);obtain⟨ba,hba⟩:∃ ba,(k == 9)=ba:=⟨_,rfl⟩;have VX:decide (k=9)=ba:=by rw [←hba];by_cases e:k=9<;>simp [e]
 rw [VX] at hT;have HBA:=Z_ hba;obtain⟨TR,Zx⟩:∃ TR,kT E pr ctx ba L deep l none (p+1)=TR:=⟨_,rfl⟩;rw [Zx] at hT;have ru:=Z_ (show (TR.bind fun ks=>uZ pr L deep ctx last k t m ks p)=T from hT);have HST:=Z_ Zx;have HT:=Z_ (show vk E pr ctx ba L deep l (p+1) []=TR by rw [←Zx];unfold vk;show (kT E pr ctx ba L deep l none (p+1)).bind _=_;cases kT E pr ctx ba L deep l none (p+1)<;>rfl);have JE:=Z_ (fun i e=>(bn hCS.loc i e).2);have Ux:=Z_ hL;have GG:=Z_ hCS.hu;have wK:=Z_ (And.intro hd0 JD);have uD:=Z_ hmv;have HKS:=Z_ (show t_ k from hks);have hE0:=(aB.refl (fun _=>False) u).alloc (.cells #[.int .i64 k,.string t,.int .i64 m,.slice a N cc] 24);have HC:=Z_ (hCS.extend hE0);have HB:=Z_ (aC.made u #[.int .i64 k,.string t,.int .i64 m,.slice a N cc] 24)
 have HE:=Z_ (hE0.weak (S':=LS C P vl) fun _ _ e=>e.elim);have VG:=Z_ hpc;obtain⟨Nb,hNb⟩:∃ Nb,u.heap.size=Nb:=⟨_,rfl⟩;have DW:=Z_ hNb;rw [hNb] at HB JE GG;have hNl:N≤1000:=by have h1:=oO l;omega
 have VY:=Z_ (show 0<N by rw [←hN];exact hpos);have hp:p≤1000:=by omega
 obtain⟨n,hn⟩:∃ n,L.length=n:=⟨_,rfl⟩;have yJ:=Z_ hn;have aa6:n≤20:=by omega
 clear hE0 hCS hl4 hT Zx VD hN hpe Bd hpc hL hd0 hd1 JD hn hkids hfk hf0 hpos hf8 his hks hmv hba VX;go_enter Tryz.func235,Tryz.ntmps235
 go_upto_region 1 with (fail)
 try rw [hNb]
 generalize u.alloc (.cells #[.int .i64 k,.string t,.int .i64 m,.slice a N cc] 24)=u1 at *;go_wp2_with fail
 refine(next_any HC.out.c (by omega) (by omega)).mono ?_
 rintro e w2 ⟨rfl,hC2,hB2⟩;have HC2:=Z_ (HC.out.lQ hC2 hB2);have HB2:=Z_ (HB.out.aK hC2 (by have:=HC.out.cB;have:=GG.out;omega));have lG:=Z_ (HE.out.then (hC2.weak fun i _ e=>.inl e));clear hC2 hB2 HC HB HE;have hbc:=HB2.out.cell;obtain⟨la,lc,hvl,-,-⟩:=dZ HC2.out.loc;rw [yJ.out] at hvl;subst hvl;go_upto_region 3 with (fail)
 have HX:=Z_ (show aC (w2.alloc (.cells #[.int .i64 k,.int .i64 m,.slice none 0 0,.int .i64 0,.string ⟨#[]⟩,.string ⟨#[]⟩,.int .i64 0,.int .i64 0,.string ⟨#[]⟩,.bool false,.slice none 0 0,.int .i64 0,.bool false,.int .i64 0,.int .i64 0,.int .i64 ctx] 345)) w2.heap.size #[.int .i64 k,.int .i64 m,.slice none 0 0,.int .i64 0,.string ⟨#[]⟩,.string ⟨#[]⟩,.int .i64 0,.int .i64 0,.string ⟨#[]⟩,.bool false,.slice none 0 0,.int .i64 0,.bool false,.int .i64 0,.int .i64 0,.int .i64 ctx] 345 from aC.made w2 _ _);have HB3:=Z_ (HB2.out.alloc (.cells #[.int .i64 k,.int .i64 m,.slice none 0 0,.int .i64 0,.string ⟨#[]⟩,.string ⟨#[]⟩,.int .i64 0,.int .i64 0,.string ⟨#[]⟩,.bool false,.slice none 0 0,.int .i64 0,.bool false,.int .i64 0,.int .i64 0,.int .i64 ctx] 345));have wu:=Z_ (HC2.out.extend ((aB.refl _ w2).alloc (.cells #[.int .i64 k,.int .i64 m,.slice none 0 0,.int .i64 0,.string ⟨#[]⟩,.string ⟨#[]⟩,.int .i64 0,.int .i64 0,.string ⟨#[]⟩,.bool false,.slice none 0 0,.int .i64 0,.bool false,.int .i64 0,.int .i64 0,.int .i64 ctx] 345)))
 have qW:=Z_ (lG.out.alloc (.cells #[.int .i64 k,.int .i64 m,.slice none 0 0,.int .i64 0,.string ⟨#[]⟩,.string ⟨#[]⟩,.int .i64 0,.int .i64 0,.string ⟨#[]⟩,.bool false,.slice none 0 0,.int .i64 0,.bool false,.int .i64 0,.int .i64 0,.int .i64 ctx] 345));obtain⟨X,hX⟩:∃ X,w2.heap.size=X:=⟨_,rfl⟩;rw [hX] at HX;have xU:Nb<X:=by have:=HB2.out.lt;omega
 try rw [hX]
 clear hbc hX HC2 HB2 lG;generalize w2.alloc (.cells #[.int .i64 k,.int .i64 m,.slice none 0 0,.int .i64 0,.string ⟨#[]⟩,.string ⟨#[]⟩,.int .i64 0,.int .i64 0,.string ⟨#[]⟩,.bool false,.slice none 0 0,.int .i64 0,.bool false,.int .i64 0,.int .i64 0,.int .i64 ctx] 345)=u3 at *;have QX:=Z_ (show SB W u u3 C Mo D K P B Nb X E (.slice la n lc) (.slice la n lc) L deep ((p+1):Nat) cO dw dc pc pr #[.int .i64 k,.string t,.int .i64 m,.slice a N cc] (fun rv=>jr k m rv gq (.string ⟨#[]⟩) (.bool false) (.slice none 0 0) (.int .i64 0) (.bool false) (.int .i64 0) 0 ctx) (.slice none 0 0) (.slice none 0 0) [] from⟨wu.out,VG.out,HB3.out,HX.out,tX _ _ _ _ _ _,qW.out,fun i e=>.inl ⟨e,JE.out i e⟩,fun i e=>(by cases e),by have:=DW.out;omega,GG.out,xU⟩);clear wu VG HB3 HX qW;have hbc:=QX.out.nb.cell;go_wp2_with fail
 clear hbc;go_loopw [30] (fun i wr=>∃ (j q:Nat) (row DX:Value) (ks:List Tr) (FK:Array Value),j≤N∧i=.int .i64 (j:Nat)∧Hid (ks.length=j)∧Hid (q+kV (l.drop j)=pe)∧Hid (vk E pr ctx ba L deep (l.drop j) q ks=TR)∧Hid (SB W u wr C Mo D K P B Nb X E (.slice la n lc) DX L deep (q:Nat) cO dw dc FK pr #[.int .i64 k,.string t,.int .i64 m,.slice a N cc] (fun rv=>jr k m rv gq (.string ⟨#[]⟩) (.bool false) (.slice none 0 0) (.int .i64 0) (.bool false) (.int .i64 0) 0 ctx) row row ks)) (fun i _=>N-(intOf i).toNat)
 case atStart=>exact⟨0,p+1,.slice none 0 0,.slice la n lc,[],_,Nat.zero_le _,rfl,Z_ rfl,Z_ (by have:=VE.out;rw [List.drop_zero];exact this),by rw [List.drop_zero];exact HT,QX⟩
 clear QX HT
 case round=>
  obtain⟨j,q,row,DX,ks,FK,hj,rfl,qL,HQ,HT,HS⟩:=hrel;by_cases hlt:j<N
  ·have hji:(j:Int)<(N:Int):=by omega
   have hjd:decide ((j:Int)<(N:Int))=true:=by simpa using hji
   have hjl:j<l.length:=by rw [HN.out];exact hlt
   obtain⟨b,o,rfl,hb,uv,hu,hus,hcl⟩:=HI.out W (aB.refl _ _) j hjl;rw [bT] at hb;have hE:=HS.out.cs.ext;have hbl:=Nat.lt_of_lt_of_le hb hE.size;have NJ:=Z_ (HIH.out l[j] (List.getElem_mem hjl));have HFY:=Z_ (HFK.out l[j] (List.getElem_mem hjl));have VZ:=Z_ (HIS.out l[j] (List.getElem_mem hjl))
   have HJ0:=Z_ (show l[j].kd=6→0<j from fun e=>by
    rcases Nat.eq_zero_or_pos j with h0|h0
    ·subst h0;exact absurd e (o_.out hjl)
    ·exact h0)
   have hT:=HT.out;rw [List.drop_eq_getElem_cons hjl,GN] at hT;have hQ:=HQ.out;rw [List.drop_eq_getElem_cons hjl] at hQ;simp only [kV] at hQ;have NK:=Z_ (show fL l[j]≤kV l by have h1:=VH.DY l j;rw [List.drop_eq_getElem_cons hjl] at h1;simp only [kV] at h1;omega);have HKD:=Z_ (show (l[j]).kd=(l[j]).kd from rfl);generalize l[j]=y at hu hT hQ NJ NK HFY VZ HJ0 HKD;have HU:=Z_ hu;obtain⟨k1,t1,m1,a1,N1,c1,rfl⟩:=cH hu
   have hyk:y.kd=k1:=by
    obtain⟨k9,t9,m9,l9⟩:=y;rw [dL] at hu;obtain⟨_,_,e9,-⟩:=hu;injection e9 with e9
    injection e9 with e9
    injection e9 with e9 _
    injection e9 with _ e9
    exact e9.symm
   rw [hyk] at hT;have HYK:=Z_ hyk;have q0:wr.cell? ⟨b,o+j*4,none⟩=some (.int .i64 k1):=(hE.cell (p:=⟨b,o+j*4,none⟩) hb id).trans ((ah _ W).2 _ _ ((hcl 0 (by decide)).trans rfl));have q1:wr.cell? ⟨b,o+j*4+1,none⟩=some (.string t1):=(hE.cell (p:=⟨b,o+j*4+1,none⟩) hb id).trans ((ah _ W).2 _ _ ((hcl 1 (by decide)).trans rfl));have q2:wr.cell? ⟨b,o+j*4+2,none⟩=some (.int .i64 m1):=(hE.cell (p:=⟨b,o+j*4+2,none⟩) hb id).trans ((ah _ W).2 _ _ ((hcl 2 (by decide)).trans rfl));have q3:wr.cell? ⟨b,o+j*4+3,none⟩=some (.slice a1 N1 c1):=(hE.cell (p:=⟨b,o+j*4+3,none⟩) hb id).trans ((ah _ W).2 _ _ ((hcl 3 (by decide)).trans rfl));have HK:=Z_ (aC.made wr #[.int .i64 k1,.string t1,.int .i64 m1,.slice a1 N1 c1] 24);have wL:=Z_ (HS.out.extend ((aB.refl (fun _=>False) wr).alloc (.cells #[.int .i64 k1,.string t1,.int .i64 m1,.slice a1 N1 c1] 24)))
   have hw5:=HS.out.x.lt;have DZ:=Z_ (fun i e=>(bH HS.out.grow i e).2);have QY:=Z_ (fun i e=>(bn HS.out.cs.loc i e).2);obtain⟨Kb,hKb⟩:∃ Kb,wr.heap.size=Kb:=⟨_,rfl⟩;rw [hKb] at HK hw5 DZ QY;have DC:=Z_ hw5;have HT2:=Z_ hT;have pI:=Z_ hQ;clear hT hQ HT HQ hcl hus hu hw5 HS hE hyk HKD;go_upto_region 7 with (fail)
   try rw [hKb]
   generalize wr.alloc (.cells #[.int .i64 k1,.string t1,.int .i64 m1,.slice a1 N1 c1] 24)=u5 at *;clear q0 q1 q2 q3 hKb;obtain⟨ra,rc,hrow,-,-⟩:=cG.mO wL.out.grow;rw [qL.out] at hrow;subst hrow;have hkc:=HK.out.cell;have hkl:=HK.out.lt;by_cases h6:k1=6
   ·have h6b:(k1 == 6)=true:=by simpa using h6
    have hj0:=HJ0.out (HYK.out.trans h6);subst h6
    have HT3:=Z_ (show (match zC E pr (iM ctx ((NS ks).getD 0)) false L (deep+1) y q with
     | .bad c q=>(.bad c q:Rz (List Tr))
     | .ok y_1=>vk E pr ctx ba L deep (l.drop (j+1)) (q+fL y) (ks ++ [y_1]))=TR from by have h:=HT2.out;rw [if_pos rfl] at h;exact h)
    have hcc:=wL.out.cs.c.cell;have hcf:=wL.out.cs.c.frozen;have hcl:=wL.out.cs.c.lt;unfold qK at hcc;have hwd:IntKind.i64.wrap (deep+1)=deep+1:=IntWalk.i64_in _ (by have:=wK.out;omega);have jM:=Z_ (wL.out.lQ (deep':=deep+1) (ai (aB.refl _ u5) 3 (.int .i64 (deep+1))) (wL.out.cs.c.set 3 (.int .i64 (deep+1))));have HKA:=Z_ (HK.out.setOther (p:=⟨C,3,none⟩) (by have h1:=wL.out.cs.cB;have h3:=wL.out.hB;have h4:=wL.out.xU;have h5:=DC.out;show Kb≠C;omega) (.int .i64 (deep+1)));obtain⟨rb,ro,g0,rc2,hrw,hrb,hg0,hr0,hl0⟩:=GV jM.out.grow (by rw [qL.out];exact hj0);rw [qL.out] at hrw;obtain⟨yf,PY⟩:∃ yf,(NS ks).getD 0=yf:=⟨_,rfl⟩;rw [PY] at hl0;rw [PY] at HT3;injection hrw with hra _ hrc
    subst hra;subst hrc;have Ry:=Z_ (And.intro (And.intro hrb hg0) (And.intro hr0 hl0));have HBK:=Z_ (NJ.out (HYK.out));clear hr0 hl0 hrb hg0 HT2;go_upto_region 9 with (fail)
    clear hkc hkl hcc hcf hcl;generalize u5.setCell ⟨C,3,none⟩ (.int .i64 (deep+1))=u6 at *;refine dm [17,18,19,20,23] (fun i v _=>v=([.pointer (some ⟨X,0,none⟩),.pointer (some ⟨X,0,none⟩),.pointer (some ⟨X,0,none⟩),.pointer (some ⟨X,2,none⟩),.slice (some ⟨rb,ro,none⟩) j rc,.pointer (some ⟨C,0,none⟩),.agg #[.int .i64 6,.string t1,.int .i64 m1,.slice a1 N1 c1],.int .i64 ctx,.pointer (some ⟨X,0,none⟩),.pointer (some ⟨X,0,none⟩),.pointer (some ⟨X,2,none⟩),.slice (some ⟨rb,ro,none⟩) j rc,.pointer (some ⟨rb,ro,none⟩),.pointer (some ⟨g0,0,none⟩),.pointer (some ⟨g0,0,none⟩),.pointer (some ⟨g0,14,none⟩),.int .i64 yf,undef,undef,undef,undef,.pointer (some ⟨X,0,none⟩),.pointer (some ⟨X,2,none⟩),undef]:List Value).getD i undef) (vh (.int .i64 (iM ctx yf)) (fun u9=>(SB W u u9 C Mo D K P B Nb X E (.slice la n lc) DX L (deep+1) (q:Nat) cO dw dc FK pr #[.int .i64 k,.string t,.int .i64 m,.slice (some ⟨b,o,none⟩) N cc] (fun rv=>jr k m rv gq (.string ⟨#[]⟩) (.bool false) (.slice none 0 0) (.int .i64 0) (.bool false) (.int .i64 0) 0 ctx) (.slice (some ⟨rb,ro,none⟩) j rc) (.slice (some ⟨rb,ro,none⟩) j rc) ks∧aC u9 Kb #[.int .i64 6,.string t1,.int .i64 m1,.slice a1 N1 c1] 24)∧(rb<u9.heap.size∧g0<u9.heap.size)∧u9.cell? ⟨rb,ro,none⟩=some (.pointer (some ⟨g0,0,none⟩))∧u9.cell? ⟨g0,14,none⟩=some (.int .i64 yf)) (fun FM L9 I7 u9 Q3 r9 Q4=>SB W u u9 C Mo D K P B Nb X E (.slice la n lc) FM L (deep+1) ((q+fL y):Nat) cO dw dc I7 pr #[.int .i64 k,.string t,.int .i64 m,.slice (some ⟨b,o,none⟩) N cc] (fun rv=>jr k m rv gq (.string ⟨#[]⟩) (.bool false) (.slice none 0 0) (.int .i64 0) (.bool false) (.int .i64 0) 0 ctx) Q3 r9 Q4∧aC u9 Kb #[.int .i64 6,.string t1,.int .i64 m1,.slice a1 N1 c1] 24) X (.slice (some ⟨rb,ro,none⟩) j rc) ks ((zC E pr (iM ctx yf) false L (deep+1) y q).bind fun t=>.ok (t,L))) (fun _ _=>True) (frame:=?aa3) (fun x=>?QN) bu.mixed (by kernel_rfl) (by kernel_rfl) (fun _ _ _ _ h _=>h) ?h0k ?stk ?QO
    case QN=>
     simp only [chain.aN,chain.fill,chain.bf,chain.aY,jW,jX,jY,jZ,kz,kC,kD,kE,kF];exact rfl
    case h0k=>exact⟨⟨jM.out.extend (aB.refl _ _).drew,HKA.out.drew⟩,Ry.out⟩
    case stk=>
     iterate 24 (refine ak.cons (fun x vs u hF hm hb hd K' hK'=>?_) ?_;rotate_left)
     exact ak.nil
     ·refine az.af rfl ?_
      have HF:=Z_ hF;clear hd hm hb hF;go_simp;exact hK'.out _ _ _ (rfl) trivial ⟨rfl,HF.out⟩
     ·refine az.af rfl ?_
      have HF:=Z_ hF;clear hd hm hb hF;go_simp;exact hK'.out _ _ _ (rfl) trivial ⟨rfl,HF.out⟩
     ·refine az.af rfl ?_
      have y0:x 62=.pointer (some ⟨X,0,none⟩):=(D_ hd 1 :);have HF:=Z_ hF;clear hd hm hb hF;go_simp;exact hK'.out _ _ _ (by simp only [y0];rfl) trivial ⟨rfl,HF.out⟩
     ·refine az.af rfl ?_
      have y0:x 63=.pointer (some ⟨X,0,none⟩):=(D_ hd 2 :);have HF:=Z_ hF;clear hd hm hb hF;go_simp;exact hK'.out _ _ _ (by simp only [y0];rfl) trivial ⟨rfl,HF.out⟩
     ·refine az.af rfl ?_
      have hq:=vh.low hF (by have:=hb 3 _ (by decide) rfl (by kernel_rfl);omega) (Q:=u.cell? ⟨X,2,none⟩=some (.slice (some ⟨rb,ro,none⟩) j rc)) (fun h=>(h.1.1.x.cell 2).trans rfl) (fun _ _ _ h=>(h.1.x.cell 2).trans rfl);have y0:x 64=.pointer (some ⟨X,2,none⟩):=(D_ hd 3 :);have HF:=Z_ hF;clear hd hm hb hF;go_simp;exact hK'.out _ _ _ (by simp only [y0];rfl) trivial ⟨rfl,HF.out⟩
     ·refine az.af rfl ?_
      have HF:=Z_ hF;clear hd hm hb hF;go_simp;exact hK'.out _ _ _ (rfl) trivial ⟨rfl,HF.out⟩
     ·refine az.af rfl ?_
      have hq:=vh.any hF (Q:=∀ o9,u.cell? ⟨Kb,o9,none⟩=#[.int .i64 6,.string t1,.int .i64 m1,.slice a1 N1 c1][o9]?) (fun h=>h.1.2.cell) (fun _ _ _ _ _ _ h=>h.2.cell);have HF:=Z_ hF;clear hd hm hb hF;go_simp;exact hK'.out _ _ _ (rfl) trivial ⟨rfl,HF.out⟩
     ·refine az.af rfl ?_
      have HF:=Z_ hF;clear hd hm hb hF;go_simp;exact hK'.out _ _ _ (rfl) trivial ⟨rfl,HF.out⟩
     ·refine az.af rfl ?_
      have HF:=Z_ hF;clear hd hm hb hF;go_simp;exact hK'.out _ _ _ (rfl) trivial ⟨rfl,HF.out⟩
     ·refine az.af rfl ?_
      have y0:x 69=.pointer (some ⟨X,0,none⟩):=(D_ hd 8 :);have HF:=Z_ hF;clear hd hm hb hF;go_simp;exact hK'.out _ _ _ (by simp only [y0];rfl) trivial ⟨rfl,HF.out⟩
     ·refine az.af rfl ?_
      have y0:x 70=.pointer (some ⟨X,0,none⟩):=(D_ hd 9 :);have HF:=Z_ hF;clear hd hm hb hF;go_simp;exact hK'.out _ _ _ (by simp only [y0];rfl) trivial ⟨rfl,HF.out⟩
     ·refine az.af rfl ?_
      have hq:=vh.low hF (by have:=hb 3 _ (by decide) rfl (by kernel_rfl);omega) (Q:=u.cell? ⟨X,2,none⟩=some (.slice (some ⟨rb,ro,none⟩) j rc)) (fun h=>(h.1.1.x.cell 2).trans rfl) (fun _ _ _ h=>(h.1.x.cell 2).trans rfl);have y0:x 71=.pointer (some ⟨X,2,none⟩):=(D_ hd 10 :);have HF:=Z_ hF;clear hd hm hb hF;go_simp;exact hK'.out _ _ _ (by simp only [y0];rfl) trivial ⟨rfl,HF.out⟩
     ·refine az.af rfl ?_
      have hj9:=hj0;have hj8:(0:Int)<(j:Int):=by omega
      have y0:x 72=.slice (some ⟨rb,ro,none⟩) j rc:=(D_ hd 11 :);have HF:=Z_ hF;clear hd hm hb hF;go_simp;exact hK'.out _ _ _ (by simp only [y0];rfl) trivial ⟨rfl,HF.out⟩
     ·refine az.af rfl ?_
      have hq:=(vh.pre hF (by have:=hb 0 _ (by decide) rfl (by kernel_rfl);omega)).2;have hq1:=hq.2.1;have hq2:=hq.2.2;have hq3:=hq.1.1;have hq4:=hq.1.2;have y0:x 73=.pointer (some ⟨rb,ro,none⟩):=(D_ hd 12 :);have HF:=Z_ hF;clear hd hm hb hF;go_simp;exact hK'.out _ _ _ (by simp only [y0];rfl) trivial ⟨rfl,HF.out⟩
     ·refine az.af rfl ?_
      have y0:x 74=.pointer (some ⟨g0,0,none⟩):=(D_ hd 13 :);have HF:=Z_ hF;clear hd hm hb hF;go_simp;exact hK'.out _ _ _ (by simp only [y0];rfl) trivial ⟨rfl,HF.out⟩
     ·refine az.af rfl ?_
      have y0:x 75=.pointer (some ⟨g0,0,none⟩):=(D_ hd 14 :);have HF:=Z_ hF;clear hd hm hb hF;go_simp;exact hK'.out _ _ _ (by simp only [y0];rfl) trivial ⟨rfl,HF.out⟩
     ·refine az.af rfl ?_
      have hq:=(vh.pre hF (by have:=hb 0 _ (by decide) rfl (by kernel_rfl);omega)).2;have hq1:=hq.2.1;have hq2:=hq.2.2;have hq3:=hq.1.1;have hq4:=hq.1.2;have y0:x 76=.pointer (some ⟨g0,14,none⟩):=(D_ hd 15 :);have HF:=Z_ hF;clear hd hm hb hF;go_simp;exact hK'.out _ _ _ (by simp only [y0];rfl) trivial ⟨rfl,HF.out⟩
     ·refine az.af rfl ?_
      obtain rfl:=kS hm;have y0:x 68=.int .i64 ctx:=(D_ hd 7 :);have y1:x 77=.int .i64 yf:=(D_ hd 16 :);have HF:=Z_ hF;clear hd hm hb hF;go_simp;refine(wG _ _ u).mono ?_
      rintro e u2 ⟨rfl,rfl⟩;exact hK'.out _ _ _ (by simp only [y0,y1];rfl) trivial ⟨rfl,HF.out⟩
     ·refine az.af rfl ?_
      obtain⟨v0,rfl⟩:=mD hm
      have y0:x 66=.pointer (some ⟨C,0,none⟩):=(D_ hd 5 :);have y1:x 67=.agg #[.int .i64 6,.string t1,.int .i64 m1,.slice a1 N1 c1]:=(D_ hd 6 :);have y2:x 78=v0:=((D_ hd 17) 78 (by kernel_rfl) :);obtain⟨rz,hF⟩:=hF;subst rz;have rQ:=(show (_∧_)∧_ from hF).1;have kO:=Z_ (HBK.out _ false (iM ctx yf) u q DX L (deep+1) FK rQ.1.cs rQ.1.pc HU.out (by have:=pI.out;omega) Ux.out (by have:=wK.out.1;omega) (by have h1:=wK.out.2;have h2:=NK.out;omega));have HF:=Z_ rQ.1;have GH:=Z_ rQ.2;clear hd hm hb hF rQ;go_simp;refine kO.out.mono ?_
      rintro e u2 ⟨iV,jJ⟩;obtain⟨RX,GX⟩:∃ RX,zC E pr (iM ctx yf) false L (deep+1) y q=RX:=⟨_,rfl⟩;rw [GX] at jJ;have V3:=Z_ GX;cases RX with
      | bad c9 p9=>
       obtain rfl:e=_:=jJ;have xZ:=HF.out.aK.trans iV HF.out.ls;go_wp2_with fail
       exact⟨rfl,xZ,by rw [←ru.out,←HT3.out,V3.out];rfl⟩
      | ok t6=>
       obtain⟨g6,pq,pz,rfl,PU,D5,D6,u_,GI,GK⟩:=jJ;have D7:=HF.out.call iV D5 D6 GI
       have zE:=GH.out.aK iV (fun e=>by
        have h1:=HF.out.cs.cB;have h2:=HF.out.cs.pB;have h3:=HF.out.hB;have h4:=HF.out.xU;have h5:=DC.out
        rcases e with e|e|e
        ·omega
        ·omega
        ·have:=QY.out _ e;omega)
       exact hK'.out _ _ _ (by simp only [y0,y1,y2];rfl) trivial ⟨rfl,(t6,L),by rw [GX];rfl,g6,pq,pz,rfl,⟨D7,zE⟩,fV (aT (Nat.le_refl _) fun i hi hm=>⟨zD DZ.out DC.out GH.out.lt hm,rfl⟩) _ _ u_,g6,rfl⟩
     ·refine az.af rfl ?_
      obtain⟨v0,v1,rfl⟩:=tN hm
      have y0:x 79=v1:=((D_ hd 18) 79 (by kernel_rfl) :);obtain⟨rz,t6,nX,g6,pq,pz,rfl,hF⟩:=hF;have aO:=hF.1;have HG:=Z_ (cG.bH (aO.1.grow));have HF:=Z_ hF;clear hd hm hb hF aO;go_simp;exact hK'.out _ _ _ (by simp only [y0];rfl) trivial (⟨rz,t6,nX,g6,pq,pz,rfl,(cG.fF chk.bZ (fun u' hE=>⟨HF.out.1.1.extend hE,HF.out.1.2.ext hE⟩) (fun i e=>(HG.out i e).2) HF.out rfl)⟩)
     ·refine az.af rfl ?_
      obtain⟨v0,v1,v2,rfl⟩:=zF hm
      have y0:x 65=.slice (some ⟨rb,ro,none⟩) j rc:=(D_ hd 4 :);have y1:x 80=v2:=((D_ hd 19) 80 (by kernel_rfl) :);obtain⟨rz,t6,nX,g6,pq,pz,rfl,hF⟩:=hF;have hF2:=hF;obtain⟨aO,hxx,gg,rfl,hgb,hgr⟩:=hF2;obtain⟨us,hu1,ho,hu3⟩:=(aO.1.grow).ex;obtain⟨iW,iY,hz0,hz1,hz2⟩:=bu.aW cG.qx;have hbz:(X+1)≤u.heap.size:=by have:=aO.1.x.lt;omega
      refine wp_append_lies _ _ _ 341 rfl ((X+1)) 219 iW (.pointer none) 1 8 Tryz.underlying341 iY hz0 hz1 hz2 rfl (by decide) (.slice (some ⟨rb,ro,none⟩) j rc) ks.length (us.flatMap fun u=>u.cells.toList) y0 ho ⟨gg,0,none⟩ 1 1 [.pointer (some ⟨g6,0,none⟩)] y1 rfl ?_ (by intro z_ mN;simp only [List.mem_cons,List.not_mem_nil,or_false] at mN;rcases mN with rfl<;>rfl) (by decide) (by unfold maxLen;have:=qL.out;omega) (by have:=qL.out;omega) hbz u.heap.size rfl ?_
      ·intro j q hj;have e:(⟨gg,0,none⟩:Addr).add j=⟨gg,j,none⟩:=(by unfold Addr.add;split<;>simp_all);rw [e,hgb.cell];simpa [Value.cells] using hj
      ·intro g9 c9 w9 ju iZ kU uI
       exact hK'.out _ _ _ rfl trivial (⟨rz,t6,nX,g6,pq,pz,rfl,(cG.eG chk.bZ hF hu1 hu3 rfl (fun r tY hG hC ha=>⟨aO.1.more hG hC ha,aO.2.aK hC (fun e=>by have:=DZ.out _ e;omega)⟩) ju iZ kU)⟩)
     ·refine az.af rfl ?_
      have y0:x 61=.pointer (some ⟨X,0,none⟩):=(D_ hd 0 :);have HF:=Z_ hF;clear hd hm hb hF;go_simp;exact hK'.out _ _ _ (by simp only [y0];rfl) trivial ⟨rfl,HF.out⟩
     ·refine az.af rfl ?_
      have y0:x 82=.pointer (some ⟨X,0,none⟩):=(D_ hd 21 :);have HF:=Z_ hF;clear hd hm hb hF;go_simp;exact hK'.out _ _ _ (by simp only [y0];rfl) trivial ⟨rfl,HF.out⟩
     ·refine az.af rfl ?_
      obtain⟨v0,v1,v2,v3,rfl⟩:=V4_ hm
      have y0:x 83=.pointer (some ⟨X,2,none⟩):=(D_ hd 22 :);have y1:x 81=v3:=((D_ hd 20) 81 (by kernel_rfl) :);obtain⟨rz,t6,nX,g6,pq,pz,rfl,hF⟩:=hF;have hF2:=hF;obtain⟨aO,gg,cc,rfl⟩:=hF2;have hq:=aO.1.x.cell;have AL:=aO.1.x.frozen;have kW:=aO.1.x.lt;unfold jr at hq;have HF:=Z_ hF;clear hd hm hb hF aO;go_simp;exact hK'.out _ _ undef (by simp only [y0,y1];rfl) trivial (⟨rz,t6,nX,g6,pq,pz,rfl,(cG.fG (z:=undef) HF.out (fun h=>⟨h.1.put (j:=2) rfl,h.2.setOther (p:=⟨X,2,none⟩) (by have:=DC.out;show Kb≠X;omega) _⟩))⟩)
    case QO=>
     intro x9 qX w9 hl hF hk9;obtain⟨v0,v1,v2,v3,v4,rfl⟩:∃ v0 v1 v2 v3 v4,qX=[v0,v1,v2,v3,v4]:=by match qX,hl with|[v0,v1,v2,v3,v4],_=>exact⟨_,_,_,_,_,rfl⟩
     obtain⟨-,t6,nX,g6,pq,pz,-,hF⟩:=hF;have JH:=(show _∧_ from hF).1;obtain⟨RX,GX⟩:∃ RX,zC E pr (iM ctx yf) false L (deep+1) y q=RX:=⟨_,rfl⟩;have vu:=HT3.out;rw [GX] at nX vu;cases RX with
     | bad c9 p9=>cases nX
     | ok y6=>
      cases nX
      have vN:=Z_ JH;have lu:=Z_ (show vk E pr ctx ba L deep (l.drop (j+1)) (q+fL y) (ks ++ [y6])=TR from vu);clear hk9 hl hF JH vu GX;have hcc:=vN.out.cs.c.cell;have hcf:=vN.out.cs.c.frozen;have hcl:=vN.out.cs.c.lt;unfold qK at hcc;have ai8:wrap64 deep=deep:=IntWalk.wrap64_in _ (by have:=wK.out;omega);have ab4:=Z_ (vN.out.lQ (deep':=deep) (ai (aB.refl _ w9) 3 (.int .i64 deep)) (vN.out.cs.c.set 3 (.int .i64 deep)));go_wp2_with fail
      go_roundw
      case rel=>exact⟨j+1,q+fL y,_,pq,ks ++ [y6],pz,by omega,by go_num,Z_ (by rw [List.length_append,qL.out];rfl),Z_ (by have:=pI.out;omega),lu,ab4⟩
      case measure=>simp [intOf];omega
   ·have h6b:(k1 == 6)=false:=beq_eq_false_iff_ne.2 h6
    have HEX:=Z_ (wM (H:=H) uD.out (show L.length≤1000 by have:=yJ.out;omega) y VZ.out (by rcases HFY.out with h|h;exact absurd (HYK.out.symm.trans h) h6;exact h) (W:=W) (C:=C) (Mo:=Mo) (D:=D) (K:=K) (P:=P) (B:=B) (E:=E) (vl:=DX) (deep:=deep) (cO:=cO) (dw:=dw) (dc:=dc) (pc:=FK) (ctx:=ctx))
    have HT3:=Z_ (show (match x_ E L ctx ba y q with
     | .bad c q=>(.bad c q:Rz (List Tr))
     | .ok y_1=>vk E pr ctx ba L deep (l.drop (j+1)) (q+fL y) (ks ++ [y_1]))=TR by have h:=HT2.out;rw [if_neg h6] at h;exact h)
    clear HT2;have hba:=HBA.out;go_upto_region 6 with (fail)
    clear hkc hkl;refine dm [11,12,13,16] (fun i v _=>v=([.pointer (some ⟨X,0,none⟩),.pointer (some ⟨X,0,none⟩),.pointer (some ⟨X,0,none⟩),.pointer (some ⟨X,2,none⟩),.slice ra j rc,.pointer (some ⟨C,0,none⟩),.agg #[.int .i64 k1,.string t1,.int .i64 m1,.slice a1 N1 c1],.int .i64 ctx,.pointer (some ⟨Nb,0,none⟩),.int .i64 k,.bool ba,undef,undef,undef,.pointer (some ⟨X,0,none⟩),.pointer (some ⟨X,2,none⟩),undef]:List Value).getD i undef) (pJ (fun u9=>SB W u u9 C Mo D K P B Nb X E (.slice la n lc) DX L deep (q:Nat) cO dw dc FK pr #[.int .i64 k,.string t,.int .i64 m,.slice (some ⟨b,o,none⟩) N cc] (fun rv=>jr k m rv gq (.string ⟨#[]⟩) (.bool false) (.slice none 0 0) (.int .i64 0) (.bool false) (.int .i64 0) 0 ctx) (.slice ra j rc) (.slice ra j rc) ks∧aC u9 Kb #[.int .i64 k1,.string t1,.int .i64 m1,.slice a1 N1 c1] 24) (fun FM L9 I7 u9 Q3 r9 Q4=>SB W u u9 C Mo D K P B Nb X E (.slice la n lc) FM L deep ((q+fL y):Nat) cO dw dc I7 pr #[.int .i64 k,.string t,.int .i64 m,.slice (some ⟨b,o,none⟩) N cc] (fun rv=>jr k m rv gq (.string ⟨#[]⟩) (.bool false) (.slice none 0 0) (.int .i64 0) (.bool false) (.int .i64 0) 0 ctx) Q3 r9 Q4∧aC u9 Kb #[.int .i64 k1,.string t1,.int .i64 m1,.slice a1 N1 c1] 24) X (.slice ra j rc) ks ((x_ E L ctx ba y q).bind fun t=>.ok (t,L))) (fun _ _=>True) (frame:=?NU) (fun x=>?zM) bu.mixed (by kernel_rfl) (by kernel_rfl) (fun _ _ _ _ h _=>h) ?NV ?NW ?fine
    case zM=>
     simp only [chain.aN,chain.fill,chain.bf,chain.aY,jW,jX,jY,jZ,kz,kC,kD,kE,kF];exact rfl
    case NV=>exact⟨wL.out.extend (aB.refl _ _).drew,HK.out.drew⟩
    case NW=>
     iterate 17 (refine ak.cons (fun x vs u hF hm hb hd K' hK'=>?_) ?_;rotate_left)
     exact ak.nil
     ·refine az.af rfl ?_
      have HF:=Z_ hF;clear hd hm hb hF;go_simp;exact hK'.out _ _ _ (rfl) trivial ⟨rfl,HF.out⟩
     ·refine az.af rfl ?_
      have HF:=Z_ hF;clear hd hm hb hF;go_simp;exact hK'.out _ _ _ (rfl) trivial ⟨rfl,HF.out⟩
     ·refine az.af rfl ?_
      have y0:x 35=.pointer (some ⟨X,0,none⟩):=(D_ hd 1 :);have HF:=Z_ hF;clear hd hm hb hF;go_simp;exact hK'.out _ _ _ (by simp only [y0];rfl) trivial ⟨rfl,HF.out⟩
     ·refine az.af rfl ?_
      have y0:x 36=.pointer (some ⟨X,0,none⟩):=(D_ hd 2 :);have HF:=Z_ hF;clear hd hm hb hF;go_simp;exact hK'.out _ _ _ (by simp only [y0];rfl) trivial ⟨rfl,HF.out⟩
     ·refine az.af rfl ?_
      have hq:=pJ.low hF (by have:=hb 2 _ (by decide) rfl (by kernel_rfl);omega) (Q:=u.cell? ⟨X,2,none⟩=some (.slice ra j rc)) (fun h=>(h.1.x.cell 2).trans rfl) (fun _ _ _ h=>(h.1.x.cell 2).trans rfl);have y0:x 37=.pointer (some ⟨X,2,none⟩):=(D_ hd 3 :);have HF:=Z_ hF;clear hd hm hb hF;go_simp;exact hK'.out _ _ _ (by simp only [y0];rfl) trivial ⟨rfl,HF.out⟩
     ·refine az.af rfl ?_
      have HF:=Z_ hF;clear hd hm hb hF;go_simp;exact hK'.out _ _ _ (rfl) trivial ⟨rfl,HF.out⟩
     ·refine az.af rfl ?_
      have hq:=pJ.any hF (Q:=∀ o9,u.cell? ⟨Kb,o9,none⟩=#[.int .i64 k1,.string t1,.int .i64 m1,.slice a1 N1 c1][o9]?) (fun h=>h.2.cell) (fun _ _ _ _ _ _ h=>h.2.cell);have HF:=Z_ hF;clear hd hm hb hF;go_simp;exact hK'.out _ _ _ (rfl) trivial ⟨rfl,HF.out⟩
     ·refine az.af rfl ?_
      have HF:=Z_ hF;clear hd hm hb hF;go_simp;exact hK'.out _ _ _ (rfl) trivial ⟨rfl,HF.out⟩
     ·refine az.af rfl ?_
      have HF:=Z_ hF;clear hd hm hb hF;go_simp;exact hK'.out _ _ _ (rfl) trivial ⟨rfl,HF.out⟩
     ·refine az.af rfl ?_
      have hq:=pJ.any hF (Q:=∀ o9,u.cell? ⟨Nb,o9,none⟩=#[.int .i64 k,.string t,.int .i64 m,.slice (some ⟨b,o,none⟩) N cc][o9]?) (fun h=>h.1.nb.cell) (fun _ _ _ _ _ _ h=>h.1.nb.cell);have y0:x 42=.pointer (some ⟨Nb,0,none⟩):=(D_ hd 8 :);have HF:=Z_ hF;clear hd hm hb hF;go_simp;exact hK'.out _ _ _ (by simp only [y0];rfl) trivial ⟨rfl,HF.out⟩
     ·refine az.af rfl ?_
      have y0:x 43=.int .i64 k:=(D_ hd 9 :);have HF:=Z_ hF;clear hd hm hb hF;go_simp;exact hK'.out _ _ _ (by simp only [y0];rfl) trivial ⟨rfl,HF.out⟩
     ·refine az.af rfl ?_
      obtain rfl:=kS hm;have y0:x 39=.pointer (some ⟨C,0,none⟩):=(D_ hd 5 :);have y1:x 40=.agg #[.int .i64 k1,.string t1,.int .i64 m1,.slice a1 N1 c1]:=(D_ hd 6 :);have y2:x 41=.int .i64 ctx:=(D_ hd 7 :);have y3:x 44=.bool ba:=(D_ hd 10 :);have rQ:=(show _∧_ from hF);have kO:=Z_ (HEX.out _ ba u q rQ.1.cs HU.out (by have:=pI.out;omega));have HF:=Z_ rQ.1;have GH:=Z_ rQ.2;clear hd hm hb hF rQ;go_simp;refine kO.out.mono ?_
      rintro e u2 ⟨iV,jJ⟩;obtain⟨RX,GX⟩:∃ RX,x_ E L ctx ba y q=RX:=⟨_,rfl⟩;rw [GX] at jJ;have V3:=Z_ GX;cases RX with
      | bad c9 p9=>
       obtain rfl:e=_:=jJ;have xZ:=HF.out.aK.trans (iV.weak (S':=LS C P DX) fun _ _ e=>.inl e) HF.out.ls;go_wp2_with fail
       exact⟨rfl,xZ,by rw [←ru.out,←HT3.out,V3.out];rfl⟩
      | ok t6=>
       obtain⟨g6,rfl,PU,u_,ab5,GK⟩:=jJ;have D7:=HF.out.lQ iV ab5;have zE:=GH.out.aK iV (by have h1:=HF.out.cs.cB;have h3:=HF.out.hB;have h4:=HF.out.xU;have h5:=DC.out;omega);exact hK'.out _ _ _ (by simp only [y0,y1,y2,y3];rfl) trivial ⟨(t6,L),by rw [GX];rfl,g6,DX,FK,rfl,⟨D7,zE⟩,fV (aT (Nat.le_refl _) fun i hi hm=>⟨JW DZ.out QY.out DC.out GH.out.lt hm,rfl⟩) _ _ u_,g6,rfl⟩
     ·refine az.af rfl ?_
      obtain⟨v0,rfl⟩:=mD hm
      have y0:x 45=v0:=((D_ hd 11) 45 (by kernel_rfl) :);obtain⟨t6,nX,g6,pq,pz,rfl,hF⟩:=hF;have aO:=hF.1;have HG:=Z_ (cG.bH (aO.1.grow));have HF:=Z_ hF;clear hd hm hb hF aO;go_simp;exact hK'.out _ _ _ (by simp only [y0];rfl) trivial (⟨t6,nX,g6,pq,pz,rfl,(cG.fF chk.bZ (fun u' hE=>⟨HF.out.1.1.extend hE,HF.out.1.2.ext hE⟩) (fun i e=>(HG.out i e).2) HF.out rfl)⟩)
     ·refine az.af rfl ?_
      obtain⟨v0,v1,rfl⟩:=tN hm
      have y0:x 38=.slice ra j rc:=(D_ hd 4 :);have y1:x 46=v1:=((D_ hd 12) 46 (by kernel_rfl) :);obtain⟨t6,nX,g6,pq,pz,rfl,hF⟩:=hF;have hF2:=hF;obtain⟨aO,hxx,gg,rfl,hgb,hgr⟩:=hF2;obtain⟨us,hu1,ho,hu3⟩:=(aO.1.grow).ex;obtain⟨iW,iY,hz0,hz1,hz2⟩:=bu.aW cG.qx;have hbz:(X+1)≤u.heap.size:=by have:=aO.1.x.lt;omega
      refine wp_append_lies _ _ _ 341 rfl ((X+1)) 219 iW (.pointer none) 1 8 Tryz.underlying341 iY hz0 hz1 hz2 rfl (by decide) (.slice ra j rc) ks.length (us.flatMap fun u=>u.cells.toList) y0 ho ⟨gg,0,none⟩ 1 1 [.pointer (some ⟨g6,0,none⟩)] y1 rfl ?_ (by intro z_ mN;simp only [List.mem_cons,List.not_mem_nil,or_false] at mN;rcases mN with rfl<;>rfl) (by decide) (by unfold maxLen;have:=qL.out;omega) (by have:=qL.out;omega) hbz u.heap.size rfl ?_
      ·intro j q hj;have e:(⟨gg,0,none⟩:Addr).add j=⟨gg,j,none⟩:=(by unfold Addr.add;split<;>simp_all);rw [e,hgb.cell];simpa [Value.cells] using hj
      ·intro g9 c9 w9 ju iZ kU uI
       exact hK'.out _ _ _ rfl trivial (⟨t6,nX,g6,pq,pz,rfl,(cG.eG chk.bZ hF hu1 hu3 rfl (fun r tY hG hC ha=>⟨aO.1.more hG hC ha,aO.2.aK hC (fun e=>by have:=DZ.out _ e;omega)⟩) ju iZ kU)⟩)
     ·refine az.af rfl ?_
      have y0:x 34=.pointer (some ⟨X,0,none⟩):=(D_ hd 0 :);have HF:=Z_ hF;clear hd hm hb hF;go_simp;exact hK'.out _ _ _ (by simp only [y0];rfl) trivial ⟨rfl,HF.out⟩
     ·refine az.af rfl ?_
      have y0:x 48=.pointer (some ⟨X,0,none⟩):=(D_ hd 14 :);have HF:=Z_ hF;clear hd hm hb hF;go_simp;exact hK'.out _ _ _ (by simp only [y0];rfl) trivial ⟨rfl,HF.out⟩
     ·refine az.af rfl ?_
      obtain⟨v0,v1,v2,rfl⟩:=zF hm
      have y0:x 49=.pointer (some ⟨X,2,none⟩):=(D_ hd 15 :);have y1:x 47=v2:=((D_ hd 13) 47 (by kernel_rfl) :);obtain⟨t6,nX,g6,pq,pz,rfl,hF⟩:=hF;have hF2:=hF;obtain⟨aO,gg,cc,rfl⟩:=hF2;have hq:=aO.1.x.cell;have AL:=aO.1.x.frozen;have kW:=aO.1.x.lt;unfold jr at hq;have HF:=Z_ hF;clear hd hm hb hF aO;go_simp;exact hK'.out _ _ undef (by simp only [y0,y1];rfl) trivial (⟨t6,nX,g6,pq,pz,rfl,(cG.fG (z:=undef) HF.out (fun h=>⟨h.1.put (j:=2) rfl,h.2.setOther (p:=⟨X,2,none⟩) (by have:=DC.out;show Kb≠X;omega) _⟩))⟩)
    case fine=>
     intro x9 qX w9 hl hF hk9;obtain⟨v0,v1,v2,v3,rfl⟩:=zG hl
     obtain⟨t6,nX,g6,pq,pz,-,hF⟩:=hF;have JH:=(show _∧_ from hF).1;obtain⟨RX,GX⟩:∃ RX,x_ E L ctx ba y q=RX:=⟨_,rfl⟩;have vu:=HT3.out;rw [GX] at nX vu;cases RX with
     | bad c9 p9=>cases nX
     | ok y6=>
      cases nX
      have vN:=Z_ JH;have lu:=Z_ (show vk E pr ctx ba L deep (l.drop (j+1)) (q+fL y) (ks ++ [y6])=TR from vu);clear hk9 hl hF JH vu GX;go_wp2_with fail
      go_roundw
      case rel=>exact⟨j+1,q+fL y,_,pq,ks ++ [y6],pz,by omega,by go_num,Z_ (by rw [List.length_append,qL.out];rfl),Z_ (by have:=pI.out;omega),lu,vN⟩
      case measure=>simp [intOf];omega
  ·obtain rfl:j=N:=by omega
   have hjd:decide ((j:Int)<(j:Int))=false:=by simp
   have hT:=HT.out;have hQ:=HQ.out;rw [List.drop_of_length_le (by rw [HN.out];exact Nat.le_refl _)] at hT hQ;obtain rfl:q=pe:=hQ;have hR0:vk E pr ctx ba L deep [] q ks=.ok ks:=by unfold vk;simp [kT,Rz.bind]
   rw [hR0] at hT;have wP:=Z_ (show uZ pr L deep ctx last k t m ks p=T by have h:=ru.out;rw [←hT] at h;exact h);obtain⟨-,V4⟩:=JM l none (p+1) ks (by rw [HST.out,←hT]) HIS.out;have zN:0<ks.length:=by rw [qL.out];exact VY.out
   obtain⟨rb,ro,rc,hrow,hrb,hall⟩:=Q_ HS.out.grow zN;obtain⟨g0,a2,c2,p0,p1,p2,p3,p4,p5,hr0,hg0,ht0,hc0⟩:=hall 0 zN;rw [←zy zN] at ht0 hc0;have Ji:=Z_ hall;rw [qL.out] at hrow;subst hrow;have hI0:=NP zN V4;obtain⟨jv,hy0⟩:∃ jv,ks.headD default=jv:=⟨_,rfl⟩;rw [hy0] at ht0 hc0 hI0;have HI0:=Z_ hI0;have V5:=Z_ hy0;have Ed:=Z_ hrb;have HR0:=Z_ hr0;have NY:=Z_ hg0;have HT0:=Z_ ht0;have Bi:=Z_ hc0;clear hT hR0 hy0 HT HQ HI HIH V4 hI0 hall hrb hr0 hg0 ht0 hc0 HST ru HIS HFK;have hbc:=HS.out.nb.cell;have hks:=HKS.out;unfold t_ at hks;obtain rfl|rfl|rfl|rfl|rfl|rfl|rfl|rfl:k=7∨k=8∨k=9∨k=10∨k=11∨k=12∨k=13∨k=14:=by omega
   ·have jJ:=wP.out
    unfold uZ at jJ;rw [V5.out] at jJ;have lu:=Z_ (show (if (L.any fun l=>decide (l.deep=deep)&&decide (l.name=t))=true then .bad 5 p else if 20≤L.length then .bad 1 p else if dW m [jv.lab,ctx]=false then .bad 7 p else .ok (.mk 7 m ks ⟨(L.length:Nat),aU,aU,m,0⟩ 0 ctx,L ++ [⟨t,m,deep⟩]):Rz (Tr×List Loc))=T from jJ);obtain⟨ga,gc,hvl,ab6,ai9,PZ⟩:=HS.out.cs.loc.row gz AY;rw [yJ.out] at hvl ab6;subst hvl;have P5:=Z_ PZ;have hcc:=HS.out.cs.c.cell;unfold qK at hcc;clear jJ PZ;go_wp2_with fail
    clear hcc hbc;obtain⟨wo,hwo⟩:∃ wo,wo=wr:=⟨_,rfl⟩;subst hwo;go_loopw [103] (fun i wr=>∃ e:Nat,e≤n∧i=.int .i64 (e:Nat)∧Hid (((L.take e).any fun l=>decide (l.deep=deep)&&decide (l.name=t))=false)∧Hid (Ext wo wr)) (fun i _=>n-(intOf i).toNat)
    case atStart=>exact⟨0,Nat.zero_le _,rfl,Z_ (by simp),Z_ (aB.refl _ _)⟩
    case round=>
     obtain⟨e,he,rfl,HA,HZ⟩:=hrel;by_cases hlt:e<n
     ·have hei:(e:Int)<(n:Int):=by omega
      have hed:decide ((e:Int)<(n:Int))=true:=by simpa using hei
      have hel:e<L.length:=by rw [yJ.out];exact hlt
      obtain⟨lb,lo,rfl,hlb,hin⟩:=P5.out e hel;rw [bT] at hlb;have hin:=mL (Ext.keeps HZ.out) _ _ _ (mL (ah _ _) _ _ _ hin);have VI:=Nat.lt_of_lt_of_le hlb HZ.out.size;have uF:=Z_ (JO hel (P:=fun l=>decide (l.deep=deep)&&decide (l.name=t)));have Bj:=Z_ (Q9 hel (P:=fun l=>decide (l.deep=deep)&&decide (l.name=t)));generalize L[e]=y at hin uF Bj;obtain⟨yn,yb,yd⟩:=y;obtain⟨q0,q1,q2,-⟩:=hin;simp only at q0 q1 q2;have RD:=Z_ (aC.made wr #[.string yn,.int .i64 yb,.int .i64 yd] 340);have HE6:=Z_ (HZ.out.alloc (.cells #[.string yn,.int .i64 yb,.int .i64 yd] 340));have zK:=Z_ (HS.out.extend HE6.out);obtain⟨Lb,hLb⟩:∃ Lb,wr.heap.size=Lb:=⟨_,rfl⟩;rw [hLb] at RD;have oL:=RD;clear RD hlb;go_upto_region 18 with (fail)
      try rw [hLb]
      generalize wr.alloc (.cells #[.string yn,.int .i64 yb,.int .i64 yd] 340)=u6 at *;clear q0 q1 q2 hLb VI;by_cases V6:yd=deep
      ·have ab7:=V6.symm
       subst ab7;have RE:=Z_ (And.intro (rfl:deep=deep) (rfl:deep=deep));by_cases hyn:yn=t
       ·have oP:=Z_ (show T=.bad 5 p from by rw [←lu.out,if_pos (Bj.out (by simp [hyn]))])
        have V7:=Z_ (And.intro (show (yn.toList == t.toList)=true by rw [hyn];simp) (show (yn.toList != t.toList)=false by rw [hyn];simp));clear wP lu uF Bj HA hyn;refine dm [15] (fun i v _=>v=([.pointer (some ⟨Lb,2,none⟩),.int .i64 deep,.pointer (some ⟨C,0,none⟩),.pointer (some ⟨C,0,none⟩),.pointer (some ⟨C,3,none⟩),.int .i64 deep,.bool false,.bool false,.pointer (some ⟨Lb,0,none⟩),.string yn,.pointer (some ⟨Nb,1,none⟩),.string t,.bool false,.bool false,.int .i64 (p:Nat),undef]:List Value).getD i undef) (fun (vs:List Value) (u:World)=>vs=[]∧Ext u6 u) (fun _ _=>True) (frame:=?VJ) (fun x=>?JF) bu.mixed (by kernel_rfl) (by kernel_rfl) (fun _ _ _ _ h _=>h) ?h0t ?stt ?JG
        case JF=>
         simp only [chain.aN,chain.fill,chain.bf,chain.aY,jW,jX,jY,jZ,kz,kC,kD,kE,kF];exact rfl
        case h0t=>exact⟨rfl,(aB.refl _ _).drew⟩
        case stt=>
         iterate 16 (refine ak.cons (fun x vs u hF hm hb hd K' hK'=>?_) ?_;rotate_left)
         exact ak.nil
         ·refine az.af rfl ?_
          have HF:=Z_ hF;clear hd hm hb hF;go_simp;exact hK'.out _ _ _ (rfl) trivial ⟨rfl,HF.out⟩
         ·refine az.af rfl ?_
          have fU:Ext u6 u:=hF.2;have hq:=(oL.out.ext fU).cell;clear fU;have y0:x 107=.pointer (some ⟨Lb,2,none⟩):=(D_ hd 0 :);have HF:=Z_ hF;clear hd hm hb hF;go_simp;exact hK'.out _ _ _ (by simp only [y0];rfl) trivial ⟨rfl,HF.out⟩
         ·refine az.af rfl ?_
          have HF:=Z_ hF;clear hd hm hb hF;go_simp;exact hK'.out _ _ _ (rfl) trivial ⟨rfl,HF.out⟩
         ·refine az.af rfl ?_
          have y0:x 109=.pointer (some ⟨C,0,none⟩):=(D_ hd 2 :);have HF:=Z_ hF;clear hd hm hb hF;go_simp;exact hK'.out _ _ _ (by simp only [y0];rfl) trivial ⟨rfl,HF.out⟩
         ·refine az.af rfl ?_
          have y0:x 110=.pointer (some ⟨C,0,none⟩):=(D_ hd 3 :);have HF:=Z_ hF;clear hd hm hb hF;go_simp;exact hK'.out _ _ _ (by simp only [y0];rfl) trivial ⟨rfl,HF.out⟩
         ·refine az.af rfl ?_
          have fU:Ext u6 u:=hF.2;have hq:=(zK.out.extend fU).cs.c.cell;unfold qK at hq;clear fU;have y0:x 111=.pointer (some ⟨C,3,none⟩):=(D_ hd 4 :);have HF:=Z_ hF;clear hd hm hb hF;go_simp;exact hK'.out _ _ _ (by simp only [y0];rfl) trivial ⟨rfl,HF.out⟩
         ·refine az.af rfl ?_
          have hz1:=RE.out.1;have hz2:=RE.out.2;have y0:x 108=.int .i64 deep:=(D_ hd 1 :);have y1:x 112=.int .i64 deep:=(D_ hd 5 :);have HF:=Z_ hF;clear hd hm hb hF;go_simp;exact hK'.out _ _ _ (by simp only [y0,y1];rfl) trivial ⟨rfl,HF.out⟩
         ·refine az.af rfl ?_
          have y0:x 113=.bool false:=(D_ hd 6 :);have HF:=Z_ hF;clear hd hm hb hF;go_simp;exact hK'.out _ _ _ (by simp only [y0];rfl) trivial ⟨rfl,HF.out⟩
         ·have y0:x 114=.bool false:=(D_ hd 7 :);refine az.dS rfl (by simp only [y0];rfl) ?_
          have HF:=Z_ hF;clear hd hm hb hF;go_simp;exact hK'.out _ _ _ (by simp only [y0];rfl) trivial ⟨rfl,HF.out⟩
         ·have fU:Ext u6 u:=hF.2;have hq:=(oL.out.ext fU).cell;clear fU;have y0:x 114=.bool false:=(D_ hd 7 :);have y1:x 115=.pointer (some ⟨Lb,0,none⟩):=(D_ hd 8 :);refine az.dS rfl (by simp only [y0];rfl) ?_
          have HF:=Z_ hF;clear hd hm hb hF;go_simp;exact hK'.out _ _ _ (by simp only [y0,y1];rfl) trivial ⟨rfl,HF.out⟩
         ·have y0:x 114=.bool false:=(D_ hd 7 :);refine az.dS rfl (by simp only [y0];rfl) ?_
          have HF:=Z_ hF;clear hd hm hb hF;go_simp;exact hK'.out _ _ _ (by simp only [y0];rfl) trivial ⟨rfl,HF.out⟩
         ·have fU:Ext u6 u:=hF.2;have hq:=(zK.out.extend fU).nb.cell;clear fU;have y0:x 114=.bool false:=(D_ hd 7 :);have y1:x 117=.pointer (some ⟨Nb,1,none⟩):=(D_ hd 10 :);refine az.dS rfl (by simp only [y0];rfl) ?_
          have HF:=Z_ hF;clear hd hm hb hF;go_simp;exact hK'.out _ _ _ (by simp only [y0,y1];rfl) trivial ⟨rfl,HF.out⟩
         ·have hz1:=V7.out.1;have hz2:=V7.out.2;have y0:x 114=.bool false:=(D_ hd 7 :);have y1:x 116=.string yn:=(D_ hd 9 :);have y2:x 118=.string t:=(D_ hd 11 :);refine az.dS rfl (by simp only [y0];rfl) ?_
          have HF:=Z_ hF;clear hd hm hb hF;go_simp;exact hK'.out _ _ _ (by simp only [y0,y1,y2];rfl) trivial ⟨rfl,HF.out⟩
         ·refine az.af rfl ?_
          have y0:x 114=.bool false:=(D_ hd 7 :);have y1:x 119=.bool false:=(D_ hd 12 :);have HF:=Z_ hF;clear hd hm hb hF;go_simp;exact hK'.out _ _ _ (by simp only [y0,y1];rfl) trivial ⟨rfl,HF.out⟩
         ·refine az.af rfl ?_
          have HF:=Z_ hF;clear hd hm hb hF;go_simp;exact hK'.out _ _ _ (rfl) trivial ⟨rfl,HF.out⟩
         ·refine az.af rfl ?_
          obtain rfl:=kS hm;have y0:x 120=.bool false:=(D_ hd 13 :);have y1:x 121=.int .i64 (p:Nat):=(D_ hd 14 :);have HF:=Z_ (show Ext u6 u from hF.2);clear hd hm hb hF;go_simp;refine(bY 5 (p:Nat) u).mono ?_
          rintro e u2 ⟨rfl,rfl⟩;go_wp2_with fail
          rw [oP.out];exact⟨rfl,nH (zK.out.extend HF.out)⟩
        case JG=>
         intro x9 qX wz hl hF hk9;obtain⟨rfl,-⟩:=(show qX=[]∧_ from hF);cases hl
       ·have V8:=Z_ (show (decide (deep=deep)&&decide (yn=t))=false by simp [hyn])
        have V7:=Z_ (And.intro (show (yn.toList == t.toList)=false from(Bf hyn)) (show (yn.toList != t.toList)=true by simp [bne,(Bf hyn)]));clear hyn Bj;refine dm [15] (fun i v _=>v=([.pointer (some ⟨Lb,2,none⟩),.int .i64 deep,.pointer (some ⟨C,0,none⟩),.pointer (some ⟨C,0,none⟩),.pointer (some ⟨C,3,none⟩),.int .i64 deep,.bool false,.bool false,.pointer (some ⟨Lb,0,none⟩),.string yn,.pointer (some ⟨Nb,1,none⟩),.string t,.bool true,.bool true,.int .i64 (p:Nat),undef]:List Value).getD i undef) (fun (_:List Value) (u:World)=>Ext u6 u) (fun _ _=>True) (frame:=?ab8) (fun x=>?RF) bu.mixed (by kernel_rfl) (by kernel_rfl) (fun _ _ _ _ h _=>h) ?h0v ?stv ?RG
        case RF=>
         simp only [chain.aN,chain.fill,chain.bf,chain.aY,jW,jX,jY,jZ,kz,kC,kD,kE,kF];exact rfl
        case h0v=>exact(aB.refl _ _).drew
        case stv=>
         iterate 16 (refine ak.cons (fun x vs u hF hm hb hd K' hK'=>?_) ?_;rotate_left)
         exact ak.nil
         ·refine az.af rfl ?_
          have HF:=Z_ hF;clear hd hm hb hF;go_simp;exact hK'.out _ _ _ (rfl) trivial ⟨rfl,HF.out⟩
         ·refine az.af rfl ?_
          have fU:Ext u6 u:=hF;have hq:=(oL.out.ext fU).cell;clear fU;have y0:x 107=.pointer (some ⟨Lb,2,none⟩):=(D_ hd 0 :);have HF:=Z_ hF;clear hd hm hb hF;go_simp;exact hK'.out _ _ _ (by simp only [y0];rfl) trivial ⟨rfl,HF.out⟩
         ·refine az.af rfl ?_
          have HF:=Z_ hF;clear hd hm hb hF;go_simp;exact hK'.out _ _ _ (rfl) trivial ⟨rfl,HF.out⟩
         ·refine az.af rfl ?_
          have y0:x 109=.pointer (some ⟨C,0,none⟩):=(D_ hd 2 :);have HF:=Z_ hF;clear hd hm hb hF;go_simp;exact hK'.out _ _ _ (by simp only [y0];rfl) trivial ⟨rfl,HF.out⟩
         ·refine az.af rfl ?_
          have y0:x 110=.pointer (some ⟨C,0,none⟩):=(D_ hd 3 :);have HF:=Z_ hF;clear hd hm hb hF;go_simp;exact hK'.out _ _ _ (by simp only [y0];rfl) trivial ⟨rfl,HF.out⟩
         ·refine az.af rfl ?_
          have fU:Ext u6 u:=hF;have hq:=(zK.out.extend fU).cs.c.cell;unfold qK at hq;clear fU;have y0:x 111=.pointer (some ⟨C,3,none⟩):=(D_ hd 4 :);have HF:=Z_ hF;clear hd hm hb hF;go_simp;exact hK'.out _ _ _ (by simp only [y0];rfl) trivial ⟨rfl,HF.out⟩
         ·refine az.af rfl ?_
          have hz1:=RE.out.1;have hz2:=RE.out.2;have y0:x 108=.int .i64 deep:=(D_ hd 1 :);have y1:x 112=.int .i64 deep:=(D_ hd 5 :);have HF:=Z_ hF;clear hd hm hb hF;go_simp;exact hK'.out _ _ _ (by simp only [y0,y1];rfl) trivial ⟨rfl,HF.out⟩
         ·refine az.af rfl ?_
          have y0:x 113=.bool false:=(D_ hd 6 :);have HF:=Z_ hF;clear hd hm hb hF;go_simp;exact hK'.out _ _ _ (by simp only [y0];rfl) trivial ⟨rfl,HF.out⟩
         ·have y0:x 114=.bool false:=(D_ hd 7 :);refine az.dS rfl (by simp only [y0];rfl) ?_
          have HF:=Z_ hF;clear hd hm hb hF;go_simp;exact hK'.out _ _ _ (by simp only [y0];rfl) trivial ⟨rfl,HF.out⟩
         ·have fU:Ext u6 u:=hF;have hq:=(oL.out.ext fU).cell;clear fU;have y0:x 114=.bool false:=(D_ hd 7 :);have y1:x 115=.pointer (some ⟨Lb,0,none⟩):=(D_ hd 8 :);refine az.dS rfl (by simp only [y0];rfl) ?_
          have HF:=Z_ hF;clear hd hm hb hF;go_simp;exact hK'.out _ _ _ (by simp only [y0,y1];rfl) trivial ⟨rfl,HF.out⟩
         ·have y0:x 114=.bool false:=(D_ hd 7 :);refine az.dS rfl (by simp only [y0];rfl) ?_
          have HF:=Z_ hF;clear hd hm hb hF;go_simp;exact hK'.out _ _ _ (by simp only [y0];rfl) trivial ⟨rfl,HF.out⟩
         ·have fU:Ext u6 u:=hF;have hq:=(zK.out.extend fU).nb.cell;clear fU;have y0:x 114=.bool false:=(D_ hd 7 :);have y1:x 117=.pointer (some ⟨Nb,1,none⟩):=(D_ hd 10 :);refine az.dS rfl (by simp only [y0];rfl) ?_
          have HF:=Z_ hF;clear hd hm hb hF;go_simp;exact hK'.out _ _ _ (by simp only [y0,y1];rfl) trivial ⟨rfl,HF.out⟩
         ·have hz1:=V7.out.1;have hz2:=V7.out.2;have y0:x 114=.bool false:=(D_ hd 7 :);have y1:x 116=.string yn:=(D_ hd 9 :);have y2:x 118=.string t:=(D_ hd 11 :);refine az.dS rfl (by simp only [y0];rfl) ?_
          have HF:=Z_ hF;clear hd hm hb hF;go_simp;exact hK'.out _ _ _ (by simp only [y0,y1,y2];rfl) trivial ⟨rfl,HF.out⟩
         ·refine az.af rfl ?_
          have y0:x 114=.bool false:=(D_ hd 7 :);have y1:x 119=.bool true:=(D_ hd 12 :);have HF:=Z_ hF;clear hd hm hb hF;go_simp;exact hK'.out _ _ _ (by simp only [y0,y1];rfl) trivial ⟨rfl,HF.out⟩
         ·refine az.af rfl ?_
          have HF:=Z_ hF;clear hd hm hb hF;go_simp;exact hK'.out _ _ _ (rfl) trivial ⟨rfl,HF.out⟩
         ·refine az.af rfl ?_
          obtain rfl:=kS hm;have y0:x 120=.bool true:=(D_ hd 13 :);have y1:x 121=.int .i64 (p:Nat):=(D_ hd 14 :);have HF:=Z_ (show Ext u6 u from hF);clear hd hm hb hF;go_simp;refine(bM 5 (p:Nat) u).mono ?_
          rintro e u2 ⟨rfl,rfl⟩;exact hK'.out _ _ _ (by simp only [y0,y1];rfl) trivial HF.out
        case RG=>
         intro x9 qX wz hl hF hk9;have HEZ:=Z_ (show Ext u6 wz from hF);clear hl hF hk9;go_wp2_with fail
         go_roundw
         case rel=>exact⟨e+1,by omega,by go_num,Z_ (by have h1:=uF.out;have h2:=HA.out;have h3:=V8.out;first|(rw [h1,h2,h3];rfl)|(rw [h1,h2];simpa using h3)),Z_ (HE6.out.ext HEZ.out)⟩
         case measure=>simp [intOf];omega
      ·have V8:=Z_ (show (decide (yd=deep)&&decide (yn=t))=false by simp [V6])
       have RE:=Z_ (And.intro (show (yd == deep)=false by simpa using V6) (show (yd != deep)=true by simpa using V6));clear V6 Bj;refine dm [15] (fun i v _=>v=([.pointer (some ⟨Lb,2,none⟩),.int .i64 yd,.pointer (some ⟨C,0,none⟩),.pointer (some ⟨C,0,none⟩),.pointer (some ⟨C,3,none⟩),.int .i64 deep,.bool true,.bool true,undef,undef,undef,undef,undef,.bool true,.int .i64 (p:Nat),undef]:List Value).getD i undef) (fun (_:List Value) (u:World)=>Ext u6 u) (fun _ _=>True) (frame:=?aa5) (fun x=>?QS) bu.mixed (by kernel_rfl) (by kernel_rfl) (fun _ _ _ _ h _=>h) ?h0w ?stw ?QT
       case QS=>
        simp only [chain.aN,chain.fill,chain.bf,chain.aY,jW,jX,jY,jZ,kz,kC,kD,kE,kF];exact rfl
       case h0w=>exact(aB.refl _ _).drew
       case stw=>
        iterate 16 (refine ak.cons (fun x vs u hF hm hb hd K' hK'=>?_) ?_;rotate_left)
        exact ak.nil
        ·refine az.af rfl ?_
         have HF:=Z_ hF;clear hd hm hb hF;go_simp;exact hK'.out _ _ _ (rfl) trivial ⟨rfl,HF.out⟩
        ·refine az.af rfl ?_
         have fU:Ext u6 u:=hF;have hq:=(oL.out.ext fU).cell;clear fU;have y0:x 107=.pointer (some ⟨Lb,2,none⟩):=(D_ hd 0 :);have HF:=Z_ hF;clear hd hm hb hF;go_simp;exact hK'.out _ _ _ (by simp only [y0];rfl) trivial ⟨rfl,HF.out⟩
        ·refine az.af rfl ?_
         have HF:=Z_ hF;clear hd hm hb hF;go_simp;exact hK'.out _ _ _ (rfl) trivial ⟨rfl,HF.out⟩
        ·refine az.af rfl ?_
         have y0:x 109=.pointer (some ⟨C,0,none⟩):=(D_ hd 2 :);have HF:=Z_ hF;clear hd hm hb hF;go_simp;exact hK'.out _ _ _ (by simp only [y0];rfl) trivial ⟨rfl,HF.out⟩
        ·refine az.af rfl ?_
         have y0:x 110=.pointer (some ⟨C,0,none⟩):=(D_ hd 3 :);have HF:=Z_ hF;clear hd hm hb hF;go_simp;exact hK'.out _ _ _ (by simp only [y0];rfl) trivial ⟨rfl,HF.out⟩
        ·refine az.af rfl ?_
         have fU:Ext u6 u:=hF;have hq:=(zK.out.extend fU).cs.c.cell;unfold qK at hq;clear fU;have y0:x 111=.pointer (some ⟨C,3,none⟩):=(D_ hd 4 :);have HF:=Z_ hF;clear hd hm hb hF;go_simp;exact hK'.out _ _ _ (by simp only [y0];rfl) trivial ⟨rfl,HF.out⟩
        ·refine az.af rfl ?_
         have hz1:=RE.out.1;have hz2:=RE.out.2;have y0:x 108=.int .i64 yd:=(D_ hd 1 :);have y1:x 112=.int .i64 deep:=(D_ hd 5 :);have HF:=Z_ hF;clear hd hm hb hF;go_simp;exact hK'.out _ _ _ (by simp only [y0,y1];rfl) trivial ⟨rfl,HF.out⟩
        ·refine az.af rfl ?_
         have y0:x 113=.bool true:=(D_ hd 6 :);have HF:=Z_ hF;clear hd hm hb hF;go_simp;exact hK'.out _ _ _ (by simp only [y0];rfl) trivial ⟨rfl,HF.out⟩
        ·have y0:x 114=.bool true:=(D_ hd 7 :);have HF:=Z_ hF;refine az.fZ (c:=true) rfl (by simp only [y0];rfl) rfl ?_
         exact hK'.out _ _ _ rfl trivial ⟨rfl,HF.out⟩
        ·have y0:x 114=.bool true:=(D_ hd 7 :);have HF:=Z_ hF;refine az.fZ (c:=true) rfl (by simp only [y0];rfl) rfl ?_
         exact hK'.out _ _ _ rfl trivial ⟨rfl,HF.out⟩
        ·have y0:x 114=.bool true:=(D_ hd 7 :);have HF:=Z_ hF;refine az.fZ (c:=true) rfl (by simp only [y0];rfl) rfl ?_
         exact hK'.out _ _ _ rfl trivial ⟨rfl,HF.out⟩
        ·have y0:x 114=.bool true:=(D_ hd 7 :);have HF:=Z_ hF;refine az.fZ (c:=true) rfl (by simp only [y0];rfl) rfl ?_
         exact hK'.out _ _ _ rfl trivial ⟨rfl,HF.out⟩
        ·have y0:x 114=.bool true:=(D_ hd 7 :);have HF:=Z_ hF;refine az.fZ (c:=true) rfl (by simp only [y0];rfl) rfl ?_
         exact hK'.out _ _ _ rfl trivial ⟨rfl,HF.out⟩
        ·refine az.af rfl ?_
         have y0:x 114=.bool true:=(D_ hd 7 :);have y1:x 119=undef:=(D_ hd 12 :);have HF:=Z_ hF;clear hd hm hb hF;go_simp;exact hK'.out _ _ _ (by simp only [y0,y1];rfl) trivial ⟨rfl,HF.out⟩
        ·refine az.af rfl ?_
         have HF:=Z_ hF;clear hd hm hb hF;go_simp;exact hK'.out _ _ _ (rfl) trivial ⟨rfl,HF.out⟩
        ·refine az.af rfl ?_
         obtain rfl:=kS hm;have y0:x 120=.bool true:=(D_ hd 13 :);have y1:x 121=.int .i64 (p:Nat):=(D_ hd 14 :);have HF:=Z_ (show Ext u6 u from hF);clear hd hm hb hF;go_simp;refine(bM 5 (p:Nat) u).mono ?_
         rintro e u2 ⟨rfl,rfl⟩;exact hK'.out _ _ _ (by simp only [y0,y1];rfl) trivial HF.out
       case QT=>
        intro x9 qX wz hl hF hk9;have HEZ:=Z_ (show Ext u6 wz from hF);clear hl hF hk9;go_wp2_with fail
        go_roundw
        case rel=>exact⟨e+1,by omega,by go_num,Z_ (by have h1:=uF.out;have h2:=HA.out;have h3:=V8.out;first|(rw [h1,h2,h3];rfl)|(rw [h1,h2];simpa using h3)),Z_ (HE6.out.ext HEZ.out)⟩
        case measure=>simp [intOf];omega
     ·obtain rfl:e=n:=by omega
      have hed:decide ((e:Int)<(e:Int))=false:=by simp
      have Zy:=Z_ (show (if 20≤L.length then .bad 1 p else if dW m [jv.lab,ctx]=false then .bad 7 p else .ok (.mk 7 m ks ⟨(L.length:Nat),aU,aU,m,0⟩ 0 ctx,L ++ [⟨t,m,deep⟩]):Rz (Tr×List Loc))=T from by have h9:=lu.out;have h:=HA.out;rw [List.take_of_length_le (by rw [yJ.out];exact Nat.le_refl _)] at h;rw [if_neg (by rw [h];decide)] at h9;exact h9);have HS2:=Z_ (HS.out.extend HZ.out);have hcc:=HS2.out.cs.c.cell;unfold qK at hcc;have mg:=HS2.out.x.cell;unfold jr at mg;have hr0:=(HZ.out.cell (p:=⟨rb,ro,none⟩) Ed.out id).trans HR0.out;have hc0:=(HZ.out.cell (p:=⟨g0,14,none⟩) NY.out id).trans ((Bi.out 14 (by decide)).trans rfl);replace hc0:wr.cell? ⟨g0,14,none⟩=some (.int .i64 jv.lab):=hc0;have hrb:=Nat.lt_of_lt_of_le Ed.out HZ.out.size;have hg0:=Nat.lt_of_lt_of_le NY.out HZ.out.size;have Ja:0<j:=by rw [←qL.out];exact zN
      have hjq:(0:Int)<(j:Int):=by omega
      clear wP lu Ji P5 HA HZ;by_cases h20:e<20
      ·have ab9:decide ((e:Int)<20)=true:=decide_eq_true (by omega)
       have MO:=Z_ (show (if dW m [jv.lab,ctx]=false then .bad 7 p else .ok (.mk 7 m ks ⟨(L.length:Nat),aU,aU,m,0⟩ 0 ctx,L ++ [⟨t,m,deep⟩]):Rz (Tr×List Loc))=T from by have h9:=Zy.out;rw [if_neg (by rw [yJ.out];omega)] at h9;exact h9);clear Zy;go_wp2_with fail
       refine(bM 1 (p:Nat) _).mono ?_
       rintro e9 w8 ⟨rfl,rfl⟩;go_wp2_with fail
       have wA:=aC.made w8 #[.int .i64 jv.lab,.int .i64 ctx] 3;have vN:=Z_ (HS2.out.extend ((aB.refl _ w8).alloc (.cells #[.int .i64 jv.lab,.int .i64 ctx] 3)));have vK:=Z_ (show Calls Tryz.prog 283 #[.int .i64 (p:Nat),.int .i64 (m),.slice (some ⟨w8.heap.size,0,none⟩) 2 2] (w8.alloc (.cells #[.int .i64 jv.lab,.int .i64 ctx] 3)) (jL (m) [jv.lab,ctx] (p:Nat) _) from jG (p:Nat) (m) (some ⟨w8.heap.size,0,none⟩) 2 [jv.lab,ctx] _ (kR wA) (Nat.le_refl _) (by simp));clear wA;skip
       refine vK.out.mono ?_
       rintro e9 w9 ⟨hy1,hy2,rfl⟩;cases hfl:dW (m) [jv.lab,ctx] with
       | true=>
        obtain rfl:=hy1 hfl;have N7:=Z_ hfl;clear vK hy1 hy2 hfl;generalize w8.alloc (.cells #[.int .i64 jv.lab,.int .i64 ctx] 3)=w9 at *;have oP:=Z_ (show T=.ok (.mk 7 m ks ⟨(L.length:Nat),aU,aU,m,0⟩ 0 ctx,L ++ [⟨t,m,deep⟩]) from by have h9:=MO.out;rw [if_neg (by rw [N7.out];decide)] at h9;exact h9.symm);clear MO hcc mg hr0 hc0 hrb hg0 Ja hjq h20;have hbc:=vN.out.nb.cell;go_wp2_with fail
        refine(Bg vN.out.cs vN.out.pc (by rw [yJ.out];omega) t UB.out m).mono ?_
        rintro e9 w10 ⟨FM,I7,rfl,iV,rY,Bl,V9⟩;have MV:=Z_ (vN.out.call iV rY Bl V9);clear iV rY Bl V9 hbc;have mg:=MV.out.x.cell;have Dw:=MV.out.x.frozen;have hxl:=MV.out.x.lt;unfold jr at mg;go_wp2_with fail
        go_ret
        rw [oP.out];have H1:=MV.out.put (j:=3) (v:=.int .i64 (L.length:Nat)) (RH:=fun rv=>jr 7 m rv ⟨(L.length:Nat),aU,aU,0,0⟩ (.string ⟨#[]⟩) (.bool false) (.slice none 0 0) (.int .i64 0) (.bool false) (.int .i64 0) 0 ctx) rfl;have H2:=H1.put (j:=4) (v:=.string ⟨#[]⟩) (RH:=fun rv=>jr 7 m rv ⟨(L.length:Nat),aU,aU,0,0⟩ (.string ⟨#[]⟩) (.bool false) (.slice none 0 0) (.int .i64 0) (.bool false) (.int .i64 0) 0 ctx) rfl;have H3:=H2.put (j:=5) (v:=.string ⟨#[]⟩) (RH:=fun rv=>jr 7 m rv ⟨(L.length:Nat),aU,aU,0,0⟩ (.string ⟨#[]⟩) (.bool false) (.slice none 0 0) (.int .i64 0) (.bool false) (.int .i64 0) 0 ctx) rfl;have H4:=H3.put (j:=6) (v:=.int .i64 m) (RH:=fun rv=>jr 7 m rv ⟨(L.length:Nat),aU,aU,m,0⟩ (.string ⟨#[]⟩) (.bool false) (.slice none 0 0) (.int .i64 0) (.bool false) (.int .i64 0) 0 ctx) rfl
        have H5:=H4.put (j:=7) (v:=.int .i64 0) (RH:=fun rv=>jr 7 m rv ⟨(L.length:Nat),aU,aU,m,0⟩ (.string ⟨#[]⟩) (.bool false) (.slice none 0 0) (.int .i64 0) (.bool false) (.int .i64 0) 0 ctx) rfl;exact pR H5 (by constructor<;>(unfold maxLen;show aU.size≤_;decide))
       | false=>
        obtain rfl:=hy2 hfl;have oP:=Z_ (show T=.bad 7 p from by rw [←MO.out,if_pos hfl]);clear vK hy1 hy2;go_wp2_with fail
        rw [oP.out];exact⟨rfl,nH vN.out⟩
      ·have ab9:decide ((e:Int)<20)=false:=decide_eq_false (by omega)
       have oP:=Z_ (show T=.bad 1 p from by rw [←Zy.out,if_pos (by rw [yJ.out];omega)]);clear Zy;go_wp2_with fail
       refine(bY 1 (p:Nat) _).mono ?_
       rintro e9 w9 ⟨rfl,rfl⟩;go_wp2_with fail
       rw [oP.out];exact⟨rfl,nH HS2.out⟩
   ·have mg:=HS.out.x.cell
    have Dw:=HS.out.x.frozen;have hxl:=HS.out.x.lt;unfold jr at mg;have hr0:=HR0.out;rw [Nat.add_zero] at hr0;have hc0:=Bi.out 14 (by decide);replace hc0:wr.cell? ⟨g0,14,none⟩=some (.int .i64 jv.lab):=hc0;have hrb:=Ed.out;have hg0:=NY.out;have Ja:0<j:=by rw [←qL.out];exact zN
    have hjq:(0:Int)<(j:Int):=by omega
    have hj2:j=2:=by have h1:=Zw.out rfl;rw [HN.out] at h1;exact h1
    have V_:1<ks.length:=by rw [qL.out];omega
    obtain⟨g1,b2,d2,s0,s1,s2,s3,s4,s5,hr1,hg1,ht1,hc1⟩:=Ji.out 1 V_;rw [←tail_at V_] at ht1 hc1;obtain⟨P6,RI⟩:∃ y1,ks.tail.headD default=y1:=⟨_,rfl⟩;rw [RI] at hc1;have hc6:=Bi.out 6 (by decide);replace hc6:wr.cell? ⟨g0,6,none⟩=some (.int .i64 jv.ref.label):=hc6;have UC:=Z_ hc6;have MW:=Z_ (show wr.cell? ⟨g1,14,none⟩=some (.int .i64 P6.lab) from hc1 14 (by decide));have HR1:=Z_ hr1;have HG1:=Z_ hg1;have jJ:=wP.out;unfold uZ at jJ;rw [V5.out,RI] at jJ;have lu:=Z_ (show (if dW jv.ref.label [P6.lab,iF jv,ctx]=false then .bad 7 p else .ok (.mk 8 m ks gq 0 ctx,L):Rz (Tr×List Loc))=T from jJ);have We:(1:Int)<(j:Int):=by omega
    have HJQ:=Z_ We;have HJP:=Z_ (show 1<j by omega);clear jJ hj2 hr1 hg1 ht1 hc1 hc6 RI;go_upto_region 25 with (fail)
    clear mg Dw hxl hr0 hc0 hrb hg0 Ja hjq We;refine dm [16,18,19] (fun i v _=>v=([.int .i64 (p:Nat),.pointer (some ⟨g0,0,none⟩),.pointer (some ⟨g0,0,none⟩),.pointer (some ⟨g0,3,none⟩),.pointer (some ⟨g0,6,none⟩),.int .i64 jv.ref.label,.pointer (some ⟨X,0,none⟩),.pointer (some ⟨X,0,none⟩),.pointer (some ⟨X,2,none⟩),.slice (some ⟨rb,ro,none⟩) j rc,.pointer (some ⟨rb,ro+1,none⟩),.pointer (some ⟨g1,0,none⟩),.pointer (some ⟨g1,0,none⟩),.pointer (some ⟨g1,14,none⟩),.int .i64 P6.lab,.pointer (some ⟨g0,0,none⟩),undef,.int .i64 ctx,undef,undef]:List Value).getD i undef) (rX (.int .i64 (iF jv)) (jK wr jv.ref.label [P6.lab,iF jv,ctx] 3)) (fun _ _=>True) (frame:=?ai_) (fun x=>?ab_) bu.mixed (by kernel_rfl) (by kernel_rfl) (fun _ _ _ _ h _=>h) ?h0s ?sts ?ac0
    case ab_=>
     simp only [chain.aN,chain.fill,chain.bf,chain.aY,jW,jX,jY,jZ,kz,kC,kD,kE,kF];exact rfl
    case h0s=>exact(aB.refl _ _).drew
    case sts=>
     iterate 20 (refine ak.cons (fun x vs u hF hm hb hd K' hK'=>?_) ?_;rotate_left)
     exact ak.nil
     ·refine az.af rfl ?_
      have HF:=Z_ hF;clear hd hm hb hF;go_simp;exact hK'.out _ _ _ (rfl) trivial ⟨rfl,HF.out⟩
     ·refine az.af rfl ?_
      have HF:=Z_ hF;clear hd hm hb hF;go_simp;exact hK'.out _ _ _ (rfl) trivial ⟨rfl,HF.out⟩
     ·refine az.af rfl ?_
      have y0:x 165=.pointer (some ⟨g0,0,none⟩):=(D_ hd 1 :);have HF:=Z_ hF;clear hd hm hb hF;go_simp;exact hK'.out _ _ _ (by simp only [y0];rfl) trivial ⟨rfl,HF.out⟩
     ·refine az.af rfl ?_
      have y0:x 166=.pointer (some ⟨g0,0,none⟩):=(D_ hd 2 :);have HF:=Z_ hF;clear hd hm hb hF;go_simp;exact hK'.out _ _ _ (by simp only [y0];rfl) trivial ⟨rfl,HF.out⟩
     ·refine az.af rfl ?_
      have y0:x 167=.pointer (some ⟨g0,3,none⟩):=(D_ hd 3 :);have HF:=Z_ hF;clear hd hm hb hF;go_simp;exact hK'.out _ _ _ (by simp only [y0];rfl) trivial ⟨rfl,HF.out⟩
     ·refine az.af rfl ?_
      have fU:=rX.ext hF;have hq:=(fU.cell (p:=⟨g0,6,none⟩) NY.out id).trans UC.out;clear fU;have y0:x 168=.pointer (some ⟨g0,6,none⟩):=(D_ hd 4 :);have HF:=Z_ hF;clear hd hm hb hF;go_simp;exact hK'.out _ _ _ (by simp only [y0];rfl) trivial ⟨rfl,HF.out⟩
     ·refine az.af rfl ?_
      have HF:=Z_ hF;clear hd hm hb hF;go_simp;exact hK'.out _ _ _ (rfl) trivial ⟨rfl,HF.out⟩
     ·refine az.af rfl ?_
      have y0:x 170=.pointer (some ⟨X,0,none⟩):=(D_ hd 6 :);have HF:=Z_ hF;clear hd hm hb hF;go_simp;exact hK'.out _ _ _ (by simp only [y0];rfl) trivial ⟨rfl,HF.out⟩
     ·refine az.af rfl ?_
      have y0:x 171=.pointer (some ⟨X,0,none⟩):=(D_ hd 7 :);have HF:=Z_ hF;clear hd hm hb hF;go_simp;exact hK'.out _ _ _ (by simp only [y0];rfl) trivial ⟨rfl,HF.out⟩
     ·refine az.af rfl ?_
      have fU:=rX.ext hF;have hq:=(HS.out.extend fU).x.cell 2;replace hq:u.cell? ⟨X,2,none⟩=some (.slice (some ⟨rb,ro,none⟩) j rc):=hq;clear fU;have y0:x 172=.pointer (some ⟨X,2,none⟩):=(D_ hd 8 :);have HF:=Z_ hF;clear hd hm hb hF;go_simp;exact hK'.out _ _ _ (by simp only [y0];rfl) trivial ⟨rfl,HF.out⟩
     ·refine az.af rfl ?_
      have hj8:=HJQ.out;have hj9:=HJP.out;have y0:x 173=.slice (some ⟨rb,ro,none⟩) j rc:=(D_ hd 9 :);have HF:=Z_ hF;clear hd hm hb hF;go_simp;exact hK'.out _ _ _ (by simp only [y0];rfl) trivial ⟨rfl,HF.out⟩
     ·refine az.af rfl ?_
      have fU:=rX.ext hF;have hq:=(fU.cell (p:=⟨rb,ro+1,none⟩) Ed.out id).trans HR1.out;clear fU;have y0:x 174=.pointer (some ⟨rb,ro+1,none⟩):=(D_ hd 10 :);have HF:=Z_ hF;clear hd hm hb hF;go_simp;exact hK'.out _ _ _ (by simp only [y0];rfl) trivial ⟨rfl,HF.out⟩
     ·refine az.af rfl ?_
      have y0:x 175=.pointer (some ⟨g1,0,none⟩):=(D_ hd 11 :);have HF:=Z_ hF;clear hd hm hb hF;go_simp;exact hK'.out _ _ _ (by simp only [y0];rfl) trivial ⟨rfl,HF.out⟩
     ·refine az.af rfl ?_
      have y0:x 176=.pointer (some ⟨g1,0,none⟩):=(D_ hd 12 :);have HF:=Z_ hF;clear hd hm hb hF;go_simp;exact hK'.out _ _ _ (by simp only [y0];rfl) trivial ⟨rfl,HF.out⟩
     ·refine az.af rfl ?_
      have fU:=rX.ext hF;have hq:=(fU.cell (p:=⟨g1,14,none⟩) HG1.out id).trans MW.out;clear fU;have y0:x 177=.pointer (some ⟨g1,14,none⟩):=(D_ hd 13 :);have HF:=Z_ hF;clear hd hm hb hF;go_simp;exact hK'.out _ _ _ (by simp only [y0];rfl) trivial ⟨rfl,HF.out⟩
     ·refine az.af rfl ?_
      have HF:=Z_ hF;clear hd hm hb hF;go_simp;exact hK'.out _ _ _ (rfl) trivial ⟨rfl,HF.out⟩
     ·refine az.af rfl ?_
      obtain rfl:=kS hm;have y0:x 179=.pointer (some ⟨g0,0,none⟩):=(D_ hd 15 :);have HF:=Z_ hF;have kO:=Z_ (qw jv _ u (fV (Ext.keeps ((aB.refl _ wr).ext hF)) _ _ HT0.out) HI0.out);clear hd hm hb hF;go_simp;refine kO.out.mono ?_
      rintro e u2 ⟨rfl,rfl⟩;exact hK'.out _ _ _ (by simp only [y0];rfl) trivial ⟨rfl,HF.out⟩
     ·refine az.af rfl ?_
      have HF:=Z_ hF;clear hd hm hb hF;go_simp;exact hK'.out _ _ _ (rfl) trivial ⟨rfl,HF.out⟩
     ·refine az.af rfl ?_
      obtain⟨v0,rfl⟩:=mD hm
      have y0:x 178=.int .i64 P6.lab:=(D_ hd 14 :);have y1:x 180=v0:=((D_ hd 16) 180 (by kernel_rfl) :);have y2:x 181=.int .i64 ctx:=(D_ hd 17 :);obtain⟨rv,hF⟩:=hF;subst rv;have HF:=Z_ hF;clear hd hm hb hF;go_simp;exact hK'.out _ _ _ (by simp only [y0,y1,y2];rfl) trivial (⟨rfl,nP HF.out rfl⟩)
     ·refine az.af rfl ?_
      obtain⟨v0,v1,rfl⟩:=tN hm
      have y0:x 164=.int .i64 (p:Nat):=(D_ hd 0 :);have y1:x 169=.int .i64 jv.ref.label:=(D_ hd 5 :);have y2:x 182=v1:=((D_ hd 18) 182 (by kernel_rfl) :);obtain⟨rv,hF⟩:=hF;subst rv;obtain⟨nS,g9,rfl,wA⟩:=hF;have vK:=Z_ (show Calls Tryz.prog 283 #[.int .i64 (p:Nat),.int .i64 (jv.ref.label),.slice (some ⟨g9,0,none⟩) 3 3] u (jL (jv.ref.label) [P6.lab,iF jv,ctx] (p:Nat) u) from jG (p:Nat) (jv.ref.label) (some ⟨g9,0,none⟩) 3 [P6.lab,iF jv,ctx] u (kR wA) (Nat.le_refl _) (by simp));have P7:=Z_ nS;clear hd hm hb nS wA;go_simp;refine vK.out.mono ?_
      rintro e u2 ⟨hy1,hy2,rfl⟩;cases hfl:dW (jv.ref.label) [P6.lab,iF jv,ctx] with
      | true=>
       obtain rfl:=hy1 hfl;exact hK'.out _ _ _ (by simp only [y0,y1,y2];rfl) trivial ⟨rfl,⟨hfl,P7.out⟩⟩
      | false=>
       obtain rfl:=hy2 hfl;have oP:=Z_ (show T=.bad 7 p from by rw [←lu.out,if_pos hfl]);clear wP vK hy1 hy2;go_wp2_with fail
       rw [oP.out];exact⟨rfl,nH (HS.out.extend P7.out)⟩
    case ac0=>
     intro x9 qX wz hl hF hk9;obtain⟨v0,v1,v2,rfl⟩:=NR hl
     obtain⟨-,hfl,P8⟩:=hF;have mM:=Z_ (HS.out.extend P8);have oP:=Z_ (show T=.ok (.mk _ m ks gq 0 ctx,L) from by rw [←lu.out,if_neg (by rw [hfl];decide)]);clear wP hfl P8 hk9 hl;go_wp2_with fail
     go_ret
     rw [oP.out];exact pR mM.out (by constructor<;>decide)
   ·have oP:=Z_ (show T=.ok (.mk _ m ks gq 0 ctx,L) from wP.out.symm)
    clear wP;go_wp2_with fail
    go_ret
    rw [oP.out];exact pR HS.out (by constructor<;>decide)
   ·have oP:=Z_ (show T=.ok (.mk _ m ks gq 0 ctx,L) from wP.out.symm)
    clear wP;go_wp2_with fail
    go_ret
    rw [oP.out];exact pR HS.out (by constructor<;>decide)
   ·have oP:=Z_ (show T=.ok (.mk _ m ks gq 0 ctx,L) from wP.out.symm)
    clear wP;go_wp2_with fail
    go_ret
    rw [oP.out];exact pR HS.out (by constructor<;>decide)
   ·have mg:=HS.out.x.cell
    have Dw:=HS.out.x.frozen;have hxl:=HS.out.x.lt;unfold jr at mg;have hr0:=HR0.out;rw [Nat.add_zero] at hr0;have hc0:=Bi.out 14 (by decide);replace hc0:wr.cell? ⟨g0,14,none⟩=some (.int .i64 jv.lab):=hc0;have hrb:=Ed.out;have hg0:=NY.out;have Ja:0<j:=by rw [←qL.out];exact zN
    have hjq:(0:Int)<(j:Int):=by omega
    have jJ:=wP.out;unfold uZ at jJ;rw [V5.out] at jJ;have lu:=Z_ (show (if dW m [jv.lab,ctx]=false then .bad 7 p else .ok (.mk 12 m ks gq 0 ctx,L):Rz (Tr×List Loc))=T from jJ);clear jJ;go_upto_region 27 with (fail)
    go_wp2_with fail
    have wA:=aC.made wr #[.int .i64 jv.lab,.int .i64 ctx] 3;have vN:=Z_ (HS.out.extend ((aB.refl _ wr).alloc (.cells #[.int .i64 jv.lab,.int .i64 ctx] 3)));have vK:=Z_ (show Calls Tryz.prog 283 #[.int .i64 (p:Nat),.int .i64 (m),.slice (some ⟨wr.heap.size,0,none⟩) 2 2] (wr.alloc (.cells #[.int .i64 jv.lab,.int .i64 ctx] 3)) (jL (m) [jv.lab,ctx] (p:Nat) _) from jG (p:Nat) (m) (some ⟨wr.heap.size,0,none⟩) 2 [jv.lab,ctx] _ (kR wA) (Nat.le_refl _) (by simp));clear wA;have Gw:=Z_ (show Ext wr (wr.alloc (.cells #[.int .i64 jv.lab,.int .i64 ctx] 3)) from(aB.refl _ wr).alloc _);refine vK.out.mono ?_
    rintro e9 w9 ⟨hy1,hy2,rfl⟩;cases hfl:dW (m) [jv.lab,ctx] with
    | true=>
     obtain rfl:=hy1 hfl;have oP:=Z_ (show T=.ok (.mk _ m ks gq 0 ctx,L) from by rw [←lu.out,if_neg (by rw [hfl];decide)]);clear wP vK hy1 hy2;go_wp2_with fail
     go_ret
     rw [oP.out];exact pR vN.out (by constructor<;>decide)
    | false=>
     obtain rfl:=hy2 hfl;have oP:=Z_ (show T=.bad 7 p from by rw [←lu.out,if_pos hfl]);clear wP vK hy1 hy2;go_wp2_with fail
     rw [oP.out];exact⟨rfl,nH vN.out⟩
   ·have mg:=HS.out.x.cell
    have Dw:=HS.out.x.frozen;have hxl:=HS.out.x.lt;unfold jr at mg;have hr0:=HR0.out;rw [Nat.add_zero] at hr0;have hc0:=Bi.out 14 (by decide);replace hc0:wr.cell? ⟨g0,14,none⟩=some (.int .i64 jv.lab):=hc0;have hrb:=Ed.out;have hg0:=NY.out;have Ja:0<j:=by rw [←qL.out];exact zN
    have hjq:(0:Int)<(j:Int):=by omega
    have hc6:=Bi.out 6 (by decide);replace hc6:wr.cell? ⟨g0,6,none⟩=some (.int .i64 jv.ref.label):=hc6;have UC:=Z_ hc6;clear hc6;have jJ:=wP.out;unfold uZ at jJ;rw [V5.out] at jJ;have lu:=Z_ (show (if dW m [ctx]=false then .bad 7 p else if dW jv.ref.label [m,iF jv,ctx]=false then .bad 7 p else .ok (.mk 13 m ks gq 0 ctx,L):Rz (Tr×List Loc))=T from jJ);clear jJ;go_upto_region 30 with (fail)
    go_wp2_with fail
    have wA:=aC.made wr #[.int .i64 ctx] 3;have vN:=Z_ (HS.out.extend ((aB.refl _ wr).alloc (.cells #[.int .i64 ctx] 3)));have vK:=Z_ (show Calls Tryz.prog 283 #[.int .i64 (p:Nat),.int .i64 (m),.slice (some ⟨wr.heap.size,0,none⟩) 1 1] (wr.alloc (.cells #[.int .i64 ctx] 3)) (jL (m) [ctx] (p:Nat) _) from jG (p:Nat) (m) (some ⟨wr.heap.size,0,none⟩) 1 [ctx] _ (kR wA) (Nat.le_refl _) (by simp));clear wA;have Gw:=Z_ (show Ext wr (wr.alloc (.cells #[.int .i64 ctx] 3)) from(aB.refl _ wr).alloc _);refine vK.out.mono ?_
    rintro e9 w9 ⟨hy1,hy2,rfl⟩;cases hfl:dW (m) [ctx] with
    | true=>
     obtain rfl:=hy1 hfl;have N7:=Z_ hfl;clear vK hy1 hy2 hfl;generalize wr.alloc (.cells #[.int .i64 ctx] 3)=w9 at *;go_upto_region 31 with (fail)
     refine dm [8,10,11] (fun i v _=>v=([.int .i64 (p:Nat),.pointer (some ⟨g0,0,none⟩),.pointer (some ⟨g0,0,none⟩),.pointer (some ⟨g0,3,none⟩),.pointer (some ⟨g0,6,none⟩),.int .i64 jv.ref.label,.int .i64 m,.pointer (some ⟨g0,0,none⟩),undef,.int .i64 ctx,undef,undef]:List Value).getD i undef) (rX (.int .i64 (iF jv)) (jK w9 jv.ref.label [m,iF jv,ctx] 3)) (fun _ _=>True) (frame:=?aj0) (fun x=>?ac1) bu.mixed (by kernel_rfl) (by kernel_rfl) (fun _ _ _ _ h _=>h) ?h0q ?stq ?ac2
     case ac1=>
      simp only [chain.aN,chain.fill,chain.bf,chain.aY,jW,jX,jY,jZ,kz,kC,kD,kE,kF];exact rfl
     case h0q=>exact(aB.refl _ _).drew
     case stq=>
      iterate 12 (refine ak.cons (fun x vs u hF hm hb hd K' hK'=>?_) ?_;rotate_left)
      exact ak.nil
      ·refine az.af rfl ?_
       have HF:=Z_ hF;clear hd hm hb hF;go_simp;exact hK'.out _ _ _ (rfl) trivial ⟨rfl,HF.out⟩
      ·refine az.af rfl ?_
       have HF:=Z_ hF;clear hd hm hb hF;go_simp;exact hK'.out _ _ _ (rfl) trivial ⟨rfl,HF.out⟩
      ·refine az.af rfl ?_
       have y0:x 214=.pointer (some ⟨g0,0,none⟩):=(D_ hd 1 :);have HF:=Z_ hF;clear hd hm hb hF;go_simp;exact hK'.out _ _ _ (by simp only [y0];rfl) trivial ⟨rfl,HF.out⟩
      ·refine az.af rfl ?_
       have y0:x 215=.pointer (some ⟨g0,0,none⟩):=(D_ hd 2 :);have HF:=Z_ hF;clear hd hm hb hF;go_simp;exact hK'.out _ _ _ (by simp only [y0];rfl) trivial ⟨rfl,HF.out⟩
      ·refine az.af rfl ?_
       have y0:x 216=.pointer (some ⟨g0,3,none⟩):=(D_ hd 3 :);have HF:=Z_ hF;clear hd hm hb hF;go_simp;exact hK'.out _ _ _ (by simp only [y0];rfl) trivial ⟨rfl,HF.out⟩
      ·refine az.af rfl ?_
       have fU:=Gw.out.ext (rX.ext hF);have hq:=(fU.cell (p:=⟨g0,6,none⟩) NY.out id).trans UC.out;clear fU;have y0:x 217=.pointer (some ⟨g0,6,none⟩):=(D_ hd 4 :);have HF:=Z_ hF;clear hd hm hb hF;go_simp;exact hK'.out _ _ _ (by simp only [y0];rfl) trivial ⟨rfl,HF.out⟩
      ·refine az.af rfl ?_
       have HF:=Z_ hF;clear hd hm hb hF;go_simp;exact hK'.out _ _ _ (rfl) trivial ⟨rfl,HF.out⟩
      ·refine az.af rfl ?_
       have HF:=Z_ hF;clear hd hm hb hF;go_simp;exact hK'.out _ _ _ (rfl) trivial ⟨rfl,HF.out⟩
      ·refine az.af rfl ?_
       obtain rfl:=kS hm;have y0:x 220=.pointer (some ⟨g0,0,none⟩):=(D_ hd 7 :);have HF:=Z_ hF;have kO:=Z_ (qw jv _ u (fV (Ext.keeps (Gw.out.ext hF)) _ _ HT0.out) HI0.out);clear hd hm hb hF;go_simp;refine kO.out.mono ?_
       rintro e u2 ⟨rfl,rfl⟩;exact hK'.out _ _ _ (by simp only [y0];rfl) trivial ⟨rfl,HF.out⟩
      ·refine az.af rfl ?_
       have HF:=Z_ hF;clear hd hm hb hF;go_simp;exact hK'.out _ _ _ (rfl) trivial ⟨rfl,HF.out⟩
      ·refine az.af rfl ?_
       obtain⟨v0,rfl⟩:=mD hm
       have y0:x 219=.int .i64 m:=(D_ hd 6 :);have y1:x 221=v0:=((D_ hd 8) 221 (by kernel_rfl) :);have y2:x 222=.int .i64 ctx:=(D_ hd 9 :);obtain⟨rv,hF⟩:=hF;subst rv;have HF:=Z_ hF;clear hd hm hb hF;go_simp;exact hK'.out _ _ _ (by simp only [y0,y1,y2];rfl) trivial (⟨rfl,nP HF.out rfl⟩)
      ·refine az.af rfl ?_
       obtain⟨v0,v1,rfl⟩:=tN hm
       have y0:x 213=.int .i64 (p:Nat):=(D_ hd 0 :);have y1:x 218=.int .i64 jv.ref.label:=(D_ hd 5 :);have y2:x 223=v1:=((D_ hd 10) 223 (by kernel_rfl) :);obtain⟨rv,hF⟩:=hF;subst rv;obtain⟨nS,g9,rfl,wA⟩:=hF;have vK:=Z_ (show Calls Tryz.prog 283 #[.int .i64 (p:Nat),.int .i64 (jv.ref.label),.slice (some ⟨g9,0,none⟩) 3 3] u (jL (jv.ref.label) [m,iF jv,ctx] (p:Nat) u) from jG (p:Nat) (jv.ref.label) (some ⟨g9,0,none⟩) 3 [m,iF jv,ctx] u (kR wA) (Nat.le_refl _) (by simp));have P7:=Z_ nS;clear hd hm hb nS wA;go_simp;refine vK.out.mono ?_
       rintro e u2 ⟨hy1,hy2,rfl⟩;cases hfl:dW (jv.ref.label) [m,iF jv,ctx] with
       | true=>
        obtain rfl:=hy1 hfl;exact hK'.out _ _ _ (by simp only [y0,y1,y2];rfl) trivial ⟨rfl,⟨hfl,P7.out⟩⟩
       | false=>
        obtain rfl:=hy2 hfl;have oP:=Z_ (show T=.bad 7 p from by rw [←lu.out,if_neg (by rw [N7.out];decide),if_pos hfl]);clear wP vK hy1 hy2;go_wp2_with fail
        rw [oP.out];exact⟨rfl,nH (vN.out.extend P7.out)⟩
     case ac2=>
      intro x9 qX wz hl hF hk9;obtain⟨v0,v1,v2,rfl⟩:=NR hl
      obtain⟨-,hfl,P8⟩:=hF;have mM:=Z_ (vN.out.extend P8);have oP:=Z_ (show T=.ok (.mk _ m ks gq 0 ctx,L) from by rw [←lu.out,if_neg (by rw [N7.out];decide),if_neg (by rw [hfl];decide)]);clear wP hfl P8 hk9 hl;go_wp2_with fail
      go_ret
      rw [oP.out];exact pR mM.out (by constructor<;>decide)
    | false=>
     obtain rfl:=hy2 hfl;have oP:=Z_ (show T=.bad 7 p from by rw [←lu.out,if_pos hfl]);clear wP vK hy1 hy2;go_wp2_with fail
     rw [oP.out];exact⟨rfl,nH vN.out⟩
   ·have mg:=HS.out.x.cell
    have Dw:=HS.out.x.frozen;have hxl:=HS.out.x.lt;unfold jr at mg;have hr0:=HR0.out;rw [Nat.add_zero] at hr0;have hc0:=Bi.out 14 (by decide);replace hc0:wr.cell? ⟨g0,14,none⟩=some (.int .i64 jv.lab):=hc0;have hrb:=Ed.out;have hg0:=NY.out;have Ja:0<j:=by rw [←qL.out];exact zN
    have hjq:(0:Int)<(j:Int):=by omega
    have hcc:=HS.out.cs.c.cell;unfold qK at hcc;obtain⟨p1,p2,p3,pbl,pmo,RJ,-⟩:=HS.out.pc;have hpp:=HS.out.cs.p.cell;rw [RJ] at hpp;obtain⟨gv,hgv⟩:∃ gv,pr.gives=gv:=⟨_,rfl⟩;rw [hgv] at hpp;have ac3:=Z_ RJ;have UD:=Z_ hgv;have jJ:=wP.out;unfold uZ at jJ;rw [V5.out,hgv] at jJ;have lu:=Z_ (show (if (last&&gv)=false then .bad 2 p else if dW pr.given [jv.lab]=false then .bad 7 p else .ok (.mk 14 m ks gq 0 ctx,L):Rz (Tr×List Loc))=T from jJ);clear jJ RJ hgv;by_cases UE:last=true∧gv=true
    ·obtain⟨rfl,rfl⟩:=UE
     go_wp2_with fail
     refine(bM 2 (p:Nat) _).mono ?_
     rintro e w9 ⟨rfl,rfl⟩;have ac4:=Z_ hc0;have HJQ:=Z_ hjq;have HJP:=Z_ Ja;have HRR:=Z_ hr0;go_upto_region 34 with (fail)
     clear hcc hpp mg Dw hxl hr0 hc0 hrb hg0 Ja hjq;refine dm [18,19] (fun i v _=>v=([.int .i64 (p:Nat),.pointer (some ⟨C,0,none⟩),.pointer (some ⟨C,0,none⟩),.pointer (some ⟨C,5,none⟩),.pointer (some ⟨P,0,none⟩),.pointer (some ⟨P,0,none⟩),.pointer (some ⟨P,0,none⟩),.pointer (some ⟨P,5,none⟩),.int .i64 pr.given,.pointer (some ⟨X,0,none⟩),.pointer (some ⟨X,0,none⟩),.pointer (some ⟨X,2,none⟩),.slice (some ⟨rb,ro,none⟩) j rc,.pointer (some ⟨rb,ro,none⟩),.pointer (some ⟨g0,0,none⟩),.pointer (some ⟨g0,0,none⟩),.pointer (some ⟨g0,14,none⟩),.int .i64 jv.lab,undef,undef]:List Value).getD i undef) (jK w9 pr.given [jv.lab] 1) (fun _ _=>True) (frame:=?aj1) (fun x=>?ac5) bu.mixed (by kernel_rfl) (by kernel_rfl) (fun _ _ _ _ h _=>h) ?h0r ?str ?ac6
     case ac5=>
      simp only [chain.aN,chain.fill,chain.bf,chain.aY,jW,jX,jY,jZ,kz,kC,kD,kE,kF];exact rfl
     case h0r=>exact(aB.refl _ _).drew
     case str=>
      iterate 20 (refine ak.cons (fun x vs u hF hm hb hd K' hK'=>?_) ?_;rotate_left)
      exact ak.nil
      ·refine az.af rfl ?_
       have HF:=Z_ hF;clear hd hm hb hF;go_simp;exact hK'.out _ _ _ (rfl) trivial ⟨rfl,HF.out⟩
      ·refine az.af rfl ?_
       have HF:=Z_ hF;clear hd hm hb hF;go_simp;exact hK'.out _ _ _ (rfl) trivial ⟨rfl,HF.out⟩
      ·refine az.af rfl ?_
       have y0:x 241=.pointer (some ⟨C,0,none⟩):=(D_ hd 1 :);have HF:=Z_ hF;clear hd hm hb hF;go_simp;exact hK'.out _ _ _ (by simp only [y0];rfl) trivial ⟨rfl,HF.out⟩
      ·refine az.af rfl ?_
       have y0:x 242=.pointer (some ⟨C,0,none⟩):=(D_ hd 2 :);have HF:=Z_ hF;clear hd hm hb hF;go_simp;exact hK'.out _ _ _ (by simp only [y0];rfl) trivial ⟨rfl,HF.out⟩
      ·refine az.af rfl ?_
       have fU:=jK.ext hF;have hq:=(HS.out.extend fU).cs.c.cell;unfold qK at hq;clear fU;have y0:x 243=.pointer (some ⟨C,5,none⟩):=(D_ hd 3 :);have HF:=Z_ hF;clear hd hm hb hF;go_simp;exact hK'.out _ _ _ (by simp only [y0];rfl) trivial ⟨rfl,HF.out⟩
      ·refine az.af rfl ?_
       have y0:x 244=.pointer (some ⟨P,0,none⟩):=(D_ hd 4 :);have HF:=Z_ hF;clear hd hm hb hF;go_simp;exact hK'.out _ _ _ (by simp only [y0];rfl) trivial ⟨rfl,HF.out⟩
      ·refine az.af rfl ?_
       have y0:x 245=.pointer (some ⟨P,0,none⟩):=(D_ hd 5 :);have HF:=Z_ hF;clear hd hm hb hF;go_simp;exact hK'.out _ _ _ (by simp only [y0];rfl) trivial ⟨rfl,HF.out⟩
      ·refine az.af rfl ?_
       have y0:x 246=.pointer (some ⟨P,0,none⟩):=(D_ hd 6 :);have HF:=Z_ hF;clear hd hm hb hF;go_simp;exact hK'.out _ _ _ (by simp only [y0];rfl) trivial ⟨rfl,HF.out⟩
      ·refine az.af rfl ?_
       have fU:=jK.ext hF;have hq:=(HS.out.extend fU).cs.p.cell 5;rw [ac3.out] at hq;replace hq:u.cell? ⟨P,5,none⟩=some (.int .i64 pr.given):=hq;clear fU;have y0:x 247=.pointer (some ⟨P,5,none⟩):=(D_ hd 7 :);have HF:=Z_ hF;clear hd hm hb hF;go_simp;exact hK'.out _ _ _ (by simp only [y0];rfl) trivial ⟨rfl,HF.out⟩
      ·refine az.af rfl ?_
       have HF:=Z_ hF;clear hd hm hb hF;go_simp;exact hK'.out _ _ _ (rfl) trivial ⟨rfl,HF.out⟩
      ·refine az.af rfl ?_
       have y0:x 249=.pointer (some ⟨X,0,none⟩):=(D_ hd 9 :);have HF:=Z_ hF;clear hd hm hb hF;go_simp;exact hK'.out _ _ _ (by simp only [y0];rfl) trivial ⟨rfl,HF.out⟩
      ·refine az.af rfl ?_
       have y0:x 250=.pointer (some ⟨X,0,none⟩):=(D_ hd 10 :);have HF:=Z_ hF;clear hd hm hb hF;go_simp;exact hK'.out _ _ _ (by simp only [y0];rfl) trivial ⟨rfl,HF.out⟩
      ·refine az.af rfl ?_
       have fU:=jK.ext hF;have hq:=(HS.out.extend fU).x.cell 2;replace hq:u.cell? ⟨X,2,none⟩=some (.slice (some ⟨rb,ro,none⟩) j rc):=hq;clear fU;have y0:x 251=.pointer (some ⟨X,2,none⟩):=(D_ hd 11 :);have HF:=Z_ hF;clear hd hm hb hF;go_simp;exact hK'.out _ _ _ (by simp only [y0];rfl) trivial ⟨rfl,HF.out⟩
      ·refine az.af rfl ?_
       have hj8:=HJQ.out;have hj9:=HJP.out;have y0:x 252=.slice (some ⟨rb,ro,none⟩) j rc:=(D_ hd 12 :);have HF:=Z_ hF;clear hd hm hb hF;go_simp;exact hK'.out _ _ _ (by simp only [y0];rfl) trivial ⟨rfl,HF.out⟩
      ·refine az.af rfl ?_
       have fU:=jK.ext hF;have hq:=(fU.cell (p:=⟨rb,ro,none⟩) Ed.out id).trans HRR.out;clear fU;have y0:x 253=.pointer (some ⟨rb,ro,none⟩):=(D_ hd 13 :);have HF:=Z_ hF;clear hd hm hb hF;go_simp;exact hK'.out _ _ _ (by simp only [y0];rfl) trivial ⟨rfl,HF.out⟩
      ·refine az.af rfl ?_
       have y0:x 254=.pointer (some ⟨g0,0,none⟩):=(D_ hd 14 :);have HF:=Z_ hF;clear hd hm hb hF;go_simp;exact hK'.out _ _ _ (by simp only [y0];rfl) trivial ⟨rfl,HF.out⟩
      ·refine az.af rfl ?_
       have y0:x 255=.pointer (some ⟨g0,0,none⟩):=(D_ hd 15 :);have HF:=Z_ hF;clear hd hm hb hF;go_simp;exact hK'.out _ _ _ (by simp only [y0];rfl) trivial ⟨rfl,HF.out⟩
      ·refine az.af rfl ?_
       have fU:=jK.ext hF;have hq:=(fU.cell (p:=⟨g0,14,none⟩) NY.out id).trans ac4.out;clear fU;have y0:x 256=.pointer (some ⟨g0,14,none⟩):=(D_ hd 16 :);have HF:=Z_ hF;clear hd hm hb hF;go_simp;exact hK'.out _ _ _ (by simp only [y0];rfl) trivial ⟨rfl,HF.out⟩
      ·refine az.af rfl ?_
       obtain rfl:=kS hm;have y0:x 257=.int .i64 jv.lab:=(D_ hd 17 :);have HF:=Z_ hF;clear hd hm hb hF;go_simp;exact hK'.out _ _ _ (by simp only [y0];rfl) trivial (nP HF.out rfl)
      ·refine az.af rfl ?_
       obtain⟨v0,rfl⟩:=mD hm
       have y0:x 240=.int .i64 (p:Nat):=(D_ hd 0 :);have y1:x 248=.int .i64 pr.given:=(D_ hd 8 :);have y2:x 258=v0:=((D_ hd 18) 258 (by kernel_rfl) :);obtain⟨nS,g9,rfl,wA⟩:=hF;have vK:=Z_ (show Calls Tryz.prog 283 #[.int .i64 (p:Nat),.int .i64 (pr.given),.slice (some ⟨g9,0,none⟩) 1 1] u (jL (pr.given) [jv.lab] (p:Nat) u) from jG (p:Nat) (pr.given) (some ⟨g9,0,none⟩) 1 [jv.lab] u (kR wA) (Nat.le_refl _) (by simp));have P7:=Z_ nS;clear hd hm hb nS wA;go_simp;refine vK.out.mono ?_
       rintro e u2 ⟨hy1,hy2,rfl⟩;cases hfl:dW (pr.given) [jv.lab] with
       | true=>
        obtain rfl:=hy1 hfl;exact hK'.out _ _ _ (by simp only [y0,y1,y2];rfl) trivial ⟨hfl,P7.out⟩
       | false=>
        obtain rfl:=hy2 hfl;have oP:=Z_ (show T=.bad 7 p from by rw [←lu.out,if_neg (by decide),if_pos hfl]);clear wP vK hy1 hy2;go_wp2_with fail
        rw [oP.out];exact⟨rfl,nH (HS.out.extend P7.out)⟩
     case ac6=>
      intro x9 qX wz hl hF hk9;obtain⟨v0,v1,rfl⟩:=DT hl
      obtain⟨hfl,P8⟩:=hF;have mM:=Z_ (HS.out.extend P8);have oP:=Z_ (show T=.ok (.mk _ m ks gq 0 ctx,L) from by rw [←lu.out,if_neg (by decide),if_neg (by rw [hfl];decide)]);clear wP hfl P8 hk9 hl;go_wp2_with fail
      go_ret
      rw [oP.out];exact pR mM.out (by constructor<;>decide)
    ·have oP:=Z_ (show T=.bad 2 p from by rw [←lu.out,if_pos (by cases last<;>cases gv<;>simp_all)])
     have hkey:last=false∨(last=true∧gv=false):=by cases last<;>cases gv<;>simp_all
     clear wP lu UE;rcases hkey with rfl|⟨rfl,rfl⟩
     ·go_wp2_with fail
      refine(bY 2 (p:Nat) _).mono ?_
      rintro e w9 ⟨rfl,rfl⟩;go_wp2_with fail
      rw [oP.out];exact⟨rfl,nH HS.out⟩
     ·go_wp2_with fail
      refine(bY 2 (p:Nat) _).mono ?_
      rintro e w9 ⟨rfl,rfl⟩;go_wp2_with fail
      rw [oP.out];exact⟨rfl,nH HS.out⟩
end chk
end Go.Proofs.YtpcihajmcejliacGreatDoor
