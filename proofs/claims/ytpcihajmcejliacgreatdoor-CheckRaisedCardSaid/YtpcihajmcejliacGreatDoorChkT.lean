/- The walk of the checker's stat. -/
import Derived.Test.YtpcihajmcejliacGreatDoorChkK
namespace Go.Proofs.YtpcihajmcejliacGreatDoor
open Go.RowKit
namespace chk
open bH fF
def zW (z:Value) (pre:World→Prop) (sb:Value→List Loc→Array Value→World→Value→Value→List Tr→Prop) (X:Nat) (row:Value) (ks:List Tr) (T:Rz (Tr×List Loc)):List Value→World→Prop
 | [],u=>pre u
 | v::r,u=>v=z∧uJ pre sb X row ks T r u
theorem zW.any {z:Value} {pre:World→Prop} {sb:Value→List Loc→Array Value→World→Value→Value→List Tr→Prop} {X:Nat} {row:Value} {ks:List Tr} {T:Rz (Tr×List Loc)} {vs:List Value} {u:World} {Q:Prop} (h:zW z pre sb X row ks T vs u) (h1:pre u→Q) (h2:∀ vl L pc rN r lq,sb vl L pc u rN r lq→Q):Q:=by
 match vs,h with
 | [],h=>exact h1 h
 | _::_,h=>exact uJ.any h.2 h1 h2
theorem zW.low {z:Value} {pre:World→Prop} {sb:Value→List Loc→Array Value→World→Value→Value→List Tr→Prop} {X:Nat} {row:Value} {ks:List Tr} {T:Rz (Tr×List Loc)} {vs:List Value} {u:World} {Q:Prop} (h:zW z pre sb X row ks T vs u) (hl:vs.length≤3) (h1:pre u→Q) (h2:∀ vl L pc,sb vl L pc u row row ks→Q):Q:=by
 match vs,hl,h with
 | [],_,h=>exact h1 h
 | _::_,hl,h=>exact uJ.low h.2 (by simpa using hl) h1 h2
theorem zW.pre {z:Value} {pre:World→Prop} {sb:Value→List Loc→Array Value→World→Value→Value→List Tr→Prop} {X:Nat} {row:Value} {ks:List Tr} {T:Rz (Tr×List Loc)} {vs:List Value} {u:World} (h:zW z pre sb X row ks T vs u) (hl:vs.length≤1):pre u:=by
 match vs,hl,h with
 | [],_,h=>exact h
 | [_],_,h=>exact h.2
def UM (ks:List Tr):Option Int:=ks.head?.map Tr.lab
theorem X9 (ks:List Tr) (y:Tr):UM (ks ++ [y])=some ((UM ks).getD y.lab):=by
 cases ks<;>rfl
def zX (E:eG) (pr:aO) (ctx:Int) (alone:Bool) (L:List Loc) (deep:Int) (l:List Nd) (p:Nat) (ks:List Tr):Rz (List Tr):=(lU E pr ctx alone L deep l (UM ks) p).bind fun ys=>.ok (ks++ys)
theorem NQ {E:eG} {pr:aO} {ctx:Int} {alone:Bool} {L:List Loc} {deep:Int} {x:Nd} {r:List Nd} {p:Nat} {ks:List Tr}:zX E pr ctx alone L deep (x::r) p ks=match (if x.kd=6 then C0 E pr (jL ctx ((UM ks).getD 0)) false L (deep+1) x p else zy E L ctx alone x p) with
 | .bad c q=>.bad c q
 | .ok y=>zX E pr ctx alone L deep r (p+dL x) (ks ++ [y]):=by
 unfold zX;rw [lU];cases (if x.kd=6 then C0 E pr (jL ctx ((UM ks).getD 0)) false L (deep+1) x p else zy E L ctx alone x p) with
 | bad c q=>rfl
 | ok y=>
  simp only [Rz.bind];rw [X9];cases lU E pr ctx alone L deep r (some ((UM ks).getD y.lab)) (p+dL x) with
  | bad c q=>rfl
  | ok ys=>simp
theorem NR {k:Int} {t:ByteArray} {m:Int} {l:List Nd} (h:Form k t m l) (hk:uP k):(∀ y∈l,y.kd=6∨mJ y.kd)∧(∀ (h:0<l.length),l[0].kd≠6)∧0<l.length∧(k=8→l.length=2):=by
 unfold uP at hk;have pe:∀ {y:Nd},Jd y.kd→mJ y.kd:=fun h=>pU.zA h
 have ne:∀ {y:Nd},mJ y.kd→y.kd≠6:=fun h=>by unfold mJ at h;omega
 have l1:∀ {y:Nd},mJ y.kd→∀ z∈[y],z.kd=6∨mJ z.kd:=fun h z hz=>by rw [List.mem_singleton] at hz;subst hz;exact .inr h
 cases h
 all_goals first
  | (exfalso;omega)
  | skip
 case loc x hx ht h0 h1=>exact⟨l1 hx,fun _=>ne hx,by simp,fun h=>by omega⟩
 case set p x hp hx=>exact⟨fun z hz=>by simp only [List.mem_cons,List.not_mem_nil,or_false] at hz;rcases hz with rfl|rfl;exact .inr (pe hp);exact .inr hx,fun _=>ne (pe hp),by simp,fun _=>rfl⟩
 case Wy c hc=>exact⟨l1 (by rw [hc];unfold mJ;omega),fun _=>by show c.kd≠6;rw [hc];decide,by simp,fun h=>by omega⟩
 case WA x b hx hb=>exact⟨fun z hz=>by simp only [List.mem_cons,List.not_mem_nil,or_false] at hz;rcases hz with rfl|rfl;exact .inr hx;exact .inl hb,fun _=>ne hx,by simp,fun h=>by omega⟩
 case WB x b c hx hb hc=>exact⟨fun z hz=>by simp only [List.mem_cons,List.not_mem_nil,or_false] at hz;rcases hz with rfl|rfl|rfl;exact .inr hx;exact .inl hb;exact .inl hc,fun _=>ne hx,by simp,fun h=>by omega⟩
 case uV x b hx hb=>exact⟨fun z hz=>by simp only [List.mem_cons,List.not_mem_nil,or_false] at hz;rcases hz with rfl|rfl;exact .inr hx;exact .inl hb,fun _=>ne hx,by simp,fun h=>by omega⟩
 case out x hx h0 h1=>exact⟨l1 hx,fun _=>ne hx,by simp,fun h=>by omega⟩
 case inp x hx h0 h1=>exact⟨l1 (pe hx),fun _=>ne (pe hx),by simp,fun h=>by omega⟩
 case ret x hx=>exact⟨l1 hx,fun _=>ne hx,by simp,fun h=>by omega⟩
theorem QU {X Kb S i:Nat} {row vl:Value} (hr:∀ i,row.ownBlock=some i→i<Kb) (hv:∀ i,vl.ownBlock=some i→i<Kb) (hx:X<Kb) (hs:Kb<S) (hm:below S i=false):(cg (X+1) row i || fF.ownB vl i)=false:=by
 simp only [below,cg,fF.ownB,Bool.or_eq_false_iff,decide_eq_false_iff_not] at hm ⊢;exact⟨⟨by omega,fun e=>by have:=hr i e;omega⟩,fun e=>by have:=hv i e;omega⟩
theorem NS {w:World} {X:Nat→Bool} {B:Nat} {row:Value} {ks:List Tr} (h:lV X 1 219 F8 B w row ks):∃ a c,row=.slice a ks.length c∧fN 1 Gt w a ks:=by
 obtain⟨a,c,e,-,-,h3⟩:=yR h dR xG;exact⟨a,c,e,h3.keeps (aC _ _) (ou (aC _ _))⟩
theorem NU {w:World} {X:Nat→Bool} {B:Nat} {row:Value} {ks:List Tr} (h:lV X 1 219 F8 B w row ks) (hp:0<ks.length):∃ rb ro g0 c,row=.slice (some ⟨rb,ro,none⟩) ks.length c∧rb<w.heap.size∧g0<w.heap.size∧w.cell? ⟨rb,ro,none⟩=some (.pointer (some ⟨g0,0,none⟩))∧w.cell? ⟨g0,14,none⟩=some (.int .i64 ((UM ks).getD 0)):=by
 obtain⟨a,c,e,h3⟩:=NS h;obtain⟨rb,ro,rfl,hb,u,hu,ht⟩:=h3 0 hp;obtain⟨g,a2,c2,p0,p1,p2,p3,p4,p5,rfl,hg,hc,-⟩:=rW ht;refine⟨rb,ro,g,c,e,hb,hg,by simpa using hu,(hc 14 (by decide)).trans ?_⟩
 cases ks with
 | nil=>cases hp
 | cons y r=>rfl
set_option maxRecDepth 100000 in
set_option maxHeartbeats 32000000 in
theorem uZ {W:World} {C Mo D K P B:Nat} {E:eG} {eF fB:Value} {dc:Array Value} {pr:aO} {H:Nat→Bool} (hmv:dG W) (x:Nd) (his:fC x) (hks:uP x.kd) (hIH:∀ y∈x.kids,y.kd=6→AP W C Mo D K P B E eF fB dc pr H y):Lm W C Mo D K P B E eF fB dc pr H x:=by
 intro v last ctx u p vl L deep pc hCS hpc hnd hsz hL hd0 hd1;obtain⟨k,t,m,l⟩:=x;have hkids:=his.kids;obtain⟨hfk,hf0,hpos,hf8⟩:=NR his.form hks;have HFK:=Z_ hfk;have vP:=Z_ hf0;have HF8:=Z_ hf8;have HIS:=Z_ (show ∀ y∈l,fC y from hkids);have az0:=Z_ his.form;rw [dY] at hnd;obtain⟨a,cc,rfl,hl1,hl2,hl3,hl4⟩:=hnd;have HTX:=Z_ hl3;obtain⟨T,hT⟩:∃ T,Gz E pr ctx last L deep (.mk k t m l) p=T:=⟨_,rfl⟩;rw [hT];rw [Gz] at hT;have HIH:=Z_ (show ∀ y∈l,y.kd=6→AP W C Mo D K P B E eF fB dc pr H y from hIH);obtain⟨N,hN⟩:∃ N,l.length=N:=⟨_,rfl⟩;rw [hN] at hl1 ⊢;have HN:=Z_ hN;obtain⟨pe,hpe⟩:∃ pe,p+dL (.mk k t m l)=pe:=⟨_,rfl⟩;have Qg:deep+(gm l:Int)+1≤2000:=by simp only [dL] at hd1;omega
 rw [hpe] at hsz ⊢;have GF:p+1+gm l=pe:=by rw [←hpe];simp only [dL];omega
 have HPE:=Z_ GF;have HI:=Z_ (fun (u:World) (hE:Ext W u)=>hl4.keeps (aN hE fun i _ e=>e.elim) fun b o y=>jd (aN hE fun i _ e=>e.elim) b o y);obtain⟨ba,hba⟩:∃ ba,(k == 9)=ba:=⟨_,rfl⟩;have ac5:decide (k=9)=ba:=by rw [←hba];by_cases e:k=9<;>simp [e]
 rw [ac5] at hT;have HBA:=Z_ hba;obtain⟨TR,hTR⟩:∃ TR,lU E pr ctx ba L deep l none (p+1)=TR:=⟨_,rfl⟩;rw [hTR] at hT;have WN:=Z_ (show (TR.bind fun ks=>wQ pr L deep ctx last k t m ks p)=T from hT);have HST:=Z_ hTR;have HT:=Z_ (show zX E pr ctx ba L deep l (p+1) []=TR by rw [←hTR];unfold zX;show (lU E pr ctx ba L deep l none (p+1)).bind _=_;cases lU E pr ctx ba L deep l none (p+1)<;>rfl);have Qh:=Z_ (fun i e=>(bG hCS.loc i e).2);have ZA:=Z_ hL;have Nr:=Z_ hCS.hu;have GG:=Z_ (And.intro hd0 Qg);have rC:=Z_ hmv;have vG:=Z_ (show uP k from hks);have hE0:=(aB.refl (fun _=>False) u).alloc (.cells #[.int .i64 k,.string t,.int .i64 m,.slice a N cc] 24);have HC:=Z_ (hCS.extend hE0);have HB:=Z_ (aJ.made u #[.int .i64 k,.string t,.int .i64 m,.slice a N cc] 24)
 have HE:=Z_ (hE0.weak (S':=LS C P vl) fun _ _ e=>e.elim);have HPC:=Z_ hpc;obtain⟨Nb,hNb⟩:∃ Nb,u.heap.size=Nb:=⟨_,rfl⟩;have C7:=Z_ hNb;rw [hNb] at HB Qh Nr;have hNl:N≤1000:=by have h1:=tV l;omega
 have ac6:=Z_ (show 0<N by rw [←hN];exact hpos);have hp:p≤1000:=by omega
 obtain⟨n,hn⟩:∃ n,L.length=n:=⟨_,rfl⟩;have rF:=Z_ hn;have aq8:n≤20:=by omega
 clear hE0 hCS hl4 hT hTR hIH hN hpe GF hpc hL hd0 hd1 Qg hn hkids hfk hf0 hpos hf8 his hks hmv hba ac5;go_enter Tryz.func235,Tryz.ntmps235
 go_upto_region 1 with (fail)
 try rw [hNb]
 generalize u.alloc (.cells #[.int .i64 k,.string t,.int .i64 m,.slice a N cc] 24)=u1 at *;go_wp2_with fail
 refine(next_any HC.out.c (by omega) (by omega)).mono ?_
 rintro e w2 ⟨rfl,hC2,hB2⟩;have HC2:=Z_ (HC.out.p_ hC2 hB2);have HB2:=Z_ (HB.out.aU hC2 (by have:=HC.out.cB;have:=Nr.out;omega));have tK:=Z_ (HE.out.then (hC2.weak fun i _ e=>.inl e));clear hC2 hB2 HC HB HE;have hbc:=HB2.out.cell;obtain⟨la,lc,hvl,-,-⟩:=je HC2.out.loc;rw [rF.out] at hvl;subst hvl;go_upto_region 3 with (fail)
 have HX:=Z_ (show aJ (w2.alloc (.cells #[.int .i64 k,.int .i64 m,.slice none 0 0,.int .i64 0,.string ⟨#[]⟩,.string ⟨#[]⟩,.int .i64 0,.int .i64 0,.string ⟨#[]⟩,.bool false,.slice none 0 0,.int .i64 0,.bool false,.int .i64 0,.int .i64 0,.int .i64 ctx] 345)) w2.heap.size #[.int .i64 k,.int .i64 m,.slice none 0 0,.int .i64 0,.string ⟨#[]⟩,.string ⟨#[]⟩,.int .i64 0,.int .i64 0,.string ⟨#[]⟩,.bool false,.slice none 0 0,.int .i64 0,.bool false,.int .i64 0,.int .i64 0,.int .i64 ctx] 345 from aJ.made w2 _ _);have HB3:=Z_ (HB2.out.alloc (.cells #[.int .i64 k,.int .i64 m,.slice none 0 0,.int .i64 0,.string ⟨#[]⟩,.string ⟨#[]⟩,.int .i64 0,.int .i64 0,.string ⟨#[]⟩,.bool false,.slice none 0 0,.int .i64 0,.bool false,.int .i64 0,.int .i64 0,.int .i64 ctx] 345));have yI:=Z_ (HC2.out.extend ((aB.refl _ w2).alloc (.cells #[.int .i64 k,.int .i64 m,.slice none 0 0,.int .i64 0,.string ⟨#[]⟩,.string ⟨#[]⟩,.int .i64 0,.int .i64 0,.string ⟨#[]⟩,.bool false,.slice none 0 0,.int .i64 0,.bool false,.int .i64 0,.int .i64 0,.int .i64 ctx] 345)))
 have zu:=Z_ (tK.out.alloc (.cells #[.int .i64 k,.int .i64 m,.slice none 0 0,.int .i64 0,.string ⟨#[]⟩,.string ⟨#[]⟩,.int .i64 0,.int .i64 0,.string ⟨#[]⟩,.bool false,.slice none 0 0,.int .i64 0,.bool false,.int .i64 0,.int .i64 0,.int .i64 ctx] 345));obtain⟨X,hX⟩:∃ X,w2.heap.size=X:=⟨_,rfl⟩;rw [hX] at HX;have C9:Nb<X:=by have:=HB2.out.lt;omega
 try rw [hX]
 clear hbc hX HC2 HB2 tK;generalize w2.alloc (.cells #[.int .i64 k,.int .i64 m,.slice none 0 0,.int .i64 0,.string ⟨#[]⟩,.string ⟨#[]⟩,.int .i64 0,.int .i64 0,.string ⟨#[]⟩,.bool false,.slice none 0 0,.int .i64 0,.bool false,.int .i64 0,.int .i64 0,.int .i64 ctx] 345)=u3 at *;have Qi:=Z_ (show SB W u u3 C Mo D K P B Nb X E (.slice la n lc) (.slice la n lc) L deep ((p+1):Nat) eF fB dc pc pr #[.int .i64 k,.string t,.int .i64 m,.slice a N cc] (fun rv=>lY k m rv jo (.string ⟨#[]⟩) (.bool false) (.slice none 0 0) (.int .i64 0) (.bool false) (.int .i64 0) 0 ctx) (.slice none 0 0) (.slice none 0 0) [] from⟨yI.out,HPC.out,HB3.out,HX.out,yO _ _ _ _ _ _,zu.out,fun i e=>.inl ⟨e,Qh.out i e⟩,fun i e=>(by cases e),by have:=C7.out;omega,Nr.out,C9⟩);clear yI HPC HB3 HX zu;have hbc:=Qi.out.nb.cell;go_wp2_with fail
 clear hbc;go_loopw [30] (fun i wr=>∃ (j q:Nat) (row Jp:Value) (ks:List Tr) (Lp:Array Value),j≤N∧i=.int .i64 (j:Nat)∧Hid (ks.length=j)∧Hid (q+gm (l.drop j)=pe)∧Hid (zX E pr ctx ba L deep (l.drop j) q ks=TR)∧Hid (SB W u wr C Mo D K P B Nb X E (.slice la n lc) Jp L deep (q:Nat) eF fB dc Lp pr #[.int .i64 k,.string t,.int .i64 m,.slice a N cc] (fun rv=>lY k m rv jo (.string ⟨#[]⟩) (.bool false) (.slice none 0 0) (.int .i64 0) (.bool false) (.int .i64 0) 0 ctx) row row ks)) (fun i _=>N-(intOf i).toNat)
 case atStart=>exact⟨0,p+1,.slice none 0 0,.slice la n lc,[],_,Nat.zero_le _,rfl,Z_ rfl,Z_ (by have:=HPE.out;rw [List.drop_zero];exact this),by rw [List.drop_zero];exact HT,Qi⟩
 clear Qi HT
 case round=>
  obtain⟨j,q,row,Jp,ks,Lp,hj,rfl,uK,HQ,HT,HS⟩:=hrel;by_cases hlt:j<N
  ·have hji:(j:Int)<(N:Int):=by omega
   have hjd:decide ((j:Int)<(N:Int))=true:=by simpa using hji
   have hjl:j<l.length:=by rw [HN.out];exact hlt
   obtain⟨b,o,rfl,hb,uv,hu,hus,hcl⟩:=HI.out W (aB.refl _ _) j hjl;rw [dK] at hb;have hE:=HS.out.cs.ext;have hbl:=Nat.lt_of_lt_of_le hb hE.size;have Ur:=Z_ (HIH.out l[j] (List.getElem_mem hjl));have HFY:=Z_ (HFK.out l[j] (List.getElem_mem hjl));have ac7:=Z_ (HIS.out l[j] (List.getElem_mem hjl))
   have HJ0:=Z_ (show l[j].kd=6→0<j from fun e=>by
    rcases Nat.eq_zero_or_pos j with h0|h0
    ·subst h0;exact absurd e (vP.out hjl)
    ·exact h0)
   have hT:=HT.out;rw [List.drop_eq_getElem_cons hjl,NQ] at hT;have hQ:=HQ.out;rw [List.drop_eq_getElem_cons hjl] at hQ;simp only [gm] at hQ;have Us:=Z_ (show dL l[j]≤gm l by have h1:=ofw.Jq l j;rw [List.drop_eq_getElem_cons hjl] at h1;simp only [gm] at h1;omega);have JP:=Z_ (show (l[j]).kd=(l[j]).kd from rfl);generalize l[j]=y at hu hT hQ Ur Us HFY ac7 HJ0 JP;have HU:=Z_ hu;obtain⟨k1,t1,m1,a1,N1,c1,rfl⟩:=dF hu
   have hyk:y.kd=k1:=by
    obtain⟨k9,t9,m9,l9⟩:=y;rw [dY] at hu;obtain⟨_,_,e9,-⟩:=hu;injection e9 with e9
    injection e9 with e9
    injection e9 with e9 _
    injection e9 with _ e9
    exact e9.symm
   rw [hyk] at hT;have HYK:=Z_ hyk;have q0:wr.cell? ⟨b,o+j*4,none⟩=some (.int .i64 k1):=(hE.cell (p:=⟨b,o+j*4,none⟩) hb id).trans ((aC _ W).2 _ _ ((hcl 0 (by decide)).trans rfl));have q1:wr.cell? ⟨b,o+j*4+1,none⟩=some (.string t1):=(hE.cell (p:=⟨b,o+j*4+1,none⟩) hb id).trans ((aC _ W).2 _ _ ((hcl 1 (by decide)).trans rfl));have q2:wr.cell? ⟨b,o+j*4+2,none⟩=some (.int .i64 m1):=(hE.cell (p:=⟨b,o+j*4+2,none⟩) hb id).trans ((aC _ W).2 _ _ ((hcl 2 (by decide)).trans rfl));have q3:wr.cell? ⟨b,o+j*4+3,none⟩=some (.slice a1 N1 c1):=(hE.cell (p:=⟨b,o+j*4+3,none⟩) hb id).trans ((aC _ W).2 _ _ ((hcl 3 (by decide)).trans rfl));have HK:=Z_ (aJ.made wr #[.int .i64 k1,.string t1,.int .i64 m1,.slice a1 N1 c1] 24);have AQ:=Z_ (HS.out.extend ((aB.refl (fun _=>False) wr).alloc (.cells #[.int .i64 k1,.string t1,.int .i64 m1,.slice a1 N1 c1] 24)))
   have hw5:=HS.out.x.lt;have Qj:=Z_ (fun i e=>(dm HS.out.grow i e).2);have XG:=Z_ (fun i e=>(bG HS.out.cs.loc i e).2);obtain⟨Kb,hKb⟩:∃ Kb,wr.heap.size=Kb:=⟨_,rfl⟩;rw [hKb] at HK hw5 Qj XG;have Jc:=Z_ hw5;have HT2:=Z_ hT;have uM:=Z_ hQ;clear hT hQ HT HQ hcl hus hu hw5 HS hE hyk JP;go_upto_region 7 with (fail)
   try rw [hKb]
   generalize wr.alloc (.cells #[.int .i64 k1,.string t1,.int .i64 m1,.slice a1 N1 c1] 24)=u5 at *;clear q0 q1 q2 q3 hKb;obtain⟨ra,rc,hrow,-,-⟩:=fF.qK AQ.out.grow;rw [uK.out] at hrow;subst hrow;have hkc:=HK.out.cell;have hkl:=HK.out.lt;by_cases h6:k1=6
   ·have h6b:(k1 == 6)=true:=by simpa using h6
    have hj0:=HJ0.out (HYK.out.trans h6);subst h6
    have HT3:=Z_ (show (match C0 E pr (jL ctx ((UM ks).getD 0)) false L (deep+1) y q with
     | .bad c q=>(.bad c q:Rz (List Tr))
     | .ok y_1=>zX E pr ctx ba L deep (l.drop (j+1)) (q+dL y) (ks ++ [y_1]))=TR from by have h:=HT2.out;rw [if_pos rfl] at h;exact h)
    have hcc:=AQ.out.cs.c.cell;have hcf:=AQ.out.cs.c.frozen;have hcl:=AQ.out.cs.c.lt;unfold wK at hcc;have hwd:IntKind.i64.wrap (deep+1)=deep+1:=IntWalk.i64_in _ (by have:=GG.out;omega);have mM:=Z_ (AQ.out.p_ (deep':=deep+1) (aA (aB.refl _ u5) 3 (.int .i64 (deep+1))) (AQ.out.cs.c.set 3 (.int .i64 (deep+1))));have HKA:=Z_ (HK.out.setOther (p:=⟨C,3,none⟩) (by have h1:=AQ.out.cs.cB;have h3:=AQ.out.hB;have h4:=AQ.out.C9;have h5:=Jc.out;show Kb≠C;omega) (.int .i64 (deep+1)));obtain⟨rb,ro,g0,rc2,hrw,hrb,hg0,hr0,hl0⟩:=NU mM.out.grow (by rw [uK.out];exact hj0);rw [uK.out] at hrw;obtain⟨Dl,WO⟩:∃ Dl,(UM ks).getD 0=Dl:=⟨_,rfl⟩;rw [WO] at hl0;rw [WO] at HT3;injection hrw with hra _ hrc
    subst hra;subst hrc;have HRA:=Z_ (And.intro (And.intro hrb hg0) (And.intro hr0 hl0));have HBK:=Z_ (Ur.out (HYK.out));clear hr0 hl0 hrb hg0 HT2;go_upto_region 9 with (fail)
    clear hkc hkl hcc hcf hcl;generalize u5.setCell ⟨C,3,none⟩ (.int .i64 (deep+1))=u6 at *;refine fA [17,18,19,20,23] (fun i v _=>v=([.pointer (some ⟨X,0,none⟩),.pointer (some ⟨X,0,none⟩),.pointer (some ⟨X,0,none⟩),.pointer (some ⟨X,2,none⟩),.slice (some ⟨rb,ro,none⟩) j rc,.pointer (some ⟨C,0,none⟩),.agg #[.int .i64 6,.string t1,.int .i64 m1,.slice a1 N1 c1],.int .i64 ctx,.pointer (some ⟨X,0,none⟩),.pointer (some ⟨X,0,none⟩),.pointer (some ⟨X,2,none⟩),.slice (some ⟨rb,ro,none⟩) j rc,.pointer (some ⟨rb,ro,none⟩),.pointer (some ⟨g0,0,none⟩),.pointer (some ⟨g0,0,none⟩),.pointer (some ⟨g0,14,none⟩),.int .i64 Dl,undef,undef,undef,undef,.pointer (some ⟨X,0,none⟩),.pointer (some ⟨X,2,none⟩),undef]:List Value).getD i undef) (zW (.int .i64 (jL ctx Dl)) (fun u9=>(SB W u u9 C Mo D K P B Nb X E (.slice la n lc) Jp L (deep+1) (q:Nat) eF fB dc Lp pr #[.int .i64 k,.string t,.int .i64 m,.slice (some ⟨b,o,none⟩) N cc] (fun rv=>lY k m rv jo (.string ⟨#[]⟩) (.bool false) (.slice none 0 0) (.int .i64 0) (.bool false) (.int .i64 0) 0 ctx) (.slice (some ⟨rb,ro,none⟩) j rc) (.slice (some ⟨rb,ro,none⟩) j rc) ks∧aJ u9 Kb #[.int .i64 6,.string t1,.int .i64 m1,.slice a1 N1 c1] 24)∧(rb<u9.heap.size∧g0<u9.heap.size)∧u9.cell? ⟨rb,ro,none⟩=some (.pointer (some ⟨g0,0,none⟩))∧u9.cell? ⟨g0,14,none⟩=some (.int .i64 Dl)) (fun Lr L9 PU u9 XI r9 XJ=>SB W u u9 C Mo D K P B Nb X E (.slice la n lc) Lr L (deep+1) ((q+dL y):Nat) eF fB dc PU pr #[.int .i64 k,.string t,.int .i64 m,.slice (some ⟨b,o,none⟩) N cc] (fun rv=>lY k m rv jo (.string ⟨#[]⟩) (.bool false) (.slice none 0 0) (.int .i64 0) (.bool false) (.int .i64 0) 0 ctx) XI r9 XJ∧aJ u9 Kb #[.int .i64 6,.string t1,.int .i64 m1,.slice a1 N1 c1] 24) X (.slice (some ⟨rb,ro,none⟩) j rc) ks ((C0 E pr (jL ctx Dl) false L (deep+1) y q).bind fun t=>.ok (t,L))) (fun _ _=>True) (frame:=?aq6) (fun x=>?XB) bH.mixed (by kernel_rfl) (by kernel_rfl) (fun _ _ _ _ h _=>h) ?h0k ?stk ?XC
    case XB=>
     simp only [chain.aS,chain.fill,chain.bT,chain.bC,oV,oW,oZ,o5,o6,o7,o8,o_,pq];exact rfl
    case h0k=>exact⟨⟨mM.out.extend (aB.refl _ _).drew,HKA.out.drew⟩,HRA.out⟩
    case stk=>
     iterate 24 (refine ak.cons (fun x vs u hF hm hb hd K' hK'=>?_) ?_;rotate_left)
     exact ak.nil
     ·refine ai.af rfl ?_
      have HF:=Z_ hF;clear hd hm hb hF;go_simp;exact hK'.out _ _ _ (rfl) trivial ⟨rfl,HF.out⟩
     ·refine ai.af rfl ?_
      have HF:=Z_ hF;clear hd hm hb hF;go_simp;exact hK'.out _ _ _ (rfl) trivial ⟨rfl,HF.out⟩
     ·refine ai.af rfl ?_
      have y0:x 62=.pointer (some ⟨X,0,none⟩):=(D_ hd 1 :);have HF:=Z_ hF;clear hd hm hb hF;go_simp;exact hK'.out _ _ _ (by simp only [y0];rfl) trivial ⟨rfl,HF.out⟩
     ·refine ai.af rfl ?_
      have y0:x 63=.pointer (some ⟨X,0,none⟩):=(D_ hd 2 :);have HF:=Z_ hF;clear hd hm hb hF;go_simp;exact hK'.out _ _ _ (by simp only [y0];rfl) trivial ⟨rfl,HF.out⟩
     ·refine ai.af rfl ?_
      have hq:=zW.low hF (by have:=hb 3 _ (by decide) rfl (by kernel_rfl);omega) (Q:=u.cell? ⟨X,2,none⟩=some (.slice (some ⟨rb,ro,none⟩) j rc)) (fun h=>(h.1.1.x.cell 2).trans rfl) (fun _ _ _ h=>(h.1.x.cell 2).trans rfl);have y0:x 64=.pointer (some ⟨X,2,none⟩):=(D_ hd 3 :);have HF:=Z_ hF;clear hd hm hb hF;go_simp;exact hK'.out _ _ _ (by simp only [y0];rfl) trivial ⟨rfl,HF.out⟩
     ·refine ai.af rfl ?_
      have HF:=Z_ hF;clear hd hm hb hF;go_simp;exact hK'.out _ _ _ (rfl) trivial ⟨rfl,HF.out⟩
     ·refine ai.af rfl ?_
      have hq:=zW.any hF (Q:=∀ o9,u.cell? ⟨Kb,o9,none⟩=#[.int .i64 6,.string t1,.int .i64 m1,.slice a1 N1 c1][o9]?) (fun h=>h.1.2.cell) (fun _ _ _ _ _ _ h=>h.2.cell);have HF:=Z_ hF;clear hd hm hb hF;go_simp;exact hK'.out _ _ _ (rfl) trivial ⟨rfl,HF.out⟩
     ·refine ai.af rfl ?_
      have HF:=Z_ hF;clear hd hm hb hF;go_simp;exact hK'.out _ _ _ (rfl) trivial ⟨rfl,HF.out⟩
     ·refine ai.af rfl ?_
      have HF:=Z_ hF;clear hd hm hb hF;go_simp;exact hK'.out _ _ _ (rfl) trivial ⟨rfl,HF.out⟩
     ·refine ai.af rfl ?_
      have y0:x 69=.pointer (some ⟨X,0,none⟩):=(D_ hd 8 :);have HF:=Z_ hF;clear hd hm hb hF;go_simp;exact hK'.out _ _ _ (by simp only [y0];rfl) trivial ⟨rfl,HF.out⟩
     ·refine ai.af rfl ?_
      have y0:x 70=.pointer (some ⟨X,0,none⟩):=(D_ hd 9 :);have HF:=Z_ hF;clear hd hm hb hF;go_simp;exact hK'.out _ _ _ (by simp only [y0];rfl) trivial ⟨rfl,HF.out⟩
     ·refine ai.af rfl ?_
      have hq:=zW.low hF (by have:=hb 3 _ (by decide) rfl (by kernel_rfl);omega) (Q:=u.cell? ⟨X,2,none⟩=some (.slice (some ⟨rb,ro,none⟩) j rc)) (fun h=>(h.1.1.x.cell 2).trans rfl) (fun _ _ _ h=>(h.1.x.cell 2).trans rfl);have y0:x 71=.pointer (some ⟨X,2,none⟩):=(D_ hd 10 :);have HF:=Z_ hF;clear hd hm hb hF;go_simp;exact hK'.out _ _ _ (by simp only [y0];rfl) trivial ⟨rfl,HF.out⟩
     ·refine ai.af rfl ?_
      have hj9:=hj0;have hj8:(0:Int)<(j:Int):=by omega
      have y0:x 72=.slice (some ⟨rb,ro,none⟩) j rc:=(D_ hd 11 :);have HF:=Z_ hF;clear hd hm hb hF;go_simp;exact hK'.out _ _ _ (by simp only [y0];rfl) trivial ⟨rfl,HF.out⟩
     ·refine ai.af rfl ?_
      have hq:=(zW.pre hF (by have:=hb 0 _ (by decide) rfl (by kernel_rfl);omega)).2;have hq1:=hq.2.1;have hq2:=hq.2.2;have hq3:=hq.1.1;have hq4:=hq.1.2;have y0:x 73=.pointer (some ⟨rb,ro,none⟩):=(D_ hd 12 :);have HF:=Z_ hF;clear hd hm hb hF;go_simp;exact hK'.out _ _ _ (by simp only [y0];rfl) trivial ⟨rfl,HF.out⟩
     ·refine ai.af rfl ?_
      have y0:x 74=.pointer (some ⟨g0,0,none⟩):=(D_ hd 13 :);have HF:=Z_ hF;clear hd hm hb hF;go_simp;exact hK'.out _ _ _ (by simp only [y0];rfl) trivial ⟨rfl,HF.out⟩
     ·refine ai.af rfl ?_
      have y0:x 75=.pointer (some ⟨g0,0,none⟩):=(D_ hd 14 :);have HF:=Z_ hF;clear hd hm hb hF;go_simp;exact hK'.out _ _ _ (by simp only [y0];rfl) trivial ⟨rfl,HF.out⟩
     ·refine ai.af rfl ?_
      have hq:=(zW.pre hF (by have:=hb 0 _ (by decide) rfl (by kernel_rfl);omega)).2;have hq1:=hq.2.1;have hq2:=hq.2.2;have hq3:=hq.1.1;have hq4:=hq.1.2;have y0:x 76=.pointer (some ⟨g0,14,none⟩):=(D_ hd 15 :);have HF:=Z_ hF;clear hd hm hb hF;go_simp;exact hK'.out _ _ _ (by simp only [y0];rfl) trivial ⟨rfl,HF.out⟩
     ·refine ai.af rfl ?_
      obtain rfl:=pR hm;have y0:x 68=.int .i64 ctx:=(D_ hd 7 :);have y1:x 77=.int .i64 Dl:=(D_ hd 16 :);have HF:=Z_ hF;clear hd hm hb hF;go_simp;refine(Be _ _ u).mono ?_
      rintro e u2 ⟨rfl,rfl⟩;exact hK'.out _ _ _ (by simp only [y0,y1];rfl) trivial ⟨rfl,HF.out⟩
     ·refine ai.af rfl ?_
      obtain⟨v0,rfl⟩:=rE hm
      have y0:x 66=.pointer (some ⟨C,0,none⟩):=(D_ hd 5 :);have y1:x 67=.agg #[.int .i64 6,.string t1,.int .i64 m1,.slice a1 N1 c1]:=(D_ hd 6 :);have y2:x 78=v0:=((D_ hd 17) 78 (by kernel_rfl) :);obtain⟨rz,hF⟩:=hF;subst rz;have rG:=(show (_∧_)∧_ from hF).1;have oU:=Z_ (HBK.out _ false (jL ctx Dl) u q Jp L (deep+1) Lp rG.1.cs rG.1.pc HU.out (by have:=uM.out;omega) ZA.out (by have:=GG.out.1;omega) (by have h1:=GG.out.2;have h2:=Us.out;omega));have HF:=Z_ rG.1;have Jr:=Z_ rG.2;clear hd hm hb hF rG;go_simp;refine oU.out.mono ?_
      rintro e u2 ⟨jP,nU⟩;obtain⟨RX,NV⟩:∃ RX,C0 E pr (jL ctx Dl) false L (deep+1) y q=RX:=⟨_,rfl⟩;rw [NV] at nU;have HRX:=Z_ NV;cases RX with
      | bad c9 p9=>
       obtain rfl:e=_:=nU;have Ag:=HF.out.aU.trans jP HF.out.ls;go_wp2_with fail
       exact⟨rfl,Ag,by rw [←WN.out,←HT3.out,HRX.out];rfl⟩
      | ok t6=>
       obtain⟨g6,uD,uF,rfl,Wl,Js,Jt,zQ,Ns,Nu⟩:=nU;have Ju:=HF.out.call jP Js Jt Ns
       have EF:=Jr.out.aU jP (fun e=>by
        have h1:=HF.out.cs.cB;have h2:=HF.out.cs.pB;have h3:=HF.out.hB;have h4:=HF.out.C9;have h5:=Jc.out
        rcases e with e|e|e
        ·omega
        ·omega
        ·have:=XG.out _ e;omega)
       exact hK'.out _ _ _ (by simp only [y0,y1,y2];rfl) trivial ⟨rfl,(t6,L),by rw [NV];rfl,g6,uD,uF,rfl,⟨Ju,EF⟩,jf (bJ (Nat.le_refl _) fun i hi hm=>⟨EE Qj.out Jc.out Jr.out.lt hm,rfl⟩) _ _ zQ,g6,rfl⟩
     ·refine ai.af rfl ?_
      obtain⟨v0,v1,rfl⟩:=yP hm
      have y0:x 79=v1:=((D_ hd 18) 79 (by kernel_rfl) :);obtain⟨rz,t6,rY,g6,uD,uF,rfl,hF⟩:=hF;have aY:=hF.1;have HG:=Z_ (fF.dm (aY.1.grow));have HF:=Z_ hF;clear hd hm hb hF aY;go_simp;exact hK'.out _ _ _ (by simp only [y0];rfl) trivial (⟨rz,t6,rY,g6,uD,uF,rfl,(fF.iE chk.dR (fun u' hE=>⟨HF.out.1.1.extend hE,HF.out.1.2.ext hE⟩) (fun i e=>(HG.out i e).2) HF.out rfl)⟩)
     ·refine ai.af rfl ?_
      obtain⟨v0,v1,v2,rfl⟩:=F_ hm
      have y0:x 65=.slice (some ⟨rb,ro,none⟩) j rc:=(D_ hd 4 :);have y1:x 80=v2:=((D_ hd 19) 80 (by kernel_rfl) :);obtain⟨rz,t6,rY,g6,uD,uF,rfl,hF⟩:=hF;have hF2:=hF;obtain⟨aY,hxx,gg,rfl,hgb,hgr⟩:=hF2;obtain⟨us,hu1,ho,hu3⟩:=(aY.1.grow).ex;obtain⟨mg,mD,hz0,hz1,hz2⟩:=bH.bD fF.vJ;have hbz:(X+1)≤u.heap.size:=by have:=aY.1.x.lt;omega
      refine wp_append_lies _ _ _ 341 rfl ((X+1)) 219 mg (.pointer none) 1 8 Tryz.underlying341 mD hz0 hz1 hz2 rfl (by decide) (.slice (some ⟨rb,ro,none⟩) j rc) ks.length (us.flatMap fun u=>u.cells.toList) y0 ho ⟨gg,0,none⟩ 1 1 [.pointer (some ⟨g6,0,none⟩)] y1 rfl ?_ (by intro z_ qL;simp only [List.mem_cons,List.not_mem_nil,or_false] at qL;rcases qL with rfl<;>rfl) (by decide) (by unfold maxLen;have:=uK.out;omega) (by have:=uK.out;omega) hbz u.heap.size rfl ?_
      ·intro j q hj;have e:(⟨gg,0,none⟩:Addr).add j=⟨gg,j,none⟩:=(by unfold Addr.add;split<;>simp_all);rw [e,hgb.cell];simpa [Value.cells] using hj
      ·intro g9 c9 w9 kQ kM mF yK
       exact hK'.out _ _ _ rfl trivial (⟨rz,t6,rY,g6,uD,uF,rfl,(fF.gW chk.dR hF hu1 hu3 rfl (fun r yQ hG hC ha=>⟨aY.1.more hG hC ha,aY.2.aU hC (fun e=>by have:=Qj.out _ e;omega)⟩) kQ kM mF)⟩)
     ·refine ai.af rfl ?_
      have y0:x 61=.pointer (some ⟨X,0,none⟩):=(D_ hd 0 :);have HF:=Z_ hF;clear hd hm hb hF;go_simp;exact hK'.out _ _ _ (by simp only [y0];rfl) trivial ⟨rfl,HF.out⟩
     ·refine ai.af rfl ?_
      have y0:x 82=.pointer (some ⟨X,0,none⟩):=(D_ hd 21 :);have HF:=Z_ hF;clear hd hm hb hF;go_simp;exact hK'.out _ _ _ (by simp only [y0];rfl) trivial ⟨rfl,HF.out⟩
     ·refine ai.af rfl ?_
      obtain⟨v0,v1,v2,v3,rfl⟩:=V4_ hm
      have y0:x 83=.pointer (some ⟨X,2,none⟩):=(D_ hd 22 :);have y1:x 81=v3:=((D_ hd 20) 81 (by kernel_rfl) :);obtain⟨rz,t6,rY,g6,uD,uF,rfl,hF⟩:=hF;have hF2:=hF;obtain⟨aY,gg,cc,rfl⟩:=hF2;have hq:=aY.1.x.cell;have Df:=aY.1.x.frozen;have kN:=aY.1.x.lt;unfold lY at hq;have HF:=Z_ hF;clear hd hm hb hF aY;go_simp;exact hK'.out _ _ undef (by simp only [y0,y1];rfl) trivial (⟨rz,t6,rY,g6,uD,uF,rfl,(fF.iF (z:=undef) HF.out (fun h=>⟨h.1.put (j:=2) rfl,h.2.setOther (p:=⟨X,2,none⟩) (by have:=Jc.out;show Kb≠X;omega) _⟩))⟩)
    case XC=>
     intro x9 wJ w9 hl hF hk9;obtain⟨v0,v1,v2,v3,v4,rfl⟩:∃ v0 v1 v2 v3 v4,wJ=[v0,v1,v2,v3,v4]:=by match wJ,hl with|[v0,v1,v2,v3,v4],_=>exact⟨_,_,_,_,_,rfl⟩
     obtain⟨-,t6,rY,g6,uD,uF,-,hF⟩:=hF;have Qk:=(show _∧_ from hF).1;obtain⟨RX,NV⟩:∃ RX,C0 E pr (jL ctx Dl) false L (deep+1) y q=RX:=⟨_,rfl⟩;have Am:=HT3.out;rw [NV] at rY Am;cases RX with
     | bad c9 p9=>cases rY
     | ok y6=>
      cases rY
      have Ah:=Z_ Qk;have pW:=Z_ (show zX E pr ctx ba L deep (l.drop (j+1)) (q+dL y) (ks ++ [y6])=TR from Am);clear hk9 hl hF Qk Am NV;have hcc:=Ah.out.cs.c.cell;have hcf:=Ah.out.cs.c.frozen;have hcl:=Ah.out.cs.c.lt;unfold wK at hcc;have a07:wrap64 deep=deep:=IntWalk.wrap64_in _ (by have:=GG.out;omega);have as2:=Z_ (Ah.out.p_ (deep':=deep) (aA (aB.refl _ w9) 3 (.int .i64 deep)) (Ah.out.cs.c.set 3 (.int .i64 deep)));go_wp2_with fail
      go_roundw
      case rel=>exact⟨j+1,q+dL y,_,uD,ks ++ [y6],uF,by omega,by go_num,Z_ (by rw [List.length_append,uK.out];rfl),Z_ (by have:=uM.out;omega),pW,as2⟩
      case measure=>simp [intOf];omega
   ·have h6b:(k1 == 6)=false:=beq_eq_false_iff_ne.2 h6
    have HEX:=Z_ (qj (H:=H) rC.out (show L.length≤1000 by have:=rF.out;omega) y ac7.out (by rcases HFY.out with h|h;exact absurd (HYK.out.symm.trans h) h6;exact h) (W:=W) (C:=C) (Mo:=Mo) (D:=D) (K:=K) (P:=P) (B:=B) (E:=E) (vl:=Jp) (deep:=deep) (eF:=eF) (fB:=fB) (dc:=dc) (pc:=Lp) (ctx:=ctx))
    have HT3:=Z_ (show (match zy E L ctx ba y q with
     | .bad c q=>(.bad c q:Rz (List Tr))
     | .ok y_1=>zX E pr ctx ba L deep (l.drop (j+1)) (q+dL y) (ks ++ [y_1]))=TR by have h:=HT2.out;rw [if_neg h6] at h;exact h)
    clear HT2;have hba:=HBA.out;go_upto_region 6 with (fail)
    clear hkc hkl;refine fA [11,12,13,16] (fun i v _=>v=([.pointer (some ⟨X,0,none⟩),.pointer (some ⟨X,0,none⟩),.pointer (some ⟨X,0,none⟩),.pointer (some ⟨X,2,none⟩),.slice ra j rc,.pointer (some ⟨C,0,none⟩),.agg #[.int .i64 k1,.string t1,.int .i64 m1,.slice a1 N1 c1],.int .i64 ctx,.pointer (some ⟨Nb,0,none⟩),.int .i64 k,.bool ba,undef,undef,undef,.pointer (some ⟨X,0,none⟩),.pointer (some ⟨X,2,none⟩),undef]:List Value).getD i undef) (uJ (fun u9=>SB W u u9 C Mo D K P B Nb X E (.slice la n lc) Jp L deep (q:Nat) eF fB dc Lp pr #[.int .i64 k,.string t,.int .i64 m,.slice (some ⟨b,o,none⟩) N cc] (fun rv=>lY k m rv jo (.string ⟨#[]⟩) (.bool false) (.slice none 0 0) (.int .i64 0) (.bool false) (.int .i64 0) 0 ctx) (.slice ra j rc) (.slice ra j rc) ks∧aJ u9 Kb #[.int .i64 k1,.string t1,.int .i64 m1,.slice a1 N1 c1] 24) (fun Lr L9 PU u9 XI r9 XJ=>SB W u u9 C Mo D K P B Nb X E (.slice la n lc) Lr L deep ((q+dL y):Nat) eF fB dc PU pr #[.int .i64 k,.string t,.int .i64 m,.slice (some ⟨b,o,none⟩) N cc] (fun rv=>lY k m rv jo (.string ⟨#[]⟩) (.bool false) (.slice none 0 0) (.int .i64 0) (.bool false) (.int .i64 0) 0 ctx) XI r9 XJ∧aJ u9 Kb #[.int .i64 k1,.string t1,.int .i64 m1,.slice a1 N1 c1] 24) X (.slice ra j rc) ks ((zy E L ctx ba y q).bind fun t=>.ok (t,L))) (fun _ _=>True) (frame:=?UN) (fun x=>?E8) bH.mixed (by kernel_rfl) (by kernel_rfl) (fun _ _ _ _ h _=>h) ?UO ?UQ ?fine
    case E8=>
     simp only [chain.aS,chain.fill,chain.bT,chain.bC,oV,oW,oZ,o5,o6,o7,o8,o_,pq];exact rfl
    case UO=>exact⟨AQ.out.extend (aB.refl _ _).drew,HK.out.drew⟩
    case UQ=>
     iterate 17 (refine ak.cons (fun x vs u hF hm hb hd K' hK'=>?_) ?_;rotate_left)
     exact ak.nil
     ·refine ai.af rfl ?_
      have HF:=Z_ hF;clear hd hm hb hF;go_simp;exact hK'.out _ _ _ (rfl) trivial ⟨rfl,HF.out⟩
     ·refine ai.af rfl ?_
      have HF:=Z_ hF;clear hd hm hb hF;go_simp;exact hK'.out _ _ _ (rfl) trivial ⟨rfl,HF.out⟩
     ·refine ai.af rfl ?_
      have y0:x 35=.pointer (some ⟨X,0,none⟩):=(D_ hd 1 :);have HF:=Z_ hF;clear hd hm hb hF;go_simp;exact hK'.out _ _ _ (by simp only [y0];rfl) trivial ⟨rfl,HF.out⟩
     ·refine ai.af rfl ?_
      have y0:x 36=.pointer (some ⟨X,0,none⟩):=(D_ hd 2 :);have HF:=Z_ hF;clear hd hm hb hF;go_simp;exact hK'.out _ _ _ (by simp only [y0];rfl) trivial ⟨rfl,HF.out⟩
     ·refine ai.af rfl ?_
      have hq:=uJ.low hF (by have:=hb 2 _ (by decide) rfl (by kernel_rfl);omega) (Q:=u.cell? ⟨X,2,none⟩=some (.slice ra j rc)) (fun h=>(h.1.x.cell 2).trans rfl) (fun _ _ _ h=>(h.1.x.cell 2).trans rfl);have y0:x 37=.pointer (some ⟨X,2,none⟩):=(D_ hd 3 :);have HF:=Z_ hF;clear hd hm hb hF;go_simp;exact hK'.out _ _ _ (by simp only [y0];rfl) trivial ⟨rfl,HF.out⟩
     ·refine ai.af rfl ?_
      have HF:=Z_ hF;clear hd hm hb hF;go_simp;exact hK'.out _ _ _ (rfl) trivial ⟨rfl,HF.out⟩
     ·refine ai.af rfl ?_
      have hq:=uJ.any hF (Q:=∀ o9,u.cell? ⟨Kb,o9,none⟩=#[.int .i64 k1,.string t1,.int .i64 m1,.slice a1 N1 c1][o9]?) (fun h=>h.2.cell) (fun _ _ _ _ _ _ h=>h.2.cell);have HF:=Z_ hF;clear hd hm hb hF;go_simp;exact hK'.out _ _ _ (rfl) trivial ⟨rfl,HF.out⟩
     ·refine ai.af rfl ?_
      have HF:=Z_ hF;clear hd hm hb hF;go_simp;exact hK'.out _ _ _ (rfl) trivial ⟨rfl,HF.out⟩
     ·refine ai.af rfl ?_
      have HF:=Z_ hF;clear hd hm hb hF;go_simp;exact hK'.out _ _ _ (rfl) trivial ⟨rfl,HF.out⟩
     ·refine ai.af rfl ?_
      have hq:=uJ.any hF (Q:=∀ o9,u.cell? ⟨Nb,o9,none⟩=#[.int .i64 k,.string t,.int .i64 m,.slice (some ⟨b,o,none⟩) N cc][o9]?) (fun h=>h.1.nb.cell) (fun _ _ _ _ _ _ h=>h.1.nb.cell);have y0:x 42=.pointer (some ⟨Nb,0,none⟩):=(D_ hd 8 :);have HF:=Z_ hF;clear hd hm hb hF;go_simp;exact hK'.out _ _ _ (by simp only [y0];rfl) trivial ⟨rfl,HF.out⟩
     ·refine ai.af rfl ?_
      have y0:x 43=.int .i64 k:=(D_ hd 9 :);have HF:=Z_ hF;clear hd hm hb hF;go_simp;exact hK'.out _ _ _ (by simp only [y0];rfl) trivial ⟨rfl,HF.out⟩
     ·refine ai.af rfl ?_
      obtain rfl:=pR hm;have y0:x 39=.pointer (some ⟨C,0,none⟩):=(D_ hd 5 :);have y1:x 40=.agg #[.int .i64 k1,.string t1,.int .i64 m1,.slice a1 N1 c1]:=(D_ hd 6 :);have y2:x 41=.int .i64 ctx:=(D_ hd 7 :);have y3:x 44=.bool ba:=(D_ hd 10 :);have rG:=(show _∧_ from hF);have oU:=Z_ (HEX.out _ ba u q rG.1.cs HU.out (by have:=uM.out;omega));have HF:=Z_ rG.1;have Jr:=Z_ rG.2;clear hd hm hb hF rG;go_simp;refine oU.out.mono ?_
      rintro e u2 ⟨jP,nU⟩;obtain⟨RX,NV⟩:∃ RX,zy E L ctx ba y q=RX:=⟨_,rfl⟩;rw [NV] at nU;have HRX:=Z_ NV;cases RX with
      | bad c9 p9=>
       obtain rfl:e=_:=nU;have Ag:=HF.out.aU.trans (jP.weak (S':=LS C P Jp) fun _ _ e=>.inl e) HF.out.ls;go_wp2_with fail
       exact⟨rfl,Ag,by rw [←WN.out,←HT3.out,HRX.out];rfl⟩
      | ok t6=>
       obtain⟨g6,rfl,Wl,zQ,as3,Nu⟩:=nU;have Ju:=HF.out.p_ jP as3;have EF:=Jr.out.aU jP (by have h1:=HF.out.cs.cB;have h3:=HF.out.hB;have h4:=HF.out.C9;have h5:=Jc.out;omega);exact hK'.out _ _ _ (by simp only [y0,y1,y2,y3];rfl) trivial ⟨(t6,L),by rw [NV];rfl,g6,Jp,Lp,rfl,⟨Ju,EF⟩,jf (bJ (Nat.le_refl _) fun i hi hm=>⟨QU Qj.out XG.out Jc.out Jr.out.lt hm,rfl⟩) _ _ zQ,g6,rfl⟩
     ·refine ai.af rfl ?_
      obtain⟨v0,rfl⟩:=rE hm
      have y0:x 45=v0:=((D_ hd 11) 45 (by kernel_rfl) :);obtain⟨t6,rY,g6,uD,uF,rfl,hF⟩:=hF;have aY:=hF.1;have HG:=Z_ (fF.dm (aY.1.grow));have HF:=Z_ hF;clear hd hm hb hF aY;go_simp;exact hK'.out _ _ _ (by simp only [y0];rfl) trivial (⟨t6,rY,g6,uD,uF,rfl,(fF.iE chk.dR (fun u' hE=>⟨HF.out.1.1.extend hE,HF.out.1.2.ext hE⟩) (fun i e=>(HG.out i e).2) HF.out rfl)⟩)
     ·refine ai.af rfl ?_
      obtain⟨v0,v1,rfl⟩:=yP hm
      have y0:x 38=.slice ra j rc:=(D_ hd 4 :);have y1:x 46=v1:=((D_ hd 12) 46 (by kernel_rfl) :);obtain⟨t6,rY,g6,uD,uF,rfl,hF⟩:=hF;have hF2:=hF;obtain⟨aY,hxx,gg,rfl,hgb,hgr⟩:=hF2;obtain⟨us,hu1,ho,hu3⟩:=(aY.1.grow).ex;obtain⟨mg,mD,hz0,hz1,hz2⟩:=bH.bD fF.vJ;have hbz:(X+1)≤u.heap.size:=by have:=aY.1.x.lt;omega
      refine wp_append_lies _ _ _ 341 rfl ((X+1)) 219 mg (.pointer none) 1 8 Tryz.underlying341 mD hz0 hz1 hz2 rfl (by decide) (.slice ra j rc) ks.length (us.flatMap fun u=>u.cells.toList) y0 ho ⟨gg,0,none⟩ 1 1 [.pointer (some ⟨g6,0,none⟩)] y1 rfl ?_ (by intro z_ qL;simp only [List.mem_cons,List.not_mem_nil,or_false] at qL;rcases qL with rfl<;>rfl) (by decide) (by unfold maxLen;have:=uK.out;omega) (by have:=uK.out;omega) hbz u.heap.size rfl ?_
      ·intro j q hj;have e:(⟨gg,0,none⟩:Addr).add j=⟨gg,j,none⟩:=(by unfold Addr.add;split<;>simp_all);rw [e,hgb.cell];simpa [Value.cells] using hj
      ·intro g9 c9 w9 kQ kM mF yK
       exact hK'.out _ _ _ rfl trivial (⟨t6,rY,g6,uD,uF,rfl,(fF.gW chk.dR hF hu1 hu3 rfl (fun r yQ hG hC ha=>⟨aY.1.more hG hC ha,aY.2.aU hC (fun e=>by have:=Qj.out _ e;omega)⟩) kQ kM mF)⟩)
     ·refine ai.af rfl ?_
      have y0:x 34=.pointer (some ⟨X,0,none⟩):=(D_ hd 0 :);have HF:=Z_ hF;clear hd hm hb hF;go_simp;exact hK'.out _ _ _ (by simp only [y0];rfl) trivial ⟨rfl,HF.out⟩
     ·refine ai.af rfl ?_
      have y0:x 48=.pointer (some ⟨X,0,none⟩):=(D_ hd 14 :);have HF:=Z_ hF;clear hd hm hb hF;go_simp;exact hK'.out _ _ _ (by simp only [y0];rfl) trivial ⟨rfl,HF.out⟩
     ·refine ai.af rfl ?_
      obtain⟨v0,v1,v2,rfl⟩:=F_ hm
      have y0:x 49=.pointer (some ⟨X,2,none⟩):=(D_ hd 15 :);have y1:x 47=v2:=((D_ hd 13) 47 (by kernel_rfl) :);obtain⟨t6,rY,g6,uD,uF,rfl,hF⟩:=hF;have hF2:=hF;obtain⟨aY,gg,cc,rfl⟩:=hF2;have hq:=aY.1.x.cell;have Df:=aY.1.x.frozen;have kN:=aY.1.x.lt;unfold lY at hq;have HF:=Z_ hF;clear hd hm hb hF aY;go_simp;exact hK'.out _ _ undef (by simp only [y0,y1];rfl) trivial (⟨t6,rY,g6,uD,uF,rfl,(fF.iF (z:=undef) HF.out (fun h=>⟨h.1.put (j:=2) rfl,h.2.setOther (p:=⟨X,2,none⟩) (by have:=Jc.out;show Kb≠X;omega) _⟩))⟩)
    case fine=>
     intro x9 wJ w9 hl hF hk9;obtain⟨v0,v1,v2,v3,rfl⟩:=Gf hl
     obtain⟨t6,rY,g6,uD,uF,-,hF⟩:=hF;have Qk:=(show _∧_ from hF).1;obtain⟨RX,NV⟩:∃ RX,zy E L ctx ba y q=RX:=⟨_,rfl⟩;have Am:=HT3.out;rw [NV] at rY Am;cases RX with
     | bad c9 p9=>cases rY
     | ok y6=>
      cases rY
      have Ah:=Z_ Qk;have pW:=Z_ (show zX E pr ctx ba L deep (l.drop (j+1)) (q+dL y) (ks ++ [y6])=TR from Am);clear hk9 hl hF Qk Am NV;go_wp2_with fail
      go_roundw
      case rel=>exact⟨j+1,q+dL y,_,uD,ks ++ [y6],uF,by omega,by go_num,Z_ (by rw [List.length_append,uK.out];rfl),Z_ (by have:=uM.out;omega),pW,Ah⟩
      case measure=>simp [intOf];omega
  ·obtain rfl:j=N:=by omega
   have hjd:decide ((j:Int)<(j:Int))=false:=by simp
   have hT:=HT.out;have hQ:=HQ.out;rw [List.drop_of_length_le (by rw [HN.out];exact Nat.le_refl _)] at hT hQ;obtain rfl:q=pe:=hQ;have hR0:zX E pr ctx ba L deep [] q ks=.ok ks:=by unfold zX;simp [lU,Rz.bind]
   rw [hR0] at hT;have Bf:=Z_ (show wQ pr L deep ctx last k t m ks p=T by have h:=WN.out;rw [←hT] at h;exact h);obtain⟨-,ac8⟩:=Qp l none (p+1) ks (by rw [HST.out,←hT]) HIS.out;have E_:0<ks.length:=by rw [uK.out];exact ac6.out
   obtain⟨rb,ro,rc,hrow,hrb,hall⟩:=XQ HS.out.grow E_;obtain⟨g0,a2,c2,p0,p1,p2,p3,p4,p5,hr0,hg0,ht0,hc0⟩:=hall 0 E_;rw [←EG E_] at ht0 hc0;have zY:=Z_ hall;rw [uK.out] at hrow;subst hrow;have hI0:=Uw E_ ac8;obtain⟨l_,hy0⟩:∃ l_,ks.headD default=l_:=⟨_,rfl⟩;rw [hy0] at ht0 hc0 hI0;have HI0:=Z_ hI0;have HY0:=Z_ hy0;have JR:=Z_ hrb;have HR0:=Z_ hr0;have UR:=Z_ hg0;have HT0:=Z_ ht0;have PX:=Z_ hc0;clear hT hR0 hy0 HT HQ HI HIH ac8 hI0 hall hrb hr0 hg0 ht0 hc0 HST WN HIS HFK;have hbc:=HS.out.nb.cell;have hks:=vG.out;unfold uP at hks;obtain rfl|rfl|rfl|rfl|rfl|rfl|rfl|rfl:k=7∨k=8∨k=9∨k=10∨k=11∨k=12∨k=13∨k=14:=by omega
   ·have nU:=Bf.out
    unfold wQ at nU;rw [HY0.out] at nU;have pW:=Z_ (show (if (L.any fun l=>decide (l.deep=deep)&&decide (l.name=t))=true then .bad 5 p else if 20≤L.length then .bad 1 p else if fK m [l_.lab,ctx]=false then .bad 7 p else .ok (.mk 7 m ks ⟨(L.length:Nat),aF,aF,m,0⟩ 0 ctx,L ++ [⟨t,m,deep⟩]):Rz (Tr×List Loc))=T from nU);obtain⟨ga,gc,hvl,as4,a08,WQ⟩:=HS.out.cs.loc.row jB G8;rw [rF.out] at hvl as4;subst hvl;have WR:=Z_ WQ;have hcc:=HS.out.cs.c.cell;unfold wK at hcc;clear nU WQ;go_wp2_with fail
    clear hcc hbc;obtain⟨wo,hwo⟩:∃ wo,wo=wr:=⟨_,rfl⟩;subst hwo;go_loopw [103] (fun i wr=>∃ e:Nat,e≤n∧i=.int .i64 (e:Nat)∧Hid (((L.take e).any fun l=>decide (l.deep=deep)&&decide (l.name=t))=false)∧Hid (Ext wo wr)) (fun i _=>n-(intOf i).toNat)
    case atStart=>exact⟨0,Nat.zero_le _,rfl,Z_ (by simp),Z_ (aB.refl _ _)⟩
    case round=>
     obtain⟨e,he,rfl,HA,HZ⟩:=hrel;by_cases hlt:e<n
     ·have hei:(e:Int)<(n:Int):=by omega
      have hed:decide ((e:Int)<(n:Int))=true:=by simpa using hei
      have hel:e<L.length:=by rw [rF.out];exact hlt
      obtain⟨lb,lo,rfl,hlb,hin⟩:=WR.out e hel;rw [dK] at hlb;have hin:=qM (Ext.keeps HZ.out) _ _ _ (qM (aC _ _) _ _ _ hin);have aa6:=Nat.lt_of_lt_of_le hlb HZ.out.size;have zx:=Z_ (Qq hel (P:=fun l=>decide (l.deep=deep)&&decide (l.name=t)));have G9:=Z_ (XP hel (P:=fun l=>decide (l.deep=deep)&&decide (l.name=t)));generalize L[e]=y at hin zx G9;obtain⟨yn,yb,yd⟩:=y;obtain⟨q0,q1,q2,-⟩:=hin;simp only at q0 q1 q2;have X_:=Z_ (aJ.made wr #[.string yn,.int .i64 yb,.int .i64 yd] 340);have HE6:=Z_ (HZ.out.alloc (.cells #[.string yn,.int .i64 yb,.int .i64 yd] 340));have EY:=Z_ (HS.out.extend HE6.out);obtain⟨Lb,hLb⟩:∃ Lb,wr.heap.size=Lb:=⟨_,rfl⟩;rw [hLb] at X_;have Dh:=X_;clear X_ hlb;go_upto_region 18 with (fail)
      try rw [hLb]
      generalize wr.alloc (.cells #[.string yn,.int .i64 yb,.int .i64 yd] 340)=u6 at *;clear q0 q1 q2 hLb aa6;by_cases hyd:yd=deep
      ·have as5:=hyd.symm
       subst as5;have Ya:=Z_ (And.intro (rfl:deep=deep) (rfl:deep=deep));by_cases hyn:yn=t
       ·have tP:=Z_ (show T=.bad 5 p from by rw [←pW.out,if_pos (G9.out (by simp [hyn]))])
        have HN6:=Z_ (And.intro (show (yn.toList == t.toList)=true by rw [hyn];simp) (show (yn.toList != t.toList)=false by rw [hyn];simp));clear Bf pW zx G9 HA hyn;refine fA [15] (fun i v _=>v=([.pointer (some ⟨Lb,2,none⟩),.int .i64 deep,.pointer (some ⟨C,0,none⟩),.pointer (some ⟨C,0,none⟩),.pointer (some ⟨C,3,none⟩),.int .i64 deep,.bool false,.bool false,.pointer (some ⟨Lb,0,none⟩),.string yn,.pointer (some ⟨Nb,1,none⟩),.string t,.bool false,.bool false,.int .i64 (p:Nat),undef]:List Value).getD i undef) (fun (vs:List Value) (u:World)=>vs=[]∧Ext u6 u) (fun _ _=>True) (frame:=?aq9) (fun x=>?XK) bH.mixed (by kernel_rfl) (by kernel_rfl) (fun _ _ _ _ h _=>h) ?h0t ?stt ?XL
        case XK=>
         simp only [chain.aS,chain.fill,chain.bT,chain.bC,oV,oW,oZ,o5,o6,o7,o8,o_,pq];exact rfl
        case h0t=>exact⟨rfl,(aB.refl _ _).drew⟩
        case stt=>
         iterate 16 (refine ak.cons (fun x vs u hF hm hb hd K' hK'=>?_) ?_;rotate_left)
         exact ak.nil
         ·refine ai.af rfl ?_
          have HF:=Z_ hF;clear hd hm hb hF;go_simp;exact hK'.out _ _ _ (rfl) trivial ⟨rfl,HF.out⟩
         ·refine ai.af rfl ?_
          have ju:Ext u6 u:=hF.2;have hq:=(Dh.out.ext ju).cell;clear ju;have y0:x 107=.pointer (some ⟨Lb,2,none⟩):=(D_ hd 0 :);have HF:=Z_ hF;clear hd hm hb hF;go_simp;exact hK'.out _ _ _ (by simp only [y0];rfl) trivial ⟨rfl,HF.out⟩
         ·refine ai.af rfl ?_
          have HF:=Z_ hF;clear hd hm hb hF;go_simp;exact hK'.out _ _ _ (rfl) trivial ⟨rfl,HF.out⟩
         ·refine ai.af rfl ?_
          have y0:x 109=.pointer (some ⟨C,0,none⟩):=(D_ hd 2 :);have HF:=Z_ hF;clear hd hm hb hF;go_simp;exact hK'.out _ _ _ (by simp only [y0];rfl) trivial ⟨rfl,HF.out⟩
         ·refine ai.af rfl ?_
          have y0:x 110=.pointer (some ⟨C,0,none⟩):=(D_ hd 3 :);have HF:=Z_ hF;clear hd hm hb hF;go_simp;exact hK'.out _ _ _ (by simp only [y0];rfl) trivial ⟨rfl,HF.out⟩
         ·refine ai.af rfl ?_
          have ju:Ext u6 u:=hF.2;have hq:=(EY.out.extend ju).cs.c.cell;unfold wK at hq;clear ju;have y0:x 111=.pointer (some ⟨C,3,none⟩):=(D_ hd 4 :);have HF:=Z_ hF;clear hd hm hb hF;go_simp;exact hK'.out _ _ _ (by simp only [y0];rfl) trivial ⟨rfl,HF.out⟩
         ·refine ai.af rfl ?_
          have hz1:=Ya.out.1;have hz2:=Ya.out.2;have y0:x 108=.int .i64 deep:=(D_ hd 1 :);have y1:x 112=.int .i64 deep:=(D_ hd 5 :);have HF:=Z_ hF;clear hd hm hb hF;go_simp;exact hK'.out _ _ _ (by simp only [y0,y1];rfl) trivial ⟨rfl,HF.out⟩
         ·refine ai.af rfl ?_
          have y0:x 113=.bool false:=(D_ hd 6 :);have HF:=Z_ hF;clear hd hm hb hF;go_simp;exact hK'.out _ _ _ (by simp only [y0];rfl) trivial ⟨rfl,HF.out⟩
         ·have y0:x 114=.bool false:=(D_ hd 7 :);refine ai.fU rfl (by simp only [y0];rfl) ?_
          have HF:=Z_ hF;clear hd hm hb hF;go_simp;exact hK'.out _ _ _ (by simp only [y0];rfl) trivial ⟨rfl,HF.out⟩
         ·have ju:Ext u6 u:=hF.2;have hq:=(Dh.out.ext ju).cell;clear ju;have y0:x 114=.bool false:=(D_ hd 7 :);have y1:x 115=.pointer (some ⟨Lb,0,none⟩):=(D_ hd 8 :);refine ai.fU rfl (by simp only [y0];rfl) ?_
          have HF:=Z_ hF;clear hd hm hb hF;go_simp;exact hK'.out _ _ _ (by simp only [y0,y1];rfl) trivial ⟨rfl,HF.out⟩
         ·have y0:x 114=.bool false:=(D_ hd 7 :);refine ai.fU rfl (by simp only [y0];rfl) ?_
          have HF:=Z_ hF;clear hd hm hb hF;go_simp;exact hK'.out _ _ _ (by simp only [y0];rfl) trivial ⟨rfl,HF.out⟩
         ·have ju:Ext u6 u:=hF.2;have hq:=(EY.out.extend ju).nb.cell;clear ju;have y0:x 114=.bool false:=(D_ hd 7 :);have y1:x 117=.pointer (some ⟨Nb,1,none⟩):=(D_ hd 10 :);refine ai.fU rfl (by simp only [y0];rfl) ?_
          have HF:=Z_ hF;clear hd hm hb hF;go_simp;exact hK'.out _ _ _ (by simp only [y0,y1];rfl) trivial ⟨rfl,HF.out⟩
         ·have hz1:=HN6.out.1;have hz2:=HN6.out.2;have y0:x 114=.bool false:=(D_ hd 7 :);have y1:x 116=.string yn:=(D_ hd 9 :);have y2:x 118=.string t:=(D_ hd 11 :);refine ai.fU rfl (by simp only [y0];rfl) ?_
          have HF:=Z_ hF;clear hd hm hb hF;go_simp;exact hK'.out _ _ _ (by simp only [y0,y1,y2];rfl) trivial ⟨rfl,HF.out⟩
         ·refine ai.af rfl ?_
          have y0:x 114=.bool false:=(D_ hd 7 :);have y1:x 119=.bool false:=(D_ hd 12 :);have HF:=Z_ hF;clear hd hm hb hF;go_simp;exact hK'.out _ _ _ (by simp only [y0,y1];rfl) trivial ⟨rfl,HF.out⟩
         ·refine ai.af rfl ?_
          have HF:=Z_ hF;clear hd hm hb hF;go_simp;exact hK'.out _ _ _ (rfl) trivial ⟨rfl,HF.out⟩
         ·refine ai.af rfl ?_
          obtain rfl:=pR hm;have y0:x 120=.bool false:=(D_ hd 13 :);have y1:x 121=.int .i64 (p:Nat):=(D_ hd 14 :);have HF:=Z_ (show Ext u6 u from hF.2);clear hd hm hb hF;go_simp;refine(iq 5 (p:Nat) u).mono ?_
          rintro e u2 ⟨rfl,rfl⟩;go_wp2_with fail
          rw [tP.out];exact⟨rfl,rH (EY.out.extend HF.out)⟩
        case XL=>
         intro x9 wJ wz hl hF hk9;obtain⟨rfl,-⟩:=(show wJ=[]∧_ from hF);cases hl
       ·have HNO:=Z_ (show (decide (deep=deep)&&decide (yn=t))=false by simp [hyn])
        have HN6:=Z_ (And.intro (show (yn.toList == t.toList)=false from(GI hyn)) (show (yn.toList != t.toList)=true by simp [bne,(GI hyn)]));clear hyn G9;refine fA [15] (fun i v _=>v=([.pointer (some ⟨Lb,2,none⟩),.int .i64 deep,.pointer (some ⟨C,0,none⟩),.pointer (some ⟨C,0,none⟩),.pointer (some ⟨C,3,none⟩),.int .i64 deep,.bool false,.bool false,.pointer (some ⟨Lb,0,none⟩),.string yn,.pointer (some ⟨Nb,1,none⟩),.string t,.bool true,.bool true,.int .i64 (p:Nat),undef]:List Value).getD i undef) (fun (_:List Value) (u:World)=>Ext u6 u) (fun _ _=>True) (frame:=?as6) (fun x=>?Yb) bH.mixed (by kernel_rfl) (by kernel_rfl) (fun _ _ _ _ h _=>h) ?h0v ?stv ?Yc
        case Yb=>
         simp only [chain.aS,chain.fill,chain.bT,chain.bC,oV,oW,oZ,o5,o6,o7,o8,o_,pq];exact rfl
        case h0v=>exact(aB.refl _ _).drew
        case stv=>
         iterate 16 (refine ak.cons (fun x vs u hF hm hb hd K' hK'=>?_) ?_;rotate_left)
         exact ak.nil
         ·refine ai.af rfl ?_
          have HF:=Z_ hF;clear hd hm hb hF;go_simp;exact hK'.out _ _ _ (rfl) trivial ⟨rfl,HF.out⟩
         ·refine ai.af rfl ?_
          have ju:Ext u6 u:=hF;have hq:=(Dh.out.ext ju).cell;clear ju;have y0:x 107=.pointer (some ⟨Lb,2,none⟩):=(D_ hd 0 :);have HF:=Z_ hF;clear hd hm hb hF;go_simp;exact hK'.out _ _ _ (by simp only [y0];rfl) trivial ⟨rfl,HF.out⟩
         ·refine ai.af rfl ?_
          have HF:=Z_ hF;clear hd hm hb hF;go_simp;exact hK'.out _ _ _ (rfl) trivial ⟨rfl,HF.out⟩
         ·refine ai.af rfl ?_
          have y0:x 109=.pointer (some ⟨C,0,none⟩):=(D_ hd 2 :);have HF:=Z_ hF;clear hd hm hb hF;go_simp;exact hK'.out _ _ _ (by simp only [y0];rfl) trivial ⟨rfl,HF.out⟩
         ·refine ai.af rfl ?_
          have y0:x 110=.pointer (some ⟨C,0,none⟩):=(D_ hd 3 :);have HF:=Z_ hF;clear hd hm hb hF;go_simp;exact hK'.out _ _ _ (by simp only [y0];rfl) trivial ⟨rfl,HF.out⟩
         ·refine ai.af rfl ?_
          have ju:Ext u6 u:=hF;have hq:=(EY.out.extend ju).cs.c.cell;unfold wK at hq;clear ju;have y0:x 111=.pointer (some ⟨C,3,none⟩):=(D_ hd 4 :);have HF:=Z_ hF;clear hd hm hb hF;go_simp;exact hK'.out _ _ _ (by simp only [y0];rfl) trivial ⟨rfl,HF.out⟩
         ·refine ai.af rfl ?_
          have hz1:=Ya.out.1;have hz2:=Ya.out.2;have y0:x 108=.int .i64 deep:=(D_ hd 1 :);have y1:x 112=.int .i64 deep:=(D_ hd 5 :);have HF:=Z_ hF;clear hd hm hb hF;go_simp;exact hK'.out _ _ _ (by simp only [y0,y1];rfl) trivial ⟨rfl,HF.out⟩
         ·refine ai.af rfl ?_
          have y0:x 113=.bool false:=(D_ hd 6 :);have HF:=Z_ hF;clear hd hm hb hF;go_simp;exact hK'.out _ _ _ (by simp only [y0];rfl) trivial ⟨rfl,HF.out⟩
         ·have y0:x 114=.bool false:=(D_ hd 7 :);refine ai.fU rfl (by simp only [y0];rfl) ?_
          have HF:=Z_ hF;clear hd hm hb hF;go_simp;exact hK'.out _ _ _ (by simp only [y0];rfl) trivial ⟨rfl,HF.out⟩
         ·have ju:Ext u6 u:=hF;have hq:=(Dh.out.ext ju).cell;clear ju;have y0:x 114=.bool false:=(D_ hd 7 :);have y1:x 115=.pointer (some ⟨Lb,0,none⟩):=(D_ hd 8 :);refine ai.fU rfl (by simp only [y0];rfl) ?_
          have HF:=Z_ hF;clear hd hm hb hF;go_simp;exact hK'.out _ _ _ (by simp only [y0,y1];rfl) trivial ⟨rfl,HF.out⟩
         ·have y0:x 114=.bool false:=(D_ hd 7 :);refine ai.fU rfl (by simp only [y0];rfl) ?_
          have HF:=Z_ hF;clear hd hm hb hF;go_simp;exact hK'.out _ _ _ (by simp only [y0];rfl) trivial ⟨rfl,HF.out⟩
         ·have ju:Ext u6 u:=hF;have hq:=(EY.out.extend ju).nb.cell;clear ju;have y0:x 114=.bool false:=(D_ hd 7 :);have y1:x 117=.pointer (some ⟨Nb,1,none⟩):=(D_ hd 10 :);refine ai.fU rfl (by simp only [y0];rfl) ?_
          have HF:=Z_ hF;clear hd hm hb hF;go_simp;exact hK'.out _ _ _ (by simp only [y0,y1];rfl) trivial ⟨rfl,HF.out⟩
         ·have hz1:=HN6.out.1;have hz2:=HN6.out.2;have y0:x 114=.bool false:=(D_ hd 7 :);have y1:x 116=.string yn:=(D_ hd 9 :);have y2:x 118=.string t:=(D_ hd 11 :);refine ai.fU rfl (by simp only [y0];rfl) ?_
          have HF:=Z_ hF;clear hd hm hb hF;go_simp;exact hK'.out _ _ _ (by simp only [y0,y1,y2];rfl) trivial ⟨rfl,HF.out⟩
         ·refine ai.af rfl ?_
          have y0:x 114=.bool false:=(D_ hd 7 :);have y1:x 119=.bool true:=(D_ hd 12 :);have HF:=Z_ hF;clear hd hm hb hF;go_simp;exact hK'.out _ _ _ (by simp only [y0,y1];rfl) trivial ⟨rfl,HF.out⟩
         ·refine ai.af rfl ?_
          have HF:=Z_ hF;clear hd hm hb hF;go_simp;exact hK'.out _ _ _ (rfl) trivial ⟨rfl,HF.out⟩
         ·refine ai.af rfl ?_
          obtain rfl:=pR hm;have y0:x 120=.bool true:=(D_ hd 13 :);have y1:x 121=.int .i64 (p:Nat):=(D_ hd 14 :);have HF:=Z_ (show Ext u6 u from hF);clear hd hm hb hF;go_simp;refine(fO 5 (p:Nat) u).mono ?_
          rintro e u2 ⟨rfl,rfl⟩;exact hK'.out _ _ _ (by simp only [y0,y1];rfl) trivial HF.out
        case Yc=>
         intro x9 wJ wz hl hF hk9;have HEZ:=Z_ (show Ext u6 wz from hF);clear hl hF hk9;go_wp2_with fail
         go_roundw
         case rel=>exact⟨e+1,by omega,by go_num,Z_ (by have h1:=zx.out;have h2:=HA.out;have h3:=HNO.out;first|(rw [h1,h2,h3];rfl)|(rw [h1,h2];simpa using h3)),Z_ (HE6.out.ext HEZ.out)⟩
         case measure=>simp [intOf];omega
      ·have HNO:=Z_ (show (decide (yd=deep)&&decide (yn=t))=false by simp [hyd])
       have Ya:=Z_ (And.intro (show (yd == deep)=false by simpa using hyd) (show (yd != deep)=true by simpa using hyd));clear hyd G9;refine fA [15] (fun i v _=>v=([.pointer (some ⟨Lb,2,none⟩),.int .i64 yd,.pointer (some ⟨C,0,none⟩),.pointer (some ⟨C,0,none⟩),.pointer (some ⟨C,3,none⟩),.int .i64 deep,.bool true,.bool true,undef,undef,undef,undef,undef,.bool true,.int .i64 (p:Nat),undef]:List Value).getD i undef) (fun (_:List Value) (u:World)=>Ext u6 u) (fun _ _=>True) (frame:=?aq7) (fun x=>?XD) bH.mixed (by kernel_rfl) (by kernel_rfl) (fun _ _ _ _ h _=>h) ?h0w ?stw ?XE
       case XD=>
        simp only [chain.aS,chain.fill,chain.bT,chain.bC,oV,oW,oZ,o5,o6,o7,o8,o_,pq];exact rfl
       case h0w=>exact(aB.refl _ _).drew
       case stw=>
        iterate 16 (refine ak.cons (fun x vs u hF hm hb hd K' hK'=>?_) ?_;rotate_left)
        exact ak.nil
        ·refine ai.af rfl ?_
         have HF:=Z_ hF;clear hd hm hb hF;go_simp;exact hK'.out _ _ _ (rfl) trivial ⟨rfl,HF.out⟩
        ·refine ai.af rfl ?_
         have ju:Ext u6 u:=hF;have hq:=(Dh.out.ext ju).cell;clear ju;have y0:x 107=.pointer (some ⟨Lb,2,none⟩):=(D_ hd 0 :);have HF:=Z_ hF;clear hd hm hb hF;go_simp;exact hK'.out _ _ _ (by simp only [y0];rfl) trivial ⟨rfl,HF.out⟩
        ·refine ai.af rfl ?_
         have HF:=Z_ hF;clear hd hm hb hF;go_simp;exact hK'.out _ _ _ (rfl) trivial ⟨rfl,HF.out⟩
        ·refine ai.af rfl ?_
         have y0:x 109=.pointer (some ⟨C,0,none⟩):=(D_ hd 2 :);have HF:=Z_ hF;clear hd hm hb hF;go_simp;exact hK'.out _ _ _ (by simp only [y0];rfl) trivial ⟨rfl,HF.out⟩
        ·refine ai.af rfl ?_
         have y0:x 110=.pointer (some ⟨C,0,none⟩):=(D_ hd 3 :);have HF:=Z_ hF;clear hd hm hb hF;go_simp;exact hK'.out _ _ _ (by simp only [y0];rfl) trivial ⟨rfl,HF.out⟩
        ·refine ai.af rfl ?_
         have ju:Ext u6 u:=hF;have hq:=(EY.out.extend ju).cs.c.cell;unfold wK at hq;clear ju;have y0:x 111=.pointer (some ⟨C,3,none⟩):=(D_ hd 4 :);have HF:=Z_ hF;clear hd hm hb hF;go_simp;exact hK'.out _ _ _ (by simp only [y0];rfl) trivial ⟨rfl,HF.out⟩
        ·refine ai.af rfl ?_
         have hz1:=Ya.out.1;have hz2:=Ya.out.2;have y0:x 108=.int .i64 yd:=(D_ hd 1 :);have y1:x 112=.int .i64 deep:=(D_ hd 5 :);have HF:=Z_ hF;clear hd hm hb hF;go_simp;exact hK'.out _ _ _ (by simp only [y0,y1];rfl) trivial ⟨rfl,HF.out⟩
        ·refine ai.af rfl ?_
         have y0:x 113=.bool true:=(D_ hd 6 :);have HF:=Z_ hF;clear hd hm hb hF;go_simp;exact hK'.out _ _ _ (by simp only [y0];rfl) trivial ⟨rfl,HF.out⟩
        ·have y0:x 114=.bool true:=(D_ hd 7 :);have HF:=Z_ hF;refine ai.jg (c:=true) rfl (by simp only [y0];rfl) rfl ?_
         exact hK'.out _ _ _ rfl trivial ⟨rfl,HF.out⟩
        ·have y0:x 114=.bool true:=(D_ hd 7 :);have HF:=Z_ hF;refine ai.jg (c:=true) rfl (by simp only [y0];rfl) rfl ?_
         exact hK'.out _ _ _ rfl trivial ⟨rfl,HF.out⟩
        ·have y0:x 114=.bool true:=(D_ hd 7 :);have HF:=Z_ hF;refine ai.jg (c:=true) rfl (by simp only [y0];rfl) rfl ?_
         exact hK'.out _ _ _ rfl trivial ⟨rfl,HF.out⟩
        ·have y0:x 114=.bool true:=(D_ hd 7 :);have HF:=Z_ hF;refine ai.jg (c:=true) rfl (by simp only [y0];rfl) rfl ?_
         exact hK'.out _ _ _ rfl trivial ⟨rfl,HF.out⟩
        ·have y0:x 114=.bool true:=(D_ hd 7 :);have HF:=Z_ hF;refine ai.jg (c:=true) rfl (by simp only [y0];rfl) rfl ?_
         exact hK'.out _ _ _ rfl trivial ⟨rfl,HF.out⟩
        ·refine ai.af rfl ?_
         have y0:x 114=.bool true:=(D_ hd 7 :);have y1:x 119=undef:=(D_ hd 12 :);have HF:=Z_ hF;clear hd hm hb hF;go_simp;exact hK'.out _ _ _ (by simp only [y0,y1];rfl) trivial ⟨rfl,HF.out⟩
        ·refine ai.af rfl ?_
         have HF:=Z_ hF;clear hd hm hb hF;go_simp;exact hK'.out _ _ _ (rfl) trivial ⟨rfl,HF.out⟩
        ·refine ai.af rfl ?_
         obtain rfl:=pR hm;have y0:x 120=.bool true:=(D_ hd 13 :);have y1:x 121=.int .i64 (p:Nat):=(D_ hd 14 :);have HF:=Z_ (show Ext u6 u from hF);clear hd hm hb hF;go_simp;refine(fO 5 (p:Nat) u).mono ?_
         rintro e u2 ⟨rfl,rfl⟩;exact hK'.out _ _ _ (by simp only [y0,y1];rfl) trivial HF.out
       case XE=>
        intro x9 wJ wz hl hF hk9;have HEZ:=Z_ (show Ext u6 wz from hF);clear hl hF hk9;go_wp2_with fail
        go_roundw
        case rel=>exact⟨e+1,by omega,by go_num,Z_ (by have h1:=zx.out;have h2:=HA.out;have h3:=HNO.out;first|(rw [h1,h2,h3];rfl)|(rw [h1,h2];simpa using h3)),Z_ (HE6.out.ext HEZ.out)⟩
        case measure=>simp [intOf];omega
     ·obtain rfl:e=n:=by omega
      have hed:decide ((e:Int)<(e:Int))=false:=by simp
      have HT8:=Z_ (show (if 20≤L.length then .bad 1 p else if fK m [l_.lab,ctx]=false then .bad 7 p else .ok (.mk 7 m ks ⟨(L.length:Nat),aF,aF,m,0⟩ 0 ctx,L ++ [⟨t,m,deep⟩]):Rz (Tr×List Loc))=T from by have h9:=pW.out;have h:=HA.out;rw [List.take_of_length_le (by rw [rF.out];exact Nat.le_refl _)] at h;rw [if_neg (by rw [h];decide)] at h9;exact h9);have HS2:=Z_ (HS.out.extend HZ.out);have hcc:=HS2.out.cs.c.cell;unfold wK at hcc;have rD:=HS2.out.x.cell;unfold lY at rD;have hr0:=(HZ.out.cell (p:=⟨rb,ro,none⟩) JR.out id).trans HR0.out;have hc0:=(HZ.out.cell (p:=⟨g0,14,none⟩) UR.out id).trans ((PX.out 14 (by decide)).trans rfl);replace hc0:wr.cell? ⟨g0,14,none⟩=some (.int .i64 l_.lab):=hc0;have hrb:=Nat.lt_of_lt_of_le JR.out HZ.out.size;have hg0:=Nat.lt_of_lt_of_le UR.out HZ.out.size;have DK:0<j:=by rw [←uK.out];exact E_
      have hjq:(0:Int)<(j:Int):=by omega
      clear Bf pW zY WR HA HZ;by_cases h20:e<20
      ·have as7:decide ((e:Int)<20)=true:=decide_eq_true (by omega)
       have XF:=Z_ (show (if fK m [l_.lab,ctx]=false then .bad 7 p else .ok (.mk 7 m ks ⟨(L.length:Nat),aF,aF,m,0⟩ 0 ctx,L ++ [⟨t,m,deep⟩]):Rz (Tr×List Loc))=T from by have h9:=HT8.out;rw [if_neg (by rw [rF.out];omega)] at h9;exact h9);clear HT8;go_wp2_with fail
       refine(fO 1 (p:Nat) _).mono ?_
       rintro e9 w8 ⟨rfl,rfl⟩;go_wp2_with fail
       have AO:=aJ.made w8 #[.int .i64 l_.lab,.int .i64 ctx] 3;have Ah:=Z_ (HS2.out.extend ((aB.refl _ w8).alloc (.cells #[.int .i64 l_.lab,.int .i64 ctx] 3)));have Af:=Z_ (show Calls Tryz.prog 283 #[.int .i64 (p:Nat),.int .i64 (m),.slice (some ⟨w8.heap.size,0,none⟩) 2 2] (w8.alloc (.cells #[.int .i64 l_.lab,.int .i64 ctx] 3)) (nG (m) [l_.lab,ctx] (p:Nat) _) from mW (p:Nat) (m) (some ⟨w8.heap.size,0,none⟩) 2 [l_.lab,ctx] _ (oQ AO) (Nat.le_refl _) (by simp));clear AO;skip
       refine Af.out.mono ?_
       rintro e9 w9 ⟨hy1,hy2,rfl⟩;cases hfl:fK (m) [l_.lab,ctx] with
       | true=>
        obtain rfl:=hy1 hfl;have UT:=Z_ hfl;clear Af hy1 hy2 hfl;generalize w8.alloc (.cells #[.int .i64 l_.lab,.int .i64 ctx] 3)=w9 at *;have tP:=Z_ (show T=.ok (.mk 7 m ks ⟨(L.length:Nat),aF,aF,m,0⟩ 0 ctx,L ++ [⟨t,m,deep⟩]) from by have h9:=XF.out;rw [if_neg (by rw [UT.out];decide)] at h9;exact h9.symm);clear XF hcc rD hr0 hc0 hrb hg0 DK hjq h20;have hbc:=Ah.out.nb.cell;go_wp2_with fail
        refine(G0 Ah.out.cs Ah.out.pc (by rw [rF.out];omega) t HTX.out m).mono ?_
        rintro e9 w10 ⟨Lr,PU,rfl,jP,xJ,GZ,ac9⟩;have WS:=Z_ (Ah.out.call jP xJ GZ ac9);clear jP xJ GZ ac9 hbc;have rD:=WS.out.x.cell;have Ja:=WS.out.x.frozen;have hxl:=WS.out.x.lt;unfold lY at rD;go_wp2_with fail
        go_ret
        rw [tP.out];have H1:=WS.out.put (j:=3) (v:=.int .i64 (L.length:Nat)) (Yd:=fun rv=>lY 7 m rv ⟨(L.length:Nat),aF,aF,0,0⟩ (.string ⟨#[]⟩) (.bool false) (.slice none 0 0) (.int .i64 0) (.bool false) (.int .i64 0) 0 ctx) rfl;have H2:=H1.put (j:=4) (v:=.string ⟨#[]⟩) (Yd:=fun rv=>lY 7 m rv ⟨(L.length:Nat),aF,aF,0,0⟩ (.string ⟨#[]⟩) (.bool false) (.slice none 0 0) (.int .i64 0) (.bool false) (.int .i64 0) 0 ctx) rfl;have H3:=H2.put (j:=5) (v:=.string ⟨#[]⟩) (Yd:=fun rv=>lY 7 m rv ⟨(L.length:Nat),aF,aF,0,0⟩ (.string ⟨#[]⟩) (.bool false) (.slice none 0 0) (.int .i64 0) (.bool false) (.int .i64 0) 0 ctx) rfl;have H4:=H3.put (j:=6) (v:=.int .i64 m) (Yd:=fun rv=>lY 7 m rv ⟨(L.length:Nat),aF,aF,m,0⟩ (.string ⟨#[]⟩) (.bool false) (.slice none 0 0) (.int .i64 0) (.bool false) (.int .i64 0) 0 ctx) rfl
        have H5:=H4.put (j:=7) (v:=.int .i64 0) (Yd:=fun rv=>lY 7 m rv ⟨(L.length:Nat),aF,aF,m,0⟩ (.string ⟨#[]⟩) (.bool false) (.slice none 0 0) (.int .i64 0) (.bool false) (.int .i64 0) 0 ctx) rfl;exact uT H5 (by constructor<;>(unfold maxLen;show aF.size≤_;decide))
       | false=>
        obtain rfl:=hy2 hfl;have tP:=Z_ (show T=.bad 7 p from by rw [←XF.out,if_pos hfl]);clear Af hy1 hy2;go_wp2_with fail
        rw [tP.out];exact⟨rfl,rH Ah.out⟩
      ·have as7:decide ((e:Int)<20)=false:=decide_eq_false (by omega)
       have tP:=Z_ (show T=.bad 1 p from by rw [←HT8.out,if_pos (by rw [rF.out];omega)]);clear HT8;go_wp2_with fail
       refine(iq 1 (p:Nat) _).mono ?_
       rintro e9 w9 ⟨rfl,rfl⟩;go_wp2_with fail
       rw [tP.out];exact⟨rfl,rH HS2.out⟩
   ·have rD:=HS.out.x.cell
    have Ja:=HS.out.x.frozen;have hxl:=HS.out.x.lt;unfold lY at rD;have hr0:=HR0.out;rw [Nat.add_zero] at hr0;have hc0:=PX.out 14 (by decide);replace hc0:wr.cell? ⟨g0,14,none⟩=some (.int .i64 l_.lab):=hc0;have hrb:=JR.out;have hg0:=UR.out;have DK:0<j:=by rw [←uK.out];exact E_
    have hjq:(0:Int)<(j:Int):=by omega
    have hj2:j=2:=by have h1:=HF8.out rfl;rw [HN.out] at h1;exact h1
    have ac_:1<ks.length:=by rw [uK.out];omega
    obtain⟨g1,b2,d2,s0,s1,s2,s3,s4,s5,hr1,hg1,ht1,hc1⟩:=zY.out 1 ac_;rw [←tail_at ac_] at ht1 hc1;obtain⟨WT,Ye⟩:∃ y1,ks.tail.headD default=y1:=⟨_,rfl⟩;rw [Ye] at hc1;have hc6:=PX.out 6 (by decide);replace hc6:wr.cell? ⟨g0,6,none⟩=some (.int .i64 l_.ref.label):=hc6;have ZO:=Z_ hc6;have JS:=Z_ (show wr.cell? ⟨g1,14,none⟩=some (.int .i64 WT.lab) from hc1 14 (by decide));have HR1:=Z_ hr1;have HG1:=Z_ hg1;have nU:=Bf.out;unfold wQ at nU;rw [HY0.out,Ye] at nU;have pW:=Z_ (show (if fK l_.ref.label [WT.lab,jv l_,ctx]=false then .bad 7 p else .ok (.mk 8 m ks jo 0 ctx,L):Rz (Tr×List Loc))=T from nU);have ad1:(1:Int)<(j:Int):=by omega
    have HJQ:=Z_ ad1;have HJP:=Z_ (show 1<j by omega);clear nU hj2 hr1 hg1 ht1 hc1 hc6 Ye;go_upto_region 25 with (fail)
    clear rD Ja hxl hr0 hc0 hrb hg0 DK hjq ad1;refine fA [16,18,19] (fun i v _=>v=([.int .i64 (p:Nat),.pointer (some ⟨g0,0,none⟩),.pointer (some ⟨g0,0,none⟩),.pointer (some ⟨g0,3,none⟩),.pointer (some ⟨g0,6,none⟩),.int .i64 l_.ref.label,.pointer (some ⟨X,0,none⟩),.pointer (some ⟨X,0,none⟩),.pointer (some ⟨X,2,none⟩),.slice (some ⟨rb,ro,none⟩) j rc,.pointer (some ⟨rb,ro+1,none⟩),.pointer (some ⟨g1,0,none⟩),.pointer (some ⟨g1,0,none⟩),.pointer (some ⟨g1,14,none⟩),.int .i64 WT.lab,.pointer (some ⟨g0,0,none⟩),undef,.int .i64 ctx,undef,undef]:List Value).getD i undef) (xE (.int .i64 (jv l_)) (nD wr l_.ref.label [WT.lab,jv l_,ctx] 3)) (fun _ _=>True) (frame:=?a09) (fun x=>?as8) bH.mixed (by kernel_rfl) (by kernel_rfl) (fun _ _ _ _ h _=>h) ?h0s ?sts ?as9
    case as8=>
     simp only [chain.aS,chain.fill,chain.bT,chain.bC,oV,oW,oZ,o5,o6,o7,o8,o_,pq];exact rfl
    case h0s=>exact(aB.refl _ _).drew
    case sts=>
     iterate 20 (refine ak.cons (fun x vs u hF hm hb hd K' hK'=>?_) ?_;rotate_left)
     exact ak.nil
     ·refine ai.af rfl ?_
      have HF:=Z_ hF;clear hd hm hb hF;go_simp;exact hK'.out _ _ _ (rfl) trivial ⟨rfl,HF.out⟩
     ·refine ai.af rfl ?_
      have HF:=Z_ hF;clear hd hm hb hF;go_simp;exact hK'.out _ _ _ (rfl) trivial ⟨rfl,HF.out⟩
     ·refine ai.af rfl ?_
      have y0:x 165=.pointer (some ⟨g0,0,none⟩):=(D_ hd 1 :);have HF:=Z_ hF;clear hd hm hb hF;go_simp;exact hK'.out _ _ _ (by simp only [y0];rfl) trivial ⟨rfl,HF.out⟩
     ·refine ai.af rfl ?_
      have y0:x 166=.pointer (some ⟨g0,0,none⟩):=(D_ hd 2 :);have HF:=Z_ hF;clear hd hm hb hF;go_simp;exact hK'.out _ _ _ (by simp only [y0];rfl) trivial ⟨rfl,HF.out⟩
     ·refine ai.af rfl ?_
      have y0:x 167=.pointer (some ⟨g0,3,none⟩):=(D_ hd 3 :);have HF:=Z_ hF;clear hd hm hb hF;go_simp;exact hK'.out _ _ _ (by simp only [y0];rfl) trivial ⟨rfl,HF.out⟩
     ·refine ai.af rfl ?_
      have ju:=xE.ext hF;have hq:=(ju.cell (p:=⟨g0,6,none⟩) UR.out id).trans ZO.out;clear ju;have y0:x 168=.pointer (some ⟨g0,6,none⟩):=(D_ hd 4 :);have HF:=Z_ hF;clear hd hm hb hF;go_simp;exact hK'.out _ _ _ (by simp only [y0];rfl) trivial ⟨rfl,HF.out⟩
     ·refine ai.af rfl ?_
      have HF:=Z_ hF;clear hd hm hb hF;go_simp;exact hK'.out _ _ _ (rfl) trivial ⟨rfl,HF.out⟩
     ·refine ai.af rfl ?_
      have y0:x 170=.pointer (some ⟨X,0,none⟩):=(D_ hd 6 :);have HF:=Z_ hF;clear hd hm hb hF;go_simp;exact hK'.out _ _ _ (by simp only [y0];rfl) trivial ⟨rfl,HF.out⟩
     ·refine ai.af rfl ?_
      have y0:x 171=.pointer (some ⟨X,0,none⟩):=(D_ hd 7 :);have HF:=Z_ hF;clear hd hm hb hF;go_simp;exact hK'.out _ _ _ (by simp only [y0];rfl) trivial ⟨rfl,HF.out⟩
     ·refine ai.af rfl ?_
      have ju:=xE.ext hF;have hq:=(HS.out.extend ju).x.cell 2;replace hq:u.cell? ⟨X,2,none⟩=some (.slice (some ⟨rb,ro,none⟩) j rc):=hq;clear ju;have y0:x 172=.pointer (some ⟨X,2,none⟩):=(D_ hd 8 :);have HF:=Z_ hF;clear hd hm hb hF;go_simp;exact hK'.out _ _ _ (by simp only [y0];rfl) trivial ⟨rfl,HF.out⟩
     ·refine ai.af rfl ?_
      have hj8:=HJQ.out;have hj9:=HJP.out;have y0:x 173=.slice (some ⟨rb,ro,none⟩) j rc:=(D_ hd 9 :);have HF:=Z_ hF;clear hd hm hb hF;go_simp;exact hK'.out _ _ _ (by simp only [y0];rfl) trivial ⟨rfl,HF.out⟩
     ·refine ai.af rfl ?_
      have ju:=xE.ext hF;have hq:=(ju.cell (p:=⟨rb,ro+1,none⟩) JR.out id).trans HR1.out;clear ju;have y0:x 174=.pointer (some ⟨rb,ro+1,none⟩):=(D_ hd 10 :);have HF:=Z_ hF;clear hd hm hb hF;go_simp;exact hK'.out _ _ _ (by simp only [y0];rfl) trivial ⟨rfl,HF.out⟩
     ·refine ai.af rfl ?_
      have y0:x 175=.pointer (some ⟨g1,0,none⟩):=(D_ hd 11 :);have HF:=Z_ hF;clear hd hm hb hF;go_simp;exact hK'.out _ _ _ (by simp only [y0];rfl) trivial ⟨rfl,HF.out⟩
     ·refine ai.af rfl ?_
      have y0:x 176=.pointer (some ⟨g1,0,none⟩):=(D_ hd 12 :);have HF:=Z_ hF;clear hd hm hb hF;go_simp;exact hK'.out _ _ _ (by simp only [y0];rfl) trivial ⟨rfl,HF.out⟩
     ·refine ai.af rfl ?_
      have ju:=xE.ext hF;have hq:=(ju.cell (p:=⟨g1,14,none⟩) HG1.out id).trans JS.out;clear ju;have y0:x 177=.pointer (some ⟨g1,14,none⟩):=(D_ hd 13 :);have HF:=Z_ hF;clear hd hm hb hF;go_simp;exact hK'.out _ _ _ (by simp only [y0];rfl) trivial ⟨rfl,HF.out⟩
     ·refine ai.af rfl ?_
      have HF:=Z_ hF;clear hd hm hb hF;go_simp;exact hK'.out _ _ _ (rfl) trivial ⟨rfl,HF.out⟩
     ·refine ai.af rfl ?_
      obtain rfl:=pR hm;have y0:x 179=.pointer (some ⟨g0,0,none⟩):=(D_ hd 15 :);have HF:=Z_ hF;have oU:=Z_ (vS l_ _ u (jf (Ext.keeps ((aB.refl _ wr).ext hF)) _ _ HT0.out) HI0.out);clear hd hm hb hF;go_simp;refine oU.out.mono ?_
      rintro e u2 ⟨rfl,rfl⟩;exact hK'.out _ _ _ (by simp only [y0];rfl) trivial ⟨rfl,HF.out⟩
     ·refine ai.af rfl ?_
      have HF:=Z_ hF;clear hd hm hb hF;go_simp;exact hK'.out _ _ _ (rfl) trivial ⟨rfl,HF.out⟩
     ·refine ai.af rfl ?_
      obtain⟨v0,rfl⟩:=rE hm
      have y0:x 178=.int .i64 WT.lab:=(D_ hd 14 :);have y1:x 180=v0:=((D_ hd 16) 180 (by kernel_rfl) :);have y2:x 181=.int .i64 ctx:=(D_ hd 17 :);obtain⟨rv,hF⟩:=hF;subst rv;have HF:=Z_ hF;clear hd hm hb hF;go_simp;exact hK'.out _ _ _ (by simp only [y0,y1,y2];rfl) trivial (⟨rfl,rV HF.out rfl⟩)
     ·refine ai.af rfl ?_
      obtain⟨v0,v1,rfl⟩:=yP hm
      have y0:x 164=.int .i64 (p:Nat):=(D_ hd 0 :);have y1:x 169=.int .i64 l_.ref.label:=(D_ hd 5 :);have y2:x 182=v1:=((D_ hd 18) 182 (by kernel_rfl) :);obtain⟨rv,hF⟩:=hF;subst rv;obtain⟨vI,g9,rfl,AO⟩:=hF;have Af:=Z_ (show Calls Tryz.prog 283 #[.int .i64 (p:Nat),.int .i64 (l_.ref.label),.slice (some ⟨g9,0,none⟩) 3 3] u (nG (l_.ref.label) [WT.lab,jv l_,ctx] (p:Nat) u) from mW (p:Nat) (l_.ref.label) (some ⟨g9,0,none⟩) 3 [WT.lab,jv l_,ctx] u (oQ AO) (Nat.le_refl _) (by simp));have WU:=Z_ vI;clear hd hm hb vI AO;go_simp;refine Af.out.mono ?_
      rintro e u2 ⟨hy1,hy2,rfl⟩;cases hfl:fK (l_.ref.label) [WT.lab,jv l_,ctx] with
      | true=>
       obtain rfl:=hy1 hfl;exact hK'.out _ _ _ (by simp only [y0,y1,y2];rfl) trivial ⟨rfl,⟨hfl,WU.out⟩⟩
      | false=>
       obtain rfl:=hy2 hfl;have tP:=Z_ (show T=.bad 7 p from by rw [←pW.out,if_pos hfl]);clear Bf Af hy1 hy2;go_wp2_with fail
       rw [tP.out];exact⟨rfl,rH (HS.out.extend WU.out)⟩
    case as9=>
     intro x9 wJ wz hl hF hk9;obtain⟨v0,v1,v2,rfl⟩:=UH hl
     obtain⟨-,hfl,WV⟩:=hF;have qI:=Z_ (HS.out.extend WV);have tP:=Z_ (show T=.ok (.mk _ m ks jo 0 ctx,L) from by rw [←pW.out,if_neg (by rw [hfl];decide)]);clear Bf hfl WV hk9 hl;go_wp2_with fail
     go_ret
     rw [tP.out];exact uT qI.out (by constructor<;>decide)
   ·have tP:=Z_ (show T=.ok (.mk _ m ks jo 0 ctx,L) from Bf.out.symm)
    clear Bf;go_wp2_with fail
    go_ret
    rw [tP.out];exact uT HS.out (by constructor<;>decide)
   ·have tP:=Z_ (show T=.ok (.mk _ m ks jo 0 ctx,L) from Bf.out.symm)
    clear Bf;go_wp2_with fail
    go_ret
    rw [tP.out];exact uT HS.out (by constructor<;>decide)
   ·have tP:=Z_ (show T=.ok (.mk _ m ks jo 0 ctx,L) from Bf.out.symm)
    clear Bf;go_wp2_with fail
    go_ret
    rw [tP.out];exact uT HS.out (by constructor<;>decide)
   ·have rD:=HS.out.x.cell
    have Ja:=HS.out.x.frozen;have hxl:=HS.out.x.lt;unfold lY at rD;have hr0:=HR0.out;rw [Nat.add_zero] at hr0;have hc0:=PX.out 14 (by decide);replace hc0:wr.cell? ⟨g0,14,none⟩=some (.int .i64 l_.lab):=hc0;have hrb:=JR.out;have hg0:=UR.out;have DK:0<j:=by rw [←uK.out];exact E_
    have hjq:(0:Int)<(j:Int):=by omega
    have nU:=Bf.out;unfold wQ at nU;rw [HY0.out] at nU;have pW:=Z_ (show (if fK m [l_.lab,ctx]=false then .bad 7 p else .ok (.mk 12 m ks jo 0 ctx,L):Rz (Tr×List Loc))=T from nU);clear nU;go_upto_region 27 with (fail)
    go_wp2_with fail
    have AO:=aJ.made wr #[.int .i64 l_.lab,.int .i64 ctx] 3;have Ah:=Z_ (HS.out.extend ((aB.refl _ wr).alloc (.cells #[.int .i64 l_.lab,.int .i64 ctx] 3)));have Af:=Z_ (show Calls Tryz.prog 283 #[.int .i64 (p:Nat),.int .i64 (m),.slice (some ⟨wr.heap.size,0,none⟩) 2 2] (wr.alloc (.cells #[.int .i64 l_.lab,.int .i64 ctx] 3)) (nG (m) [l_.lab,ctx] (p:Nat) _) from mW (p:Nat) (m) (some ⟨wr.heap.size,0,none⟩) 2 [l_.lab,ctx] _ (oQ AO) (Nat.le_refl _) (by simp));clear AO;have Jo:=Z_ (show Ext wr (wr.alloc (.cells #[.int .i64 l_.lab,.int .i64 ctx] 3)) from(aB.refl _ wr).alloc _);refine Af.out.mono ?_
    rintro e9 w9 ⟨hy1,hy2,rfl⟩;cases hfl:fK (m) [l_.lab,ctx] with
    | true=>
     obtain rfl:=hy1 hfl;have tP:=Z_ (show T=.ok (.mk _ m ks jo 0 ctx,L) from by rw [←pW.out,if_neg (by rw [hfl];decide)]);clear Bf Af hy1 hy2;go_wp2_with fail
     go_ret
     rw [tP.out];exact uT Ah.out (by constructor<;>decide)
    | false=>
     obtain rfl:=hy2 hfl;have tP:=Z_ (show T=.bad 7 p from by rw [←pW.out,if_pos hfl]);clear Bf Af hy1 hy2;go_wp2_with fail
     rw [tP.out];exact⟨rfl,rH Ah.out⟩
   ·have rD:=HS.out.x.cell
    have Ja:=HS.out.x.frozen;have hxl:=HS.out.x.lt;unfold lY at rD;have hr0:=HR0.out;rw [Nat.add_zero] at hr0;have hc0:=PX.out 14 (by decide);replace hc0:wr.cell? ⟨g0,14,none⟩=some (.int .i64 l_.lab):=hc0;have hrb:=JR.out;have hg0:=UR.out;have DK:0<j:=by rw [←uK.out];exact E_
    have hjq:(0:Int)<(j:Int):=by omega
    have hc6:=PX.out 6 (by decide);replace hc6:wr.cell? ⟨g0,6,none⟩=some (.int .i64 l_.ref.label):=hc6;have ZO:=Z_ hc6;clear hc6;have nU:=Bf.out;unfold wQ at nU;rw [HY0.out] at nU;have pW:=Z_ (show (if fK m [ctx]=false then .bad 7 p else if fK l_.ref.label [m,jv l_,ctx]=false then .bad 7 p else .ok (.mk 13 m ks jo 0 ctx,L):Rz (Tr×List Loc))=T from nU);clear nU;go_upto_region 30 with (fail)
    go_wp2_with fail
    have AO:=aJ.made wr #[.int .i64 ctx] 3;have Ah:=Z_ (HS.out.extend ((aB.refl _ wr).alloc (.cells #[.int .i64 ctx] 3)));have Af:=Z_ (show Calls Tryz.prog 283 #[.int .i64 (p:Nat),.int .i64 (m),.slice (some ⟨wr.heap.size,0,none⟩) 1 1] (wr.alloc (.cells #[.int .i64 ctx] 3)) (nG (m) [ctx] (p:Nat) _) from mW (p:Nat) (m) (some ⟨wr.heap.size,0,none⟩) 1 [ctx] _ (oQ AO) (Nat.le_refl _) (by simp));clear AO;have Jo:=Z_ (show Ext wr (wr.alloc (.cells #[.int .i64 ctx] 3)) from(aB.refl _ wr).alloc _);refine Af.out.mono ?_
    rintro e9 w9 ⟨hy1,hy2,rfl⟩;cases hfl:fK (m) [ctx] with
    | true=>
     obtain rfl:=hy1 hfl;have UT:=Z_ hfl;clear Af hy1 hy2 hfl;generalize wr.alloc (.cells #[.int .i64 ctx] 3)=w9 at *;go_upto_region 31 with (fail)
     refine fA [8,10,11] (fun i v _=>v=([.int .i64 (p:Nat),.pointer (some ⟨g0,0,none⟩),.pointer (some ⟨g0,0,none⟩),.pointer (some ⟨g0,3,none⟩),.pointer (some ⟨g0,6,none⟩),.int .i64 l_.ref.label,.int .i64 m,.pointer (some ⟨g0,0,none⟩),undef,.int .i64 ctx,undef,undef]:List Value).getD i undef) (xE (.int .i64 (jv l_)) (nD w9 l_.ref.label [m,jv l_,ctx] 3)) (fun _ _=>True) (frame:=?a0_) (fun x=>?at3) bH.mixed (by kernel_rfl) (by kernel_rfl) (fun _ _ _ _ h _=>h) ?h0q ?stq ?at4
     case at3=>
      simp only [chain.aS,chain.fill,chain.bT,chain.bC,oV,oW,oZ,o5,o6,o7,o8,o_,pq];exact rfl
     case h0q=>exact(aB.refl _ _).drew
     case stq=>
      iterate 12 (refine ak.cons (fun x vs u hF hm hb hd K' hK'=>?_) ?_;rotate_left)
      exact ak.nil
      ·refine ai.af rfl ?_
       have HF:=Z_ hF;clear hd hm hb hF;go_simp;exact hK'.out _ _ _ (rfl) trivial ⟨rfl,HF.out⟩
      ·refine ai.af rfl ?_
       have HF:=Z_ hF;clear hd hm hb hF;go_simp;exact hK'.out _ _ _ (rfl) trivial ⟨rfl,HF.out⟩
      ·refine ai.af rfl ?_
       have y0:x 214=.pointer (some ⟨g0,0,none⟩):=(D_ hd 1 :);have HF:=Z_ hF;clear hd hm hb hF;go_simp;exact hK'.out _ _ _ (by simp only [y0];rfl) trivial ⟨rfl,HF.out⟩
      ·refine ai.af rfl ?_
       have y0:x 215=.pointer (some ⟨g0,0,none⟩):=(D_ hd 2 :);have HF:=Z_ hF;clear hd hm hb hF;go_simp;exact hK'.out _ _ _ (by simp only [y0];rfl) trivial ⟨rfl,HF.out⟩
      ·refine ai.af rfl ?_
       have y0:x 216=.pointer (some ⟨g0,3,none⟩):=(D_ hd 3 :);have HF:=Z_ hF;clear hd hm hb hF;go_simp;exact hK'.out _ _ _ (by simp only [y0];rfl) trivial ⟨rfl,HF.out⟩
      ·refine ai.af rfl ?_
       have ju:=Jo.out.ext (xE.ext hF);have hq:=(ju.cell (p:=⟨g0,6,none⟩) UR.out id).trans ZO.out;clear ju;have y0:x 217=.pointer (some ⟨g0,6,none⟩):=(D_ hd 4 :);have HF:=Z_ hF;clear hd hm hb hF;go_simp;exact hK'.out _ _ _ (by simp only [y0];rfl) trivial ⟨rfl,HF.out⟩
      ·refine ai.af rfl ?_
       have HF:=Z_ hF;clear hd hm hb hF;go_simp;exact hK'.out _ _ _ (rfl) trivial ⟨rfl,HF.out⟩
      ·refine ai.af rfl ?_
       have HF:=Z_ hF;clear hd hm hb hF;go_simp;exact hK'.out _ _ _ (rfl) trivial ⟨rfl,HF.out⟩
      ·refine ai.af rfl ?_
       obtain rfl:=pR hm;have y0:x 220=.pointer (some ⟨g0,0,none⟩):=(D_ hd 7 :);have HF:=Z_ hF;have oU:=Z_ (vS l_ _ u (jf (Ext.keeps (Jo.out.ext hF)) _ _ HT0.out) HI0.out);clear hd hm hb hF;go_simp;refine oU.out.mono ?_
       rintro e u2 ⟨rfl,rfl⟩;exact hK'.out _ _ _ (by simp only [y0];rfl) trivial ⟨rfl,HF.out⟩
      ·refine ai.af rfl ?_
       have HF:=Z_ hF;clear hd hm hb hF;go_simp;exact hK'.out _ _ _ (rfl) trivial ⟨rfl,HF.out⟩
      ·refine ai.af rfl ?_
       obtain⟨v0,rfl⟩:=rE hm
       have y0:x 219=.int .i64 m:=(D_ hd 6 :);have y1:x 221=v0:=((D_ hd 8) 221 (by kernel_rfl) :);have y2:x 222=.int .i64 ctx:=(D_ hd 9 :);obtain⟨rv,hF⟩:=hF;subst rv;have HF:=Z_ hF;clear hd hm hb hF;go_simp;exact hK'.out _ _ _ (by simp only [y0,y1,y2];rfl) trivial (⟨rfl,rV HF.out rfl⟩)
      ·refine ai.af rfl ?_
       obtain⟨v0,v1,rfl⟩:=yP hm
       have y0:x 213=.int .i64 (p:Nat):=(D_ hd 0 :);have y1:x 218=.int .i64 l_.ref.label:=(D_ hd 5 :);have y2:x 223=v1:=((D_ hd 10) 223 (by kernel_rfl) :);obtain⟨rv,hF⟩:=hF;subst rv;obtain⟨vI,g9,rfl,AO⟩:=hF;have Af:=Z_ (show Calls Tryz.prog 283 #[.int .i64 (p:Nat),.int .i64 (l_.ref.label),.slice (some ⟨g9,0,none⟩) 3 3] u (nG (l_.ref.label) [m,jv l_,ctx] (p:Nat) u) from mW (p:Nat) (l_.ref.label) (some ⟨g9,0,none⟩) 3 [m,jv l_,ctx] u (oQ AO) (Nat.le_refl _) (by simp));have WU:=Z_ vI;clear hd hm hb vI AO;go_simp;refine Af.out.mono ?_
       rintro e u2 ⟨hy1,hy2,rfl⟩;cases hfl:fK (l_.ref.label) [m,jv l_,ctx] with
       | true=>
        obtain rfl:=hy1 hfl;exact hK'.out _ _ _ (by simp only [y0,y1,y2];rfl) trivial ⟨rfl,⟨hfl,WU.out⟩⟩
       | false=>
        obtain rfl:=hy2 hfl;have tP:=Z_ (show T=.bad 7 p from by rw [←pW.out,if_neg (by rw [UT.out];decide),if_pos hfl]);clear Bf Af hy1 hy2;go_wp2_with fail
        rw [tP.out];exact⟨rfl,rH (Ah.out.extend WU.out)⟩
     case at4=>
      intro x9 wJ wz hl hF hk9;obtain⟨v0,v1,v2,rfl⟩:=UH hl
      obtain⟨-,hfl,WV⟩:=hF;have qI:=Z_ (Ah.out.extend WV);have tP:=Z_ (show T=.ok (.mk _ m ks jo 0 ctx,L) from by rw [←pW.out,if_neg (by rw [UT.out];decide),if_neg (by rw [hfl];decide)]);clear Bf hfl WV hk9 hl;go_wp2_with fail
      go_ret
      rw [tP.out];exact uT qI.out (by constructor<;>decide)
    | false=>
     obtain rfl:=hy2 hfl;have tP:=Z_ (show T=.bad 7 p from by rw [←pW.out,if_pos hfl]);clear Bf Af hy1 hy2;go_wp2_with fail
     rw [tP.out];exact⟨rfl,rH Ah.out⟩
   ·have rD:=HS.out.x.cell
    have Ja:=HS.out.x.frozen;have hxl:=HS.out.x.lt;unfold lY at rD;have hr0:=HR0.out;rw [Nat.add_zero] at hr0;have hc0:=PX.out 14 (by decide);replace hc0:wr.cell? ⟨g0,14,none⟩=some (.int .i64 l_.lab):=hc0;have hrb:=JR.out;have hg0:=UR.out;have DK:0<j:=by rw [←uK.out];exact E_
    have hjq:(0:Int)<(j:Int):=by omega
    have hcc:=HS.out.cs.c.cell;unfold wK at hcc;obtain⟨p1,p2,p3,pbl,pmo,Yf,-⟩:=HS.out.pc;have hpp:=HS.out.cs.p.cell;rw [Yf] at hpp;obtain⟨gv,hgv⟩:∃ gv,pr.gives=gv:=⟨_,rfl⟩;rw [hgv] at hpp;have at6:=Z_ Yf;have ZC:=Z_ hgv;have nU:=Bf.out;unfold wQ at nU;rw [HY0.out,hgv] at nU;have pW:=Z_ (show (if (last&&gv)=false then .bad 2 p else if fK pr.given [l_.lab]=false then .bad 7 p else .ok (.mk 14 m ks jo 0 ctx,L):Rz (Tr×List Loc))=T from nU);clear nU Yf hgv;by_cases ZP:last=true∧gv=true
    ·obtain⟨rfl,rfl⟩:=ZP
     go_wp2_with fail
     refine(fO 2 (p:Nat) _).mono ?_
     rintro e w9 ⟨rfl,rfl⟩;have at7:=Z_ hc0;have HJQ:=Z_ hjq;have HJP:=Z_ DK;have HRR:=Z_ hr0;go_upto_region 34 with (fail)
     clear hcc hpp rD Ja hxl hr0 hc0 hrb hg0 DK hjq;refine fA [18,19] (fun i v _=>v=([.int .i64 (p:Nat),.pointer (some ⟨C,0,none⟩),.pointer (some ⟨C,0,none⟩),.pointer (some ⟨C,5,none⟩),.pointer (some ⟨P,0,none⟩),.pointer (some ⟨P,0,none⟩),.pointer (some ⟨P,0,none⟩),.pointer (some ⟨P,5,none⟩),.int .i64 pr.given,.pointer (some ⟨X,0,none⟩),.pointer (some ⟨X,0,none⟩),.pointer (some ⟨X,2,none⟩),.slice (some ⟨rb,ro,none⟩) j rc,.pointer (some ⟨rb,ro,none⟩),.pointer (some ⟨g0,0,none⟩),.pointer (some ⟨g0,0,none⟩),.pointer (some ⟨g0,14,none⟩),.int .i64 l_.lab,undef,undef]:List Value).getD i undef) (nD w9 pr.given [l_.lab] 1) (fun _ _=>True) (frame:=?a13) (fun x=>?au0) bH.mixed (by kernel_rfl) (by kernel_rfl) (fun _ _ _ _ h _=>h) ?h0r ?str ?au1
     case au0=>
      simp only [chain.aS,chain.fill,chain.bT,chain.bC,oV,oW,oZ,o5,o6,o7,o8,o_,pq];exact rfl
     case h0r=>exact(aB.refl _ _).drew
     case str=>
      iterate 20 (refine ak.cons (fun x vs u hF hm hb hd K' hK'=>?_) ?_;rotate_left)
      exact ak.nil
      ·refine ai.af rfl ?_
       have HF:=Z_ hF;clear hd hm hb hF;go_simp;exact hK'.out _ _ _ (rfl) trivial ⟨rfl,HF.out⟩
      ·refine ai.af rfl ?_
       have HF:=Z_ hF;clear hd hm hb hF;go_simp;exact hK'.out _ _ _ (rfl) trivial ⟨rfl,HF.out⟩
      ·refine ai.af rfl ?_
       have y0:x 241=.pointer (some ⟨C,0,none⟩):=(D_ hd 1 :);have HF:=Z_ hF;clear hd hm hb hF;go_simp;exact hK'.out _ _ _ (by simp only [y0];rfl) trivial ⟨rfl,HF.out⟩
      ·refine ai.af rfl ?_
       have y0:x 242=.pointer (some ⟨C,0,none⟩):=(D_ hd 2 :);have HF:=Z_ hF;clear hd hm hb hF;go_simp;exact hK'.out _ _ _ (by simp only [y0];rfl) trivial ⟨rfl,HF.out⟩
      ·refine ai.af rfl ?_
       have ju:=nD.ext hF;have hq:=(HS.out.extend ju).cs.c.cell;unfold wK at hq;clear ju;have y0:x 243=.pointer (some ⟨C,5,none⟩):=(D_ hd 3 :);have HF:=Z_ hF;clear hd hm hb hF;go_simp;exact hK'.out _ _ _ (by simp only [y0];rfl) trivial ⟨rfl,HF.out⟩
      ·refine ai.af rfl ?_
       have y0:x 244=.pointer (some ⟨P,0,none⟩):=(D_ hd 4 :);have HF:=Z_ hF;clear hd hm hb hF;go_simp;exact hK'.out _ _ _ (by simp only [y0];rfl) trivial ⟨rfl,HF.out⟩
      ·refine ai.af rfl ?_
       have y0:x 245=.pointer (some ⟨P,0,none⟩):=(D_ hd 5 :);have HF:=Z_ hF;clear hd hm hb hF;go_simp;exact hK'.out _ _ _ (by simp only [y0];rfl) trivial ⟨rfl,HF.out⟩
      ·refine ai.af rfl ?_
       have y0:x 246=.pointer (some ⟨P,0,none⟩):=(D_ hd 6 :);have HF:=Z_ hF;clear hd hm hb hF;go_simp;exact hK'.out _ _ _ (by simp only [y0];rfl) trivial ⟨rfl,HF.out⟩
      ·refine ai.af rfl ?_
       have ju:=nD.ext hF;have hq:=(HS.out.extend ju).cs.p.cell 5;rw [at6.out] at hq;replace hq:u.cell? ⟨P,5,none⟩=some (.int .i64 pr.given):=hq;clear ju;have y0:x 247=.pointer (some ⟨P,5,none⟩):=(D_ hd 7 :);have HF:=Z_ hF;clear hd hm hb hF;go_simp;exact hK'.out _ _ _ (by simp only [y0];rfl) trivial ⟨rfl,HF.out⟩
      ·refine ai.af rfl ?_
       have HF:=Z_ hF;clear hd hm hb hF;go_simp;exact hK'.out _ _ _ (rfl) trivial ⟨rfl,HF.out⟩
      ·refine ai.af rfl ?_
       have y0:x 249=.pointer (some ⟨X,0,none⟩):=(D_ hd 9 :);have HF:=Z_ hF;clear hd hm hb hF;go_simp;exact hK'.out _ _ _ (by simp only [y0];rfl) trivial ⟨rfl,HF.out⟩
      ·refine ai.af rfl ?_
       have y0:x 250=.pointer (some ⟨X,0,none⟩):=(D_ hd 10 :);have HF:=Z_ hF;clear hd hm hb hF;go_simp;exact hK'.out _ _ _ (by simp only [y0];rfl) trivial ⟨rfl,HF.out⟩
      ·refine ai.af rfl ?_
       have ju:=nD.ext hF;have hq:=(HS.out.extend ju).x.cell 2;replace hq:u.cell? ⟨X,2,none⟩=some (.slice (some ⟨rb,ro,none⟩) j rc):=hq;clear ju;have y0:x 251=.pointer (some ⟨X,2,none⟩):=(D_ hd 11 :);have HF:=Z_ hF;clear hd hm hb hF;go_simp;exact hK'.out _ _ _ (by simp only [y0];rfl) trivial ⟨rfl,HF.out⟩
      ·refine ai.af rfl ?_
       have hj8:=HJQ.out;have hj9:=HJP.out;have y0:x 252=.slice (some ⟨rb,ro,none⟩) j rc:=(D_ hd 12 :);have HF:=Z_ hF;clear hd hm hb hF;go_simp;exact hK'.out _ _ _ (by simp only [y0];rfl) trivial ⟨rfl,HF.out⟩
      ·refine ai.af rfl ?_
       have ju:=nD.ext hF;have hq:=(ju.cell (p:=⟨rb,ro,none⟩) JR.out id).trans HRR.out;clear ju;have y0:x 253=.pointer (some ⟨rb,ro,none⟩):=(D_ hd 13 :);have HF:=Z_ hF;clear hd hm hb hF;go_simp;exact hK'.out _ _ _ (by simp only [y0];rfl) trivial ⟨rfl,HF.out⟩
      ·refine ai.af rfl ?_
       have y0:x 254=.pointer (some ⟨g0,0,none⟩):=(D_ hd 14 :);have HF:=Z_ hF;clear hd hm hb hF;go_simp;exact hK'.out _ _ _ (by simp only [y0];rfl) trivial ⟨rfl,HF.out⟩
      ·refine ai.af rfl ?_
       have y0:x 255=.pointer (some ⟨g0,0,none⟩):=(D_ hd 15 :);have HF:=Z_ hF;clear hd hm hb hF;go_simp;exact hK'.out _ _ _ (by simp only [y0];rfl) trivial ⟨rfl,HF.out⟩
      ·refine ai.af rfl ?_
       have ju:=nD.ext hF;have hq:=(ju.cell (p:=⟨g0,14,none⟩) UR.out id).trans at7.out;clear ju;have y0:x 256=.pointer (some ⟨g0,14,none⟩):=(D_ hd 16 :);have HF:=Z_ hF;clear hd hm hb hF;go_simp;exact hK'.out _ _ _ (by simp only [y0];rfl) trivial ⟨rfl,HF.out⟩
      ·refine ai.af rfl ?_
       obtain rfl:=pR hm;have y0:x 257=.int .i64 l_.lab:=(D_ hd 17 :);have HF:=Z_ hF;clear hd hm hb hF;go_simp;exact hK'.out _ _ _ (by simp only [y0];rfl) trivial (rV HF.out rfl)
      ·refine ai.af rfl ?_
       obtain⟨v0,rfl⟩:=rE hm
       have y0:x 240=.int .i64 (p:Nat):=(D_ hd 0 :);have y1:x 248=.int .i64 pr.given:=(D_ hd 8 :);have y2:x 258=v0:=((D_ hd 18) 258 (by kernel_rfl) :);obtain⟨vI,g9,rfl,AO⟩:=hF;have Af:=Z_ (show Calls Tryz.prog 283 #[.int .i64 (p:Nat),.int .i64 (pr.given),.slice (some ⟨g9,0,none⟩) 1 1] u (nG (pr.given) [l_.lab] (p:Nat) u) from mW (p:Nat) (pr.given) (some ⟨g9,0,none⟩) 1 [l_.lab] u (oQ AO) (Nat.le_refl _) (by simp));have WU:=Z_ vI;clear hd hm hb vI AO;go_simp;refine Af.out.mono ?_
       rintro e u2 ⟨hy1,hy2,rfl⟩;cases hfl:fK (pr.given) [l_.lab] with
       | true=>
        obtain rfl:=hy1 hfl;exact hK'.out _ _ _ (by simp only [y0,y1,y2];rfl) trivial ⟨hfl,WU.out⟩
       | false=>
        obtain rfl:=hy2 hfl;have tP:=Z_ (show T=.bad 7 p from by rw [←pW.out,if_neg (by decide),if_pos hfl]);clear Bf Af hy1 hy2;go_wp2_with fail
        rw [tP.out];exact⟨rfl,rH (HS.out.extend WU.out)⟩
     case au1=>
      intro x9 wJ wz hl hF hk9;obtain⟨v0,v1,rfl⟩:=Ll hl
      obtain⟨hfl,WV⟩:=hF;have qI:=Z_ (HS.out.extend WV);have tP:=Z_ (show T=.ok (.mk _ m ks jo 0 ctx,L) from by rw [←pW.out,if_neg (by decide),if_neg (by rw [hfl];decide)]);clear Bf hfl WV hk9 hl;go_wp2_with fail
      go_ret
      rw [tP.out];exact uT qI.out (by constructor<;>decide)
    ·have tP:=Z_ (show T=.bad 2 p from by rw [←pW.out,if_pos (by cases last<;>cases gv<;>simp_all)])
     have hkey:last=false∨(last=true∧gv=false):=by cases last<;>cases gv<;>simp_all
     clear Bf pW ZP;rcases hkey with rfl|⟨rfl,rfl⟩
     ·go_wp2_with fail
      refine(iq 2 (p:Nat) _).mono ?_
      rintro e w9 ⟨rfl,rfl⟩;go_wp2_with fail
      rw [tP.out];exact⟨rfl,rH HS.out⟩
     ·go_wp2_with fail
      refine(iq 2 (p:Nat) _).mono ?_
      rintro e w9 ⟨rfl,rfl⟩;go_wp2_with fail
      rw [tP.out];exact⟨rfl,rH HS.out⟩
end chk
end Go.Proofs.YtpcihajmcejliacGreatDoor
