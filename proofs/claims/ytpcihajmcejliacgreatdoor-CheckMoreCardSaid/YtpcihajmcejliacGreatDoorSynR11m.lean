/- The walk of the program's Open: what others know of declarations. The walk of the program's Of: a text's face, its imports, its fault. The reference's Same. -/
import Derived.Deep.RegionHeld3
import Derived.Deep.CutBlock
import Derived.Deep.DeepCutAuto
import Derived.Deep.LoopGhost
import Derived.Deep.AppendLies
import Derived.Test.YtpcihajmcejliacGreatDoorOfEm
import Derived.Test.YtpcihajmcejliacGreatDoorFaceEqm
import Derived.Test.YtpcihajmcejliacGreatDoorSynCm
import Derived.Test.YtpcihajmcejliacGreatDoorSyn3m
namespace Go.Proofs.YtpcihajmcejliacGreatDoor
open Go.RowKit
namespace off
end off
namespace Ox
open bn dn
def pI (w0:World) (x:aI) (v:Value) (_:World):Prop:=pF x v w0
theorem QY {w0:World} (x:aI) (u:Value) (w w':World) (h:pI w0 x u w):pI w0 x u w':=h
theorem nU {w0:World} (x:aI) (u:Value) (w w':World) (_:bZ w w') (h:pI w0 x u w):pI w0 x u w':=h
def Np (w0 w:World) (b o:Nat) (x:aI):Prop:=∃ u,pF x u w0∧u.cells.size=6∧∀ i,i<6→w.cell? ⟨b,o+i,none⟩=u.cells[i]?
theorem Nq {w0:World} (w:World) (b o:Nat) (x:aI) (u:Value) (h:pI w0 x u w) (hs:u.cells.size=6) (hc:∀ i,i<6→w.cell? ⟨b,o+i,none⟩=u.cells[i]?):Np w0 w b o x:=⟨u,h,hs,hc⟩
structure OB (wq w u:World) (D Fb B:Nat) (dc:Array Value) (m:ByteArray) (ov oz rv rp:Value) (vs:List fB) (ps:List aI):Prop where
 ext:Ext w u
 d:aH u D dc 128
 res:aH u w.heap.size #[.string ⟨#[]⟩,.slice none 0 0,.slice none 0 0] 37
 fb:aH u Fb #[.string m,ov,oz] 37
 gv:Grow 4 70 wF B u rv vs
 gp:Grow 6 68 (pI wq) B u rp ps
 apart:∀ i,rv.ownBlock=some i→rp.ownBlock≠some i
 hD:D<w.heap.size
 hF:w.heap.size<Fb
 hB:Fb<B
 hu:B≤u.heap.size
theorem OB.extend {wq w u u':World} {D Fb B:Nat} {dc:Array Value} {m:ByteArray} {ov oz rv rp:Value} {vs:List fB} {ps:List aI} (h:OB wq w u D Fb B dc m ov oz rv rp vs ps) (hE:Ext u u'):OB wq w u' D Fb B dc m ov oz rv rp vs ps:=
 ⟨h.ext.ext hE,h.d.ext hE,h.res.ext hE,h.fb.ext hE,h.gv.aO gK hE (fun _ e=>e.elim),h.gp.aO nU hE (fun _ e=>e.elim),h.apart,h.hD,h.hF,h.hB,Nat.le_trans h.hu hE.size⟩
theorem OB.ED {wq w u u':World} {D Fb B:Nat} {dc:Array Value} {m:ByteArray} {ov oz rv rp r:Value} {vs vs2:List fB} {ps:List aI} (h:OB wq w u D Fb B dc m ov oz rv rp vs ps) (hG:Grow 4 70 wF B u' r vs2) (hC:aB (fun i=>rv.ownBlock=some i) u u') (ha:∀ i,r.ownBlock=some i→rv.ownBlock=some i∨u.heap.size≤i):OB wq w u' D Fb B dc m ov oz r rp vs2 ps:=by
 have h1:=h.hD;have h2:=h.hF;have h3:=h.hB
 have ho:=bh h.gv;refine⟨h.ext.trans hC (fun i hi e=>by have:=ho i e;omega),h.d.aO hC (fun e=>by have:=ho _ e;omega),h.res.aO hC (fun e=>by have:=ho _ e;omega),h.fb.aO hC (fun e=>by have:=ho _ e;omega),hG,jV h.gp QY hC (fun i hi hs=>h.apart i hs hi),fun i hi e=>?_,h1,h2,h3,Nat.le_trans h.hu hC.size⟩
 rcases ha i hi with h4|h4
 ·exact h.apart i h4 e
 ·have:=bh h.gp i e;omega
theorem OB.JJ {wq w u u':World} {D Fb B:Nat} {dc:Array Value} {m:ByteArray} {ov oz rv rp r:Value} {vs:List fB} {ps ps2:List aI} (h:OB wq w u D Fb B dc m ov oz rv rp vs ps) (hG:Grow 6 68 (pI wq) B u' r ps2) (hC:aB (fun i=>rp.ownBlock=some i) u u') (ha:∀ i,r.ownBlock=some i→rp.ownBlock=some i∨u.heap.size≤i):OB wq w u' D Fb B dc m ov oz rv r vs ps2:=by
 have h1:=h.hD;have h2:=h.hF;have h3:=h.hB
 have ho:=bh h.gp;refine⟨h.ext.trans hC (fun i hi e=>by have:=ho i e;omega),h.d.aO hC (fun e=>by have:=ho _ e;omega),h.res.aO hC (fun e=>by have:=ho _ e;omega),h.fb.aO hC (fun e=>by have:=ho _ e;omega),jV h.gv kO hC (fun i hi hs=>h.apart i hi hs),hG,fun i hi e=>?_,h1,h2,h3,Nat.le_trans h.hu hC.size⟩
 rcases ha i e with h4|h4
 ·exact h.apart i hi h4
 ·have:=bh h.gv i hi;omega
theorem OB.MH {wq w u:World} {D Fb B:Nat} {dc:Array Value} {m:ByteArray} {ov oz rv rp:Value} {vs:List fB} {ps:List aI} (h:OB wq w u D Fb B dc m ov oz rv rp vs ps):OB wq w (u.setCell ⟨Fb,1,none⟩ rv) D Fb B dc m rv oz rv rp vs ps:=by
 have h1:=h.hD;have h2:=h.hF;have h3:=h.hB
 have hC:=ak (S:=Fb) (aB.refl _ u) 1 rv;exact⟨h.ext.trans hC (fun i hi e=>by omega),h.d.aO hC (by omega),h.res.aO hC (by omega),by have:=h.fb.set 1 rv;exact this,h.gv.aO gK hC (fun i e=>by omega),h.gp.aO nU hC (fun i e=>by omega),h.apart,h1,h2,h3,Nat.le_trans h.hu hC.size⟩
theorem OB.Hy {wq w u:World} {D Fb B:Nat} {dc:Array Value} {m:ByteArray} {ov oz rv rp:Value} {vs:List fB} {ps:List aI} (h:OB wq w u D Fb B dc m ov oz rv rp vs ps):OB wq w (u.setCell ⟨Fb,2,none⟩ rp) D Fb B dc m ov rp rv rp vs ps:=by
 have h1:=h.hD;have h2:=h.hF;have h3:=h.hB
 have hC:=ak (S:=Fb) (aB.refl _ u) 2 rp;exact⟨h.ext.trans hC (fun i hi e=>by omega),h.d.aO hC (by omega),h.res.aO hC (by omega),by have:=h.fb.set 2 rp;exact this,h.gv.aO gK hC (fun i e=>by omega),h.gp.aO nU hC (fun i e=>by omega),h.apart,h1,h2,h3,Nat.le_trans h.hu hC.size⟩
theorem yu {g c n:Nat} {row:Value} {u:World} (hat:row.ownBlock=some g∨g=u.heap.size+1):∀ i,(Value.slice (some ⟨g,0,none⟩) n c).ownBlock=some i→row.ownBlock=some i∨u.heap.size≤i:=fun i e=>by
 have:g=i:=by simpa [Value.ownBlock] using e
 subst this;rcases hat with h|h
 ·exact .inl h
 ·exact .inr (by omega)
def kM (M:Nat→Bool) (w:World) (x:aN) (v:Value):Prop:=∃ a m c d,v=.agg #[.string x.modn,.slice a x.vars.length m,.slice c x.procs.length d]∧bW 4 h_ (hide M w) a x.vars∧
 bW 6 dY (hide (fun i=>M i || ownB (.slice a x.vars.length m) i) w) c x.procs∧x.modn.size≤maxLen∧x.vars.length≤m∧m≤maxLen∧x.procs.length≤d∧d≤maxLen∧(a=none∨∃ g cs,a=some ⟨g,0,none⟩∧M g=false∧aH w g cs 70)
theorem kM.at_ {M:Nat→Bool} {w:World} {x:aN} {v:Value} (h:kM M w x v):eC (hide M w) x v:=by
 obtain⟨a,m,c,d,e,h1,h2,h3,h4,h5,h6,h7,-⟩:=h
 have hK:bZ (hide (fun i=>M i || ownB (.slice a x.vars.length m) i) w) (hide M w):=aZ (Nat.le_refl _) fun i hi hm=>by
  simp only [Bool.or_eq_false_iff] at hm;exact⟨hm.1,rfl⟩
 exact⟨a,m,c,d,e,h1,h2.keeps hK fun _ _ _=>dY.keeps hK,h3,h4,h5,h6,h7⟩
theorem kM.aO {M:Nat→Bool} {S:Nat→Prop} {w w':World} {x:aN} {v:Value} (h:kM M w x v) (hC:aB S w w') (hS:∀ i,S i→M i=true):kM M w' x v:=by
 obtain⟨a,m,c,d,e,h1,h2,h3,h4,h5,h6,h7,h8⟩:=h;have k1:=aC (M:=M) hC fun i _ e=>hS i e
 have k2:=aC (M:=fun i=>M i || ownB (.slice a x.vars.length m) i) hC fun i _ e=>by simp [hS i e]
 refine⟨a,m,c,d,e,h1.keeps k1 fun _ _ _=>h_.keeps k1,h2.keeps k2 fun _ _ _=>dY.keeps k2,h3,h4,h5,h6,h7,?_⟩
 rcases h8 with h8|⟨g,cs,e1,e2,e3⟩
 ·exact .inl h8
 ·exact .inr ⟨g,cs,e1,e2,e3.aO hC fun hs=>by rw [hS g hs] at e2;cases e2⟩
theorem kM.weak {M M':Nat→Bool} {w:World} {x:aN} {v:Value} (h:kM M w x v) (hM:∀ i,M i=false→M' i=false):kM M' w x v:=by
 obtain⟨a,m,c,d,e,h1,h2,h3,h4,h5,h6,h7,h8⟩:=h;have k1:bZ (hide M w) (hide M' w):=aZ (Nat.le_refl _) fun i _ hm=>⟨hM i hm,rfl⟩
 have k2:bZ (hide (fun i=>M i || ownB (.slice a x.vars.length m) i) w) (hide (fun i=>M' i || ownB (.slice a x.vars.length m) i) w):=aZ (Nat.le_refl _) fun i _ hm=>by
  simp only [Bool.or_eq_false_iff] at hm ⊢;exact⟨⟨hM i hm.1,hm.2⟩,trivial⟩
 refine⟨a,m,c,d,e,h1.keeps k1 fun _ _ _=>h_.keeps k1,h2.keeps k2 fun _ _ _=>dY.keeps k2,h3,h4,h5,h6,h7,?_⟩
 rcases h8 with h8|⟨g,cs,e1,e2,e3⟩
 ·exact .inl h8
 ·exact .inr ⟨g,cs,e1,hM g e2,e3⟩
theorem Nr {α : Type} {k:Nat} {E:TypeId} {V:α→Value→World→Prop} {B:Nat} {w:World} {a:Option Addr} {n m:Nat} {l:List α} (h:Grow k E V B w (.slice a n m) l):a=none∨∃ g cs,a=some ⟨g,0,none⟩∧B≤g∧aH w g cs E:=by
 obtain⟨us,h1,h2,h3⟩:=h.ex;rcases h2.2 with ⟨e,h0⟩|⟨g,cap,cur,e,hB,hg,-⟩
 ·injection e with e;exact .inl e
 ·injection e with e;exact .inr ⟨g,_,e,hB,hg⟩
theorem OB.face {M:Nat→Bool} {w u:World} {D Fb B:Nat} {dc:Array Value} {m:ByteArray} {ov oz rv rp:Value} {vs:List fB} {ps:List aI} (h:OB (hide M w) w u D Fb B dc m ov oz rv rp vs ps) (hM:∀ i,M i=true→i<w.heap.size) (hm:m.size≤10000) {u':World} {S:Nat→Prop} (hC:aB S u u') (hS:∀ i,S i→i<B) (hE:Ext w u'):kM M u' ⟨m,vs,ps⟩ (.agg #[.string m,rv,rp]):=by
 have hF:=h.hF;have hB:=h.hB
 have hgv:=h.gv.aO gK hC hS;have hap:∀ i,rv.ownBlock=some i→B≤i:=fun i e=>(bh h.gv i e).1
 have hgp:=h.gp.aO nU hC hS;have FD:=h.apart;obtain⟨a,n,rfl,h1,h2,h3⟩:=hgv.row gK AB;have hblk:=Nr hgv;obtain⟨us,g1,g2,g3⟩:=hgp.ex;obtain⟨c,d,rfl,h4,h5,-⟩:=hgp.row nU Nq
 have hK:bZ (hide (below B) u') (hide M u'):=aZ (Nat.le_refl _) fun i hi hb=>⟨by
  cases hq:M i with
  | false=>rfl
  | true=>have:=hM i hq;simp [below] at hb;omega,rfl⟩
 refine⟨a,n,c,d,rfl,h3.keeps hK fun _ _ _=>BJ hK,fun j hj=>?_,small _ hm,h1,h2,h4,h5,?_⟩
 ·rcases g2.2 with ⟨e,h0⟩|⟨g,cap,cur,e,hBg,hg,hc1,hc2,hc3,hc4⟩
  ·exact absurd hj (by show ¬ j<ps.length;omega)
  ·injection e with e e2 e3
   subst e;have hj':j<us.length:=by rw [g1];exact hj
   obtain⟨q1,q2⟩:=g3 j hj hj'
   have hne:ownB (.slice a vs.length n) g=false:=by
    unfold ownB;rw [decide_eq_false_iff_not];intro e;exact FD g e rfl
   have hMg:M g=false:=by
    cases hq:M g with
    | false=>rfl
    | true=>have:=hM g hq;omega
   have hall:∀ u∈us,u.cells.size=6:=fun u hu=>by
    obtain⟨q,hq,rfl⟩:=List.getElem_of_mem hu;exact(g3 q (by omega) hq).2
   have hu2:=gZ _ _ _ _ (aC (M:=M) hE fun _ _ e=>e.elim) (show pF _ _ _ from q1)
   have hKM:bZ (hide M w) (hide (fun i=>M i || ownB (.slice a vs.length n) i) u'):=aZ hE.size fun i hi hm=>⟨by
    rw [hm,Bool.false_or];unfold ownB;rw [decide_eq_false_iff_not];intro e;have:=hap i e;omega,hE.block i hi id⟩
   have hu3:=gZ _ _ _ _ hKM (show pF _ _ _ from q1);refine⟨g,0,rfl,by rw [bK];exact(Array.getElem?_eq_some_iff.1 hg).1,?_⟩
   refine xH _ _ _ _ us[j] hu3 q2 fun i hi=>?_
   rw [fU _ _ _ (by simp [hMg,hne])]
   rw [←zh 6 us hall j hj' i hi,←hc4,List.getElem?_take,if_pos (by
    have:(j+1)*6≤ps.length*6:=Nat.mul_le_mul_right _ hj;rw [Nat.succ_mul] at this;omega)]
   rw [cell_of_row u' g _ cur _ (0,0) hg];simp
 ·rcases hblk with e|⟨g,cs,e,hBg,hb⟩
  ·exact .inl e
  ·refine .inr ⟨g,cs,e,?_,hb⟩
   cases hq:M g with
   | false=>rfl
   | true=>have:=hM g hq;omega
theorem yx {α : Type} (p:α→Bool) {l:List α} {q:Nat} (h:q<l.length):(l.take (q+1)).filter p=(l.take q).filter p++(if p l[q]=true then [l[q]] else []):=by
 rw [List.take_succ_eq_append_getElem h,List.filter_append];congr 1
 cases hp:p l[q]<;>simp [hp]
theorem Cb {α : Type} (p:α→Bool) (l:List α) (q:Nat):((l.take q).filter p).length≤q:=Nat.le_trans (List.length_filter_le _ _) (List.length_take_le q l)
set_option maxRecDepth 100000 in
set_option maxHeartbeats 8000000 in
theorem open_any {M:Nat→Bool} {w:World} {D:Nat} {m:ByteArray} {d3 d4 d5 d6 d7 d8:Value} {a1 a2:Option Addr} {c1 c2:Nat} {xv:List fB} {xp:List aI} (hd:aH w D #[.string m,.slice a1 xv.length c1,.slice a2 xp.length c2,d3,d4,d5,d6,d7,d8] 128) (hv:bW 4 h_ w a1 xv) (hp:bW 6 dY (hide M w) a2 xp) (hM:∀ i,M i=true→i<w.heap.size) (hm:m.size≤10000) (hvz:∀ x∈xv,x.name.size≤10000) (hpz:∀ x∈xp,x.name.size≤10000) (J_:xv.length≤1000) (hnp:xp.length≤1000) :
  Calls Tryz.prog 55 #[.pointer (some ⟨D,0,none⟩)] w fun e w'=>∃ v',e=.returned v'∧kM M w' ⟨m,xv.filter fun v=>v.dX,xp.filter fun p=>p.dX⟩ v'∧Ext w w':=by
 obtain⟨fv,hfv⟩:∃ l,(xv.filter fun v=>v.dX)=l:=⟨_,rfl⟩;obtain⟨fp,hfp⟩:∃ l,(xp.filter fun p=>p.dX)=l:=⟨_,rfl⟩;rw [hfv,hfp];have Zm:=Z_ hfv;have HFP:=Z_ hfp;clear hfv hfp;have HV:=Z_ hv;have Xp:=Z_ hp;have HM:=Z_ hM;have HVZ:=Z_ hvz;have Vf:=Z_ hpz;obtain⟨n1,hn1⟩:∃ n,xv.length=n:=⟨_,rfl⟩;obtain⟨n2,hn2⟩:∃ n,xp.length=n:=⟨_,rfl⟩;rw [hn1] at hd J_;rw [hn2] at hd hnp;have H1:=Z_ hn1;have H2:=Z_ hn2;have hD:=hd.lt;have HD:=Z_ (hd.alloc (.cells #[.string ⟨#[]⟩,.slice none 0 0,.slice none 0 0] 37));have Ef:=Z_ ((aB.refl (fun _=>False) w).alloc (.cells #[.string ⟨#[]⟩,.slice none 0 0,.slice none 0 0] 37));have HR:=Z_ (aH.made w #[.string ⟨#[]⟩,.slice none 0 0,.slice none 0 0] 37);obtain⟨dc,hdc⟩:∃ dc:Array Value,#[.string m,.slice a1 n1 c1,.slice a2 n2 c2,d3,d4,d5,d6,d7,d8]=dc:=⟨_,rfl⟩
 have P9:=Z_ hdc;clear hv hp hM hn1 hn2 hd hvz hpz hdc;go_enter Tryz.func55,Tryz.ntmps55
 go_upto_region 1 with (fail)
 have hsw:w.heap.size<(w.alloc (.cells #[.string ⟨#[]⟩,.slice none 0 0,.slice none 0 0] 37)).heap.size:=by simp
 generalize w.alloc (.cells #[.string ⟨#[]⟩,.slice none 0 0,.slice none 0 0] 37)=w1 at *;have hc:=HD.out.cell;go_upto_region 2 with (fail)
 have hL0:OB (hide M w) w (w1.alloc (.cells #[.string m,.slice none 0 0,.slice none 0 0] 37)) D w1.heap.size (w1.heap.size+1) dc m (.slice none 0 0) (.slice none 0 0) (.slice none 0 0) (.slice none 0 0) [] []:=
  ⟨Ef.out.alloc _,by rw [←P9.out];exact HD.out.alloc _,HR.out.alloc _,aH.made _ _ _,Grow.nil _ _ _ _ _,Grow.nil _ _ _ _ _,fun i e=>(by cases e),hD,hsw,by omega,by simp⟩
 have HL:=Z_ hL0;obtain⟨Fb,hFb⟩:∃ Fb,w1.heap.size=Fb:=⟨_,rfl⟩;rw [hFb] at HL
 try rw [hFb]
 have hc2:=(HD.out.alloc (.cells #[.string m,.slice none 0 0,.slice none 0 0] 37)).cell;clear hc hL0 Ef HD HR hsw;generalize w1.alloc (.cells #[.string m,.slice none 0 0,.slice none 0 0] 37)=w2 at *;clear hFb;obtain⟨B,hB⟩:∃ B,Fb+1=B:=⟨_,rfl⟩;rw [hB] at HL;clear hB;go_wp2_with fail
 clear hc2;go_loopw [20] (fun i wr=>∃ (q:Nat) (rv:Value),q≤n1∧i=.int .i64 (q:Nat)∧Hid (OB (hide M w) w wr D Fb B dc m rv (.slice none 0 0) rv (.slice none 0 0) ((xv.take q).filter fun v=>v.dX) [])) (fun i _=>n1-(intOf i).toNat)
 case atStart=>exact⟨0,_,Nat.zero_le _,rfl,HL⟩
 clear HL
 case round=>
  obtain⟨q,rv,hq,rfl,HL⟩:=hrel;by_cases hlt:q<n1
  ·have hqi:(q:Int)<(n1:Int):=by omega
   have GX:decide ((q:Int)<(n1:Int))=true:=by simpa using hqi
   have kN:q<xv.length:=by rw [H1.out];exact hlt
   obtain⟨b,o,rfl,hb,hin⟩:=HV.out q kN;have hbl:=Nat.lt_of_lt_of_le hb HL.out.ext.size;obtain⟨l0,l1,l2,l3,lz⟩:=h_.ext HL.out.ext hb hin;have Xe:=Z_ (yx (fun v:fB=>v.dX) kN);have hlv:=Cb (fun v:fB=>v.dX) xv q;have hzz:=HVZ.out xv[q] (List.getElem_mem kN);generalize xv[q]=y at *;obtain⟨vn,vp,vl,vz⟩:=y;simp only at l0 l1 l2 l3 hzz;clear hin lz;generalize ((xv.take q).filter fun v=>v.dX)=fs at *;have nZ:=Z_ (HL.out.extend ((aB.refl (fun _=>False) wr).alloc (.cells #[.string vn,.bool vp,.int .i64 vl,.int .i64 vz] 70)));have Xf:=Z_ (aH.made wr #[.string vn,.bool vp,.int .i64 vl,.int .i64 vz] 70);obtain⟨Vb,xC⟩:∃ Vb,wr.heap.size=Vb:=⟨_,rfl⟩;rw [xC] at Xf;go_upto_region 5 with (fail)
   try rw [xC]
   generalize wr.alloc (.cells #[.string vn,.bool vp,.int .i64 vl,.int .i64 vz] 70)=u6 at *;clear l0 l1 l2 l3 HL xC;have hv:=Xf.out.cell;cases vp with
   | false=>
    go_wp2_with fail
    go_roundw
    case rel=>exact⟨q+1,_,by omega,by go_num,by rw [Xe.out,if_neg (by simp),List.append_nil];exact nZ⟩
    case measure=>simp [intOf];omega
   | true=>
    obtain⟨ra,rc,hrow,-,-⟩:=dV nZ.out.gv;subst hrow;obtain⟨us,hu1,ho,hu3⟩:=nZ.out.gv.ex;have HO:=Z_ ho;have GN:=Z_ (And.intro hu1 hu3);have hfc:=nZ.out.fb.cell;have IC:=nZ.out.fb.frozen;have hfl:=nZ.out.fb.lt;have hub:=nZ.out.hu;obtain⟨jc,jd,hz0,hz1,hz2⟩:=aX wG;clear ho hu1 hu3;go_wp2_with (at_builtin;refine wpList_append_lies _ rfl _ _ 34 rfl B 70 jc (.agg #[.string ⟨#[]⟩,.bool false,.int .i64 0,.int .i64 0]) 4 40 Tryz.underlying34 jd hz0 hz1 hz2 rfl (by decide) (.slice ra fs.length rc) fs.length (us.flatMap fun u=>u.cells.toList) rfl (HO.out.alloc _) ⟨u6.heap.size,0,none⟩ 1 1 [.string vn,.bool true,.int .i64 vl,.int .i64 vz] rfl rfl (by intro j z_ hj;have e:(⟨u6.heap.size,0,none⟩:Addr).add j=⟨u6.heap.size,j,none⟩:=(by unfold Addr.add;split<;>simp_all);rw [e,(aH.made u6 _ _).cell];simpa using hj) (by intro z_ kW;simp only [List.mem_cons,List.not_mem_nil,or_false] at kW;rcases kW with rfl|rfl|rfl|rfl<;>rfl) (by decide) (by unfold maxLen;omega) (by omega) (by simp;omega) (u6.heap.size+1) (by simp) ?_;intro g c' w7 hown hgrow hat hlt1;have Ak:=Z_ (uD gK GN.out.1 GN.out.2 (x:=⟨vn,true,vl,vz⟩) (v:=.agg #[.string vn,.bool true,.int .i64 vl,.int .i64 vz]) ⟨rfl,hzz⟩ rfl hown hgrow hat);have zJ:=Z_ (nZ.out.ED Ak.out.1 Ak.out.2 (yu hat));have q1:=zJ.out.fb.cell;have Pg:=zJ.out.fb.frozen;have Ph:=zJ.out.fb.lt;clear hown hgrow hat hfc IC hfl hv)
    have TU:=Z_ zJ.out.MH;clear q1 Pg Ph Ak;go_roundw
    case rel=>exact⟨q+1,_,by omega,by go_num,by rw [Xe.out,if_pos (by simp)];exact TU⟩
    case measure=>simp [intOf];omega
  ·obtain rfl:q=n1:=by omega
   have GX:decide ((q:Int)<(q:Int))=false:=by simp
   have hT:xv.take q=xv:=List.take_of_length_le (by rw [H1.out];exact Nat.le_refl _);rw [hT,Zm.out] at HL;have hc:=HL.out.d.cell;rw [←P9.out] at hc;obtain⟨wo,rfl⟩:∃ wo,wo=wr:=⟨_,rfl⟩;go_wp2_with fail
   clear hc;go_loopw [39] (fun i wr=>∃ (q:Nat) (rv rp:Value),q≤n2∧i=.int .i64 (q:Nat)∧Hid (OB (hide M w) w wr D Fb B dc m rv rp rv rp fv ((xp.take q).filter fun p=>p.dX))) (fun i _=>n2-(intOf i).toNat)
   case atStart=>exact⟨0,_,_,Nat.zero_le _,rfl,by show Hid (OB (hide M w) w _ D Fb B dc m _ _ _ _ _ []);exact HL⟩
   clear HL
   case round=>
    obtain⟨q,rv,rp,hq,rfl,HL⟩:=hrel;by_cases hlt:q<n2
    ·have hqi:(q:Int)<(n2:Int):=by omega
     have GX:decide ((q:Int)<(n2:Int))=true:=by simpa using hqi
     have kN:q<xp.length:=by rw [H2.out];exact hlt
     obtain⟨b,o,rfl,hb,hin⟩:=Xp.out q kN;rw [bK] at hb;have hbl:=Nat.lt_of_lt_of_le hb HL.out.ext.size;have hin0:=hin;replace hin:=dY.keeps (az M w) hin;obtain⟨l0,l1,⟨pa0,Ns,l2,-⟩,l3,l4,l5,lz⟩:=dY.ext HL.out.ext hb hin;obtain⟨-,-,⟨pa,pc,m2,m2i,m2c,m2d⟩,-⟩:=hin0;have hpe:pa0=pa∧Ns=pc:=by have:=(HL.out.ext.cell (p:=⟨b,o+q*6+2,none⟩) hb id).symm.trans l2;rw [(az M w).2 _ _ m2] at this;cases this;exact⟨rfl,rfl⟩
     obtain⟨rfl,rfl⟩:=hpe;have Xe:=Z_ (yx (fun p:aI=>p.dX) kN);have hlv:=Cb (fun p:aI=>p.dX) xp q;have hzz:=Vf.out xp[q] (List.getElem_mem kN);generalize xp[q]=y at *;obtain⟨vn,vp,pl,vw,vg,vi⟩:=y;simp only at l0 l1 l2 l3 l4 l5 hzz m2i m2c;have kR:=Z_ (show pF ⟨vn,vp,pl,vw,vg,vi⟩ (.agg #[.string vn,.bool vp,.slice pa0 pl.length Ns,.int .i64 vw,.bool vg,.int .i64 vi]) (hide M w) from⟨pa0,Ns,rfl,m2i,m2c,m2d,hzz⟩);clear hin lz m2 m2i m2c m2d;generalize ((xp.take q).filter fun p=>p.dX)=fs at *;have nZ:=Z_ (HL.out.extend ((aB.refl (fun _=>False) wr).alloc (.cells #[.string vn,.bool vp,.slice pa0 pl.length Ns,.int .i64 vw,.bool vg,.int .i64 vi] 68)));have Xf:=Z_ (aH.made wr #[.string vn,.bool vp,.slice pa0 pl.length Ns,.int .i64 vw,.bool vg,.int .i64 vi] 68)
     obtain⟨Vb,xC⟩:∃ Vb,wr.heap.size=Vb:=⟨_,rfl⟩;rw [xC] at Xf;go_upto_region 11 with (fail)
     try rw [xC]
     generalize wr.alloc (.cells #[.string vn,.bool vp,.slice pa0 pl.length Ns,.int .i64 vw,.bool vg,.int .i64 vi] 68)=u6 at *;clear l0 l1 l2 l3 l4 l5 HL xC;have hv:=Xf.out.cell;cases vp with
     | false=>
      go_wp2_with fail
      go_roundw
      case rel=>exact⟨q+1,_,_,by omega,by go_num,by rw [Xe.out,if_neg (by simp),List.append_nil];exact nZ⟩
      case measure=>simp [intOf];omega
     | true=>
      obtain⟨ra,rc,hrow,-,-⟩:=dV nZ.out.gp;subst hrow;obtain⟨us,hu1,ho,hu3⟩:=nZ.out.gp.ex;have HO:=Z_ ho;have GN:=Z_ (And.intro hu1 hu3);have hfc:=nZ.out.fb.cell;have IC:=nZ.out.fb.frozen;have hfl:=nZ.out.fb.lt;have hub:=nZ.out.hu;obtain⟨jc,jd,hz0,hz1,hz2⟩:=aX xY;clear ho hu1 hu3;go_wp2_with (at_builtin;refine wpList_append_lies _ rfl _ _ 35 rfl B 68 jc (.agg #[.string ⟨#[]⟩,.bool false,.slice none 0 0,.int .i64 0,.bool false,.int .i64 0]) 6 72 Tryz.underlying35 jd hz0 hz1 hz2 rfl (by decide) (.slice ra fs.length rc) fs.length (us.flatMap fun u=>u.cells.toList) rfl (HO.out.alloc _) ⟨u6.heap.size,0,none⟩ 1 1 [.string vn,.bool true,.slice pa0 pl.length Ns,.int .i64 vw,.bool vg,.int .i64 vi] rfl rfl (by intro j z_ hj;have e:(⟨u6.heap.size,0,none⟩:Addr).add j=⟨u6.heap.size,j,none⟩:=(by unfold Addr.add;split<;>simp_all);rw [e,(aH.made u6 _ _).cell];simpa using hj) (by intro z_ kW;simp only [List.mem_cons,List.not_mem_nil,or_false] at kW;rcases kW with rfl|rfl|rfl|rfl|rfl|rfl<;>rfl) (by decide) (by unfold maxLen;omega) (by omega) (by simp;omega) (u6.heap.size+1) (by simp) ?_;intro g c' w7 hown hgrow hat hlt1;have Ak:=Z_ (uD nU GN.out.1 GN.out.2 (x:=⟨vn,true,pl,vw,vg,vi⟩) (v:=.agg #[.string vn,.bool true,.slice pa0 pl.length Ns,.int .i64 vw,.bool vg,.int .i64 vi]) (show pI (hide M w) ⟨vn,true,pl,vw,vg,vi⟩ (.agg #[.string vn,.bool true,.slice pa0 pl.length Ns,.int .i64 vw,.bool vg,.int .i64 vi]) _ from kR.out) rfl hown hgrow hat);have zJ:=Z_ (nZ.out.JJ Ak.out.1 Ak.out.2 (yu hat));have q1:=zJ.out.fb.cell;have Pg:=zJ.out.fb.frozen;have Ph:=zJ.out.fb.lt;clear hown hgrow hat hfc IC hfl hv)
      have TU:=Z_ zJ.out.Hy;clear q1 Pg Ph Ak;go_roundw
      case rel=>exact⟨q+1,_,_,by omega,by go_num,by rw [Xe.out,if_pos (by simp)];exact TU⟩
      case measure=>simp [intOf];omega
    ·obtain rfl:q=n2:=by omega
     have GX:decide ((q:Int)<(q:Int))=false:=by simp
     have hT:xp.take q=xp:=List.take_of_length_le (by rw [H2.out];exact Nat.le_refl _);rw [hT,HFP.out] at HL;obtain⟨a3,c3,hr1,-,-⟩:=dV HL.out.gv;obtain⟨a4,c4,hr2,-,-⟩:=dV HL.out.gp;subst hr1 hr2;have hfc:=HL.out.fb.cell;have hr:=HL.out.res.cell;have hrf:=HL.out.res.frozen;have hrl:=HL.out.res.lt;go_wp2_with fail
     have Dq:=ak (S:=w.heap.size) (aB.refl _ wr) 0 (.string m);have hC2:=ak Dq 1 (.slice a3 fv.length c3);have nB:=ak hC2 2 (.slice a4 fp.length c4);have kG:=HL.out.ext.trans nB (fun i hi e=>by omega);have JX:=HL.out.face HM.out hm nB (fun i e=>by have:=HL.out.hF;have:=HL.out.hB;omega) kG;have Iq:=Z_ (((HL.out.res.set 0 (.string m)).set 1 (.slice a3 fv.length c3)).set 2 (.slice a4 fp.length c4));refine bD rfl rfl rfl Iq.out Tryz.underlying37 rfl (by kernel_rfl) ?_
     simp only [List.setIfInBounds_toArray,List.set_cons_succ,List.set_cons_zero];exact⟨_,rfl,JX,kG⟩
end Ox
end Go.Proofs.YtpcihajmcejliacGreatDoor
namespace Go.Proofs.YtpcihajmcejliacGreatDoor
open Go.RowKit
namespace ofq
open bn dn XG
theorem JY (w:World):kK 1 kC [] (.slice none 0 0) w:=⟨none,0,rfl,Nat.le_refl _,by decide,fun j h=>(by cases h)⟩
theorem tY {P:Program} {fn:Func} {p m q:Tmp} {ty Ea:TypeId} (h:fn.results=#[.cell p ty,.tmp m,.cell q Ea]) (tmps:Array Value) (w:World) {g g2:Nat} {T T2:TypeId} {cs Eb:Array Value} {d d2:TypeDesc}
  (hp:tmps.getD p undef=.pointer (some ⟨g,0,none⟩)) (hg:aH w g cs T) (hu:P.underlying ty=some d) (hd:(match d with|.struct _|.array _ _=>true|_=>false)=true) (hi:(P.info? ty).map (·.size)=some cs.size)
  (hq:tmps.getD q undef=.pointer (some ⟨g2,0,none⟩)) (hg2:aH w g2 Eb T2) (hu2:P.underlying Ea=some d2) (hd2:(match d2 with|.struct _|.array _ _=>true|_=>false)=true) (hi2:(P.info? Ea).map (·.size)=some Eb.size) {v:Value} (hm:tmps.getD m undef=v) :
  (results fn tmps).run P w=.ok (.tuple #[.agg cs,v,.agg Eb]) w:=by
 have hp':tmps[p]?.getD undef=.pointer (some ⟨g,0,none⟩):=by simpa using hp
 have hq':tmps[q]?.getD undef=.pointer (some ⟨g2,0,none⟩):=by simpa using hq
 have hm':tmps[m]?.getD undef=v:=by simpa using hm
 simp [results,h,hp',hq',hm',asAddr,run_loadVar_row w g T ty cs (0,0) d hg hu hd hi,run_loadVar_row w g2 T2 Ea Eb (0,0) d2 hg2 hu2 hd2 hi2]
structure OQ (w u:World) (R F V:Nat) (fc:Array Value) (z0 z1 c a:Int):Prop where
 ext:Ext w u
 rf:aH u R fc 37
 rz:aH u F #[.int .i64 z0,.int .i64 z1] 27
 vb:aH u V #[.int .i64 c,.int .i64 a] 27
 hw:w.heap.size≤R
 oM:R<F
 XW:F<V
theorem OQ.extend {w u u':World} {R F V:Nat} {fc:Array Value} {z0 z1 c a:Int} (h:OQ w u R F V fc z0 z1 c a) (hE:Ext u u'):OQ w u' R F V fc z0 z1 c a:=
 ⟨h.ext.ext hE,h.rf.ext hE,h.rz.ext hE,h.vb.ext hE,h.hw,h.oM,h.XW⟩
theorem OQ.Jy {w u:World} {R F V:Nat} {fc:Array Value} {z0 z1 c a:Int} (h:OQ w u R F V fc z0 z1 c a):OQ w ((u.setCell ⟨F,0,none⟩ (.int .i64 c)).setCell ⟨F,1,none⟩ (.int .i64 a)) R F V fc c a c a:=by
 have h1:=h.hw;have h2:=h.oM;have h3:=h.XW
 have hC:=ak (ak (S:=F) (aB.refl _ u) 0 (.int .i64 c)) 1 (.int .i64 a);exact⟨h.ext.trans hC (fun i hi e=>by omega),h.rf.aO hC (by omega),(h.rz.set 0 _).set 1 _,h.vb.aO hC (by omega),h1,h2,h3⟩
theorem OQ.Jw {w u:World} {R F V:Nat} {p q r:Value} {z0 z1 c a:Int} (h:OQ w u R F V #[p,q,r] z0 z1 c a) (p' q' r':Value):OQ w (((u.setCell ⟨R,0,none⟩ p').setCell ⟨R,1,none⟩ q').setCell ⟨R,2,none⟩ r') R F V #[p',q',r'] z0 z1 c a:=by
 have h1:=h.hw;have h2:=h.oM;have h3:=h.XW
 have hC:=ak (ak (ak (S:=R) (aB.refl _ u) 0 p') 1 q') 2 r';exact⟨h.ext.trans hC (fun i hi e=>by omega),((h.rf.set 0 _).set 1 _).set 2 _,h.rz.aO hC (by omega),h.vb.aO hC (by omega),h1,h2,h3⟩
def QC (w w1:World) (R F V D:Nat) (dc:Array Value) (vi:Value) (f:aN) (is:List ByteArray):List Value→World→Prop
 | [],u=>OQ w u R F V #[.string ⟨#[]⟩,.slice none 0 0,.slice none 0 0] 0 0 0 0∧aH u D dc 128∧Ext w1 u
 | [vf],u=>OQ w u R F V #[.string ⟨#[]⟩,.slice none 0 0,.slice none 0 0] 0 0 0 0∧aH u D dc 128∧kK 1 kC is vi (hide (below (F+1)) u)∧Ox.kM (below (F+1)) u f vf
 | [vf,_],u=>OQ w u R F V vf.cells 0 0 0 0∧aH u D dc 128∧kK 1 kC is vi (hide (below (F+1)) u)∧Ox.kM (below (F+1)) u f vf
 | [vf,_,v2],u=>v2=vi∧OQ w u R F V vf.cells 0 0 0 0∧aH u D dc 128∧kK 1 kC is vi (hide (below (F+1)) u)∧Ox.kM (below (F+1)) u f vf
 | [vf,_,v2,_],u=>v2=vi∧OQ w u R F V vf.cells 0 0 0 0∧aH u D dc 128∧kK 1 kC is vi (hide (below (F+1)) u)∧Ox.kM (below (F+1)) u f vf
 | _,_=>False
theorem QC.any {w w1:World} {R F V D:Nat} {dc:Array Value} {vi:Value} {f:aN} {is:List ByteArray} {vs:List Value} {u:World} (h:QC w w1 R F V D dc vi f is vs u):(∃ fc,OQ w u R F V fc 0 0 0 0)∧aH u D dc 128:=by
 match vs,h with
 | [],h=>exact⟨⟨_,h.1⟩,h.2.1⟩
 | [_],h=>exact⟨⟨_,h.1⟩,h.2.1⟩
 | [_,_],h=>exact⟨⟨_,h.1⟩,h.2.1⟩
 | [_,_,_],h=>exact⟨⟨_,h.2.1⟩,h.2.2.1⟩
 | [_,_,_,_],h=>exact⟨⟨_,h.2.1⟩,h.2.2.1⟩
def zF (w:World) (R:aN×List ByteArray×Int×Int) (e:Ending) (w':World):Prop:=
 Ext w w'∧∃ vF vI,e=.returned (.tuple #[vF,vI,.agg #[.int .i64 R.2.2.1,.int .i64 R.2.2.2]])∧Ox.kM (below w.heap.size) w' R.1 vF∧kK 1 kC R.2.1 vI w'
theorem zF.post {w:World} {R:aN×List ByteArray×Int×Int} {e:Ending} {w':World} (h:zF w R e w'):Qv w R e w':=by
 obtain⟨h1,vF,vI,h2,h3,h4⟩:=h;exact⟨h1,vF,vI,h2,eC.keeps (az _ _) h3.at_,h4⟩
theorem JZ (M:Nat→Bool) (w:World):Ox.kM M w gY (.agg #[.string ⟨#[]⟩,.slice none 0 0,.slice none 0 0]):=
 ⟨none,0,none,0,rfl,fun j h=>(by cases h),fun j h=>(by cases h),by decide,Nat.le_refl _,by decide,Nat.le_refl _,by decide,.inl rfl⟩
theorem kQ {l:List ByteArray} {v:Value} {w w':World} (h:kK 1 kC l v w) (hk:bZ w w'):kK 1 kC l v w':=h.keeps (fun _ _ _ h=>⟨hk.2 _ _ h.1,h.2⟩) hk
theorem DT {l:List Nd} (h:∀ y∈l,y.tx.size≤10000):∀ x∈fH l,x.name.size≤10000:=fun x hx=>by
 unfold fH at hx;obtain⟨y,hy,rfl⟩:=List.mem_map.1 hx;exact h y (List.mem_filter.1 hy).1
theorem Cc {l:List Nd} (h:∀ y∈l,y.tx.size≤10000):∀ x∈aY l,x.name.size≤10000:=fun x hx=>by
 unfold aY at hx;obtain⟨y,hy,rfl⟩:=List.mem_map.1 hx;exact h y (List.mem_filter.1 hy).1
set_option maxRecDepth 100000 in
set_option maxHeartbeats 8000000 in
theorem Qc (s:ByteArray) (w:World) (hs:s.size≤9223372036854775807) (hv:ErrVar w) (hm:dw w) :
  Calls Tryz.prog 18 #[.string s] w (zF w (qB s)):=by
 obtain⟨x,hx⟩:∃ x,(aT s).1=x:=⟨_,rfl⟩;obtain⟨Q,hQ⟩:∃ Q,qB s=Q:=⟨_,rfl⟩;obtain⟨R,hR⟩:∃ R,w.heap.size=R:=⟨_,rfl⟩;obtain⟨F,hF⟩:∃ F,R+1=F:=⟨_,rfl⟩;have hR0:=(aH.made w #[.string ⟨#[]⟩,.slice none 0 0,.slice none 0 0] 37).alloc (.cells #[.int .i64 0,.int .i64 0] 27);have kY:=aH.made2 w (.cells #[.string ⟨#[]⟩,.slice none 0 0,.slice none 0 0] 37) #[.int .i64 0,.int .i64 0] 27;have hz0:((w.alloc (.cells #[.string ⟨#[]⟩,.slice none 0 0,.slice none 0 0] 37)).alloc (.cells #[.int .i64 0,.int .i64 0] 27)).heap.size=F+1:=by simp;omega
 rw [hR] at hR0 kY;rw [hF] at kY;have oH:=((aB.refl (fun _=>False) w).alloc (.cells #[.string ⟨#[]⟩,.slice none 0 0,.slice none 0 0] 37)).alloc (.cells #[.int .i64 0,.int .i64 0] 27);have HC:=Z_ (PY.Az s _ hs (hv.ext oH) (hm.ext oH));rw [hx,hQ] at HC
 have Xg:=Z_ (show Q.2.2.1=0→Q=(AL false x,dR x.kids,0,0) by
  intro h0;subst hQ;subst hx;unfold qB at h0 ⊢;by_cases h1:(aT s).2.1=0
  ·rw [if_pos h1] at h0 ⊢
   by_cases h2:(iw (aT s).1.tx (aT s).1.kids [] [] 1).1=0
   ·rw [if_pos h2]
   ·rw [if_neg h2] at h0;exact absurd h0 h2
  ·rw [if_neg h1] at h0;exact absurd h0 h1)
 have Xh:=Z_ (show Q.2.2.1≠0→Q=(gY,[],Q.2.2.1,Q.2.2.2) by
  intro h0;subst hQ;unfold qB at h0 ⊢;by_cases h1:(aT s).2.1=0
  ·rw [if_pos h1] at h0 ⊢
   by_cases h2:(iw (aT s).1.tx (aT s).1.kids [] [] 1).1=0
   ·rw [if_pos h2] at h0;exact absurd rfl h0
   ·rw [if_neg h2]
  ·rw [if_neg h1])
 have Ov:=Z_ (show Q.2.2.1=0→Q.2.2.2=0 from fun h=>by rw [Xg.out h]);rw [hQ];have oM:R<F:=by omega
 have HR0:=Z_ hR0;have pM:=Z_ kY;have HX0:=Z_ oH;have HZ0:=Z_ hz0;have CY:=Z_ hR;clear hx hQ hR0 kY oH hz0 hv hm hR;go_enter Tryz.func18,Tryz.ntmps18
 go_upto_region 1 with (fail)
 try rw [CY.out]
 try rw [hF]
 generalize (w.alloc (.cells #[.string ⟨#[]⟩,.slice none 0 0,.slice none 0 0] 37)).alloc (.cells #[.int .i64 0,.int .i64 0] 27)=u0 at *;go_wp2_with fail
 refine HC.out.mono ?_
 rintro e w1 ⟨hE1,vp,rfl,hgood⟩;obtain⟨c,hc⟩:∃ c,Q.2.2.1=c:=⟨_,rfl⟩;obtain⟨a,ha⟩:∃ a,Q.2.2.2=a:=⟨_,rfl⟩;rw [hc] at hgood Xg Xh;rw [ha] at Xh;rw [hc,ha] at Ov;rw [hc,ha];have PZ:=Z_ hgood;have NW:=(aB.refl (fun _=>False) w1).alloc (.cells #[.int .i64 c,.int .i64 a] 27)
 have hOQ:OQ w (w1.alloc (.cells #[.int .i64 c,.int .i64 a] 27)) R F w1.heap.size #[.string ⟨#[]⟩,.slice none 0 0,.slice none 0 0] 0 0 c a:=
  ⟨(HX0.out.ext hE1).ext NW,(HR0.out.ext hE1).ext NW,(pM.out.ext hE1).ext NW,aH.made w1 _ _,by have:=CY.out;omega,oM,by have:=(pM.out.ext hE1).lt;omega⟩
 have HO:=Z_ hOQ;have HEN:=Z_ NW;have AK:=Z_ (pM.out.ext hE1).lt;obtain⟨V,hV⟩:∃ V,w1.heap.size=V:=⟨_,rfl⟩;rw [hV] at HO;clear hOQ NW hgood hE1 HC HR0 pM HX0 hc ha;go_upto_region 2 with (fail)
 try rw [hV]
 generalize w1.alloc (.cells #[.int .i64 c,.int .i64 a] 27)=u1 at *;clear hV;have hv:=HO.out.vb.cell;by_cases hc0:c=0
 ·subst hc0
  have Ei:=Z_ (Xg.out rfl);obtain⟨D,a1,c1,a2,c2,a3,c3,d3,d4,d5,d6,d8,rfl,-,-,hD,RD,RE,IE,hlv,hlp,htx,hky⟩:=PZ.out rfl;obtain rfl:a=0:=Ov.out rfl;rw [HZ0.out] at RD RE IE;have HD:=Z_ hD;have HAV:=Z_ RD;have P5:=Z_ RE;have XL:=Z_ IE;have TW:=Z_ (And.intro htx hky);have xx:=Z_ (And.intro hlv hlp);obtain⟨dc,hdc⟩:∃ dc:Array Value,#[.string x.tx,.slice a1 (fH x.kids).length c1,.slice a2 (aY x.kids).length c2,d3,d4,d5,d6,.slice a3 (dR x.kids).length c3,d8]=dc:=⟨_,rfl⟩;have P9:=Z_ hdc;have HDB:=Z_ (show aH u1 D dc 128 from hdc▸hD.ext HEN.out);obtain⟨nI,XM⟩:∃ n,(dR x.kids).length=n:=⟨_,rfl⟩;rw [XM] at hdc XL;have ZB:=Z_ (show dc[7]? = some (.slice a3 nI c3) by rw [←hdc];rfl);clear hD RD RE IE hlv hlp htx hky hdc XM HD PZ Xg Xh
  go_upto_region 4 with (fail)
  clear hv;refine ah [1,7,8,9] (fun i v _=>v=([.pointer (some ⟨D,0,none⟩),undef,.pointer (some ⟨D,0,none⟩),.pointer (some ⟨D,0,none⟩),.pointer (some ⟨D,7,none⟩),.slice a3 nI c3,.agg #[.int .i64 0,.int .i64 0],undef,undef,undef]:List Value).getD i undef) (QC w u1 R F V D dc (.slice a3 nI c3) (AL false x) (dR x.kids)) (fun _ _=>True) (frame:=?Ah) (fun x=>?oQ) bn.mixed (by kernel_rfl) (by kernel_rfl) (fun _ _ _ _ h _=>h) ?Ai ?Aj ?oU
  case oQ=>
   simp only [chain.aK,chain.fill,chain.bf,chain.aW,jJ,jK,jL,jM,jO,jP,jQ,jR,jS];exact rfl
  case Ai=>exact⟨HO.out.extend (aB.refl _ _).drew,HDB.out.ext (aB.refl _ _).drew,(aB.refl _ _).drew⟩
  case Aj=>
   iterate 10 (refine ai.cons (fun x vs u hF hm hb hd K' hK'=>?_) ?_;rotate_left)
   exact ai.nil
   ·have HF:=Z_ hF;clear hd hm hb hF;go_simp;exact hK'.out _ _ _ (rfl) trivial ⟨rfl,HF.out⟩
   ·obtain rfl:=kF hm;have y0:x 17=.pointer (some ⟨D,0,none⟩):=(D_ hd 0 :);obtain⟨lQ,hDD,hEE⟩:=hF;have KN:=Z_ (show bZ (hide (below (F+1)) w1) (hide (below (F+1)) u) from aC (HEN.out.ext hEE) fun _ _ e=>e.elim);have HX:=Z_ (Ox.open_any (M:=below (F+1)) (w:=u) (by rw [P9.out];exact hDD) ((HAV.out.keeps KN.out fun _ _ _=>h_.keeps KN.out).keeps (az _ _) fun _ _ _=>h_.keeps (az _ _)) (P5.out.keeps KN.out fun _ _ _=>dY.keeps KN.out) (fun i hi=>by have:=AK.out;have h2:=(HEN.out.ext hEE).size;simp [below] at hi;omega) TW.out.1 (DT TW.out.2) (Cc TW.out.2) xx.out.1 xx.out.2);have Xi:=Z_ (show OQ _ _ _ _ _ _ _ _ _ _ from lQ);have uS:=Z_ (show aH _ _ _ _ from hDD);clear hd hm hb lQ hEE hDD
    go_simp;refine HX.out.mono ?_
    rintro e u2 ⟨vf,rfl,JX,hE⟩;exact hK'.out _ _ _ (by simp only [y0];rfl) trivial ⟨Xi.out.extend hE,uS.out.ext hE,kQ (XL.out) ((KN.out).trans (aC hE fun _ _ e=>e.elim)),JX⟩
   ·have HF:=Z_ hF;clear hd hm hb hF;go_simp;exact hK'.out _ _ _ (rfl) trivial ⟨rfl,HF.out⟩
   ·obtain⟨⟨_,lQ⟩,hDD⟩:=QC.any hF;have hq:=hDD.lt;clear lQ hDD;have y0:x 19=.pointer (some ⟨D,0,none⟩):=(D_ hd 2 :);have HF:=Z_ hF;clear hd hm hb hF;go_simp;exact hK'.out _ _ _ (by simp only [y0];rfl) trivial ⟨rfl,HF.out⟩
   ·have y0:x 20=.pointer (some ⟨D,0,none⟩):=(D_ hd 3 :);have HF:=Z_ hF;clear hd hm hb hF;go_simp;exact hK'.out _ _ _ (by simp only [y0];rfl) trivial ⟨rfl,HF.out⟩
   ·obtain⟨⟨_,lQ⟩,hDD⟩:=QC.any hF;have hq:=(hDD.cell 7).trans ZB.out;clear lQ hDD;have y0:x 21=.pointer (some ⟨D,7,none⟩):=(D_ hd 4 :);have HF:=Z_ hF;clear hd hm hb hF;go_simp;exact hK'.out _ _ _ (by simp only [y0];rfl) trivial ⟨rfl,HF.out⟩
   ·obtain⟨⟨_,lQ⟩,hDD⟩:=QC.any hF;have hq:=lQ.vb.cell;clear lQ hDD;have HF:=Z_ hF;clear hd hm hb hF;go_simp;exact hK'.out _ _ _ (rfl) trivial ⟨rfl,HF.out⟩
   ·obtain⟨v0,rfl⟩:=lK hm
    have y0:x 18=v0:=((D_ hd 1) 18 (by kernel_rfl) :);obtain⟨lQ,hDD,Oy,Kz⟩:=hF;have hfo:∃ sn fa n1 fm fc n2 fd,v0=.agg #[.string sn,.slice fa n1 fm,.slice fc n2 fd]:=by obtain⟨a_,m_,c_,d_,e_,-⟩:=id Kz;exact⟨_,_,_,_,_,_,_,e_⟩
    obtain⟨sn,fa,n1,fm,fc,n2,fd,rfl⟩:=hfo;have hq:=lQ.rf.cell;have hf:=lQ.rf.frozen;have hl:=lQ.rf.lt;have HDR:=Z_ (show D≠R from fun e=>by subst e;unfold aH at hDD;have:=lQ.rf;unfold aH at this;rw [hDD] at this;cases this);have Xi:=Z_ lQ;have xg:=Z_ Kz;have Px:=Z_ Oy;have uS:=Z_ hDD;clear hd hm hb lQ Kz Oy hDD;go_simp;have hC:=ak (ak (ak (S:=R) (aB.refl _ u) 0 (.string sn)) 1 (.slice fa n1 fm)) 2 (.slice fc n2 fd);exact hK'.out _ _ undef (by simp only [y0];rfl) trivial ⟨Xi.out.Jw _ _ _,uS.out.aO hC HDR.out,kQ Px.out (aC hC fun i _ e=>by subst e;simp [below];omega),xg.out.aO hC (fun i e=>by subst e;simp [below];omega)⟩
   ·obtain⟨v0,v1,rfl⟩:=qX hm
    have y0:x 22=.slice a3 nI c3:=(D_ hd 5 :);have HF:=Z_ hF;clear hd hm hb hF;go_simp;exact hK'.out _ _ _ (by simp only [y0];rfl) trivial ⟨rfl,HF.out⟩
   ·obtain⟨v0,v1,v2,rfl⟩:=xy hm
    have y0:x 23=.agg #[.int .i64 0,.int .i64 0]:=(D_ hd 6 :);obtain⟨rfl,lQ,hDD,Oy,Kz⟩:=hF;have hq:=lQ.rz.cell;have hf:=lQ.rz.frozen;have hl:=lQ.rz.lt;have HDR:=Z_ (show D≠F from fun e=>by subst e;unfold aH at hDD;have:=lQ.rz;unfold aH at this;rw [hDD] at this;cases this);have Xi:=Z_ lQ;have xg:=Z_ Kz;have Px:=Z_ Oy;have uS:=Z_ hDD;clear hd hm hb lQ Kz Oy hDD;go_simp;have hC:=ak (ak (S:=F) (aB.refl _ u) 0 (.int .i64 0)) 1 (.int .i64 0);exact hK'.out _ _ undef (by simp only [y0];rfl) trivial ⟨rfl,Xi.out.Jy,uS.out.aO hC HDR.out,kQ Px.out (aC hC fun i _ e=>by subst e;simp [below]),xg.out.aO hC (fun i e=>by subst e;simp [below])⟩
  case oU=>
   intro x9 vs w9 hl hF hk;obtain⟨v0,v1,v2,v3,rfl⟩:=xA hl
   have y3:=hk 8 (by decide) 3 (by kernel_rfl);replace y3:x9 3=v2:=y3;obtain⟨rfl,lQ,hDD,Oy,Kz⟩:=hF;have hfo:∃ p q r,v0=.agg #[p,q,r]:=by obtain⟨a_,m_,c_,d_,e_,-⟩:=id Kz;exact⟨_,_,_,e_⟩
   obtain⟨p9,q9,r9,rfl⟩:=hfo;have mN:=Z_ lQ;have xg:=Z_ Kz;have Px:=Z_ Oy;clear hk hl lQ Kz Oy hDD;go_wp2_with fail
   refine bodyPost_ret (tY rfl _ _ rfl mN.out.rf Tryz.underlying37 rfl (by kernel_rfl) rfl mN.out.rz Tryz.underlying27 rfl (by kernel_rfl) (v:=.slice a3 nI c3) (by simp)) rfl ?_
   rw [Ei.out];exact⟨mN.out.ext,_,_,rfl,xg.out.weak (fun i hi=>by have:=CY.out;simp [below] at hi ⊢;omega),kQ Px.out (az _ _)⟩
 ·have hcn:(c != 0)=true:=by simpa using hc0
  have Ei:=Z_ (Xh.out hc0);have hce:(c == 0)=false:=by simpa using hc0
  clear PZ Xg Xh Ov;go_upto_region 3 with (fail)
  clear hv;refine ah [2,4] (fun i v _=>v=([.agg #[.string ⟨#[]⟩,.slice none 0 0,.slice none 0 0],.agg #[.int .i64 c,.int .i64 a],undef,.slice none 0 0,undef]:List Value).getD i undef) (fun vs u=>∃ z0 z1:Int,(vs.length=2→z0=c∧z1=a)∧OQ w u R F V #[.string ⟨#[]⟩,.slice none 0 0,.slice none 0 0] z0 z1 c a) (fun _ _=>True) (frame:=?Bd) (fun x=>?o7) bn.mixed (by kernel_rfl) (by kernel_rfl) (fun _ _ _ _ h _=>h) ?Be ?Bf ?o8
  case o7=>
   simp only [chain.aK,chain.fill,chain.bf,chain.aW,jJ,jK,jL,jM,jO,jP,jQ,jR,jS];exact rfl
  case Be=>exact⟨0,0,(fun h=>(by cases h)),HO.out.extend (aB.refl _ _).drew⟩
  case Bf=>
   iterate 5 (refine ai.cons (fun x vs u hF hm hb hd K' hK'=>?_) ?_;rotate_left)
   exact ai.nil
   ·have HF:=Z_ hF;clear hd hm hb hF;go_simp;exact hK'.out _ _ _ (rfl) trivial ⟨rfl,HF.out⟩
   ·obtain⟨_,_,_,lQ⟩:=id hF;have hq:=lQ.vb.cell;clear lQ;have HF:=Z_ hF;clear hd hm hb hF;go_simp;exact hK'.out _ _ _ (rfl) trivial ⟨rfl,HF.out⟩
   ·obtain rfl:=kF hm;have y0:x 15=.agg #[.string ⟨#[]⟩,.slice none 0 0,.slice none 0 0]:=(D_ hd 0 :);obtain⟨z0,z1,hz,lQ⟩:=hF;have hq:=lQ.rf.cell;have hf:=lQ.rf.frozen;have hl:=lQ.rf.lt;have HF:=Z_ lQ;clear hd hm hb lQ hz;go_simp;exact hK'.out _ _ undef (by simp only [y0];rfl) trivial ⟨z0,z1,(fun h=>(by cases h)),HF.out.Jw _ _ _⟩
   ·have HF:=Z_ hF;clear hd hm hb hF;go_simp;exact hK'.out _ _ _ (rfl) trivial ⟨rfl,HF.out⟩
   ·obtain⟨v0,rfl⟩:=lK hm
    have y0:x 16=.agg #[.int .i64 c,.int .i64 a]:=(D_ hd 1 :);obtain⟨z0,z1,hz,lQ⟩:=hF;have hq:=lQ.rz.cell;have hf:=lQ.rz.frozen;have hl:=lQ.rz.lt;have HF:=Z_ lQ;clear hd hm hb lQ hz;go_simp;exact hK'.out _ _ undef (by simp only [y0];rfl) trivial ⟨_,_,fun _=>⟨rfl,rfl⟩,HF.out.Jy⟩
  case o8=>
   intro x9 vs w9 hl hF hk;obtain⟨v0,v1,rfl⟩:=CV hl
   obtain⟨z0,z1,hz,lQ⟩:=hF;obtain⟨hz0,hz1⟩:=hz rfl;rw [hz0,hz1] at lQ;have y3:=hk 3 (by decide);replace y3:x9 3=.slice none 0 0:=y3;have mN:=Z_ lQ;clear hk hl lQ;go_wp2_with fail
   refine bodyPost_ret (tY rfl _ _ rfl mN.out.rf Tryz.underlying37 rfl (by kernel_rfl) rfl mN.out.rz Tryz.underlying27 rfl (by kernel_rfl) (v:=.slice none 0 0) (by simp [y3])) rfl ?_
   rw [Ei.out];exact⟨mN.out.ext,_,_,rfl,JZ _ _,JY _⟩
end ofq
end Go.Proofs.YtpcihajmcejliacGreatDoor
namespace Go.Proofs.YtpcihajmcejliacGreatDoor
open Go.RowKit
namespace UR
open bn
set_option maxRecDepth 100000 in
set_option maxHeartbeats 4000000 in
theorem Jj:∀ (x:Nd) (v1 v2:Value) (w:World) (H1 H2:Nat→Bool),fE (hide H1 w) x v1→fE (hide H2 w) x v2→
  Calls Tryz.prog 21 #[v1,v2] w fun e w'=>e=.returned (.bool true)∧Ext w w':=by
 refine oP fun k t n l ih v1 v2 w H1 H2 hx hy=>?_
 rw [cG] at hx hy;obtain⟨a,cc,rfl,hx1,hx2,hx3,JD⟩:=hx;obtain⟨a',cc',rfl,hy1,hy2,hy3,hy4⟩:=hy;obtain⟨N,hN⟩:∃ N,l.length=N:=⟨_,rfl⟩;have XB:N≤9223372036854775807:=by unfold maxLen at hx2;omega
 have HN:=Z_ hN;rw [hN];have HIH:=Z_ ih;have HI:=Z_ (fun (u:World) (hE:Ext w u)=>JD.keeps (aC hE fun i _ e=>e.elim) fun b o y=>fL (aC hE fun i _ e=>e.elim) b o y);have HJ:=Z_ (fun (u:World) (hE:Ext w u)=>hy4.keeps (aC hE fun i _ e=>e.elim) fun b o y=>fL (aC hE fun i _ e=>e.elim) b o y);have hE1:=((aB.refl (fun _=>False) w).alloc (.cells #[.int .i64 k,.string t,.int .i64 n,.slice a N cc] 24)).alloc (.cells #[.int .i64 k,.string t,.int .i64 n,.slice a' N cc'] 24);have HK:=Z_ ((aH.made w #[.int .i64 k,.string t,.int .i64 n,.slice a N cc] 24).alloc (.cells #[.int .i64 k,.string t,.int .i64 n,.slice a' N cc'] 24));have HL:=Z_ (aH.made2 w (.cells #[.int .i64 k,.string t,.int .i64 n,.slice a N cc] 24) #[.int .i64 k,.string t,.int .i64 n,.slice a' N cc'] 24)
 have Ef:=Z_ hE1;obtain⟨P,hP⟩:∃ P,w.heap.size=P:=⟨_,rfl⟩;rw [hP] at HK HL;have Xz:P≠P+1:=by omega
 have ht:(t.toList == t.toList)=true:=by simp
 clear JD hy4 hN ih hE1;go_enter Tryz.func21,Tryz.ntmps21
 go_upto_region 1 with (fail)
 generalize (w.alloc (.cells #[.int .i64 k,.string t,.int .i64 n,.slice a N cc] 24)).alloc (.cells #[.int .i64 k,.string t,.int .i64 n,.slice a' N cc'] 24)=w1 at *;have hk:=HK.out.cell;have hl:=HL.out.cell;go_wp2_with fail
 clear hk hl;go_loopw [5] (fun i wr=>∃ q:Nat,q≤N∧i=.int .i64 q∧Hid (Ext w wr)∧Hid (aH wr P #[.int .i64 k,.string t,.int .i64 n,.slice a N cc] 24)∧Hid (aH wr (P+1) #[.int .i64 k,.string t,.int .i64 n,.slice a' N cc'] 24)) (fun i _=>N-(intOf i).toNat)
 case atStart=>exact⟨0,Nat.zero_le _,rfl,Ef,HK,HL⟩
 clear Ef HK HL
 case round=>
  obtain⟨q,hq,rfl,HE,HK,HL⟩:=hrel;have hk:=HK.out.cell;have hl:=HL.out.cell;by_cases hlt:q<N
  ·have kN:q<l.length:=by rw [HN.out];exact hlt
   have hqi:(q:Int)<(N:Int):=by omega
   have GX:decide ((q:Int)<(N:Int))=true:=by simpa using hqi
   obtain⟨b,o,rfl,hb,u,hu,hus,hcl⟩:=HI.out wr HE.out q kN;obtain⟨b',o',rfl,hb',u',hu',ab6,hcl'⟩:=HJ.out wr HE.out q kN;rw [bK] at hb hb';obtain⟨k1,t1,n1,a1,l1,c1,rfl⟩:=bU hu;obtain⟨k2,t2,n2,a2,l2,c2,rfl⟩:=bU hu';have p0:wr.cell? ⟨b,o+q*4,none⟩=some (.int .i64 k1):=(az H1 wr).2 _ _ ((hcl 0 (by decide)).trans rfl);have p1:wr.cell? ⟨b,o+q*4+1,none⟩=some (.string t1):=(az H1 wr).2 _ _ ((hcl 1 (by decide)).trans rfl);have p2:wr.cell? ⟨b,o+q*4+2,none⟩=some (.int .i64 n1):=(az H1 wr).2 _ _ ((hcl 2 (by decide)).trans rfl);have p3:wr.cell? ⟨b,o+q*4+3,none⟩=some (.slice a1 l1 c1):=(az H1 wr).2 _ _ ((hcl 3 (by decide)).trans rfl);have r0:wr.cell? ⟨b',o'+q*4,none⟩=some (.int .i64 k2):=(az H2 wr).2 _ _ ((hcl' 0 (by decide)).trans rfl)
   have r1:wr.cell? ⟨b',o'+q*4+1,none⟩=some (.string t2):=(az H2 wr).2 _ _ ((hcl' 1 (by decide)).trans rfl);have r2:wr.cell? ⟨b',o'+q*4+2,none⟩=some (.int .i64 n2):=(az H2 wr).2 _ _ ((hcl' 2 (by decide)).trans rfl);have r3:wr.cell? ⟨b',o'+q*4+3,none⟩=some (.slice a2 l2 c2):=(az H2 wr).2 _ _ ((hcl' 3 (by decide)).trans rfl);have HC:=Z_ (fun (w':World) (hE:Ext wr w')=>HIH.out l[q] (List.getElem_mem kN) _ _ w' H1 H2 (aJ (aC hE fun _ _ h=>h.elim) _ _ hu) (aJ (aC hE fun _ _ h=>h.elim) _ _ hu'));have k3:wr.cell? ⟨P,3,none⟩=some (.slice (some ⟨b,o,none⟩) N cc):=(hk 3).trans rfl;have l3:wr.cell? ⟨P+1,3,none⟩=some (.slice (some ⟨b',o',none⟩) N cc'):=(hl 3).trans rfl;have hPl:=HK.out.lt;have ab7:=HL.out.lt;have MG:=Z_ (fun (u:World) (hE:Ext wr u)=>(⟨hE,(hE.cell (p:=⟨P,3,none⟩) hPl id).trans k3,(hE.cell (p:=⟨P+1,3,none⟩) ab7 id).trans l3,(hE.cell (p:=⟨b,o+q*4,none⟩) hb id).trans p0,(hE.cell (p:=⟨b,o+q*4+1,none⟩) hb id).trans p1,(hE.cell (p:=⟨b,o+q*4+2,none⟩) hb id).trans p2,(hE.cell (p:=⟨b,o+q*4+3,none⟩) hb id).trans p3,(hE.cell (p:=⟨b',o'+q*4,none⟩) hb' id).trans r0,(hE.cell (p:=⟨b',o'+q*4+1,none⟩) hb' id).trans r1,(hE.cell (p:=⟨b',o'+q*4+2,none⟩) hb' id).trans r2,(hE.cell (p:=⟨b',o'+q*4+3,none⟩) hb' id).trans r3⟩:Ext wr u∧u.cell? ⟨P,3,none⟩=some (.slice (some ⟨b,o,none⟩) N cc)∧u.cell? ⟨P+1,3,none⟩=some (.slice (some ⟨b',o',none⟩) N cc')∧u.cell? ⟨b,o+q*4,none⟩=some (.int .i64 k1)∧u.cell? ⟨b,o+q*4+1,none⟩=some (.string t1)∧u.cell? ⟨b,o+q*4+2,none⟩=some (.int .i64 n1)∧u.cell? ⟨b,o+q*4+3,none⟩=some (.slice a1 l1 c1)∧u.cell? ⟨b',o'+q*4,none⟩=some (.int .i64 k2)∧u.cell? ⟨b',o'+q*4+1,none⟩=some (.string t2)∧u.cell? ⟨b',o'+q*4+2,none⟩=some (.int .i64 n2)∧u.cell? ⟨b',o'+q*4+3,none⟩=some (.slice a2 l2 c2)))
   clear hu hu' hcl hcl' hus ab6;go_wp2_with fail
   go_region_held3 (fun u=>Ext wr u∧u.cell? ⟨P,3,none⟩=some (.slice (some ⟨b,o,none⟩) N cc)∧u.cell? ⟨P+1,3,none⟩=some (.slice (some ⟨b',o',none⟩) N cc')∧u.cell? ⟨b,o+q*4,none⟩=some (.int .i64 k1)∧u.cell? ⟨b,o+q*4+1,none⟩=some (.string t1)∧u.cell? ⟨b,o+q*4+2,none⟩=some (.int .i64 n1)∧u.cell? ⟨b,o+q*4+3,none⟩=some (.slice a1 l1 c1)∧u.cell? ⟨b',o'+q*4,none⟩=some (.int .i64 k2)∧u.cell? ⟨b',o'+q*4+1,none⟩=some (.string t2)∧u.cell? ⟨b',o'+q*4+2,none⟩=some (.int .i64 n2)∧u.cell? ⟨b',o'+q*4+3,none⟩=some (.slice a2 l2 c2))
    (first|exact MG.out _ (aB.refl _ _)|exact MG.out _ ((aB.refl _ _).drew)|exact MG.out _ (by assumption))
    ((go_at_call 21;refine(HC.out _ (by first|exact aB.refl _ _|exact(aB.refl _ _).drew)).mono ?_;rintro e w' ⟨rfl,hE2⟩;have qW:Ext wr w':=(aB.refl _ wr).drew.ext hE2))
   rename_i hH
   clear hH;have yB:=Z_ (HE.out.ext qW);have KN:=Z_ (HK.out.ext qW);have TV:=Z_ (HL.out.ext qW);clear hE2 qW HE HK HL hk hl MG HC p0 p1 p2 p3 r0 r1 r2 r3 k3 l3;go_wp2_with fail
   go_roundw
   case rel=>exact⟨q+1,by omega,by go_num,yB,KN,TV⟩
   case measure=>simp [intOf];omega
  ·obtain rfl:q=N:=by omega
   have GX:decide ((q:Int)<(q:Int))=false:=by simp
   go_wp2_with fail
   go_ret
   exact⟨rfl,HE.out⟩
end UR
end Go.Proofs.YtpcihajmcejliacGreatDoor
