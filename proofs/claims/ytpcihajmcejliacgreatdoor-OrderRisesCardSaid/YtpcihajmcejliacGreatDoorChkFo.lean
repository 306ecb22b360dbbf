/- The walk of the program's Open: what others know of declarations. A map from words to the faces that the call itself has made. How the checker's trees and its state lie in memory. The walks of the checker's small functions: next, must, flows, index, face, and num.Join. The walk of the checker's face: whose a name is. -/
import Derived.Test.YtpcihajmcejliacGreatDoorShelf
import Derived.Test.YtpcihajmcejliacGreatDoorOfEo
import Derived.Test.YtpcihajmcejliacGreatDoorOfMo
import Derived.Test.YtpcihajmcejliacGreatDoorOrdMo
import Derived.Test.YtpcihajmcejliacGreatDoorNameo
import Derived.Test.YtpcihajmcejliacGreatDoorOfCo
namespace Go.Proofs.YtpcihajmcejliacGreatDoor
open Go.RowKit
namespace off
end off
namespace Nz
open bu cG
def pM (w0:World) (x:aI) (v:Value) (_:World):Prop:=pO x v w0
theorem QU {w0:World} (x:aI) (u:Value) (w w':World) (h:pM w0 x u w):pM w0 x u w':=h
theorem nT {w0:World} (x:aI) (u:Value) (w w':World) (_:bV w w') (h:pM w0 x u w):pM w0 x u w':=h
def NC (w0 w:World) (b o:Nat) (x:aI):Prop:=∃ u,pO x u w0∧u.cells.size=6∧∀ i,i<6→w.cell? ⟨b,o+i,none⟩=u.cells[i]?
theorem ND {w0:World} (w:World) (b o:Nat) (x:aI) (u:Value) (h:pM w0 x u w) (hs:u.cells.size=6) (hc:∀ i,i<6→w.cell? ⟨b,o+i,none⟩=u.cells[i]?):NC w0 w b o x:=⟨u,h,hs,hc⟩
structure OB (wq w u:World) (D Fb B:Nat) (dc:Array Value) (m:ByteArray) (oJ oK rv rp:Value) (vs:List eY) (ps:List aI):Prop where
 ext:Ext w u
 d:aC u D dc 128
 res:aC u w.heap.size #[.string ⟨#[]⟩,.slice none 0 0,.slice none 0 0] 37
 fb:aC u Fb #[.string m,oJ,oK] 37
 gv:Grow 4 70 wB B u rv vs
 gp:Grow 6 68 (pM wq) B u rp ps
 apart:∀ i,rv.ownBlock=some i→rp.ownBlock≠some i
 hD:D<w.heap.size
 hF:w.heap.size<Fb
 hB:Fb<B
 hu:B≤u.heap.size
theorem OB.extend {wq w u u':World} {D Fb B:Nat} {dc:Array Value} {m:ByteArray} {oJ oK rv rp:Value} {vs:List eY} {ps:List aI} (h:OB wq w u D Fb B dc m oJ oK rv rp vs ps) (hE:Ext u u'):OB wq w u' D Fb B dc m oJ oK rv rp vs ps:=
 ⟨h.ext.ext hE,h.d.ext hE,h.res.ext hE,h.fb.ext hE,h.gv.aK gB hE (fun _ e=>e.elim),h.gp.aK nT hE (fun _ e=>e.elim),h.apart,h.hD,h.hF,h.hB,Nat.le_trans h.hu hE.size⟩
theorem OB.FC {wq w u u':World} {D Fb B:Nat} {dc:Array Value} {m:ByteArray} {oJ oK rv rp r:Value} {vs vs2:List eY} {ps:List aI} (h:OB wq w u D Fb B dc m oJ oK rv rp vs ps) (hG:Grow 4 70 wB B u' r vs2) (hC:aB (fun i=>rv.ownBlock=some i) u u') (ha:∀ i,r.ownBlock=some i→rv.ownBlock=some i∨u.heap.size≤i):OB wq w u' D Fb B dc m oJ oK r rp vs2 ps:=by
 have h1:=h.hD;have h2:=h.hF;have h3:=h.hB
 have ho:=bn h.gv;refine⟨h.ext.trans hC (fun i hi e=>by have:=ho i e;omega),h.d.aK hC (fun e=>by have:=ho _ e;omega),h.res.aK hC (fun e=>by have:=ho _ e;omega),h.fb.aK hC (fun e=>by have:=ho _ e;omega),hG,kL h.gp QU hC (fun i hi hs=>h.apart i hs hi),fun i hi e=>?_,h1,h2,h3,Nat.le_trans h.hu hC.size⟩
 rcases ha i hi with h4|h4
 ·exact h.apart i h4 e
 ·have:=bn h.gp i e;omega
theorem OB.Ju {wq w u u':World} {D Fb B:Nat} {dc:Array Value} {m:ByteArray} {oJ oK rv rp r:Value} {vs:List eY} {ps ps2:List aI} (h:OB wq w u D Fb B dc m oJ oK rv rp vs ps) (hG:Grow 6 68 (pM wq) B u' r ps2) (hC:aB (fun i=>rp.ownBlock=some i) u u') (ha:∀ i,r.ownBlock=some i→rp.ownBlock=some i∨u.heap.size≤i):OB wq w u' D Fb B dc m oJ oK rv r vs ps2:=by
 have h1:=h.hD;have h2:=h.hF;have h3:=h.hB
 have ho:=bn h.gp;refine⟨h.ext.trans hC (fun i hi e=>by have:=ho i e;omega),h.d.aK hC (fun e=>by have:=ho _ e;omega),h.res.aK hC (fun e=>by have:=ho _ e;omega),h.fb.aK hC (fun e=>by have:=ho _ e;omega),kL h.gv lF hC (fun i hi hs=>h.apart i hi hs),hG,fun i hi e=>?_,h1,h2,h3,Nat.le_trans h.hu hC.size⟩
 rcases ha i e with h4|h4
 ·exact h.apart i hi h4
 ·have:=bn h.gv i hi;omega
theorem OB.NF {wq w u:World} {D Fb B:Nat} {dc:Array Value} {m:ByteArray} {oJ oK rv rp:Value} {vs:List eY} {ps:List aI} (h:OB wq w u D Fb B dc m oJ oK rv rp vs ps):OB wq w (u.setCell ⟨Fb,1,none⟩ rv) D Fb B dc m rv oK rv rp vs ps:=by
 have h1:=h.hD;have h2:=h.hF;have h3:=h.hB
 have hC:=ai (S:=Fb) (aB.refl _ u) 1 rv;exact⟨h.ext.trans hC (fun i hi e=>by omega),h.d.aK hC (by omega),h.res.aK hC (by omega),by have:=h.fb.set 1 rv;exact this,h.gv.aK gB hC (fun i e=>by omega),h.gp.aK nT hC (fun i e=>by omega),h.apart,h1,h2,h3,Nat.le_trans h.hu hC.size⟩
theorem OB.Jv {wq w u:World} {D Fb B:Nat} {dc:Array Value} {m:ByteArray} {oJ oK rv rp:Value} {vs:List eY} {ps:List aI} (h:OB wq w u D Fb B dc m oJ oK rv rp vs ps):OB wq w (u.setCell ⟨Fb,2,none⟩ rp) D Fb B dc m oJ rp rv rp vs ps:=by
 have h1:=h.hD;have h2:=h.hF;have h3:=h.hB
 have hC:=ai (S:=Fb) (aB.refl _ u) 2 rp;exact⟨h.ext.trans hC (fun i hi e=>by omega),h.d.aK hC (by omega),h.res.aK hC (by omega),by have:=h.fb.set 2 rp;exact this,h.gv.aK gB hC (fun i e=>by omega),h.gp.aK nT hC (fun i e=>by omega),h.apart,h1,h2,h3,Nat.le_trans h.hu hC.size⟩
theorem yF {g c n:Nat} {row:Value} {u:World} (hat:row.ownBlock=some g∨g=u.heap.size+1):∀ i,(Value.slice (some ⟨g,0,none⟩) n c).ownBlock=some i→row.ownBlock=some i∨u.heap.size≤i:=fun i e=>by
 have:g=i:=by simpa [Value.ownBlock] using e
 subst this;rcases hat with h|h
 ·exact .inl h
 ·exact .inr (by omega)
def kZ (M:Nat→Bool) (w:World) (x:aQ) (v:Value):Prop:=∃ a m c d,v=.agg #[.string x.modn,.slice a x.vars.length m,.slice c x.procs.length d]∧bC 4 gy (hide M w) a x.vars∧
 bC 6 dB (hide (fun i=>M i || ownB (.slice a x.vars.length m) i) w) c x.procs∧x.modn.size≤maxLen∧x.vars.length≤m∧m≤maxLen∧x.procs.length≤d∧d≤maxLen∧(a=none∨∃ g cs,a=some ⟨g,0,none⟩∧M g=false∧aC w g cs 70)
theorem kZ.at_ {M:Nat→Bool} {w:World} {x:aQ} {v:Value} (h:kZ M w x v):fE (hide M w) x v:=by
 obtain⟨a,m,c,d,e,h1,h2,h3,h4,h5,h6,h7,-⟩:=h
 have hK:bV (hide (fun i=>M i || ownB (.slice a x.vars.length m) i) w) (hide M w):=aT (Nat.le_refl _) fun i hi hm=>by
  simp only [Bool.or_eq_false_iff] at hm;exact⟨hm.1,rfl⟩
 exact⟨a,m,c,d,e,h1,h2.keeps hK fun _ _ _=>dB.keeps hK,h3,h4,h5,h6,h7⟩
theorem kZ.aK {M:Nat→Bool} {S:Nat→Prop} {w w':World} {x:aQ} {v:Value} (h:kZ M w x v) (hC:aB S w w') (hS:∀ i,S i→M i=true):kZ M w' x v:=by
 obtain⟨a,m,c,d,e,h1,h2,h3,h4,h5,h6,h7,h8⟩:=h;have k1:=aH (M:=M) hC fun i _ e=>hS i e
 have k2:=aH (M:=fun i=>M i || ownB (.slice a x.vars.length m) i) hC fun i _ e=>by simp [hS i e]
 refine⟨a,m,c,d,e,h1.keeps k1 fun _ _ _=>gy.keeps k1,h2.keeps k2 fun _ _ _=>dB.keeps k2,h3,h4,h5,h6,h7,?_⟩
 rcases h8 with h8|⟨g,cs,e1,e2,e3⟩
 ·exact .inl h8
 ·exact .inr ⟨g,cs,e1,e2,e3.aK hC fun hs=>by rw [hS g hs] at e2;cases e2⟩
theorem kZ.weak {M M':Nat→Bool} {w:World} {x:aQ} {v:Value} (h:kZ M w x v) (hM:∀ i,M i=false→M' i=false):kZ M' w x v:=by
 obtain⟨a,m,c,d,e,h1,h2,h3,h4,h5,h6,h7,h8⟩:=h;have k1:bV (hide M w) (hide M' w):=aT (Nat.le_refl _) fun i _ hm=>⟨hM i hm,rfl⟩
 have k2:bV (hide (fun i=>M i || ownB (.slice a x.vars.length m) i) w) (hide (fun i=>M' i || ownB (.slice a x.vars.length m) i) w):=aT (Nat.le_refl _) fun i _ hm=>by
  simp only [Bool.or_eq_false_iff] at hm ⊢;exact⟨⟨hM i hm.1,hm.2⟩,trivial⟩
 refine⟨a,m,c,d,e,h1.keeps k1 fun _ _ _=>gy.keeps k1,h2.keeps k2 fun _ _ _=>dB.keeps k2,h3,h4,h5,h6,h7,?_⟩
 rcases h8 with h8|⟨g,cs,e1,e2,e3⟩
 ·exact .inl h8
 ·exact .inr ⟨g,cs,e1,hM g e2,e3⟩
theorem NG {α : Type} {k:Nat} {E:TypeId} {V:α→Value→World→Prop} {B:Nat} {w:World} {a:Option Addr} {n m:Nat} {l:List α} (h:Grow k E V B w (.slice a n m) l):a=none∨∃ g cs,a=some ⟨g,0,none⟩∧B≤g∧aC w g cs E:=by
 obtain⟨us,h1,h2,h3⟩:=h.ex;rcases h2.2 with ⟨e,h0⟩|⟨g,cap,cur,e,hB,hg,-⟩
 ·injection e with e;exact .inl e
 ·injection e with e;exact .inr ⟨g,_,e,hB,hg⟩
theorem OB.face {M:Nat→Bool} {w u:World} {D Fb B:Nat} {dc:Array Value} {m:ByteArray} {oJ oK rv rp:Value} {vs:List eY} {ps:List aI} (h:OB (hide M w) w u D Fb B dc m oJ oK rv rp vs ps) (hM:∀ i,M i=true→i<w.heap.size) (hm:m.size≤10000) {u':World} {S:Nat→Prop} (hC:aB S u u') (hS:∀ i,S i→i<B) (hE:Ext w u'):kZ M u' ⟨m,vs,ps⟩ (.agg #[.string m,rv,rp]):=by
 have hF:=h.hF;have hB:=h.hB
 have hgv:=h.gv.aK gB hC hS;have hap:∀ i,rv.ownBlock=some i→B≤i:=fun i e=>(bn h.gv i e).1
 have hgp:=h.gp.aK nT hC hS;have Gx:=h.apart;obtain⟨a,n,rfl,h1,h2,h3⟩:=hgv.row gB Ba;have hblk:=NG hgv;obtain⟨us,g1,g2,g3⟩:=hgp.ex;obtain⟨c,d,rfl,h4,h5,-⟩:=hgp.row nT ND
 have hK:bV (hide (below B) u') (hide M u'):=aT (Nat.le_refl _) fun i hi hb=>⟨by
  cases hq:M i with
  | false=>rfl
  | true=>have:=hM i hq;simp [below] at hb;omega,rfl⟩
 refine⟨a,n,c,d,rfl,h3.keeps hK fun _ _ _=>uG hK,fun j hj=>?_,small _ hm,h1,h2,h4,h5,?_⟩
 ·rcases g2.2 with ⟨e,h0⟩|⟨g,cap,cur,e,hBg,hg,hc1,hc2,hc3,hc4⟩
  ·exact absurd hj (by show ¬ j<ps.length;omega)
  ·injection e with e e2 e3
   subst e;have hj':j<us.length:=by rw [g1];exact hj
   obtain⟨q1,q2⟩:=g3 j hj hj'
   have hne:ownB (.slice a vs.length n) g=false:=by
    unfold ownB;rw [decide_eq_false_iff_not];intro e;exact Gx g e rfl
   have hMg:M g=false:=by
    cases hq:M g with
    | false=>rfl
    | true=>have:=hM g hq;omega
   have hall:∀ u∈us,u.cells.size=6:=fun u hu=>by
    obtain⟨q,hq,rfl⟩:=List.getElem_of_mem hu;exact(g3 q (by omega) hq).2
   have hu2:=gY _ _ _ _ (aH (M:=M) hE fun _ _ e=>e.elim) (show pO _ _ _ from q1)
   have hKM:bV (hide M w) (hide (fun i=>M i || ownB (.slice a vs.length n) i) u'):=aT hE.size fun i hi hm=>⟨by
    rw [hm,Bool.false_or];unfold ownB;rw [decide_eq_false_iff_not];intro e;have:=hap i e;omega,hE.block i hi id⟩
   have hu3:=gY _ _ _ _ hKM (show pO _ _ _ from q1);refine⟨g,0,rfl,by rw [bT];exact(Array.getElem?_eq_some_iff.1 hg).1,?_⟩
   refine yG _ _ _ _ us[j] hu3 q2 fun i hi=>?_
   rw [gG _ _ _ (by simp [hMg,hne])]
   rw [←zx 6 us hall j hj' i hi,←hc4,List.getElem?_take,if_pos (by
    have:(j+1)*6≤ps.length*6:=Nat.mul_le_mul_right _ hj;rw [Nat.succ_mul] at this;omega)]
   rw [cell_of_row u' g _ cur _ (0,0) hg];simp
 ·rcases hblk with e|⟨g,cs,e,hBg,hb⟩
  ·exact .inl e
  ·refine .inr ⟨g,cs,e,?_,hb⟩
   cases hq:M g with
   | false=>rfl
   | true=>have:=hM g hq;omega
theorem yH {α : Type} (p:α→Bool) {l:List α} {q:Nat} (h:q<l.length):(l.take (q+1)).filter p=(l.take q).filter p++(if p l[q]=true then [l[q]] else []):=by
 rw [List.take_succ_eq_append_getElem h,List.filter_append];congr 1
 cases hp:p l[q]<;>simp [hp]
theorem Bc {α : Type} (p:α→Bool) (l:List α) (q:Nat):((l.take q).filter p).length≤q:=Nat.le_trans (List.length_filter_le _ _) (List.length_take_le q l)
set_option maxRecDepth 100000 in
set_option maxHeartbeats 8000000 in
theorem open_any {M:Nat→Bool} {w:World} {D:Nat} {m:ByteArray} {d3 d4 d5 d6 d7 d8:Value} {a1 a2:Option Addr} {c1 c2:Nat} {xv:List eY} {xp:List aI} (hd:aC w D #[.string m,.slice a1 xv.length c1,.slice a2 xp.length c2,d3,d4,d5,d6,d7,d8] 128) (hv:bC 4 gy w a1 xv) (hp:bC 6 dB (hide M w) a2 xp) (hM:∀ i,M i=true→i<w.heap.size) (hm:m.size≤10000) (hvz:∀ x∈xv,x.name.size≤10000) (hpz:∀ x∈xp,x.name.size≤10000) (Jk:xv.length≤1000) (hnp:xp.length≤1000) :
  Calls Tryz.prog 55 #[.pointer (some ⟨D,0,none⟩)] w fun e w'=>∃ v',e=.returned v'∧kZ M w' ⟨m,xv.filter fun v=>v.dR,xp.filter fun p=>p.dR⟩ v'∧Ext w w':=by
 obtain⟨fv,hfv⟩:∃ l,(xv.filter fun v=>v.dR)=l:=⟨_,rfl⟩;obtain⟨fp,hfp⟩:∃ l,(xp.filter fun p=>p.dR)=l:=⟨_,rfl⟩;rw [hfv,hfp];have HFV:=Z_ hfv;have HFP:=Z_ hfp;clear hfv hfp;have HV:=Z_ hv;have Zq:=Z_ hp;have HM:=Z_ hM;have HVZ:=Z_ hvz;have Vy:=Z_ hpz;obtain⟨n1,hn1⟩:∃ n,xv.length=n:=⟨_,rfl⟩;obtain⟨n2,hn2⟩:∃ n,xp.length=n:=⟨_,rfl⟩;rw [hn1] at hd Jk;rw [hn2] at hd hnp;have H1:=Z_ hn1;have H2:=Z_ hn2;have hD:=hd.lt;have HD:=Z_ (hd.alloc (.cells #[.string ⟨#[]⟩,.slice none 0 0,.slice none 0 0] 37));have FD:=Z_ ((aB.refl (fun _=>False) w).alloc (.cells #[.string ⟨#[]⟩,.slice none 0 0,.slice none 0 0] 37));have HR:=Z_ (aC.made w #[.string ⟨#[]⟩,.slice none 0 0,.slice none 0 0] 37);obtain⟨dc,hdc⟩:∃ dc:Array Value,#[.string m,.slice a1 n1 c1,.slice a2 n2 c2,d3,d4,d5,d6,d7,d8]=dc:=⟨_,rfl⟩
 have QV:=Z_ hdc;clear hv hp hM hn1 hn2 hd hvz hpz hdc;go_enter Tryz.func55,Tryz.ntmps55
 go_upto_region 1 with (fail)
 have hsw:w.heap.size<(w.alloc (.cells #[.string ⟨#[]⟩,.slice none 0 0,.slice none 0 0] 37)).heap.size:=by simp
 generalize w.alloc (.cells #[.string ⟨#[]⟩,.slice none 0 0,.slice none 0 0] 37)=w1 at *;have hc:=HD.out.cell;go_upto_region 2 with (fail)
 have hL0:OB (hide M w) w (w1.alloc (.cells #[.string m,.slice none 0 0,.slice none 0 0] 37)) D w1.heap.size (w1.heap.size+1) dc m (.slice none 0 0) (.slice none 0 0) (.slice none 0 0) (.slice none 0 0) [] []:=
  ⟨FD.out.alloc _,by rw [←QV.out];exact HD.out.alloc _,HR.out.alloc _,aC.made _ _ _,Grow.nil _ _ _ _ _,Grow.nil _ _ _ _ _,fun i e=>(by cases e),hD,hsw,by omega,by simp⟩
 have HL:=Z_ hL0;obtain⟨Fb,hFb⟩:∃ Fb,w1.heap.size=Fb:=⟨_,rfl⟩;rw [hFb] at HL
 try rw [hFb]
 have hc2:=(HD.out.alloc (.cells #[.string m,.slice none 0 0,.slice none 0 0] 37)).cell;clear hc hL0 FD HD HR hsw;generalize w1.alloc (.cells #[.string m,.slice none 0 0,.slice none 0 0] 37)=w2 at *;clear hFb;obtain⟨B,hB⟩:∃ B,Fb+1=B:=⟨_,rfl⟩;rw [hB] at HL;clear hB;go_wp2_with fail
 clear hc2;go_loopw [20] (fun i wr=>∃ (q:Nat) (rv:Value),q≤n1∧i=.int .i64 (q:Nat)∧Hid (OB (hide M w) w wr D Fb B dc m rv (.slice none 0 0) rv (.slice none 0 0) ((xv.take q).filter fun v=>v.dR) [])) (fun i _=>n1-(intOf i).toNat)
 case atStart=>exact⟨0,_,Nat.zero_le _,rfl,HL⟩
 clear HL
 case round=>
  obtain⟨q,rv,hq,rfl,HL⟩:=hrel;by_cases hlt:q<n1
  ·have hqi:(q:Int)<(n1:Int):=by omega
   have MP:decide ((q:Int)<(n1:Int))=true:=by simpa using hqi
   have kW:q<xv.length:=by rw [H1.out];exact hlt
   obtain⟨b,o,rfl,hb,hin⟩:=HV.out q kW;have hbl:=Nat.lt_of_lt_of_le hb HL.out.ext.size;obtain⟨l0,l1,l2,l3,lz⟩:=gy.ext HL.out.ext hb hin;have Vz:=Z_ (yH (fun v:eY=>v.dR) kW);have hlv:=Bc (fun v:eY=>v.dR) xv q;have hzz:=HVZ.out xv[q] (List.getElem_mem kW);generalize xv[q]=y at *;obtain⟨vn,vp,vl,vz⟩:=y;simp only at l0 l1 l2 l3 hzz;clear hin lz;generalize ((xv.take q).filter fun v=>v.dR)=fs at *;have oL:=Z_ (HL.out.extend ((aB.refl (fun _=>False) wr).alloc (.cells #[.string vn,.bool vp,.int .i64 vl,.int .i64 vz] 70)));have VA:=Z_ (aC.made wr #[.string vn,.bool vp,.int .i64 vl,.int .i64 vz] 70);obtain⟨Vb,yE⟩:∃ Vb,wr.heap.size=Vb:=⟨_,rfl⟩;rw [yE] at VA;go_upto_region 5 with (fail)
   try rw [yE]
   generalize wr.alloc (.cells #[.string vn,.bool vp,.int .i64 vl,.int .i64 vz] 70)=u6 at *;clear l0 l1 l2 l3 HL yE;have hv:=VA.out.cell;cases vp with
   | false=>
    go_wp2_with fail
    go_roundw
    case rel=>exact⟨q+1,_,by omega,by go_num,by rw [Vz.out,if_neg (by simp),List.append_nil];exact oL⟩
    case measure=>simp [intOf];omega
   | true=>
    obtain⟨ra,rc,hrow,-,-⟩:=dZ oL.out.gv;subst hrow;obtain⟨us,hu1,ho,hu3⟩:=oL.out.gv.ex;have HO:=Z_ ho;have I5:=Z_ (And.intro hu1 hu3);have hfc:=oL.out.fb.cell;have DU:=oL.out.fb.frozen;have hfl:=oL.out.fb.lt;have hub:=oL.out.hu;obtain⟨iW,iY,hz0,hz1,hz2⟩:=aW wC;clear ho hu1 hu3;go_wp2_with (at_builtin;refine wpList_append_lies _ rfl _ _ 34 rfl B 70 iW (.agg #[.string ⟨#[]⟩,.bool false,.int .i64 0,.int .i64 0]) 4 40 Tryz.underlying34 iY hz0 hz1 hz2 rfl (by decide) (.slice ra fs.length rc) fs.length (us.flatMap fun u=>u.cells.toList) rfl (HO.out.alloc _) ⟨u6.heap.size,0,none⟩ 1 1 [.string vn,.bool true,.int .i64 vl,.int .i64 vz] rfl rfl (by intro j z_ hj;have e:(⟨u6.heap.size,0,none⟩:Addr).add j=⟨u6.heap.size,j,none⟩:=(by unfold Addr.add;split<;>simp_all);rw [e,(aC.made u6 _ _).cell];simpa using hj) (by intro z_ mN;simp only [List.mem_cons,List.not_mem_nil,or_false] at mN;rcases mN with rfl|rfl|rfl|rfl<;>rfl) (by decide) (by unfold maxLen;omega) (by omega) (by simp;omega) (u6.heap.size+1) (by simp) ?_;intro g c' w7 hown hgrow hat hlt1;have qH:=Z_ (oM gB I5.out.1 I5.out.2 (x:=⟨vn,true,vl,vz⟩) (v:=.agg #[.string vn,.bool true,.int .i64 vl,.int .i64 vz]) ⟨rfl,hzz⟩ rfl hown hgrow hat);have AB:=Z_ (oL.out.FC qH.out.1 qH.out.2 (yF hat));have q1:=AB.out.fb.cell;have PS:=AB.out.fb.frozen;have PT:=AB.out.fb.lt;clear hown hgrow hat hfc DU hfl hv)
    have VB:=Z_ AB.out.NF;clear q1 PS PT qH;go_roundw
    case rel=>exact⟨q+1,_,by omega,by go_num,by rw [Vz.out,if_pos (by simp)];exact VB⟩
    case measure=>simp [intOf];omega
  ·obtain rfl:q=n1:=by omega
   have MP:decide ((q:Int)<(q:Int))=false:=by simp
   have hT:xv.take q=xv:=List.take_of_length_le (by rw [H1.out];exact Nat.le_refl _);rw [hT,HFV.out] at HL;have hc:=HL.out.d.cell;rw [←QV.out] at hc;obtain⟨wo,rfl⟩:∃ wo,wo=wr:=⟨_,rfl⟩;go_wp2_with fail
   clear hc;go_loopw [39] (fun i wr=>∃ (q:Nat) (rv rp:Value),q≤n2∧i=.int .i64 (q:Nat)∧Hid (OB (hide M w) w wr D Fb B dc m rv rp rv rp fv ((xp.take q).filter fun p=>p.dR))) (fun i _=>n2-(intOf i).toNat)
   case atStart=>exact⟨0,_,_,Nat.zero_le _,rfl,by show Hid (OB (hide M w) w _ D Fb B dc m _ _ _ _ _ []);exact HL⟩
   clear HL
   case round=>
    obtain⟨q,rv,rp,hq,rfl,HL⟩:=hrel;by_cases hlt:q<n2
    ·have hqi:(q:Int)<(n2:Int):=by omega
     have MP:decide ((q:Int)<(n2:Int))=true:=by simpa using hqi
     have kW:q<xp.length:=by rw [H2.out];exact hlt
     obtain⟨b,o,rfl,hb,hin⟩:=Zq.out q kW;rw [bT] at hb;have hbl:=Nat.lt_of_lt_of_le hb HL.out.ext.size;have hin0:=hin;replace hin:=dB.keeps (ah M w) hin;obtain⟨l0,l1,⟨pa0,NH,l2,-⟩,l3,l4,l5,lz⟩:=dB.ext HL.out.ext hb hin;obtain⟨-,-,⟨pa,pc,m2,m2i,m2c,m2d⟩,-⟩:=hin0;have hpe:pa0=pa∧NH=pc:=by have:=(HL.out.ext.cell (p:=⟨b,o+q*6+2,none⟩) hb id).symm.trans l2;rw [(ah M w).2 _ _ m2] at this;cases this;exact⟨rfl,rfl⟩
     obtain⟨rfl,rfl⟩:=hpe;have Vz:=Z_ (yH (fun p:aI=>p.dR) kW);have hlv:=Bc (fun p:aI=>p.dR) xp q;have hzz:=Vy.out xp[q] (List.getElem_mem kW);generalize xp[q]=y at *;obtain⟨vn,vp,pl,vw,vg,vi⟩:=y;simp only at l0 l1 l2 l3 l4 l5 hzz m2i m2c;have kO:=Z_ (show pO ⟨vn,vp,pl,vw,vg,vi⟩ (.agg #[.string vn,.bool vp,.slice pa0 pl.length NH,.int .i64 vw,.bool vg,.int .i64 vi]) (hide M w) from⟨pa0,NH,rfl,m2i,m2c,m2d,hzz⟩);clear hin lz m2 m2i m2c m2d;generalize ((xp.take q).filter fun p=>p.dR)=fs at *;have oL:=Z_ (HL.out.extend ((aB.refl (fun _=>False) wr).alloc (.cells #[.string vn,.bool vp,.slice pa0 pl.length NH,.int .i64 vw,.bool vg,.int .i64 vi] 68)));have VA:=Z_ (aC.made wr #[.string vn,.bool vp,.slice pa0 pl.length NH,.int .i64 vw,.bool vg,.int .i64 vi] 68)
     obtain⟨Vb,yE⟩:∃ Vb,wr.heap.size=Vb:=⟨_,rfl⟩;rw [yE] at VA;go_upto_region 11 with (fail)
     try rw [yE]
     generalize wr.alloc (.cells #[.string vn,.bool vp,.slice pa0 pl.length NH,.int .i64 vw,.bool vg,.int .i64 vi] 68)=u6 at *;clear l0 l1 l2 l3 l4 l5 HL yE;have hv:=VA.out.cell;cases vp with
     | false=>
      go_wp2_with fail
      go_roundw
      case rel=>exact⟨q+1,_,_,by omega,by go_num,by rw [Vz.out,if_neg (by simp),List.append_nil];exact oL⟩
      case measure=>simp [intOf];omega
     | true=>
      obtain⟨ra,rc,hrow,-,-⟩:=dZ oL.out.gp;subst hrow;obtain⟨us,hu1,ho,hu3⟩:=oL.out.gp.ex;have HO:=Z_ ho;have I5:=Z_ (And.intro hu1 hu3);have hfc:=oL.out.fb.cell;have DU:=oL.out.fb.frozen;have hfl:=oL.out.fb.lt;have hub:=oL.out.hu;obtain⟨iW,iY,hz0,hz1,hz2⟩:=aW yI;clear ho hu1 hu3;go_wp2_with (at_builtin;refine wpList_append_lies _ rfl _ _ 35 rfl B 68 iW (.agg #[.string ⟨#[]⟩,.bool false,.slice none 0 0,.int .i64 0,.bool false,.int .i64 0]) 6 72 Tryz.underlying35 iY hz0 hz1 hz2 rfl (by decide) (.slice ra fs.length rc) fs.length (us.flatMap fun u=>u.cells.toList) rfl (HO.out.alloc _) ⟨u6.heap.size,0,none⟩ 1 1 [.string vn,.bool true,.slice pa0 pl.length NH,.int .i64 vw,.bool vg,.int .i64 vi] rfl rfl (by intro j z_ hj;have e:(⟨u6.heap.size,0,none⟩:Addr).add j=⟨u6.heap.size,j,none⟩:=(by unfold Addr.add;split<;>simp_all);rw [e,(aC.made u6 _ _).cell];simpa using hj) (by intro z_ mN;simp only [List.mem_cons,List.not_mem_nil,or_false] at mN;rcases mN with rfl|rfl|rfl|rfl|rfl|rfl<;>rfl) (by decide) (by unfold maxLen;omega) (by omega) (by simp;omega) (u6.heap.size+1) (by simp) ?_;intro g c' w7 hown hgrow hat hlt1;have qH:=Z_ (oM nT I5.out.1 I5.out.2 (x:=⟨vn,true,pl,vw,vg,vi⟩) (v:=.agg #[.string vn,.bool true,.slice pa0 pl.length NH,.int .i64 vw,.bool vg,.int .i64 vi]) (show pM (hide M w) ⟨vn,true,pl,vw,vg,vi⟩ (.agg #[.string vn,.bool true,.slice pa0 pl.length NH,.int .i64 vw,.bool vg,.int .i64 vi]) _ from kO.out) rfl hown hgrow hat);have AB:=Z_ (oL.out.Ju qH.out.1 qH.out.2 (yF hat));have q1:=AB.out.fb.cell;have PS:=AB.out.fb.frozen;have PT:=AB.out.fb.lt;clear hown hgrow hat hfc DU hfl hv)
      have VB:=Z_ AB.out.Jv;clear q1 PS PT qH;go_roundw
      case rel=>exact⟨q+1,_,_,by omega,by go_num,by rw [Vz.out,if_pos (by simp)];exact VB⟩
      case measure=>simp [intOf];omega
    ·obtain rfl:q=n2:=by omega
     have MP:decide ((q:Int)<(q:Int))=false:=by simp
     have hT:xp.take q=xp:=List.take_of_length_le (by rw [H2.out];exact Nat.le_refl _);rw [hT,HFP.out] at HL;obtain⟨a3,c3,hr1,-,-⟩:=dZ HL.out.gv;obtain⟨a4,c4,hr2,-,-⟩:=dZ HL.out.gp;subst hr1 hr2;have hfc:=HL.out.fb.cell;have hr:=HL.out.res.cell;have hrf:=HL.out.res.frozen;have hrl:=HL.out.res.lt;go_wp2_with fail
     have DV:=ai (S:=w.heap.size) (aB.refl _ wr) 0 (.string m);have hC2:=ai DV 1 (.slice a3 fv.length c3);have nU:=ai hC2 2 (.slice a4 fp.length c4);have nS:=HL.out.ext.trans nU (fun i hi e=>by omega);have Jw:=HL.out.face HM.out hm nU (fun i e=>by have:=HL.out.hF;have:=HL.out.hB;omega) nS;have Jm:=Z_ (((HL.out.res.set 0 (.string m)).set 1 (.slice a3 fv.length c3)).set 2 (.slice a4 fp.length c4));refine bG rfl rfl rfl Jm.out Tryz.underlying37 rfl (by kernel_rfl) ?_
     simp only [List.setIfInBounds_toArray,List.set_cons_succ,List.set_cons_zero];exact⟨_,rfl,Jw,nS⟩
end Nz
end Go.Proofs.YtpcihajmcejliacGreatDoor
namespace Go.Proofs.YtpcihajmcejliacGreatDoor
open Go.RowKit Go.WideMaps Go.Maps
def wE:Value:=.agg #[.string ⟨#[]⟩,.slice none 0 0,.slice none 0 0]
namespace oN
def RV (v:Value):Option (DataW Value×List MemPlace):=some (.held v,[])
def uY (w:World) (b n:Nat) (f:ByteArray→Option Value):Prop:=
 ∃ (D:DataW Value),w.ownsMap Tryz.prog 9 RV b n D∧∀ s:ByteArray,has D (.string s.data.toList)=(f s).isSome∧D.atKey (.string s.data.toList) (.held wE)=.held ((f s).getD wE)
theorem uY.aK {w w':World} {b n:Nat} {f:ByteArray→Option Value} (h:uY w b n f) {S:Nat→Prop} (hC:aB S w w') (hn:¬ S b):uY w' b n f:=by
 obtain⟨D,⟨es,clock,hb,F,hs,hD⟩,h2⟩:=h;exact⟨D,⟨es,clock,(hC.block b (Array.getElem?_eq_some_iff.1 hb).1 hn).trans hb,F,hs,hD⟩,h2⟩
theorem uY.made (w:World):uY (w.alloc (.map #[] 0)) w.heap.size 0 (fun _=>none):=by
 refine⟨.map [],World.ownsMap_made _ _ _ _,fun s=>⟨rfl,?_⟩⟩
 rw [WideAt.atKey_none _ (by simp)];rfl
theorem Gy (w:World):(zeroValue 37).run Tryz.prog w=.ok wE w:=by kernel_rfl
theorem uY.put {w:World} {b n:Nat} {f:ByteArray→Option Value} (h:uY w b n f) {x:ByteArray} (v:Value) (hs:x.size≤maxLen) (hn:n<maxLen) :
  ∃ w',(Instr.mapUpdate 211 (.map (some b)) (.string x) v).run Tryz.prog w=.ok () w'∧uY w' b (n+1) (fun s=>if s=x then some v else f s)∧w.grownBy w' (some b):=by
 obtain⟨D,hown,h2⟩:=h;have hkey:=keyOf_string_mk (P:=Tryz.prog) (k:=9) Tryz.underlying9 hs;obtain⟨w',hrun,hM,hg⟩:=hown.update (t:=211) jf.keyed Tryz.underlying211 hn hkey (show RV v=some (.held v,[]) from rfl);have hk:WideAt.IsKeyLit (.string x.data.toList):=by trivial
 refine⟨w',hrun,⟨_,hM,fun s=>?_⟩,hg⟩
 show has _ _=(if s=x then some v else f s).isSome∧_=DataW.held ((if s=x then some v else f s).getD wE)
 by_cases e:s=x
 ·subst e
  rw [if_pos rfl,has_put_same hown.isMap hk,atKey_put_same hown.isMap hk];exact⟨rfl,rfl⟩
 ·have hne:(Lit.string s.data.toList)≠.string x.data.toList:=fun h=>e (ByteArray.ext (Array.toList_inj.1 (by injection h)))
  rw [if_neg e,has_put_other hne,atKey_put_other hne];exact h2 s
set_option maxRecDepth 100000 in
theorem uY.look {w:World} {b n:Nat} {f:ByteArray→Option Value} (h:uY w b n f) {s:ByteArray} (hs:s.size≤maxLen) :
  (Instr.lookup 211 (.map (some b)) (.string s) true).run Tryz.prog w=.ok (.tuple #[(f s).getD wE,.bool (f s).isSome]) w:=by
 obtain⟨D,hown,h2⟩:=h;have hz0:=Gy w;obtain⟨z,hzz⟩:∃ z,wE=z:=⟨_,rfl⟩;rw [hzz] at h2 hz0 ⊢;have hz:RV z=some (.held z,[]):=rfl;have hkey:=keyOf_string_mk (P:=Tryz.prog) (k:=9) Tryz.underlying9 hs;obtain⟨v,ps,hrun,hv⟩:=hown.look_ok (t:=211) jf.keyed Tryz.underlying211 hz0 hz hkey;rw [(h2 s).2] at hv;rw [(h2 s).1] at hrun;unfold RV at hv;injection hv with hv
 injection hv with hv _
 injection hv with hv
 subst hv;exact hrun
def nV (W w:World) (b n:Nat) (K:List (ByteArray×aQ)):Prop:=
 ∃ f,uY w b n f∧∀ s,match bU K s with
  | none=>f s=none
  | some x=>∃ v,f s=some v∧fE W x v
theorem nV.aK {W w w':World} {b n:Nat} {K:List (ByteArray×aQ)} (h:nV W w b n K) {S:Nat→Prop} (hC:aB S w w') (hn:¬ S b):nV W w' b n K:=by
 obtain⟨f,h1,h2⟩:=h;exact⟨f,h1.aK hC hn,h2⟩
theorem nV.base {W W' w:World} {b n:Nat} {K:List (ByteArray×aQ)} (h:nV W w b n K) (hE:Ext W W'):nV W' w b n K:=by
 obtain⟨f,h1,h2⟩:=h;refine⟨f,h1,fun s=>?_⟩
 have:=h2 s;cases hk:bU K s with
 | none=>rw [hk] at this;exact this
 | some x=>rw [hk] at this;obtain⟨v,h3,h4⟩:=this;exact⟨v,h3,h4.ext hE⟩
theorem nV.made (W w:World):nV W (w.alloc (.map #[] 0)) w.heap.size 0 []:=⟨_,uY.made w,fun _=>rfl⟩
theorem wF (K:List (ByteArray×aQ)) (x s:ByteArray) (g:aQ):bU (K ++ [(x,g)]) s=(bU K s).or (if x=s then some g else none):=by
 induction K with
 | nil=>simp [bU]
 | cons p r ih=>
  obtain⟨y,c⟩:=p;simp only [List.cons_append,bU];by_cases hy:y=s
  ·simp [hy]
  ·rw [if_neg hy,if_neg hy,ih]
theorem nV.put {W w:World} {b n:Nat} {K:List (ByteArray×aQ)} (h:nV W w b n K) {x:ByteArray} {v:Value} {g:aQ} (hv:fE W g v) (hx:bU K x=none∨bU K x=some g) (hs:x.size≤maxLen) (hn:n<maxLen) :
  ∃ w',(Instr.mapUpdate 211 (.map (some b)) (.string x) v).run Tryz.prog w=.ok () w'∧nV W w' b (n+1) (K ++ [(x,g)])∧w.grownBy w' (some b):=by
 obtain⟨f,h1,h2⟩:=h;obtain⟨w',hr,hM,hg⟩:=h1.put v hs hn;refine⟨w',hr,⟨_,hM,fun s=>?_⟩,hg⟩
 rw [wF];have h3:=h2 s;by_cases e:s=x
 ·subst e
  rw [if_pos rfl];rcases hx with hx|hx
  ·rw [hx];exact⟨v,if_pos rfl,hv⟩
  ·rw [hx];exact⟨v,if_pos rfl,hv⟩
 ·rw [if_neg (fun h=>e h.symm),Option.or_none]
  cases hk:bU K s with
  | none=>rw [hk] at h3;simpa only [if_neg e] using h3
  | some y=>rw [hk] at h3;simpa only [if_neg e] using h3
theorem nV.look {W w:World} {b n:Nat} {K:List (ByteArray×aQ)} (h:nV W w b n K) {s:ByteArray} (hs:s.size≤maxLen) :
  ∃ v,(Instr.lookup 211 (.map (some b)) (.string s) true).run Tryz.prog w=.ok (.tuple #[v,.bool (bU K s).isSome]) w∧fE W ((bU K s).getD gZ) v:=by
 obtain⟨f,h1,h2⟩:=h;have hl:=h1.look hs;have h3:=h2 s;cases hk:bU K s with
 | none=>
  rw [hk] at h3;rw [h3] at hl;exact⟨wE,hl,⟨none,0,none,0,rfl,fun j h=>(by cases h),fun j h=>(by cases h),by decide,Nat.le_refl _,by decide,Nat.le_refl _,by decide⟩⟩
 | some x=>
  rw [hk] at h3;obtain⟨v,h4,h5⟩:=h3;rw [h4] at hl;exact⟨v,hl,h5⟩
end oN
end Go.Proofs.YtpcihajmcejliacGreatDoor
namespace Go.Proofs.YtpcihajmcejliacGreatDoor
open Go.RowKit
theorem Tr.lN (k m:Int) (l:List Tr) (r:nD) (b c:Int) (j:Nat) (h:j<l.length):SizeOf.sizeOf l[j]<SizeOf.sizeOf (Tr.mk k m l r b c):=by
 have h1:=List.sizeOf_lt_of_mem (List.getElem_mem h);have h2:SizeOf.sizeOf (Tr.mk k m l r b c)=1+SizeOf.sizeOf k+SizeOf.sizeOf m+SizeOf.sizeOf l+SizeOf.sizeOf r+SizeOf.sizeOf b+SizeOf.sizeOf c:=by simp
 omega
theorem QW {P:Tr→Prop} (h:∀ k m l r b c,(∀ x∈l,P x)→P (.mk k m l r b c)):∀ x,P x:=by
 have:∀ n x,SizeOf.sizeOf x≤n→P x:=by
  intro n;induction n with
  | zero=>
   intro x hx;cases x;simp at hx
  | succ n ih=>
   intro x hx;cases x with
   | mk k m l r b c=>
    refine h k m l r b c fun y hy=>ih y ?_
    obtain⟨j,hj,rfl⟩:=List.getElem_of_mem hy;have:=Tr.lN k m l r b c j hj;omega
 exact fun x=>this _ x (Nat.le_refl _)
def jr (k m:Int) (kids:Value) (r:nD) (p0 p1 p2 p3 p4 p5:Value) (lab ctx:Int):Array Value:=
 #[.int .i64 k,.int .i64 m,kids,.int .i64 r.loc,.string r.modn,.string r.name,.int .i64 r.label,.int .i64 r.size,p0,p1,p2,p3,p4,p5,.int .i64 lab,.int .i64 ctx]
def vX (r:nD):Prop:=r.modn.size≤maxLen∧r.name.size≤maxLen
def qY (w:World):Tr→Value→Prop
 | .mk k m l r lab ctx,v=>vX r∧∃ g a c p0 p1 p2 p3 p4 p5,v=.pointer (some ⟨g,0,none⟩)∧g<w.heap.size∧(∀ i,i<16→w.cell? ⟨g,i,none⟩=(jr k m (.slice a l.length c) r p0 p1 p2 p3 p4 p5 lab ctx)[i]?)∧l.length≤c∧c≤maxLen∧
   ∀ (j:Nat) (h:j<l.length),∃ b o u,a=some ⟨b,o,none⟩∧b<w.heap.size∧w.cell? ⟨b,o+j,none⟩=some u∧qY w l[j] u
 termination_by x=>SizeOf.sizeOf x
 decreasing_by exact Tr.lN k m l r lab ctx j h
def A7 (w:World) (b o:Nat) (x:Tr):Prop:=∃ u,w.cell? ⟨b,o,none⟩=some u∧qY w x u
theorem vM (w:World) (k m:Int) (l:List Tr) (r:nD) (lab ctx:Int) (v:Value):qY w (.mk k m l r lab ctx) v↔vX r∧∃ g a c p0 p1 p2 p3 p4 p5,v=.pointer (some ⟨g,0,none⟩)∧g<w.heap.size∧(∀ i,i<16→w.cell? ⟨g,i,none⟩=(jr k m (.slice a l.length c) r p0 p1 p2 p3 p4 p5 lab ctx)[i]?)∧l.length≤c∧c≤maxLen∧bC 1 A7 w a l:=by
 rw [qY]
 have e:(∀ (j:Nat) (h:j<l.length),∀ a:Option Addr,(∃ b o u,a=some ⟨b,o,none⟩∧b<w.heap.size∧w.cell? ⟨b,o+j,none⟩=some u∧qY w l[j] u)↔∃ b o,a=some ⟨b,o,none⟩∧b<w.heap.size∧A7 w b (o+j*1) l[j]):=by
  intro j h a;rw [Nat.mul_one];constructor
  ·rintro ⟨b,o,u,h1,h2,h3,h4⟩;exact⟨b,o,h1,h2,u,h3,h4⟩
  ·rintro ⟨b,o,h1,h2,u,h3,h4⟩;exact⟨b,o,u,h1,h2,h3,h4⟩
 constructor
 ·rintro ⟨h0,g,a,c,p0,p1,p2,p3,p4,p5,h1,h2,h3,h4,h5,h6⟩
  exact⟨h0,g,a,c,p0,p1,p2,p3,p4,p5,h1,h2,h3,h4,h5,fun j hj=>(e j hj a).1 (h6 j hj)⟩
 ·rintro ⟨h0,g,a,c,p0,p1,p2,p3,p4,p5,h1,h2,h3,h4,h5,h6⟩
  exact⟨h0,g,a,c,p0,p1,p2,p3,p4,p5,h1,h2,h3,h4,h5,fun j hj=>(e j hj a).2 (h6 j hj)⟩
theorem fV {w w':World} (hk:bV w w'):∀ x v,qY w x v→qY w' x v:=by
 refine QW fun k m l r b c ih v h=>?_
 rw [vM] at h ⊢;obtain⟨h0,g,a,c,p0,p1,p2,p3,p4,p5,h1,h2,h3,h4,h5,h6⟩:=h;refine⟨h0,g,a,c,p0,p1,p2,p3,p4,p5,h1,Nat.lt_of_lt_of_le h2 hk.1,fun i hi=>?_,h4,h5,fun j hj=>?_⟩
 ·have h7:=h3 i hi
  have e:∀ (cs:Array Value),cs.size=16→w.cell? ⟨g,i,none⟩=cs[i]?→w'.cell? ⟨g,i,none⟩=cs[i]?:=fun cs hs h=>by
   rw [Array.getElem?_eq_getElem (by omega)] at h ⊢;exact hk.2 _ _ h
  exact e _ rfl h7
 ·obtain⟨b,o,ea,hb,u,hu,ht⟩:=h6 j hj
  exact⟨b,o,ea,Nat.lt_of_lt_of_le hb hk.1,u,hk.2 _ _ hu,ih _ (List.getElem_mem hj) _ ht⟩
def AK (x:Tr) (v:Value) (w:World):Prop:=qY w x v∧∃ g,v=.pointer (some ⟨g,0,none⟩)
namespace chk
theorem bZ (x:Tr) (u:Value) (w w':World) (hk:bV w w') (h:AK x u w):AK x u w':=⟨fV hk _ _ h.1,h.2⟩
theorem rW (w:World) (b o:Nat) (x:Tr) (u:Value) (h:AK x u w) (_:u.cells.size=1) (hc:∀ i,i<1→w.cell? ⟨b,o+i,none⟩=u.cells[i]?):A7 w b o x:=by
 obtain⟨h1,g,rfl⟩:=h;exact⟨_,(hc 0 (by decide)).trans rfl,h1⟩
theorem kK {w w':World} (hk:bV w w') (b o:Nat) (x:Tr) (h:A7 w b o x):A7 w' b o x:=by
 obtain⟨u,h1,h2⟩:=h;exact⟨u,hk.2 _ _ h1,fV hk _ _ h2⟩
def xX (x:Loc) (v:Value) (_:World):Prop:=v=.agg #[.string x.name,.int .i64 x.label,.int .i64 x.deep]∧x.name.size≤10000
def Jy (w:World) (b o:Nat) (x:Loc):Prop:=w.cell? ⟨b,o,none⟩=some (.string x.name)∧w.cell? ⟨b,o+1,none⟩=some (.int .i64 x.label)∧w.cell? ⟨b,o+2,none⟩=some (.int .i64 x.deep)∧x.name.size≤10000
theorem gz (x:Loc) (u:Value) (w w':World) (_:bV w w') (h:xX x u w):xX x u w':=h
theorem FG (x:Loc) (u:Value) (w w':World) (h:xX x u w):xX x u w':=h
theorem AY (w:World) (b o:Nat) (x:Loc) (u:Value) (h:xX x u w) (_:u.cells.size=3) (hc:∀ i,i<3→w.cell? ⟨b,o+i,none⟩=u.cells[i]?):Jy w b o x:=by
 obtain⟨rfl,h2⟩:=h;exact⟨(hc 0 (by decide)).trans rfl,(hc 1 (by decide)).trans rfl,(hc 2 (by decide)).trans rfl,h2⟩
theorem mL {w w':World} (hk:bV w w') (b o:Nat) (x:Loc) (h:Jy w b o x):Jy w' b o x:=⟨hk.2 _ _ h.1,hk.2 _ _ h.2.1,hk.2 _ _ h.2.2.1,h.2.2.2⟩
def nG (c p:Int):List PanicEntry:=[{ v:=.iface 214 (.agg #[.int .i64 c,.int .i64 p]),recovered:=false }]
def qK (Mo K:Nat) (vl:Value) (deep at_:Int) (P:Nat):Array Value:=#[.pointer (some ⟨Mo,0,none⟩),.map (some K),vl,.int .i64 deep,.int .i64 at_,.pointer (some ⟨P,0,none⟩),.pointer none]
structure CS (W u:World) (C Mo D K P B:Nat) (E:dI) (vl:Value) (L:List Loc) (deep at_:Int) (cO dw:Value) (dc pc:Array Value):Prop where
 ext:Ext W u
 c:aC u C (qK Mo K vl deep at_ P) 221
 mo:aC u Mo #[.pointer (some ⟨D,0,none⟩),cO,dw] 125
 d:aC W D dc 128
 own:∃ v0 v1 v2 d3 d4 d5 d6 d7 d8,dc=#[v0,v1,v2,d3,d4,d5,d6,d7,d8]∧fE W E.own (.agg #[v0,v1,v2])
 k:∃ n,n≤E.known.length∧oN.nV W u K n E.known
 p:aC u P pc 297
 loc:Grow 3 340 xX B u vl L
 hC:W.heap.size≤C
 hM:W.heap.size≤Mo
 hK:W.heap.size≤K
 hP:W.heap.size≤P
 cB:C<B
 mB:Mo<B
 kB:K<B
 pB:P<B
 cM:C≠Mo
 cK:C≠K
 cP:C≠P
 mK:Mo≠K
 mP:Mo≠P
 kP:K≠P
 hu:B≤u.heap.size
open bu cG
theorem CS.extend {W u u':World} {C Mo D K P B:Nat} {E:dI} {vl:Value} {L:List Loc} {deep at_:Int} {cO dw:Value} {dc pc:Array Value} (h:CS W u C Mo D K P B E vl L deep at_ cO dw dc pc) (hE:Ext u u'):CS W u' C Mo D K P B E vl L deep at_ cO dw dc pc:=by
 obtain⟨n,hn,hk⟩:=h.k;exact⟨h.ext.ext hE,h.c.ext hE,h.mo.ext hE,h.d,h.own,⟨n,hn,hk.aK hE id⟩,h.p.ext hE,h.loc.aK gz hE (fun _ e=>e.elim),h.hC,h.hM,h.hK,h.hP,h.cB,h.mB,h.kB,h.pB,h.cM,h.cK,h.cP,h.mK,h.mP,h.kP,Nat.le_trans h.hu hE.size⟩
theorem CS.lQ {W u u':World} {C Mo D K P B:Nat} {E:dI} {vl:Value} {L:List Loc} {deep at_ deep' at':Int} {cO dw:Value} {dc pc:Array Value} (h:CS W u C Mo D K P B E vl L deep at_ cO dw dc pc) (hC:aB (fun i=>i=C) u u') (hc:aC u' C (qK Mo K vl deep' at' P) 221):CS W u' C Mo D K P B E vl L deep' at' cO dw dc pc:=by
 obtain⟨n,hn,hk⟩:=h.k;have h1:=h.hC;have h2:=h.cB;have h3:=h.cM;have h4:=h.cK;have h5:=h.cP
 exact⟨h.ext.trans hC (fun i hi e=>by omega),hc,h.mo.aK hC (fun e=>h3 e.symm),h.d,h.own,⟨n,hn,hk.aK hC (fun e=>h4 e.symm)⟩,h.p.aK hC (fun e=>h5 e.symm),h.loc.aK gz hC (fun i e=>by omega),h1,h.hM,h.hK,h.hP,h2,h.mB,h.kB,h.pB,h3,h4,h5,h.mK,h.mP,h.kP,Nat.le_trans h.hu hC.size⟩
end chk
end Go.Proofs.YtpcihajmcejliacGreatDoor
namespace Go.Proofs.YtpcihajmcejliacGreatDoor
open Go.RowKit
namespace chk
open bu cG
theorem wG (a b:Int) (w:World):Calls Tryz.prog 281 #[.int .i64 a,.int .i64 b] w fun e w'=>e=.returned (.int .i64 (iM a b))∧w'=w:=by
 by_cases ha:a=0
 ·subst ha
  by_cases hb:b=0
  ·subst hb
   go_enter Tryz.func281,Tryz.ntmps281
   go_wp2
   go_ret
   exact⟨by simp [iM],rfl⟩
  ·go_enter Tryz.func281,Tryz.ntmps281
   go_wp2
   go_ret
   exact⟨by simp [iM,hb],rfl⟩
 ·go_enter Tryz.func281,Tryz.ntmps281
  go_wp2
  go_ret
  exact⟨by simp [iM,ha],rfl⟩
theorem bM (c p:Int) (w:World):Calls Tryz.prog 109 #[.bool true,.int .i64 c,.int .i64 p] w fun e w'=>e=.returned (.tuple #[])∧w'=w:=by
 go_enter Tryz.func109,Tryz.ntmps109
 go_wp2_with fail
 go_end0
 exact⟨rfl,rfl⟩
set_option maxRecDepth 100000 in
theorem bY (c p:Int) (w:World):Calls Tryz.prog 109 #[.bool false,.int .i64 c,.int .i64 p] w fun e w'=>e=.panicked (nG c p)∧w'=w:=by
 go_enter Tryz.func109,Tryz.ntmps109
 go_wp2_with fail
 exact⟨rfl,rfl,rfl⟩
set_option maxRecDepth 100000 in
theorem next_any {u:World} {C Mo K P:Nat} {vl:Value} {deep at_:Int} (hc:aC u C (qK Mo K vl deep at_ P) 221) (h0:0≤at_) (h1:at_≤100000) :
  Calls Tryz.prog 108 #[.pointer (some ⟨C,0,none⟩)] u fun e u'=>e=.returned (.int .i64 at_)∧aB (fun i=>i=C) u u'∧aC u' C (qK Mo K vl deep (at_+1) P) 221:=by
 have HC:=Z_ hc;unfold qK at hc;have q:=hc.cell;have qf:=hc.frozen;have ql:=hc.lt;have hw:IntKind.i64.wrap (at_+1)=at_+1:=wrap_small _ (by omega) (by omega);have hw2:IntKind.i64.wrap (at_+1-1)=at_:=by rw [wrap_small _ (by omega) (by omega)];omega
 have hw3:at_+1-1=at_:=by omega
 clear hc;go_enter Tryz.func108,Tryz.ntmps108
 go_wp2_with fail
 go_ret
 exact⟨by first|rfl|(rw [hw3]),ai (aB.refl _ _) 4 _,HC.out.set 4 (.int .i64 (at_+1))⟩
theorem Gz {z:Int} {ls:List Int} {j:Nat} (h:j<ls.length):dW z (ls.take (j+1))=(dW z (ls.take j)&&(decide (z=1) || decide (ls[j]=0))):=by
 unfold dW;rw [List.take_succ_eq_append_getElem h,List.all_append];simp
theorem Jz {z:Int} {ls:List Int} {j:Nat} (h:j<ls.length) (hz:z≠1) (hl:ls[j]≠0):dW z ls=false:=by
 unfold dW;rw [List.all_eq_false];exact⟨ls[j],List.getElem_mem h,by simp [hz,hl]⟩
def jL (z:Int) (ls:List Int) (at_:Int) (w:World) (e:Ending) (w':World):Prop:=(dW z ls=true→e=.returned (.tuple #[]))∧(dW z ls=false→e=.panicked (nG 7 at_))∧w'=w
set_option maxRecDepth 100000 in
set_option maxHeartbeats 2000000 in
theorem jG (at_ z:Int) (a:Option Addr) (c:Nat) (ls:List Int) (w:World) (hl:bC 1 dJ w a ls) (hc:ls.length≤c) (hn:ls.length≤1000) :
  Calls Tryz.prog 283 #[.int .i64 at_,.int .i64 z,.slice a ls.length c] w (jL z ls at_ w):=by
 obtain⟨n,hn0⟩:∃ n,ls.length=n:=⟨_,rfl⟩;have HN:=Z_ hn0;rw [hn0] at hc hn ⊢;have HL:=Z_ hl;clear hl hn0;go_enter Tryz.func283,Tryz.ntmps283
 go_wp2_with fail
 go_loop [10] (fun i=>∃ k:Nat,k≤n∧i=.int .i64 k∧Hid (dW z (ls.take k)=true)) (fun i=>n-(intOf i).toNat)
 case atStart=>exact⟨0,Nat.zero_le _,rfl,Z_ rfl⟩
 case round=>
  obtain⟨k,hk,rfl,HF⟩:=hrel;by_cases hlt:k<n
  ·have hlk:k<ls.length:=by rw [HN.out];exact hlt
   have hki:(k:Int)<(n:Int):=by omega
   have hkd:decide ((k:Int)<(n:Int))=true:=by simpa using hki
   obtain⟨b,o,rfl,hb,hin⟩:=HL.out k hlk;unfold dJ at hin;rw [Nat.mul_one] at hin;have HS:=Z_ (Gz (z:=z) hlk);have pG:=Z_ (Jz (z:=z) hlk);generalize ls[k]=x at hin HS pG;by_cases hz:z=1
   ·subst hz
    have HT:=Z_ (show dW 1 (ls.take (k+1))=true by rw [HS.out,HF.out];rfl);go_wp2_with fail
    refine(bM 7 at_ _).mono ?_
    rintro e w2 ⟨rfl,rfl⟩;go_wp2_with fail
    go_round
    case rel=>exact⟨k+1,by omega,by go_num,HT⟩
    case measure=>simp [intOf];omega
   ·have hz1:(z == 1)=false:=by simpa using hz
    by_cases hx:x=0
    ·subst hx
     have HT:=Z_ (show dW z (ls.take (k+1))=true by rw [HS.out,HF.out];simp);go_wp2_with fail
     refine(bM 7 at_ _).mono ?_
     rintro e w2 ⟨rfl,rfl⟩;go_wp2_with fail
     go_round
     case rel=>exact⟨k+1,by omega,by go_num,HT⟩
     case measure=>simp [intOf];omega
    ·have hx1:(x == 0)=false:=by simpa using hx
     have HT:=Z_ (pG.out hz hx);clear hx hz;go_wp2_with fail
     refine(bY 7 at_ _).mono ?_
     rintro e w2 ⟨rfl,rfl⟩;go_wp2_with fail
     exact⟨rfl,fun h=>absurd (HT.out.symm.trans h) (by decide),fun _=>rfl,rfl⟩
  ·obtain rfl:k=n:=by omega
   have hkd:decide ((k:Int)<(k:Int))=false:=by simp
   have HT:=Z_ (show dW z ls=true by have h:=HF.out;rw [List.take_of_length_le (by rw [HN.out];exact Nat.le_refl _)] at h;exact h);go_wp2_with fail
   go_end0
   exact⟨fun _=>rfl,fun h=>absurd (HT.out.symm.trans h) (by decide),rfl⟩
theorem nR {w:World} {x:Tr} {v:Value} (h:qY w x v):∃ g a c p0 p1 p2 p3 p4 p5,v=.pointer (some ⟨g,0,none⟩)∧g<w.heap.size∧(∀ i,i<16→w.cell? ⟨g,i,none⟩=(jr x.kd x.nm (.slice a x.kids.length c) x.ref p0 p1 p2 p3 p4 p5 x.lab x.ctx)[i]?)∧x.kids.length≤c∧c≤maxLen∧bC 1 A7 w a x.kids:=by
 cases x
 rw [vM] at h;exact h.2
theorem zy {l:List Tr} (h:0<l.length):l.headD default=l[0]:=by
 cases l with
 | nil=>cases h
 | cons y r=>rfl
set_option maxRecDepth 100000 in
theorem qw (x:Tr) (v:Value) (w:World) (h:qY w x v) (hk:x.kd=17→0<x.kids.length) :
  Calls Tryz.prog 284 #[v] w fun e w'=>e=.returned (.int .i64 (iF x))∧w'=w:=by
 obtain⟨g,a,c,p0,p1,p2,p3,p4,p5,rfl,hg,hc,hl1,hl2,hK⟩:=nR h;have q0:w.cell? ⟨g,0,none⟩=some (.int .i64 x.kd):=hc 0 (by decide);have q2:w.cell? ⟨g,2,none⟩=some (.slice a x.kids.length c):=hc 2 (by decide);by_cases h17:x.kd=17
 ·have hpos:=hk h17
  obtain⟨b,o,rfl,hb,u,hu,ht⟩:=hK 0 hpos;obtain⟨g2,a2,c2,r0,r1,r2,r3,r4,r5,rfl,hg2,hc2,-,-,-⟩:=nR ht;have q14:w.cell? ⟨g2,14,none⟩=some (.int .i64 x.kids[0].lab):=hc2 14 (by decide);have HI:=Z_ (show iF x=x.kids[0].lab by unfold iF;rw [if_pos h17,zy hpos]);rw [HI.out];generalize x.kids[0].lab=z at *;rw [h17] at q0;rw [Nat.zero_mul,Nat.add_zero] at hu;obtain⟨n,hn⟩:∃ n,x.kids.length=n:=⟨_,rfl⟩;rw [hn] at q2 hl1 hpos;have hpi:(0:Int)<(n:Int):=by omega
  clear hc hc2 HI h17 hk ht hK hn h;go_enter Tryz.func284,Tryz.ntmps284
  go_wp2_with fail
  go_ret
  exact⟨rfl,rfl⟩
 ·have ai4:(x.kd == 17)=false:=by simpa using h17
  have HI:=Z_ (show iF x=0 by unfold iF;rw [if_neg h17]);rw [HI.out];generalize x.kd=z at *;clear hc HI hk hK h h17;go_enter Tryz.func284,Tryz.ntmps284
  go_wp2_with fail
  go_ret
  exact⟨rfl,rfl⟩
end chk
end Go.Proofs.YtpcihajmcejliacGreatDoor
namespace Go.Proofs.YtpcihajmcejliacGreatDoor
open Go.RowKit
namespace chk
open bu cG
theorem uH {P:Program} {fn:Func} {p m q:Tmp} {ty:TypeId} (h:fn.results=#[.cell p ty,.tmp m,.tmp q]) (tmps:Array Value) (w:World) {g:Nat} {T:TypeId} {cs:Array Value} {d:TypeDesc}
  (hp:tmps.getD p undef=.pointer (some ⟨g,0,none⟩)) (hg:aC w g cs T) (hu:P.underlying ty=some d) (hd:(match d with|.struct _|.array _ _=>true|_=>false)=true) (hi:(P.info? ty).map (·.size)=some cs.size)
  {v v2:Value} (hm:tmps.getD m undef=v) (hq:tmps.getD q undef=v2) :
  (results fn tmps).run P w=.ok (.tuple #[.agg cs,v,v2]) w:=by
 have hp':tmps[p]?.getD undef=.pointer (some ⟨g,0,none⟩):=by simpa using hp
 have hm':tmps[m]?.getD undef=v:=by simpa using hm
 have hq':tmps[q]?.getD undef=v2:=by simpa using hq
 simp [results,h,hp',hm',hq',asAddr,run_loadVar_row w g T ty cs (0,0) d hg hu hd hi]
theorem wH {w:World} {x:aQ} {v:Value} (h:fE w x v):∃ s a m i c d j,v=.agg #[.string s,.slice a m i,.slice c d j]:=by
 obtain⟨a,m,c,d,e,-⟩:=h;exact⟨_,_,_,_,_,_,_,e⟩
theorem JA (t:ByteArray) (ht:t.size≤10000):(⟨(Lib.cut t.data.toList [46]).1.toArray⟩:ByteArray).size≤maxLen:=by
 have h:(Lib.cut t.data.toList [46]).1.length≤t.data.toList.length:=by
  unfold Lib.cut;split<;>simp<;>omega
 have h2:t.data.toList.length=t.size:=by rw [Array.length_toList];rfl
 have h3:(⟨(Lib.cut t.data.toList [46]).1.toArray⟩:ByteArray).size=(Lib.cut t.data.toList [46]).1.length:=by show (Lib.cut t.data.toList [46]).1.toArray.size=_;simp
 rw [h3];unfold maxLen;omega
def JB (W u:World) (Q:aQ×ByteArray×Bool) (e:Ending) (u':World):Prop:=
 ∃ fv,e=.returned (.tuple #[fv,.string Q.2.1,.bool Q.2.2])∧fE W Q.1 fv∧Ext u u'
set_option maxRecDepth 100000 in
set_option maxHeartbeats 4000000 in
theorem AZ {W u:World} {C Mo D K P B:Nat} {E:dI} {vl:Value} {L:List Loc} {deep at_:Int} {cO dw:Value} {dc pc:Array Value} (h:CS W u C Mo D K P B E vl L deep at_ cO dw dc pc) (hmv:cE W) (t:ByteArray) (ht:t.size≤10000) :
  Calls Tryz.prog 365 #[.pointer (some ⟨C,0,none⟩),.string t] u (JB W u (kQ E t)):=by
 obtain⟨Q,hQ⟩:∃ Q,kQ E t=Q:=⟨_,rfl⟩;rw [hQ];unfold kQ at hQ;obtain⟨m,hm⟩:=hmv.ext h.ext;have VC:=Z_ (fun (w:World) (hE:Ext u w)=>Tryz.strings_Cut t ⟨#[46]⟩ m w (by omega) ((hE.cell (World.block_lt_of_cell? u _ hm) id).trans hm));obtain⟨CT,hCT⟩:∃ CT,Gs t=CT:=⟨_,rfl⟩;rw [hCT] at hQ;have HS:=Z_ (show (⟨(Lib.cut t.data.toList [46]).1.toArray⟩:ByteArray).size≤maxLen∧((⟨(Lib.cut t.data.toList [46]).1.toArray⟩:ByteArray),(⟨(Lib.cut t.data.toList [46]).2.1.toArray⟩:ByteArray),(Lib.cut t.data.toList [46]).2.2)=CT from⟨JA t ht,hCT⟩);clear hCT hm;obtain⟨s1,s2,two⟩:=CT;simp only at hQ;have HQ:=Z_ hQ;clear hQ;have HR:=Z_ (aC.made u #[.string ⟨#[]⟩,.slice none 0 0,.slice none 0 0] 37);have hE0:=(aB.refl (fun _=>False) u).alloc (.cells #[.string ⟨#[]⟩,.slice none 0 0,.slice none 0 0] 37)
 have HC:=Z_ (h.extend hE0);have HE:=Z_ hE0;obtain⟨R,hR⟩:∃ R,u.heap.size=R:=⟨_,rfl⟩;rw [hR] at HR;have Vq:=Z_ hR;clear hE0 h;go_enter Tryz.func365,Tryz.ntmps365
 go_upto_region 1 with (fail)
 try rw [hR]
 generalize u.alloc (.cells #[.string ⟨#[]⟩,.slice none 0 0,.slice none 0 0] 37)=u1 at *;clear hR;go_wp2_with fail
 refine(VC.out _ HE.out).mono ?_
 rintro e w' ⟨rfl,nq,rfl⟩;have hcut:=HS.out.2;injection hcut with hc1 hc2
 injection hc2 with hc2 hc3
 have hs1:=HS.out.1;replace hc1:(⟨(Lib.cut t.data.toList (ByteArray.mk #[46]).data.toList).1.toArray⟩:ByteArray)=s1:=hc1;replace hc2:(⟨(Lib.cut t.data.toList (ByteArray.mk #[46]).data.toList).2.1.toArray⟩:ByteArray)=s2:=hc2;replace hc3:(Lib.cut t.data.toList (ByteArray.mk #[46]).data.toList).2.2=two:=hc3;rw [hc1,hc2,hc3];replace hs1:s1.size≤maxLen:=hc1▸hs1
 have HC2:=Z_ (HC.out.extend ((aB.refl _ _).drewN nq));have HR2:=Z_ (HR.out.drewN nq);have lG:=Z_ (HE.out.drewN nq);clear hc1 hc2 hc3 HS VC HC HR HE;generalize u1.drewN nq=u2 at *;have hrc:=HR2.out.cell;have hrf:=HR2.out.frozen;have hrl:=HR2.out.lt;cases two with
 | false=>
  have hq:=HQ.out;rw [if_pos rfl] at hq;have hcc:=HC2.out.c.cell;unfold qK at hcc;have hmc:=HC2.out.mo.cell;obtain⟨v0,v1,v2,d3,d4,d5,d6,d7,d8,hdc,hown⟩:=HC2.out.own;have hdb:=HC2.out.d.ext HC2.out.ext;rw [hdc] at hdb;have hdcell:=hdb.cell;obtain⟨s9,a9,m9,i9,c9,d9,j9,e9⟩:=wH hown;injection e9 with e9
  injection e9 with e9
  injection e9 with e0 e9
  injection e9 with e1 e9
  injection e9 with e2 e9
  subst e0 e1 e2;have HOWN:=Z_ hown;have pI:=Z_ hq;clear hown hq HQ e9 hdb hdc;go_wp2_with fail
  have nU:=ai (ai (ai (S:=R) (aB.refl _ u2) 0 (.string s9)) 1 (.slice a9 m9 i9)) 2 (.slice c9 d9 j9);have Jm:=Z_ (((HR2.out.set 0 (.string s9)).set 1 (.slice a9 m9 i9)).set 2 (.slice c9 d9 j9));refine bodyPost_ret (uH rfl _ _ rfl Jm.out Tryz.underlying37 rfl (by kernel_rfl) rfl rfl) rfl ?_
  rw [←pI.out];exact⟨_,rfl,HOWN.out,lG.out.trans nU (fun i hi e=>by have:=Vq.out;omega)⟩
 | true=>
  have hq:=HQ.out;rw [if_neg (by decide)] at hq;obtain⟨n,hn,hk⟩:=HC2.out.k;obtain⟨fv,hlook,hfa⟩:=hk.look hs1;obtain⟨Jj,his⟩:∃ b,(bU E.known s1).isSome=b:=⟨_,rfl⟩;rw [his] at hlook hq;obtain⟨s9,a9,m9,i9,c9,d9,j9,rfl⟩:=wH hfa;have hcc:=HC2.out.c.cell;unfold qK at hcc;have HF:=Z_ hfa;have pI:=Z_ hq;clear hq HQ hfa hk hn his;have HT:=Z_ (HR2.out.alloc (.cells #[.string s9,.slice a9 m9 i9,.slice c9 d9 j9] 37));have HX:=Z_ (aC.made u2 #[.string s9,.slice a9 m9 i9,.slice c9 d9 j9] 37);have qW:=Z_ (lG.out.alloc (.cells #[.string s9,.slice a9 m9 i9,.slice c9 d9 j9] 37));go_upto_region 5 with (fail)
  obtain⟨X,hX⟩:∃ X,u2.heap.size=X:=⟨_,rfl⟩;rw [hX] at HX hrl
  try rw [hX]
  generalize u2.alloc (.cells #[.string s9,.slice a9 m9 i9,.slice c9 d9 j9] 37)=u3 at *;clear hX hrc hrf hcc hlook;have hrc:=HT.out.cell;have hrf:=HT.out.frozen;have hr3:=HT.out.lt;have mg:=HX.out.cell;go_wp2_with fail
  have nU:=ai (ai (ai (S:=R) (aB.refl _ u3) 0 (.string s9)) 1 (.slice a9 m9 i9)) 2 (.slice c9 d9 j9);have Jm:=Z_ (((HT.out.set 0 (.string s9)).set 1 (.slice a9 m9 i9)).set 2 (.slice c9 d9 j9));refine bodyPost_ret (uH rfl _ _ rfl Jm.out Tryz.underlying37 rfl (by kernel_rfl) rfl rfl) rfl ?_
  rw [←pI.out];exact⟨_,rfl,HF.out,qW.out.trans nU (fun i hi e=>by have:=Vq.out;omega)⟩
end chk
end Go.Proofs.YtpcihajmcejliacGreatDoor
