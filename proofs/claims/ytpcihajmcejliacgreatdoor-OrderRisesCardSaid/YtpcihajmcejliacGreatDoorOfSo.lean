/- All declarations of a module, as they are taken in: three rows that grow side by side, two maps. -/
import Derived.Test.YtpcihajmcejliacGreatDoorOfMo
import Derived.Test.YtpcihajmcejliacGreatDoorOrdMo
namespace Go.Proofs.YtpcihajmcejliacGreatDoor
open Go.RowKit
namespace cG
theorem kL {α : Type} {k:Nat} {E:TypeId} {V:α→Value→World→Prop} {B:Nat} {w w':World} {row:Value} {acc:List α} (h:Grow k E V B w row acc) (hV:∀ x u w w',V x u w→V x u w') {S:Nat→Prop} (hC:aB S w w') (hO:∀ i,row.ownBlock=some i→¬ S i):Grow k E V B w' row acc:=by
 obtain⟨us,h1,⟨h2,h4⟩,h3⟩:=h.ex;refine⟨us,h1,⟨h2,?_⟩,fun j hj hj'=>⟨hV _ _ _ _ (h3 j hj hj').1,(h3 j hj hj').2⟩⟩
 rcases h4 with h4|⟨g,cap,cur,hv,hg,hh,r⟩
 ·exact .inl h4
 ·refine .inr ⟨g,cap,cur,hv,hg,?_,r⟩
  rw [hC.block g (Array.getElem?_eq_some_iff.1 hh).1 (hO g (by rw [hv];rfl))];exact hh
theorem sU (x:ByteArray) (u:Value) (w w':World) (h:yz x u w):yz x u w':=h
theorem lF (x:eY) (u:Value) (w w':World) (h:wB x u w):wB x u w':=h
theorem nJ {α : Type} {k:Nat} {E:TypeId} {V:α→Value→World→Prop} {B:Nat} {w:World} {row:Value} {acc:List α} (h:Grow k E V B w row acc) (hV:∀ x u w w',V x u w→V x u w') (X:Nat→Bool):jk X k E V B w row acc:=by
 obtain⟨us,h1,h2,h3⟩:=h.ex;exact⟨us,h1,h2,fun j hj hj'=>⟨hV _ _ _ _ (h3 j hj hj').1,(h3 j hj hj').2⟩⟩
theorem zO {α : Type} {X:Nat→Bool} {k:Nat} {E:TypeId} {V:α→Value→World→Prop} {B:Nat} {w:World} {row:Value} {acc:List α} (h:jk X k E V B w row acc) (hV:∀ x u w w',V x u w→V x u w'):Grow k E V B w row acc:=by
 obtain⟨us,h1,h2,h3⟩:=h.ex;exact⟨us,h1,h2,fun j hj hj'=>⟨hV _ _ _ _ (h3 j hj hj').1,(h3 j hj hj').2⟩⟩
structure Three (B:Nat) (u:World) (rv rp ri:Value) (vs:List eY) (ps:List aI) (is:List ByteArray):Prop where
 gv:Grow 4 70 wB B u rv vs
 gi:Grow 1 9 yz B u ri is
 gp:jk (fun i=>ownB rv i || ownB ri i) 6 68 pO B u rp ps
 vp:∀ i,rv.ownBlock=some i→rp.ownBlock≠some i
 vi:∀ i,rv.ownBlock=some i→ri.ownBlock≠some i
 pi:∀ i,rp.ownBlock=some i→ri.ownBlock≠some i
theorem Three.nil (B:Nat) (u:World):Three B u (.slice none 0 0) (.slice none 0 0) (.slice none 0 0) [] [] []:=
 ⟨Grow.nil _ _ _ _ _,Grow.nil _ _ _ _ _,tX _ _ _ _ _ _,fun i e=>(by cases e),fun i e=>(by cases e),fun i e=>(by cases e)⟩
theorem Three.aK {B:Nat} {u u':World} {rv rp ri:Value} {vs:List eY} {ps:List aI} {is:List ByteArray} (h:Three B u rv rp ri vs ps is) {S:Nat→Prop} (hC:aB S u u') (hS:∀ i,S i→i<B):Three B u' rv rp ri vs ps is:=
 ⟨h.gv.aK gB hC hS,h.gi.aK iJ hC hS,eH h.gp gY hC (fun i hi=>.inl (hS i hi)) (fun i e hs=>by have:=bH h.gp i e;have:=hS i hs;omega) (fun i e=>.inl e),h.vp,h.vi,h.pi⟩
theorem Three.ext {B:Nat} {u u':World} {rv rp ri:Value} {vs:List eY} {ps:List aI} {is:List ByteArray} (h:Three B u rv rp ri vs ps is) (hE:Ext u u'):Three B u' rv rp ri vs ps is:=h.aK hE fun _ e=>e.elim
theorem Three.FC {B:Nat} {u u':World} {rv rp ri r:Value} {vs vs':List eY} {ps:List aI} {is:List ByteArray} (h:Three B u rv rp ri vs ps is) (hG:Grow 4 70 wB B u' r vs') (hC:aB (fun i=>rv.ownBlock=some i) u u') (ha:∀ i,r.ownBlock=some i→rv.ownBlock=some i∨u.heap.size≤i):Three B u' r rp ri vs' ps is:=by
 refine⟨hG,kL h.gi sU hC (fun i hi hs=>h.vi i hs hi),eH h.gp gY hC (fun i hi=>.inr (by simp [ownB,hi])) (fun i e hs=>h.vp i hs e) (fun i e=>?_),fun i hi e=>?_,fun i hi e=>?_,h.pi⟩
 ·simp only [Bool.or_eq_true,ownB,decide_eq_true_eq] at e ⊢
  rcases e with e|e
  ·rcases ha i e with e|e
   ·exact .inl (.inl e)
   ·exact .inr e
  ·exact .inl (.inr e)
 ·rcases ha i hi with h1|h1
  ·exact h.vp i h1 e
  ·have:=bH h.gp i e;omega
 ·rcases ha i hi with h1|h1
  ·exact h.vi i h1 e
  ·have:=bn h.gi i e;omega
theorem Three.Ju {B:Nat} {u u':World} {rv rp ri r:Value} {vs:List eY} {ps ps':List aI} {is:List ByteArray} (h:Three B u rv rp ri vs ps is) (hG:jk (fun i=>ownB rv i || ownB ri i) 6 68 pO B u' r ps') (hC:aB (fun i=>rp.ownBlock=some i) u u') (ha:∀ i,r.ownBlock=some i→rp.ownBlock=some i∨u.heap.size≤i):Three B u' rv r ri vs ps' is:=by
 refine⟨kL h.gv lF hC (fun i hi hs=>h.vp i hi hs),kL h.gi sU hC (fun i hi hs=>h.pi i hs hi),hG,fun i hi e=>?_,h.vi,fun i hi e=>?_⟩
 ·rcases ha i e with h1|h1
  ·exact h.vp i hi h1
  ·have:=bn h.gv i hi;omega
 ·rcases ha i hi with h1|h1
  ·exact h.pi i h1 e
  ·have:=bn h.gi i e;omega
theorem Three.Xt {B:Nat} {u u':World} {rv rp ri r:Value} {vs:List eY} {ps:List aI} {is is':List ByteArray} (h:Three B u rv rp ri vs ps is) (hG:Grow 1 9 yz B u' r is') (hC:aB (fun i=>ri.ownBlock=some i) u u') (ha:∀ i,r.ownBlock=some i→ri.ownBlock=some i∨u.heap.size≤i):Three B u' rv rp r vs ps is':=by
 refine⟨kL h.gv lF hC (fun i hi hs=>h.vi i hi hs),hG,eH h.gp gY hC (fun i hi=>.inr (by simp [ownB,hi])) (fun i e hs=>h.pi i e hs) (fun i e=>?_),h.vp,fun i hi e=>?_,fun i hi e=>?_⟩
 ·simp only [Bool.or_eq_true,ownB,decide_eq_true_eq] at e ⊢
  rcases e with e|e
  ·exact .inl (.inl e)
  ·rcases ha i e with e|e
   ·exact .inl (.inr e)
   ·exact .inr e
 ·rcases ha i e with h1|h1
  ·exact h.vi i hi h1
  ·have:=bn h.gv i hi;omega
 ·rcases ha i e with h1|h1
  ·exact h.pi i hi h1
  ·have:=bH h.gp i hi;omega
def eF {α : Type} (B:World→Value→Value→List α→Prop) (X:Nat→Bool) (V:α→Value→World→Prop) (base:Nat) (T:TypeId) (row:Value) (acc:List α) (x:α) (v:Value):List Value→World→Prop
 | [],u=>B u row row acc∧V x v (hide (fun i=>bg base row i || X i) u)
 | [s],u=>B u row row acc∧V x v (hide (fun i=>bg base row i || X i) u)∧∃ g,s=.slice (some ⟨g,0,none⟩) 1 1∧aC u g v.cells T∧row.ownBlock≠some g
 | [_,r],u=>B u row r (acc ++ [x])∧∃ g c,r=.slice (some ⟨g,0,none⟩) (acc.length+1) c
 | [_,r,_],u=>B u r r (acc ++ [x])
 | _,_=>False
theorem eF.B {α : Type} {B:World→Value→Value→List α→Prop} {X:Nat→Bool} {V:α→Value→World→Prop} {base:Nat} {T:TypeId} {row:Value} {acc:List α} {x:α} {v:Value} {vs:List Value} {u:World} (h:eF B X V base T row acc x v vs u) (hv:vs.length≤1):B u row row acc:=by
 match vs,hv,h with
 | [],_,h=>exact h.1
 | [_],_,h=>exact h.1
theorem eF.any {α : Type} {B:World→Value→Value→List α→Prop} {X:Nat→Bool} {V:α→Value→World→Prop} {base:Nat} {T:TypeId} {row:Value} {acc:List α} {x:α} {v:Value} {vs:List Value} {u:World} (h:eF B X V base T row acc x v vs u):∃ rN r l,B u rN r l:=by
 match vs,h with
 | [],h=>exact⟨_,_,_,h.1⟩
 | [_],h=>exact⟨_,_,_,h.1⟩
 | [_,_],h=>exact⟨_,_,_,h.1⟩
 | [_,_,_],h=>exact⟨_,_,_,h⟩
theorem fF {α : Type} {B:World→Value→Value→List α→Prop} {X:Nat→Bool} {V:α→Value→World→Prop} {base:Nat} {T:TypeId} {row:Value} {acc:List α} {x:α} {v:Value} {u:World} (hV:∀ x u w w',bV w w'→V x u w→V x u w') (hE:∀ u',Ext u u'→B u' row row acc)
  (hown:∀ i,row.ownBlock=some i→i<u.heap.size) (h:eF B X V base T row acc x v [] u) {c:Array Value} (hc:v.cells=c):eF B X V base T row acc x v [.slice (some ⟨u.heap.size,0,none⟩) 1 1] (u.alloc (.cells c T)):=by
 have hX:=(aB.refl (fun _=>False) u).alloc (.cells c T);exact⟨hE _ hX,hV _ _ _ _ (aH hX fun _ _ h=>h.elim) h.2,_,rfl,by rw [hc];exact aC.made _ _ _,fun e=>by have:=hown _ e;omega⟩
theorem eG {α : Type} {B:World→Value→Value→List α→Prop} {X:Nat→Bool} {V:α→Value→World→Prop} {base k:Nat} {T:TypeId} {row:Value} {acc:List α} {x:α} {v s:Value} {u u':World} {us:List Value} (hV:∀ x u w w',bV w w'→V x u w→V x u w')
  (h:eF B X V base T row acc x v [s] u) (hus:us.length=acc.length) (hu3:∀ j (h:j<acc.length) (h':j<us.length),V acc[j] us[j] (hide (fun i=>bg base row i || X i) u)∧us[j].cells.size=k) (hk:v.cells.size=k) {g c:Nat}
  (hM:∀ r tY,jk X k T V base u' r tY→aB (fun i=>row.ownBlock=some i) u u'→(∀ i,r.ownBlock=some i→row.ownBlock=some i∨u.heap.size≤i)→B u' row r tY)
  (ho:u'.ownsRow base T k (.slice (some ⟨g,0,none⟩) (acc.length+1) c) (acc.length+1) (us.flatMap (fun u=>u.cells.toList)++v.cells.toList)) (hg:u.grownBy u' row.ownBlock) (ha:row.ownBlock=some g∨g=u.heap.size) :
  eF B X V base T row acc x v [s,.slice (some ⟨g,0,none⟩) (acc.length+1) c] u':=by
 have hC:=uy hg
 have hgo:∀ i,(Value.slice (some ⟨g,0,none⟩) (acc.length+1) c).ownBlock=some i→row.ownBlock=some i∨u.heap.size≤i:=fun i e=>by
  have:g=i:=by simpa [Value.ownBlock] using e
  subst this;rcases ha with ha|ha
  ·exact .inl ha
  ·exact .inr (by omega)
 have hK:bV (hide (fun i=>bg base row i || X i) u) (hide (fun i=>bg base (.slice (some ⟨g,0,none⟩) (acc.length+1) c) i || X i) u'):=aT hC.size fun i hi hm=>by
  simp only [Bool.or_eq_false_iff,bg,decide_eq_false_iff_not] at hm ⊢;refine⟨⟨⟨hm.1.1,fun e=>?_⟩,hm.2⟩,hC.block i hi hm.1.2⟩
  rcases hgo i e with h|h
  ·exact hm.1.2 h
  ·omega
 refine⟨hM _ _ ⟨us ++ [v],by simp [hus],by simpa using ho,fun j hj hj'=>?_⟩ hC hgo,g,c,rfl⟩
 by_cases hl:j<acc.length
 ·have hl':j<us.length:=by omega
  rw [List.getElem_append_left hl,List.getElem_append_left hl'];obtain⟨h4,h5⟩:=hu3 j hl hl';exact⟨hV _ _ _ _ hK h4,h5⟩
 ·rw [List.length_append,List.length_singleton] at hj
  obtain rfl:j=acc.length:=by omega
  rw [List.getElem_append_right (Nat.le_refl _),List.getElem_append_right (by omega)];simp only [Nat.sub_self,hus,List.getElem_singleton];exact⟨hV _ _ _ _ hK h.2.1,hk⟩
theorem fG {α : Type} {B:World→Value→Value→List α→Prop} {X:Nat→Bool} {V:α→Value→World→Prop} {base:Nat} {T:TypeId} {row:Value} {acc:List α} {x:α} {v s r z:Value} {u u':World} (h:eF B X V base T row acc x v [s,r] u) (hS:B u row r (acc ++ [x])→B u' r r (acc ++ [x])) :
  eF B X V base T row acc x v [s,r,z] u':=hS h.1
end cG
structure DS (w u:World) (D Mn Ma B:Nat) (m:ByteArray) (n0 n1 n2 n3 oJ oK yA rv rp ri:Value) (vs:List eY) (ps:List aI) (is:List ByteArray) (L A:List (ByteArray×Int)):Prop where
 ext:Ext w u
 d:aC u D #[.string m,oJ,oK,n0,n1,n2,n3,yA,.map (some Ma)] 128
 nm:jf.iQ u Mn L
 am:jf.iQ u Ma A
 rows:cG.Three B u rv rp ri vs ps is
 hD:w.heap.size≤D
 hM:w.heap.size≤Mn
 hA:w.heap.size≤Ma
 Ih:D<B
 OV:Mn<B
 Qn:Ma<B
 dM:D≠Mn
 dA:D≠Ma
 mA:Mn≠Ma
 hu:B≤u.heap.size
open cG bu
theorem DS.extend {w u u':World} {D Mn Ma B:Nat} {m:ByteArray} {n0 n1 n2 n3 oJ oK yA rv rp ri:Value} {vs:List eY} {ps:List aI} {is:List ByteArray} {L A:List (ByteArray×Int)} (h:DS w u D Mn Ma B m n0 n1 n2 n3 oJ oK yA rv rp ri vs ps is L A) (hE:Ext u u'):DS w u' D Mn Ma B m n0 n1 n2 n3 oJ oK yA rv rp ri vs ps is L A:=
 ⟨h.ext.ext hE,h.d.ext hE,h.nm.aK hE id,h.am.aK hE id,h.rows.ext hE,h.hD,h.hM,h.hA,h.Ih,h.OV,h.Qn,h.dM,h.dA,h.mA,Nat.le_trans h.hu hE.size⟩
theorem DS.turn {w u u':World} {D Mn Ma B:Nat} {m:ByteArray} {n0 n1 n2 n3 oJ oK yA rv rp ri U4 U5 ri2:Value} {vs vs2:List eY} {ps ps2:List aI} {is ZR:List ByteArray} {L A:List (ByteArray×Int)} (h:DS w u D Mn Ma B m n0 n1 n2 n3 oJ oK yA rv rp ri vs ps is L A) {S:Nat→Prop} (hC:aB S u u') (hS:∀ i,S i→B≤i) (h2:Three B u' U4 U5 ri2 vs2 ps2 ZR):DS w u' D Mn Ma B m n0 n1 n2 n3 oJ oK yA U4 U5 ri2 vs2 ps2 ZR L A:=by
 have h3:=h.hD;have h4:=h.hM;have h5:=h.hA;have h6:=h.Ih;have h7:=h.OV;have h8:=h.Qn
 exact⟨h.ext.trans hC (fun i hi e=>by have:=hS i e;omega),h.d.aK hC (fun e=>by have:=hS _ e;omega),h.nm.aK hC (fun e=>by have:=hS _ e;omega),h.am.aK hC (fun e=>by have:=hS _ e;omega),h2,h3,h4,h5,h6,h7,h8,h.dM,h.dA,h.mA,Nat.le_trans h.hu hC.size⟩
theorem DS.NF {w u:World} {D Mn Ma B:Nat} {m:ByteArray} {n0 n1 n2 n3 oJ oK yA rv rp ri:Value} {vs:List eY} {ps:List aI} {is:List ByteArray} {L A:List (ByteArray×Int)} (h:DS w u D Mn Ma B m n0 n1 n2 n3 oJ oK yA rv rp ri vs ps is L A):DS w (u.setCell ⟨D,1,none⟩ rv) D Mn Ma B m n0 n1 n2 n3 rv oK yA rv rp ri vs ps is L A:=by
 have h3:=h.hD;have h4:=h.dM;have h5:=h.dA;have h6:=h.Ih
 have hC:=ai (S:=D) (aB.refl _ u) 1 rv;exact⟨h.ext.trans hC (fun i hi e=>by omega),by have:=h.d.set 1 rv;exact this,h.nm.aK hC (fun e=>h4 e.symm),h.am.aK hC (fun e=>h5 e.symm),h.rows.aK hC (fun i e=>by omega),h3,h.hM,h.hA,h6,h.OV,h.Qn,h4,h5,h.mA,Nat.le_trans h.hu hC.size⟩
theorem DS.Jv {w u:World} {D Mn Ma B:Nat} {m:ByteArray} {n0 n1 n2 n3 oJ oK yA rv rp ri:Value} {vs:List eY} {ps:List aI} {is:List ByteArray} {L A:List (ByteArray×Int)} (h:DS w u D Mn Ma B m n0 n1 n2 n3 oJ oK yA rv rp ri vs ps is L A):DS w (u.setCell ⟨D,2,none⟩ rp) D Mn Ma B m n0 n1 n2 n3 oJ rp yA rv rp ri vs ps is L A:=by
 have h3:=h.hD;have h4:=h.dM;have h5:=h.dA;have h6:=h.Ih
 have hC:=ai (S:=D) (aB.refl _ u) 2 rp;exact⟨h.ext.trans hC (fun i hi e=>by omega),by have:=h.d.set 2 rp;exact this,h.nm.aK hC (fun e=>h4 e.symm),h.am.aK hC (fun e=>h5 e.symm),h.rows.aK hC (fun i e=>by omega),h3,h.hM,h.hA,h6,h.OV,h.Qn,h4,h5,h.mA,Nat.le_trans h.hu hC.size⟩
theorem DS.af0 {w u:World} {D Mn Ma B:Nat} {m:ByteArray} {n0 n1 n2 n3 oJ oK yA rv rp ri:Value} {vs:List eY} {ps:List aI} {is:List ByteArray} {L A:List (ByteArray×Int)} (h:DS w u D Mn Ma B m n0 n1 n2 n3 oJ oK yA rv rp ri vs ps is L A):DS w (u.setCell ⟨D,7,none⟩ ri) D Mn Ma B m n0 n1 n2 n3 oJ oK ri rv rp ri vs ps is L A:=by
 have h3:=h.hD;have h4:=h.dM;have h5:=h.dA;have h6:=h.Ih
 have hC:=ai (S:=D) (aB.refl _ u) 7 ri;exact⟨h.ext.trans hC (fun i hi e=>by omega),by have:=h.d.set 7 ri;exact this,h.nm.aK hC (fun e=>h4 e.symm),h.am.aK hC (fun e=>h5 e.symm),h.rows.aK hC (fun i e=>by omega),h3,h.hM,h.hA,h6,h.OV,h.Qn,h4,h5,h.mA,Nat.le_trans h.hu hC.size⟩
theorem gU {w w':World} {b:Nat} (h:w.grownBy w' (some b)):aB (fun i=>i=b) w w':=
 ⟨h.os,h.tape,h.output,h.size,fun k hk hn=>h.block k hk (fun e=>hn (by cases e;rfl))⟩
theorem DS.name {w u u':World} {D Mn Ma B:Nat} {m:ByteArray} {n0 n1 n2 n3 oJ oK yA rv rp ri:Value} {vs:List eY} {ps:List aI} {is:List ByteArray} {L L2 A:List (ByteArray×Int)} (h:DS w u D Mn Ma B m n0 n1 n2 n3 oJ oK yA rv rp ri vs ps is L A) (hg:u.grownBy u' (some Mn)) (hm:jf.iQ u' Mn L2):DS w u' D Mn Ma B m n0 n1 n2 n3 oJ oK yA rv rp ri vs ps is L2 A:=by
 have hC:=gU hg;have h4:=h.hM;have h7:=h.OV;have h8:=h.mA
 exact⟨h.ext.trans hC (fun i hi e=>by omega),h.d.aK hC h.dM,hm,h.am.aK hC (fun e=>h8 e.symm),h.rows.aK hC (fun i e=>by omega),h.hD,h4,h.hA,h.Ih,h7,h.Qn,h.dM,h.dA,h8,Nat.le_trans h.hu hC.size⟩
theorem DS.imp {w u u':World} {D Mn Ma B:Nat} {m:ByteArray} {n0 n1 n2 n3 oJ oK yA rv rp ri:Value} {vs:List eY} {ps:List aI} {is:List ByteArray} {L A A2:List (ByteArray×Int)} (h:DS w u D Mn Ma B m n0 n1 n2 n3 oJ oK yA rv rp ri vs ps is L A) (hg:u.grownBy u' (some Ma)) (hm:jf.iQ u' Ma A2):DS w u' D Mn Ma B m n0 n1 n2 n3 oJ oK yA rv rp ri vs ps is L A2:=by
 have hC:=gU hg;have h4:=h.hA;have h7:=h.Qn;have h8:=h.mA
 exact⟨h.ext.trans hC (fun i hi e=>by omega),h.d.aK hC h.dA,h.nm.aK hC h8,hm,h.rows.aK hC (fun i e=>by omega),h.hD,h.hM,h4,h.Ih,h.OV,h7,h.dM,h.dA,h8,Nat.le_trans h.hu hC.size⟩
end Go.Proofs.YtpcihajmcejliacGreatDoor
