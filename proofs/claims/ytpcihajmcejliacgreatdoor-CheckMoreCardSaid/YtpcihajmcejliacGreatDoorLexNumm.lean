/- Small laws of my own on the model, of no program: a region that draws its order, told with 'drew'. Small laws of my own on worlds: what a call may have turned. Faces: how one lies in memory. Plain words for chapter 1: what num.Op, num.Join and the reference's come to. No program here. Objects, in plain Lean: their bytes. Objects as they lie in memory; how long what is written is: no program's walk. Worlds with some blocks hidden: what data says that lies apart from what a call turns; rows that a call makes out of such data. The walks of package lex: bytes, runs, blanks. The walks of scanner.run, at each function that it is handed. What package lex makes of a text, in plain Lean. The walk of scanner.blanks. Rows of digits, in plain Lean: how the library's reading of a number and the comparison with the greatest one agree. -/
import Derived.WalkKit
import Derived.WalkLawsBesides
import Derived.StillTailTactics
import Derived.Lib.Hide
import Derived.Deep.Light
import Derived.Deep.QuietTactic
import Derived.Laws.Concat
import Derived.Deep.OwnRows
import Derived.Test.YtpcihajmcejliacGreatDoorProg
import Derived.BigQuiet
import Derived.Lib.ParseIntB
import Derived.Lib.SlTrimSet
namespace Go.Proofs.YtpcihajmcejliacGreatDoor
open Go.RowKit
theorem Z_ {p:Prop} (h:p):Hid p:=h
theorem jJ {α : Type} {l:List α}:l.toArray.size=l.length:=List.size_toArray ..
theorem jK {α : Type} {a:α} {l:List α}:(a::l).length=l.length+1:=List.length_cons
theorem jL {α : Type}:([]:List α).length=0:=List.length_nil
theorem jM {α : Type} {l:List α} {i:Nat}:l.toArray[i]? = l[i]?:=List.getElem?_toArray ..
theorem jO {α : Type} {a:α} {l:List α} {i:Nat}:(a::l)[i+1]? = l[i]?:=List.getElem?_cons_succ ..
theorem jP {α : Type} {a:α} {l:List α}:(a::l)[0]? = some a:=List.getElem?_cons_zero ..
theorem jQ {α : Type} {l:List α} {i:Nat} {a:α}:l.toArray.setIfInBounds i a=(l.set i a).toArray:=List.setIfInBounds_toArray ..
theorem jR {α : Type} {a b:α} {l:List α} {i:Nat}:(a::l).set (i+1) b=a::l.set i b:=List.set_cons_succ ..
theorem jS {α : Type} {a b:α} {l:List α}:(a::l).set 0 b=b::l:=List.set_cons_zero ..
theorem D_ {n:Nat} {W:Nat→Bool} {R:Nat→Prop} (hd:∀ j,j<n→W j=true→R j) (j:Nat) (h:j<n:=by decide) (h2:W j=true:=by kernel_rfl):R j:=hd j h h2
theorem L0_ {α : Type} {l:List α} (h:l.length=0):l=[]:=List.eq_nil_of_length_eq_zero h
theorem L1_ {α : Type} {l:List α} (h:l.length=1):∃ a,l=[a]:=by match l,h with|[a],_=>exact⟨_,rfl⟩
theorem CV {α : Type} {l:List α} (h:l.length=2):∃ a b,l=[a,b]:=by match l,h with|[a,b],_=>exact⟨_,_,rfl⟩
theorem KR {α : Type} {l:List α} (h:l.length=3):∃ a b c,l=[a,b,c]:=by match l,h with|[a,b,c],_=>exact⟨_,_,_,rfl⟩
theorem xA {α : Type} {l:List α} (h:l.length=4):∃ a b c d,l=[a,b,c,d]:=by match l,h with|[a,b,c,d],_=>exact⟨_,_,_,_,rfl⟩
theorem kF {α : Type} {o:Option Nat} {l:List α} (hm:∀ m,o=some m→l.length=m) (h:o=some 0:=by kernel_rfl):l=[]:=L0_ (hm 0 h)
theorem lK {α : Type} {o:Option Nat} {l:List α} (hm:∀ m,o=some m→l.length=m) (h:o=some 1:=by kernel_rfl):∃ a,l=[a]:=L1_ (hm 1 h)
theorem qX {α : Type} {o:Option Nat} {l:List α} (hm:∀ m,o=some m→l.length=m) (h:o=some 2:=by kernel_rfl):∃ a b,l=[a,b]:=CV (hm 2 h)
theorem xy {α : Type} {o:Option Nat} {l:List α} (hm:∀ m,o=some m→l.length=m) (h:o=some 3:=by kernel_rfl):∃ a b c,l=[a,b,c]:=KR (hm 3 h)
theorem V4_ {α : Type} {o:Option Nat} {l:List α} (hm:∀ m,o=some m→l.length=m) (h:o=some 4:=by kernel_rfl):∃ a b c d,l=[a,b,c,d]:=xA (hm 4 h)
theorem bY {a b:Bool} (h:a=b):Ending.returned (.bool a)=.returned (.bool b):=by rw [h]
end Go.Proofs.YtpcihajmcejliacGreatDoor
namespace Go.Proofs.YtpcihajmcejliacGreatDoor
open Go.RowKit
structure aB (S:Nat→Prop) (w w':World):Prop where
 os:w'.os=w.os
 tape:w'.tape=w.tape
 output:w'.output=w.output
 size:w.heap.size≤w'.heap.size
 block:∀ k,k<w.heap.size→¬ S k→w'.heap[k]? = w.heap[k]?
abbrev Ext (w w':World):Prop:=aB (fun _=>False) w w'
theorem aB.refl (S:Nat→Prop) (w:World):aB S w w:=⟨rfl,rfl,rfl,Nat.le_refl _,fun _ _ _=>rfl⟩
theorem aB.trans {S:Nat→Prop} {a b c:World} (h:aB S a b) {S':Nat→Prop} (k:aB S' b c) (hs:∀ i,i<a.heap.size→S' i→S i):aB S a c:=
 ⟨k.os.trans h.os,k.tape.trans h.tape,k.output.trans h.output,Nat.le_trans h.size k.size,fun i hi hn=>(k.block i (Nat.lt_of_lt_of_le hi h.size) (fun h'=>hn (hs i hi h'))).trans (h.block i hi hn)⟩
theorem aB.then {S:Nat→Prop} {a b c:World} (h:aB S a b) (k:aB S b c):aB S a c:=h.trans k fun _ _ h=>h
theorem aB.ext {S:Nat→Prop} {a b c:World} (h:aB S a b) (k:Ext b c):aB S a c:=h.trans k fun _ _ h=>h.elim
theorem aB.weak {S S':Nat→Prop} {a b:World} (h:aB S a b) (hs:∀ i,i<a.heap.size→S i→S' i):aB S' a b:=(aB.refl S' a).trans h hs
theorem aB.drew {S:Nat→Prop} {a w:World} (h:aB S a w):aB S a w.drew:=⟨h.os,h.tape,h.output,h.size,h.block⟩
theorem aB.drewN {S:Nat→Prop} {a w:World} (h:aB S a w) (n:Nat):aB S a (w.drewN n):=⟨h.os,h.tape,h.output,h.size,h.block⟩
theorem aB.alloc {S:Nat→Prop} {a w:World} (h:aB S a w) (o:Obj):aB S a (w.alloc o):=
 h.ext ⟨rfl,rfl,rfl,by simp,fun k hk _=>Below.heap_alloc _ _ _ hk⟩
theorem aB.setCell {S:Nat→Prop} {a w:World} (h:aB S a w) {p:Addr} (hp:p.block<a.heap.size→S p.block) (u:Value):aB S a (w.setCell p u):=
 ⟨h.os,h.tape,h.output,by simpa [World.setCell] using h.size,fun k hk hn=>(Below.heap_setCell _ _ _ _ (fun e=>hn (by subst e;exact hp hk))).trans (h.block k hk hn)⟩
theorem aB.bI {S:Nat→Prop} {a w:World} (h:aB S a w) {p:Addr} (hp:a.heap.size≤p.block) (u:Value):aB S a (w.setCell p u):=h.setCell (fun h'=>absurd h' (by omega)) u
theorem Ext.below {a w:World} (h:Ext a w):Below a.heap.size a w:=⟨h.os,h.tape,h.output,h.size,fun k hk=>h.block k hk id⟩
theorem Below.nH {a w:World} (h:Below a.heap.size a w):Ext a w:=⟨h.os,h.tape,h.output,h.size,fun k hk _=>h.block k hk⟩
theorem aB.cell {S:Nat→Prop} {w w':World} (h:aB S w w') {p:Addr} (hp:p.block<w.heap.size) (hn:¬ S p.block):w'.cell? p=w.cell? p:=World.cell?_of_block (w:=w) (h.block p.block hp hn)
def aH (w:World) (b:Nat) (c:Array Value) (T:TypeId):Prop:=w.heap[b]? = some (.cells c T (0,0))
theorem aH.lt {w:World} {b:Nat} {c:Array Value} {T:TypeId} (h:aH w b c T):b<w.heap.size:=by
 unfold aH at h;rcases Nat.lt_or_ge b w.heap.size with h'|h'
 ·exact h'
 ·rw [Array.getElem?_eq_none h'] at h;cases h
theorem aH.cell {w:World} {b:Nat} {c:Array Value} {T:TypeId} (h:aH w b c T) (o:Nat):w.cell? ⟨b,o,none⟩=c[o]?:=by
 unfold aH at h;simp [World.cell?,h]
theorem aH.frozen {w:World} {b:Nat} {c:Array Value} {T:TypeId} (h:aH w b c T) (o:Nat):w.frozen? ⟨b,o,none⟩=false:=by
 unfold aH at h;simp [World.frozen?,h]
theorem aH.drew {w:World} {b:Nat} {c:Array Value} {T:TypeId} (h:aH w b c T):aH w.drew b c T:=h
theorem aH.drewN {w:World} {b:Nat} {c:Array Value} {T:TypeId} (h:aH w b c T) (n:Nat):aH (w.drewN n) b c T:=h
theorem aH.alloc {w:World} {b:Nat} {c:Array Value} {T:TypeId} (h:aH w b c T) (o:Obj):aH (w.alloc o) b c T:=(Below.heap_alloc _ _ _ h.lt).trans h
theorem aH.made (w:World) (c:Array Value) (T:TypeId):aH (w.alloc (.cells c T)) w.heap.size c T:=heap_alloc_new w _
theorem aH.made2 (w:World) (o:Obj) (c:Array Value) (T:TypeId):aH ((w.alloc o).alloc (.cells c T)) (w.heap.size+1) c T:=heap_alloc2_new w _ _
theorem aH.aO {S:Nat→Prop} {w w':World} {b:Nat} {c:Array Value} {T:TypeId} (h:aH w b c T) (hc:aB S w w') (hn:¬ S b):aH w' b c T:=(hc.block b h.lt hn).trans h
theorem aH.ext {w w':World} {b:Nat} {c:Array Value} {T:TypeId} (h:aH w b c T) (hc:Ext w w'):aH w' b c T:=h.aO hc id
theorem aH.setOther {w:World} {b:Nat} {c:Array Value} {T:TypeId} (h:aH w b c T) {p:Addr} (hp:b≠p.block) (u:Value):aH (w.setCell p u) b c T:=(Below.heap_setCell _ _ _ _ hp).trans h
theorem aH.set {w:World} {b:Nat} {c:Array Value} {T:TypeId} (h:aH w b c T) (o:Nat) (u:Value):aH (w.setCell ⟨b,o,none⟩ u) b (c.setIfInBounds o u) T:=by
 unfold aH at *;simp [World.setCell,Array.getElem?_modify,h]
theorem dm {P:Program} {fn:Func} {p q:Tmp} {ty:TypeId} (h:fn.results=#[.cell p ty,.tmp q]) (tmps:Array Value) (w:World) {g:Nat} {T:TypeId} {cs:Array Value} {d:TypeDesc}
  (hp:tmps.getD p undef=.pointer (some ⟨g,0,none⟩)) (hg:aH w g cs T) (hu:P.underlying ty=some d) (hd:(match d with|.struct _|.array _ _=>true|_=>false)=true) (hi:(P.info? ty).map (·.size)=some cs.size) :
  (results fn tmps).run P w=.ok (.tuple #[.agg cs,tmps.getD q undef]) w:=by
 have hp':tmps[p]?.getD undef=.pointer (some ⟨g,0,none⟩):=by simpa using hp
 simp [results,h,hp',asAddr,run_loadVar_row w g T ty cs (0,0) d hg hu hd hi]
theorem mO {P:Program} {fn:Func} {p q:Tmp} {ty:TypeId} (h:fn.results=#[.tmp q,.cell p ty]) (tmps:Array Value) (w:World) {g:Nat} {T:TypeId} {cs:Array Value} {d:TypeDesc}
  (hp:tmps.getD p undef=.pointer (some ⟨g,0,none⟩)) (hg:aH w g cs T) (hu:P.underlying ty=some d) (hd:(match d with|.struct _|.array _ _=>true|_=>false)=true) (hi:(P.info? ty).map (·.size)=some cs.size) :
  (results fn tmps).run P w=.ok (.tuple #[tmps.getD q undef,.agg cs]) w:=by
 have hp':tmps[p]?.getD undef=.pointer (some ⟨g,0,none⟩):=by simpa using hp
 simp [results,h,hp',asAddr,run_loadVar_row w g T ty cs (0,0) d hg hu hd hi]
theorem oI {P:Program} {f:FuncId} {args:Array Value} {v:Value} (c:∀ W:World,Calls P f args W fun e w'=>e=.returned v∧w'=W) (w:World) (a n:Nat) :
  Calls P f args (w.drewN (a+n)) fun e w''=>e=.returned v∧∃ m,w''=w.drewN (a+m):=
 (c _).mono fun _ _ ⟨he,hm⟩=>⟨he,n,hm⟩
theorem kE {w w':World} {base:Nat} {e:TypeId} {size:Nat} {v:Value} {n:Nat} {xs:List Value} {S:Nat→Prop} (h:w.ownsRow base e size v n xs) (hc:aB S w w') (hn:∀ k,base≤k→¬ S k):w'.ownsRow base e size v n xs:=by
 obtain⟨h1,h2⟩:=h;refine⟨h1,?_⟩
 rcases h2 with h2|⟨g,cap,cur,hv,hg,hh,r⟩
 ·exact .inl h2
 ·refine .inr ⟨g,cap,cur,hv,hg,?_,r⟩
  rw [hc.block g ?_ (hn g hg)]
  ·exact hh
  ·rcases Nat.lt_or_ge g w.heap.size with h'|h'
   ·exact h'
   ·rw [Array.getElem?_eq_none h'] at hh;cases hh
theorem lV {w w':World} {base:Nat} {e:TypeId} {size:Nat} {v:Value} {n:Nat} {xs:List Value} (h:w.ownsRow base e size v n xs) (hc:Ext w w'):w'.ownsRow base e size v n xs:=kE h hc fun _ _ h=>h
theorem tV {w:World} {base:Nat} {e:TypeId} {size:Nat} {v:Value} {n:Nat} {xs:List Value} (h:w.ownsRow base e size v n xs) {p:Addr} (hp:∀ k,v.ownBlock=some k→k≠p.block) (u:Value):(w.setCell p u).ownsRow base e size v n xs:=by
 obtain⟨h1,h2⟩:=h;refine⟨h1,?_⟩
 rcases h2 with h2|⟨g,cap,cur,hv,hg,hh,r⟩
 ·exact .inl h2
 ·refine .inr ⟨g,cap,cur,hv,hg,?_,r⟩
  rw [Below.heap_setCell _ _ _ _ (hp g (by rw [hv];rfl))];exact hh
theorem rG {P:Program} {w:World} {ops:Array Oper} {rest:List Oper} {o:Oper} {a:Act} {Q:Exit→Act→World→Prop} (hgd:o.guard=none) (s x:Operand) (t:TypeId)
  (ho:o.op=.call { callee:=.builtin .append,args:=#[s,x],argTypes:=#[t,t] })
  (base:Nat) (e:TypeId) (z:Value) (size bytes:Nat) (ht:P.underlying t=some (.slice e)) (hinfo:(P.info? e).map (fun i=>(i.zero,i.size,i.bytes))=some (some z,size,bytes))
  (hzs:z.cells.size=size) (hsz:0<size)
  (v:Value) (n:Nat) (xs:List Value) (hs:a.eval s=v) (hown:w.ownsRow base e size v n xs)
  (g m c:Nat) (T:TypeId) (news:List Value) (hx:a.eval x=.slice (some ⟨g,0,none⟩) m c) (hg:aH w g news.toArray T) (hl:news.length=m*size) (h1:∀ u∈news,u.oneCell'=true)
  (h63:n+m≤maxLen) (hbytes:(n+m)*bytes≤140737488355328) (hbase:base≤w.heap.size)
  (h:∀ v' w',w'.ownsRow base e size v' (n+m) (xs++news)→aB (fun k=>base≤k) w w'→(v'=.slice none 0 0↔v=.slice none 0 0∧m=0)→wpList P ops Q rest (a.put o.dst v') w'):wpList P ops Q (o::rest) a w:=by
 obtain⟨i0,hi,hz0,hz1,hz2⟩:=info_parts hinfo;refine wpList_append_own w hgd s x t ho base e i0 z size bytes ht hi hz0 hz1 hz2 hzs hsz v n xs hs hown ⟨g,0,none⟩ m c news hx hl ?_ h1 h63 hbytes hbase ?_
 ·intro j u hj
  have e:(⟨g,0,none⟩:Addr).add j=⟨g,j,none⟩:=by unfold Addr.add;split<;>simp_all
  rw [e,hg.cell];simpa using hj
 ·intro v' w' h2 h3 h4
  refine h v' w' h2 ⟨h3.os,h3.tape,h3.output,h3.size,fun k hk hn=>h3.block k hk ?_⟩ h4
  intro e;exact hn (hown.lt k e.symm).1
end Go.Proofs.YtpcihajmcejliacGreatDoor
namespace Go.Proofs.YtpcihajmcejliacGreatDoor
open Go.RowKit
structure fB where
 (name:ByteArray) (dX:Bool) (label size:Int)
structure aI where
 (name:ByteArray) (dX:Bool) (params:List Int) (writes:Int) (gives:Bool) (given:Int)
structure aN where
 (modn:ByteArray) (vars:List fB) (procs:List aI)
instance:Inhabited fB:=⟨⟨ByteArray.empty,false,0,0⟩⟩
instance:Inhabited aI:=⟨⟨ByteArray.empty,false,[],0,false,0⟩⟩
def bW {α : Type} (k:Nat) (In:World→Nat→Nat→α→Prop) (w:World) (a:Option Addr) (l:List α):Prop:=
 ∀ (j:Nat) (h:j<l.length),∃ b o,a=some ⟨b,o,none⟩∧b<w.heap.size∧In w b (o+j*k) l[j]
def gh (w:World) (b o:Nat) (x:Int):Prop:=w.cell? ⟨b,o,none⟩=some (.int .i64 x)
def h_ (w:World) (b o:Nat) (x:fB):Prop:=
 w.cell? ⟨b,o,none⟩=some (.string x.name)∧w.cell? ⟨b,o+1,none⟩=some (.bool x.dX)∧w.cell? ⟨b,o+2,none⟩=some (.int .i64 x.label)∧w.cell? ⟨b,o+3,none⟩=some (.int .i64 x.size)∧x.name.size≤maxLen
def dY (w:World) (b o:Nat) (x:aI):Prop:=
 w.cell? ⟨b,o,none⟩=some (.string x.name)∧w.cell? ⟨b,o+1,none⟩=some (.bool x.dX)∧(∃ a cap,w.cell? ⟨b,o+2,none⟩=some (.slice a x.params.length cap)∧bW 1 gh w a x.params∧x.params.length≤cap∧cap≤maxLen)∧
  w.cell? ⟨b,o+3,none⟩=some (.int .i64 x.writes)∧w.cell? ⟨b,o+4,none⟩=some (.bool x.gives)∧w.cell? ⟨b,o+5,none⟩=some (.int .i64 x.given)∧x.name.size≤maxLen
def eC (w:World) (x:aN) (v:Value):Prop:=
 ∃ a m c d,v=.agg #[.string x.modn,.slice a x.vars.length m,.slice c x.procs.length d]∧bW 4 h_ w a x.vars∧bW 6 dY w c x.procs∧x.modn.size≤maxLen∧x.vars.length≤m∧m≤maxLen∧x.procs.length≤d∧d≤maxLen
theorem bW.mono {α : Type} {k:Nat} {In:World→Nat→Nat→α→Prop} {w w':World} {a:Option Addr} {l:List α} (h:bW k In w a l) (hs:w.heap.size≤w'.heap.size)
  (hi:∀ b o x,b<w.heap.size→In w b o x→In w' b o x):bW k In w' a l:=fun j hj=>by
 obtain⟨b,o,e,hb,hin⟩:=h j hj;exact⟨b,o,e,by omega,hi _ _ _ hb hin⟩
theorem gh.ext {w w':World} (hE:Ext w w') {b o:Nat} {x:Int} (hb:b<w.heap.size) (h:gh w b o x):gh w' b o x:=by
 unfold gh at *;rw [hE.cell (by exact hb) id];exact h
theorem h_.ext {w w':World} (hE:Ext w w') {b o:Nat} {x:fB} (hb:b<w.heap.size) (h:h_ w b o x):h_ w' b o x:=by
 unfold h_ at *;rw [hE.cell (by exact hb) id,hE.cell (by exact hb) id,hE.cell (by exact hb) id,hE.cell (by exact hb) id];exact h
theorem dY.ext {w w':World} (hE:Ext w w') {b o:Nat} {x:aI} (hb:b<w.heap.size) (h:dY w b o x):dY w' b o x:=by
 obtain⟨h0,h1,⟨a,cap,h2,Oe,UU⟩,h3⟩:=h;refine⟨?_,?_,⟨a,cap,?_,Oe.mono hE.size fun _ _ _ hb h=>gh.ext hE hb h,UU⟩,?_⟩
 ·rw [hE.cell (by exact hb) id];exact h0
 ·rw [hE.cell (by exact hb) id];exact h1
 ·rw [hE.cell (by exact hb) id];exact h2
 ·rw [hE.cell (by exact hb) id,hE.cell (by exact hb) id,hE.cell (by exact hb) id];exact h3
theorem eC.ext {w w':World} (hE:Ext w w') {x:aN} {v:Value} (h:eC w x v):eC w' x v:=by
 obtain⟨a,m,c,d,rfl,h1,h2,h3⟩:=h;exact⟨a,m,c,d,rfl,h1.mono hE.size fun _ _ _ hb h=>h_.ext hE hb h,h2.mono hE.size fun _ _ _ hb h=>dY.ext hE hb h,h3⟩
end Go.Proofs.YtpcihajmcejliacGreatDoor
namespace Go.Proofs.YtpcihajmcejliacGreatDoor
open Go.RowKit
def iM (a b:Int):Int:=if a=0∧b=0 then 0 else 1
end Go.Proofs.YtpcihajmcejliacGreatDoor
namespace Go.Proofs.YtpcihajmcejliacGreatDoor
open Go.RowKit
instance:Inhabited aN:=⟨⟨ByteArray.empty,[],[]⟩⟩



namespace obj
end obj
end Go.Proofs.YtpcihajmcejliacGreatDoor
namespace Go.Proofs.YtpcihajmcejliacGreatDoor
open Go.RowKit
namespace obj
end obj
namespace obj
end obj
namespace obj
end obj
def iy (w:World) (b o:Nat) (x:aN):Prop:=
 ∃ a m c d,w.cell? ⟨b,o,none⟩=some (.string x.modn)∧w.cell? ⟨b,o+1,none⟩=some (.slice a x.vars.length m)∧w.cell? ⟨b,o+2,none⟩=some (.slice c x.procs.length d)∧eC w x (.agg #[.string x.modn,.slice a x.vars.length m,.slice c x.procs.length d])
theorem iy.ext {w w':World} (hE:Ext w w') {b o:Nat} {x:aN} (hb:b<w.heap.size) (h:iy w b o x):iy w' b o x:=by
 obtain⟨a,m,c,d,h0,h1,h2,h3⟩:=h;refine⟨a,m,c,d,?_,?_,?_,eC.ext hE h3⟩
 ·rw [hE.cell (by exact hb) id];exact h0
 ·rw [hE.cell (by exact hb) id];exact h1
 ·rw [hE.cell (by exact hb) id];exact h2
namespace obj
end obj
end Go.Proofs.YtpcihajmcejliacGreatDoor
namespace Go.Proofs.YtpcihajmcejliacGreatDoor
open Go.RowKit
def hide (M:Nat→Bool) (w:World):World:={ w with heap:=w.heap.mapIdx fun i o=>if M i then .cells #[] 0 else o }
theorem bK (M:Nat→Bool) (w:World):(hide M w).heap.size=w.heap.size:=by simp [hide]
theorem LP (M:Nat→Bool) (w:World) (i:Nat) (h:M i=false):(hide M w).heap[i]? = w.heap[i]?:=by
 simp [hide,h]
theorem qC (M:Nat→Bool) (w:World) (p:Addr) (h:M p.block=true):(hide M w).cell? p=none:=by
 unfold World.cell?;by_cases hp:p.block<w.heap.size
 ·simp [hide,h,hp]
 ·simp [hide,hp]
theorem fU (M:Nat→Bool) (w:World) (p:Addr) (h:M p.block=false):(hide M w).cell? p=w.cell? p:=World.cell?_of_block (LP M w p.block h)
def bZ (w w':World):Prop:=w.heap.size≤w'.heap.size∧∀ p u,w.cell? p=some u→w'.cell? p=some u
theorem bZ.trans {a b c:World} (h:bZ a b) (k:bZ b c):bZ a c:=⟨Nat.le_trans h.1 k.1,fun p u hp=>k.2 p u (h.2 p u hp)⟩
theorem aZ {M M':Nat→Bool} {w w':World} (hs:w.heap.size≤w'.heap.size) (h:∀ i,i<w.heap.size→M i=false→M' i=false∧w'.heap[i]? = w.heap[i]?):bZ (hide M w) (hide M' w'):=by
 refine⟨by rw [bK,bK];exact hs,fun p u hp=>?_⟩
 cases hM:M p.block with
 | true=>rw [qC M w p hM] at hp;cases hp
 | false=>
  rw [fU M w p hM] at hp;obtain⟨h1,h2⟩:=h p.block (World.block_lt_of_cell? w p hp) hM;rw [fU M' w' p h1,World.cell?_of_block h2];exact hp
theorem az (M:Nat→Bool) (w:World):bZ (hide M w) w:=⟨by rw [bK];exact Nat.le_refl _,fun p _ hp=>by
 cases hM:M p.block with
 | true=>rw [qC M w p hM] at hp;cases hp
 | false=>rw [fU M w p hM] at hp;exact hp⟩
theorem aC {M:Nat→Bool} {S:Nat→Prop} {w w':World} (h:aB S w w') (hS:∀ i,i<w.heap.size→S i→M i=true):bZ (hide M w) (hide M w'):=
 aZ h.size fun i hi hm=>⟨hm,h.block i hi fun hs=>by have:=hS i hi hs;rw [this] at hm;cases hm⟩
theorem Ext.keeps {w w':World} (h:Ext w w'):bZ w w':=⟨h.size,fun p _ hp=>(h.cell (World.block_lt_of_cell? w p hp) id).trans hp⟩
theorem bW.keeps {α : Type} {k:Nat} {In:World→Nat→Nat→α→Prop} {w w':World} {a:Option Addr} {l:List α} (h:bW k In w a l) (hk:bZ w w')
  (hi:∀ b o x,In w b o x→In w' b o x):bW k In w' a l:=fun j hj=>by
 obtain⟨b,o,e,hb,hin⟩:=h j hj;exact⟨b,o,e,Nat.lt_of_lt_of_le hb hk.1,hi _ _ _ hin⟩
theorem gh.keeps {w w':World} (h:bZ w w') {b o:Nat} {x:Int} (hx:gh w b o x):gh w' b o x:=h.2 _ _ hx
theorem h_.keeps {w w':World} (h:bZ w w') {b o:Nat} {x:fB} (hx:h_ w b o x):h_ w' b o x:=
 ⟨h.2 _ _ hx.1,h.2 _ _ hx.2.1,h.2 _ _ hx.2.2.1,h.2 _ _ hx.2.2.2.1,hx.2.2.2.2⟩
theorem dY.keeps {w w':World} (h:bZ w w') {b o:Nat} {x:aI} (hx:dY w b o x):dY w' b o x:=by
 obtain⟨h0,h1,⟨a,cap,h2,Oe,UU⟩,h3,h4,h5,h6⟩:=hx;exact⟨h.2 _ _ h0,h.2 _ _ h1,⟨a,cap,h.2 _ _ h2,Oe.keeps h fun _ _ _=>gh.keeps h,UU⟩,h.2 _ _ h3,h.2 _ _ h4,h.2 _ _ h5,h6⟩
theorem eC.keeps {w w':World} (hk:bZ w w') {x:aN} {v:Value} (h:eC w x v):eC w' x v:=by
 obtain⟨a,m,c,d,rfl,h1,h2,h3⟩:=h;exact⟨a,m,c,d,rfl,h1.keeps hk fun _ _ _=>h_.keeps hk,h2.keeps hk fun _ _ _=>dY.keeps hk,h3⟩
def kK {α : Type} (k:Nat) (In:World→Nat→Nat→α→Prop) (l:List α) (v:Value) (w:World):Prop:=∃ a c,v=.slice a l.length c∧l.length≤c∧c≤maxLen∧bW k In w a l
theorem kK.keeps {α : Type} {k:Nat} {In:World→Nat→Nat→α→Prop} {l:List α} {v:Value} {w w':World} (hi:∀ b o x,In w b o x→In w' b o x) (hk:bZ w w') (h:kK k In l v w):kK k In l v w':=by
 obtain⟨a,c,e,h1,h2,h3⟩:=h;exact⟨a,c,e,h1,h2,h3.keeps hk hi⟩
def below (B:Nat):Nat→Bool:=fun i=>decide (i<B)
def bM (B:Nat) (v:Value):Nat→Bool:=fun i=>decide (i<B) || decide (v.ownBlock=some i)
structure Grow {α : Type} (k:Nat) (E:TypeId) (V:α→Value→World→Prop) (B:Nat) (w:World) (v:Value) (l:List α):Prop where
 ex:∃ us:List Value,us.length=l.length∧w.ownsRow B E k v l.length (us.flatMap fun u=>u.cells.toList)∧∀ j (h:j<l.length) (h':j<us.length),V l[j] us[j] (hide (bM B v) w)∧us[j].cells.size=k
theorem Grow.nil {α : Type} (k:Nat) (E:TypeId) (V:α→Value→World→Prop) (B:Nat) (w:World):Grow k E V B w (.slice none 0 0) []:=
 ⟨[],rfl,World.ownsRow_nil _ _ _ _,fun j h=>by simp at h⟩
theorem Grow.aO {α : Type} {k:Nat} {E:TypeId} {V:α→Value→World→Prop} {B:Nat} {w w':World} {v:Value} {l:List α} (h:Grow k E V B w v l) (hV:∀ x u w w',bZ w w'→V x u w→V x u w')
  {S:Nat→Prop} (hc:aB S w w') (hS:∀ i,S i→i<B):Grow k E V B w' v l:=by
 obtain⟨us,h1,h2,h3⟩:=h.ex;refine⟨us,h1,kE h2 hc fun i hi hs=>by have:=hS i hs;omega,fun j hj hj'=>?_⟩
 obtain⟨h4,h5⟩:=h3 j hj hj';exact⟨hV _ _ _ _ (aC hc fun i _ hs=>by simp [bM,hS i hs]) h4,h5⟩
theorem Grow.push {α : Type} {k:Nat} {E:TypeId} {V:α→Value→World→Prop} {B:Nat} {w w':World} {v v':Value} {l:List α} {x:α} {u:Value} {us:List Value}
  (hV:∀ x u w w',bZ w w'→V x u w→V x u w')
  (h1:us.length=l.length) (h3:∀ j (h:j<l.length) (h':j<us.length),V l[j] us[j] (hide (bM B v) w)∧us[j].cells.size=k)
  (hu:V x u (hide (bM B v) w)) (huk:u.cells.size=k)
  (ho:w'.ownsRow B E k v' (l.length+1) (us.flatMap (fun u=>u.cells.toList)++u.cells.toList))
  (hs:w.heap.size≤w'.heap.size) (hb:∀ i,i<w.heap.size→v.ownBlock≠some i→w'.heap[i]? = w.heap[i]?)
  (hv:∀ i,v'.ownBlock=some i→v.ownBlock=some i∨w.heap.size≤i):Grow k E V B w' v' (l ++ [x]):=by
 have hk:bZ (hide (bM B v) w) (hide (bM B v') w'):=aZ hs fun i hi hm=>by
  simp only [bM,Bool.or_eq_false_iff,decide_eq_false_iff_not] at hm ⊢;refine⟨⟨hm.1,fun e=>?_⟩,hb i hi hm.2⟩
  rcases hv i e with h|h
  ·exact hm.2 h
  ·omega
 refine⟨us ++ [u],by simp [h1],by simpa using ho,fun j hj hj'=>?_⟩
 by_cases hl:j<l.length
 ·have hl':j<us.length:=by omega
  rw [List.getElem_append_left hl,List.getElem_append_left hl'];obtain⟨h4,h5⟩:=h3 j hl hl';exact⟨hV _ _ _ _ hk h4,h5⟩
 ·rw [List.length_append,List.length_singleton] at hj
  obtain rfl:j=l.length:=by omega
  rw [List.getElem_append_right (Nat.le_refl _),List.getElem_append_right (by omega)];simp only [Nat.sub_self,h1,List.getElem_singleton];exact⟨hV _ _ _ _ hk hu,huk⟩
theorem zh (k:Nat) (us:List Value) (hk:∀ u∈us,u.cells.size=k) (j:Nat) (hj:j<us.length) (i:Nat) (hi:i<k):(us.flatMap fun u=>u.cells.toList)[j*k+i]? = us[j].cells[i]?:=by
 induction us generalizing j with
 | nil=>simp at hj
 | cons u r ih=>
  have hu:u.cells.toList.length=k:=by rw [Array.length_toList];exact hk u (by simp)
  rw [List.flatMap_cons];cases j with
  | zero=>
   rw [Nat.zero_mul,Nat.zero_add,List.getElem?_append_left (by omega)];simp
  | succ j=>
   rw [Nat.succ_mul,List.getElem?_append_right (by omega),show j*k+k+i-u.cells.toList.length=j*k+i by omega];exact ih (fun u hu=>hk u (by simp [hu])) j (by simpa using hj)
theorem Grow.row {α : Type} {k:Nat} {E:TypeId} {V:α→Value→World→Prop} {In:World→Nat→Nat→α→Prop} {B:Nat} {w:World} {v:Value} {l:List α} (h:Grow k E V B w v l)
  (hV:∀ x u w w',bZ w w'→V x u w→V x u w')
  (hI:∀ (w:World) b o x u,V x u w→u.cells.size=k→(∀ i,i<k→w.cell? ⟨b,o+i,none⟩=u.cells[i]?)→In w b o x):kK k In l v (hide (below B) w):=by
 obtain⟨us,h1,h2,h3⟩:=h.ex;rcases h2.2 with ⟨rfl,h0⟩|⟨g,cap,cur,rfl,hB,hg,hc1,hc2,hc3,hc4⟩
 ·refine⟨none,0,by rw [h0],by omega,by decide,fun j hj=>by omega⟩
 ·refine⟨_,cap,rfl,hc1,hc2,fun j hj=>⟨g,0,rfl,?_,?_⟩⟩
  ·rw [bK];exact(Array.getElem?_eq_some_iff.1 hg).1
  ·have hj':j<us.length:=by omega
   obtain⟨h4,h5⟩:=h3 j hj hj';refine hI _ _ _ _ us[j] (hV _ _ _ _ (aZ (Nat.le_refl _) fun i hi hm=>?_) h4) h5 fun i hi=>?_
   ·simp only [bM,below,Bool.or_eq_false_iff,decide_eq_false_iff_not] at hm ⊢
    exact⟨hm.1,trivial⟩
   ·rw [fU _ _ _ (by simp [below];omega)]
    have hall:∀ u∈us,u.cells.size=k:=fun u hu=>by
     obtain⟨q,hq,rfl⟩:=List.getElem_of_mem hu;exact(h3 q (by omega) hq).2
    rw [←zh k us hall j hj' i hi,←hc4,List.getElem?_take,if_pos (by
     have:(j+1)*k≤l.length*k:=Nat.mul_le_mul_right _ (by omega);rw [Nat.succ_mul] at this;omega)]
    rw [cell_of_row w g _ cur E (0,0) hg];simp
end Go.Proofs.YtpcihajmcejliacGreatDoor
namespace Go.Proofs.YtpcihajmcejliacGreatDoor
open Go.RowKit
def iO (n:Int):Bool:=decide (97≤n∧n≤122∨65≤n∧n≤90)
def iK (n:Int):Bool:=decide (48≤n∧n≤57)
def dS (n:Int):Bool:=iO n || iK n || decide (n=95)
namespace lex
set_option maxHeartbeats 400000 in
theorem oh (n:Int) (w:World) :
  Calls Tryz.prog 167 #[.int .u8 n] w fun e w'=>e=.returned (.bool (iO n))∧w=w':=by
 generalize hR:iO n=R;have HR:=Z_ hR;clear hR;go_enter Tryz.func167,Tryz.ntmps167
 go_wp2
 all_goals go_ret
 all_goals exact⟨bY (by rw [←HR.out,iO,Bool.eq_iff_iff];simp;omega),rfl⟩
set_option maxHeartbeats 400000 in
theorem sU (n:Int) (w:World) :
  Calls Tryz.prog 169 #[.int .u8 n] w fun e w'=>e=.returned (.bool (iK n))∧w=w':=by
 generalize hR:iK n=R;have HR:=Z_ hR;clear hR;go_enter Tryz.func169,Tryz.ntmps169
 go_wp2
 all_goals go_ret
 all_goals exact⟨bY (by rw [←HR.out,iK,Bool.eq_iff_iff];simp;omega),rfl⟩
set_option maxHeartbeats 400000 in
theorem A7 (n:Int) (w:World) :
  Calls Tryz.prog 168 #[.int .u8 n] w fun e w'=>e=.returned (.bool (dS n))∧w=w':=by
 generalize hR:dS n=R;have HR:=Z_ hR;clear hR;obtain⟨L,hL⟩:∃ L,iO n=L:=⟨_,rfl⟩;obtain⟨D,hD⟩:∃ D,iK n=D:=⟨_,rfl⟩;have c1:=oh n;have c2:=sU n;rw [hL] at c1;rw [hD] at c2;have C1:=Z_ c1;have C2:=Z_ c2;have HL:=Z_ hL;have HD:=Z_ hD;clear c1 c2 hL hD;cases L<;>cases D
 all_goals
  go_enter Tryz.func168,Tryz.ntmps168
  go_wp2_with (first|(refine(C1.out _).mono ?_;rintro e w' ⟨rfl,rfl⟩)|(refine(C2.out _).mono ?_;rintro e w' ⟨rfl,rfl⟩))
  all_goals go_ret
  all_goals exact⟨bY (by rw [←HR.out,dS,HL.out,HD.out,Bool.eq_iff_iff];simp),rfl⟩
end lex
end Go.Proofs.YtpcihajmcejliacGreatDoor
namespace Go.Proofs.YtpcihajmcejliacGreatDoor
open Go.RowKit
def runN (p:Int→Bool) (l:List UInt8):Nat:=(l.takeWhile fun c=>p c.toNat).length
theorem zi (p:Int→Bool) (l:List UInt8):runN p l≤l.length:=by unfold runN;exact(List.takeWhile_sublist _).length_le
theorem nJ (p:Int→Bool) (s:ByteArray) (k:Nat) (h:k<s.size) (hp:p (s[k].toNat:Int)=true):runN p (s.data.toList.drop k)=1+runN p (s.data.toList.drop (k+1)):=by
 rw [List.drop_eq_getElem_cons (by simpa using h)];have e:s.data.toList[k]'(by simpa using h)=s[k]:=rfl;simp only [runN,List.takeWhile_cons,e,hp,if_true,List.length_cons];omega
theorem sV (p:Int→Bool) (s:ByteArray) (k:Nat) (h:k<s.size) (hp:p (s[k].toNat:Int)=false):runN p (s.data.toList.drop k)=0:=by
 rw [List.drop_eq_getElem_cons (by simpa using h)];have e:s.data.toList[k]'(by simpa using h)=s[k]:=rfl;simp [runN,e,hp]
theorem vS (p:Int→Bool) (s:ByteArray) (k:Nat) (h:s.size≤k):runN p (s.data.toList.drop k)=0:=by
 rw [List.drop_eq_nil_of_le (by simpa using h)];rfl
def dW (n:Int):Bool:=decide (n=32∨n=10)
def gz (n:Int):Bool:=decide (n≠10)
namespace lex
abbrev mX (w:World) (p:Nat) (s:ByteArray) (k:Nat) (c f:Int):Prop:=aH w p #[.string s,.int .i64 k,.int .i64 c,.int .i64 f] 193
theorem mX.step {w:World} {p:Nat} {s:ByteArray} {k:Nat} {c f:Int} (h:mX w p s k c f):mX (w.setCell ⟨p,1,none⟩ (.int .i64 (k+1))) p s (k+1) c f:=h.set 1 _
def zO (w:World) (p:Nat):Nat:=(intOf ((w.cell? ⟨p,1,none⟩).getD undef)).toNat
theorem mX.zO {w:World} {p:Nat} {s:ByteArray} {k:Nat} {c f:Int} (h:mX w p s k c f):zO w p=k:=by
 unfold lex.zO;rw [h.cell 1];simp [intOf]
set_option maxHeartbeats 400000 in
theorem xN (n:Int) (w:World) :
  Calls Tryz.prog 165 #[.int .u8 n] w fun e w'=>e=.returned (.bool (dW n))∧w=w':=by
 generalize hR:dW n=R;have HR:=Z_ hR;clear hR;go_enter Tryz.func165,Tryz.ntmps165
 go_wp2
 all_goals go_ret
 all_goals exact⟨bY (by rw [←HR.out,dW,Bool.eq_iff_iff];simp;try omega),rfl⟩
set_option maxHeartbeats 400000 in
theorem xO (n:Int) (w:World) :
  Calls Tryz.prog 166 #[.int .u8 n] w fun e w'=>e=.returned (.bool (gz n))∧w=w':=by
 generalize hR:gz n=R;have HR:=Z_ hR;clear hR;go_enter Tryz.func166,Tryz.ntmps166
 go_wp2
 all_goals go_ret
 all_goals exact⟨bY (by rw [←HR.out,gz,Bool.eq_iff_iff];simp),rfl⟩
set_option maxRecDepth 100000 in
set_option maxHeartbeats 1000000 in
theorem A8 (p:Nat) (s:ByteArray) (k0:Nat) (c f:Int) (w:World) (h:mX w p s k0 c f) (hk:k0≤s.size) (hs:s.size≤100000) :
  Calls Tryz.prog 164 #[.pointer (some ⟨p,0,none⟩),.func (.func 168) #[] #[]] w
   fun e w'=>e=.returned (.string (s.extract k0 (k0+runN dS (s.data.toList.drop k0))))∧mX w' p s (k0+runN dS (s.data.toList.drop k0)) c f∧aB (fun i=>i=p) w w':=by
 generalize hR:k0+runN dS (s.data.toList.drop k0)=R;have HR:=Z_ hR;clear hR;have c0:=h.cell 0;have c1:=h.cell 1;simp only [List.getElem?_toArray,List.getElem?_cons_zero,List.getElem?_cons_succ] at c0 c1;go_enter Tryz.func164,Tryz.ntmps164
 go_wp2_with fail
 clear c0 c1;go_loopw [] (fun wr=>∃ k:Nat,k0≤k∧k≤s.size∧mX wr p s k c f∧aB (fun i=>i=p) w wr∧Hid (k+runN dS (s.data.toList.drop k)=R)) (fun wr=>s.size-zO wr p)
 case atStart=>exact⟨k0,by omega,hk,h,aB.refl _ _,HR.out⟩
 case round=>
  obtain⟨k,hk0,hk1,hS,hC,hrel⟩:=hrel;have c0:=hS.cell 0;have c1:=hS.cell 1;have f1:=hS.frozen 1;simp only [List.getElem?_toArray,List.getElem?_cons_zero,List.getElem?_cons_succ] at c0 c1;by_cases hlt:k<s.size
  ·have hd:decide ((k:Int)<(s.size:Int))=true:=by simp;omega
   cases hb:dS (s[k].toNat:Int)
   ·have cc:=A7 (s[k].toNat:Int)
    rw [hb] at cc;have CC:=Z_ cc;have hr:=sV dS s k hlt hb;have hR:=hrel.out;rw [hr] at hR;have HR2:=Z_ hR;clear hb cc hr hR;go_wp2_with fail
    go_quiet ((go_at_call 168;exact Calls.quiet_of_same ((CC.out _).mono fun _ _ h=>⟨h.1,h.2.symm⟩)))
    go_wp2_with fail
    go_quiet (fail)
    go_wp2_with fail
    go_ret
    obtain rfl:k=R:=HR2.out;exact⟨rfl,(hS.drewN _).drewN _,(hC.drewN _).drewN _⟩
   ·have cc:=A7 (s[k].toNat:Int)
    rw [hb] at cc;have CC:=Z_ cc;have hr:=nJ dS s k hlt hb;have hR:=hrel.out;rw [hr] at hR;have HR2:=Z_ hR;clear hb cc hr hR;go_wp2_with fail
    go_quiet ((go_at_call 168;exact Calls.quiet_of_same ((CC.out _).mono fun _ _ h=>⟨h.1,h.2.symm⟩)))
    go_wp2_with fail
    go_roundw
    case rel=>exact⟨k+1,by omega,by omega,mX.step (hS.drewN _),(hC.drewN _).setCell (fun _=>rfl) _,by have:=HR2.out;unfold Hid;omega⟩
    case measure=>rw [mX.zO hS,mX.zO (mX.step (hS.drewN _))];omega
  ·have hd:decide ((k:Int)<(s.size:Int))=false:=by simp;omega
   have hr:=vS dS s k (by omega);have hR:=hrel.out;rw [hr] at hR;have HR2:=Z_ hR;clear hr hR;go_wp2_with fail
   go_quiet (fail)
   go_wp2_with fail
   go_quiet (fail)
   go_wp2_with fail
   go_ret
   obtain rfl:k=R:=HR2.out;exact⟨rfl,(hS.drewN _).drewN _,(hC.drewN _).drewN _⟩
set_option maxRecDepth 100000 in
set_option maxHeartbeats 1000000 in
theorem FZ (p:Nat) (s:ByteArray) (k0:Nat) (c f:Int) (w:World) (h:mX w p s k0 c f) (hk:k0≤s.size) (hs:s.size≤100000) :
  Calls Tryz.prog 164 #[.pointer (some ⟨p,0,none⟩),.func (.func 165) #[] #[]] w
   fun e w'=>e=.returned (.string (s.extract k0 (k0+runN dW (s.data.toList.drop k0))))∧mX w' p s (k0+runN dW (s.data.toList.drop k0)) c f∧aB (fun i=>i=p) w w':=by
 generalize hR:k0+runN dW (s.data.toList.drop k0)=R;have HR:=Z_ hR;clear hR;have c0:=h.cell 0;have c1:=h.cell 1;simp only [List.getElem?_toArray,List.getElem?_cons_zero,List.getElem?_cons_succ] at c0 c1;go_enter Tryz.func164,Tryz.ntmps164
 go_wp2_with fail
 clear c0 c1;go_loopw [] (fun wr=>∃ k:Nat,k0≤k∧k≤s.size∧mX wr p s k c f∧aB (fun i=>i=p) w wr∧Hid (k+runN dW (s.data.toList.drop k)=R)) (fun wr=>s.size-zO wr p)
 case atStart=>exact⟨k0,by omega,hk,h,aB.refl _ _,HR.out⟩
 case round=>
  obtain⟨k,hk0,hk1,hS,hC,hrel⟩:=hrel;have c0:=hS.cell 0;have c1:=hS.cell 1;have f1:=hS.frozen 1;simp only [List.getElem?_toArray,List.getElem?_cons_zero,List.getElem?_cons_succ] at c0 c1;by_cases hlt:k<s.size
  ·have hd:decide ((k:Int)<(s.size:Int))=true:=by simp;omega
   cases hb:dW (s[k].toNat:Int)
   ·have cc:=xN (s[k].toNat:Int)
    rw [hb] at cc;have CC:=Z_ cc;have hr:=sV dW s k hlt hb;have hR:=hrel.out;rw [hr] at hR;have HR2:=Z_ hR;clear hb cc hr hR;go_wp2_with fail
    go_quiet ((go_at_call 165;exact Calls.quiet_of_same ((CC.out _).mono fun _ _ h=>⟨h.1,h.2.symm⟩)))
    go_wp2_with fail
    go_quiet (fail)
    go_wp2_with fail
    go_ret
    obtain rfl:k=R:=HR2.out;exact⟨rfl,(hS.drewN _).drewN _,(hC.drewN _).drewN _⟩
   ·have cc:=xN (s[k].toNat:Int)
    rw [hb] at cc;have CC:=Z_ cc;have hr:=nJ dW s k hlt hb;have hR:=hrel.out;rw [hr] at hR;have HR2:=Z_ hR;clear hb cc hr hR;go_wp2_with fail
    go_quiet ((go_at_call 165;exact Calls.quiet_of_same ((CC.out _).mono fun _ _ h=>⟨h.1,h.2.symm⟩)))
    go_wp2_with fail
    go_roundw
    case rel=>exact⟨k+1,by omega,by omega,mX.step (hS.drewN _),(hC.drewN _).setCell (fun _=>rfl) _,by have:=HR2.out;unfold Hid;omega⟩
    case measure=>rw [mX.zO hS,mX.zO (mX.step (hS.drewN _))];omega
  ·have hd:decide ((k:Int)<(s.size:Int))=false:=by simp;omega
   have hr:=vS dW s k (by omega);have hR:=hrel.out;rw [hr] at hR;have HR2:=Z_ hR;clear hr hR;go_wp2_with fail
   go_quiet (fail)
   go_wp2_with fail
   go_quiet (fail)
   go_wp2_with fail
   go_ret
   obtain rfl:k=R:=HR2.out;exact⟨rfl,(hS.drewN _).drewN _,(hC.drewN _).drewN _⟩
set_option maxRecDepth 100000 in
set_option maxHeartbeats 1000000 in
theorem F5 (p:Nat) (s:ByteArray) (k0:Nat) (c f:Int) (w:World) (h:mX w p s k0 c f) (hk:k0≤s.size) (hs:s.size≤100000) :
  Calls Tryz.prog 164 #[.pointer (some ⟨p,0,none⟩),.func (.func 166) #[] #[]] w
   fun e w'=>e=.returned (.string (s.extract k0 (k0+runN gz (s.data.toList.drop k0))))∧mX w' p s (k0+runN gz (s.data.toList.drop k0)) c f∧aB (fun i=>i=p) w w':=by
 generalize hR:k0+runN gz (s.data.toList.drop k0)=R;have HR:=Z_ hR;clear hR;have c0:=h.cell 0;have c1:=h.cell 1;simp only [List.getElem?_toArray,List.getElem?_cons_zero,List.getElem?_cons_succ] at c0 c1;go_enter Tryz.func164,Tryz.ntmps164
 go_wp2_with fail
 clear c0 c1;go_loopw [] (fun wr=>∃ k:Nat,k0≤k∧k≤s.size∧mX wr p s k c f∧aB (fun i=>i=p) w wr∧Hid (k+runN gz (s.data.toList.drop k)=R)) (fun wr=>s.size-zO wr p)
 case atStart=>exact⟨k0,by omega,hk,h,aB.refl _ _,HR.out⟩
 case round=>
  obtain⟨k,hk0,hk1,hS,hC,hrel⟩:=hrel;have c0:=hS.cell 0;have c1:=hS.cell 1;have f1:=hS.frozen 1;simp only [List.getElem?_toArray,List.getElem?_cons_zero,List.getElem?_cons_succ] at c0 c1;by_cases hlt:k<s.size
  ·have hd:decide ((k:Int)<(s.size:Int))=true:=by simp;omega
   cases hb:gz (s[k].toNat:Int)
   ·have cc:=xO (s[k].toNat:Int)
    rw [hb] at cc;have CC:=Z_ cc;have hr:=sV gz s k hlt hb;have hR:=hrel.out;rw [hr] at hR;have HR2:=Z_ hR;clear hb cc hr hR;go_wp2_with fail
    go_quiet ((go_at_call 166;exact Calls.quiet_of_same ((CC.out _).mono fun _ _ h=>⟨h.1,h.2.symm⟩)))
    go_wp2_with fail
    go_quiet (fail)
    go_wp2_with fail
    go_ret
    obtain rfl:k=R:=HR2.out;exact⟨rfl,(hS.drewN _).drewN _,(hC.drewN _).drewN _⟩
   ·have cc:=xO (s[k].toNat:Int)
    rw [hb] at cc;have CC:=Z_ cc;have hr:=nJ gz s k hlt hb;have hR:=hrel.out;rw [hr] at hR;have HR2:=Z_ hR;clear hb cc hr hR;go_wp2_with fail
    go_quiet ((go_at_call 166;exact Calls.quiet_of_same ((CC.out _).mono fun _ _ h=>⟨h.1,h.2.symm⟩)))
    go_wp2_with fail
    go_roundw
    case rel=>exact⟨k+1,by omega,by omega,mX.step (hS.drewN _),(hC.drewN _).setCell (fun _=>rfl) _,by have:=HR2.out;unfold Hid;omega⟩
    case measure=>rw [mX.zO hS,mX.zO (mX.step (hS.drewN _))];omega
  ·have hd:decide ((k:Int)<(s.size:Int))=false:=by simp;omega
   have hr:=vS gz s k (by omega);have hR:=hrel.out;rw [hr] at hR;have HR2:=Z_ hR;clear hr hR;go_wp2_with fail
   go_quiet (fail)
   go_wp2_with fail
   go_quiet (fail)
   go_wp2_with fail
   go_ret
   obtain rfl:k=R:=HR2.out;exact⟨rfl,(hS.drewN _).drewN _,(hC.drewN _).drewN _⟩
end lex
end Go.Proofs.YtpcihajmcejliacGreatDoor
namespace Go.Proofs.YtpcihajmcejliacGreatDoor
open Go.RowKit
def fC:Bool→List UInt8→Nat
 | _,[]=>0
 | false,c::r=>if c=32∨c=10 then 1+fC false r else if c=35 then 1+fC true r else 0
 | true,c::r=>if c=10 then 1+fC false r else 1+fC true r
theorem En (l:List UInt8):∀ b,fC b l≤l.length:=by
 induction l with
 | nil=>intro b;cases b<;>simp [fC]
 | cons c r ih=>
  intro b;have h1:=ih true;have h2:=ih false;cases b<;>simp only [fC,List.length_cons]<;>repeat' split
  all_goals omega
theorem vT (c d:UInt8):((c.toNat:Int)=d.toNat)↔c=d:=by
 constructor
 ·intro h;exact UInt8.toNat_inj.1 (by omega)
 ·intro h;rw [h]
theorem vU (c:UInt8):dW c.toNat=true↔c=32∨c=10:=by
 have h1:=vT c 32;have h2:=vT c 10;simp only [dW,decide_eq_true_eq];exact or_congr h1 h2
theorem vV (c:UInt8):gz c.toNat=true↔¬ c=10:=by
 have h2:=vT c 10;simp only [gz,decide_eq_true_eq];exact not_congr h2
theorem A_ (l:List UInt8):fC false l=runN dW l+fC false (l.drop (runN dW l)):=by
 induction l with
 | nil=>simp [fC,runN]
 | cons c r ih=>
  by_cases h:dW c.toNat=true
  ·have e:runN dW (c::r)=runN dW r+1:=by simp [runN,h]
   have h':=(vU c).1 h;rw [e,List.drop_succ_cons];simp only [fC,if_pos h'];omega
  ·have e:runN dW (c::r)=0:=by simp [runN,h]
   rw [e];simp
theorem Ba (l:List UInt8):fC true l=runN gz l+fC false (l.drop (runN gz l)):=by
 induction l with
 | nil=>simp [fC,runN]
 | cons c r ih=>
  by_cases h:gz c.toNat=true
  ·have e:runN gz (c::r)=runN gz r+1:=by simp [runN,h]
   have h':=(vV c).1 h;rw [e,List.drop_succ_cons];simp only [fC,if_neg h'];omega
  ·have e:runN gz (c::r)=0:=by simp [runN,h]
   have h':c=10:=by
    cases Decidable.em (c=10) with
    | inl h0=>exact h0
    | inr h0=>exact absurd ((vV c).2 h0) h
   subst h';rw [e];simp [fC]
theorem F6 (r:List UInt8):fC false (35::r)=fC true (35::r):=by simp [fC]
theorem xP (c:UInt8) (r:List UInt8) (h:¬ (c=32∨c=10)) (h':c≠35):fC false (c::r)=0:=by
 simp only [fC,if_neg h,if_neg h']
end Go.Proofs.YtpcihajmcejliacGreatDoor
namespace Go.Proofs.YtpcihajmcejliacGreatDoor
open Go.RowKit
namespace lex
theorem drop_cons (s:ByteArray) (k:Nat) (h:k<s.size):s.data.toList.drop k=s[k]::s.data.toList.drop (k+1):=by
 rw [List.drop_eq_getElem_cons (by simpa using h)];rfl
theorem pX (p:Int→Bool) (s:ByteArray) (k:Nat) (h:k≤s.size):k+runN p (s.data.toList.drop k)≤s.size:=by
 have:=zi p (s.data.toList.drop k);simp only [List.length_drop,Array.length_toList] at this;have e:s.data.size=s.size:=rfl;omega
theorem vW (s:ByteArray) (k k1:Nat) (hk:k+runN dW (s.data.toList.drop k)=k1) (h:k1<s.size):¬ dW (s[k1].toNat)=true:=by
 subst hk
 have key:∀ (l:List UInt8) (h:runN dW l<l.length),¬ dW (l[runN dW l].toNat)=true:=by
  intro l;induction l with
  | nil=>intro h;simp [runN] at h
  | cons c r ih=>
   intro h;by_cases hc:dW c.toNat=true
   ·have e:runN dW (c::r)=runN dW r+1:=by simp [runN,hc]
    simp only [e,List.getElem_cons_succ];exact ih (by simp only [e,List.length_cons] at h;omega)
   ·have e:runN dW (c::r)=0:=by simp [runN,hc]
    simpa only [e,List.getElem_cons_zero] using hc
 have h2:=key (s.data.toList.drop k) (by simp only [List.length_drop,Array.length_toList];have e:s.data.size=s.size:=rfl;omega);simp only [List.getElem_drop] at h2;exact h2
set_option maxRecDepth 100000 in
set_option maxHeartbeats 1000000 in
theorem vX (p:Nat) (s:ByteArray) (k0:Nat) (c f:Int) (w:World) (h:mX w p s k0 c f) (hk:k0≤s.size) (hs:s.size≤100000) :
  Calls Tryz.prog 92 #[.pointer (some ⟨p,0,none⟩)] w
   fun e w'=>e=.returned (.tuple #[])∧mX w' p s (k0+fC false (s.data.toList.drop k0)) c f∧aB (fun i=>i=p) w w':=by
 generalize hR:k0+fC false (s.data.toList.drop k0)=R;have HR:=Z_ hR;clear hR;go_enter Tryz.func92,Tryz.ntmps92
 go_wp2_with fail
 go_loopw [] (fun wr=>∃ k:Nat,k≤s.size∧mX wr p s k c f∧aB (fun i=>i=p) w wr∧Hid (k+fC false (s.data.toList.drop k)=R)) (fun wr=>s.size-zO wr p)
 case atStart=>exact⟨k0,hk,h,aB.refl _ _,HR.out⟩
 case round=>
  obtain⟨k,hk1,hS,hC,hrel⟩:=hrel;have hm:=mX.zO hS;have HM:=Z_ hm;clear hm;go_wp2_with fail
  refine(FZ p s k c f _ hS hk1 hs).mono ?_
  rintro e w1 ⟨rfl,hS1,Dq⟩;have hle:=pX dW s k hk1;have hsk:=A_ (s.data.toList.drop k);rw [List.drop_drop] at hsk;have hR1:=hrel.out;rw [hsk,←Nat.add_assoc] at hR1;have hge:k≤k+runN dW (s.data.toList.drop k):=by omega
  obtain⟨k1,Qg⟩:∃ k1,k+runN dW (s.data.toList.drop k)=k1:=⟨_,rfl⟩;have hnb:=vW s k k1 Qg;simp only [Qg] at hS1 hle hR1 hge ⊢;have HR1:=Z_ hR1;have HN:=Z_ hnb;clear hR1 hsk hnb Qg;have c0:=hS1.cell 0;have c1:=hS1.cell 1;simp only [List.getElem?_toArray,List.getElem?_cons_zero,List.getElem?_cons_succ] at c0 c1;have hC2:=hC.then Dq
  clear hC Dq hS;by_cases hlt:k1<s.size
  ·by_cases hh:(s[k1].toNat:Int)=35
   ·have hd:decide ((s.size:Int)≤(k1:Int))=false:=by simp;omega
    have hb:((s[k1].toNat:Int) != 35)=false:=by rw [hh];rfl
    have h35:s[k1]=35:=(vT _ 35).1 hh;have HH:=Z_ h35;clear hh h35;go_wp2_with fail
    go_quiet (fail)
    go_wp2_with fail
    refine(F5 p s k1 c f _ (hS1.drewN _) hle hs).mono ?_
    rintro e w2 ⟨rfl,Og,nB⟩;go_wp2_with fail
    go_roundw
    case rel=>
     refine⟨_,pX gz s k1 hle,Og,(hC2.drewN _).then nB,?_⟩
     have:=HR1.out;rw [drop_cons s k1 hlt,HH.out,F6,←HH.out,←drop_cons s k1 hlt,Ba,List.drop_drop] at this;unfold Hid;omega
    case measure=>
     rw [HM.out,mX.zO Og];have:runN gz (s.data.toList.drop k1)=1+runN gz (s.data.toList.drop (k1+1)):=nJ gz s k1 hlt (by rw [HH.out];rfl);omega
   ·have hd:decide ((s.size:Int)≤(k1:Int))=false:=by simp;omega
    have hb:((s[k1].toNat:Int) != 35)=true:=by rw [bne_iff_ne];exact hh
    have HH:=Z_ hh;clear hh;go_wp2_with fail
    go_quiet (fail)
    go_wp2_with fail
    (try simp only [Exit.inBlock,Exit.then]);refine bodyPost_ret (results_none rfl _ _ _) rfl ?_
    have e:k1=R:=by
     have:=HR1.out;rw [drop_cons s k1 hlt,xP _ _ (fun h=>HN.out hlt ((vU _).2 h)) (fun h=>HH.out (by rw [h];rfl))] at this;omega
    subst e;exact⟨rfl,hS1.drewN _,hC2.drewN _⟩
  ·have hd:decide ((s.size:Int)≤(k1:Int))=true:=by simp;omega
   go_wp2_with fail
   go_quiet (fail)
   go_wp2_with fail
   (try simp only [Exit.inBlock,Exit.then]);refine bodyPost_ret (results_none rfl _ _ _) rfl ?_
   have e:k1=R:=by
    have:=HR1.out;rw [List.drop_eq_nil_of_le (by have e:s.data.size=s.size:=rfl;simp;omega)] at this;simpa [fC] using this
   subst e;exact⟨rfl,hS1.drewN _,hC2.drewN _⟩
end lex
end Go.Proofs.YtpcihajmcejliacGreatDoor
namespace Go.Proofs.YtpcihajmcejliacGreatDoor
open Go.RowKit
def Eo (acc:Nat) (c:UInt8):Nat:=acc*10+(c.toNat-48)
theorem Jk (acc:Nat) (c:UInt8):Eo acc c=acc*10+(c.toNat-48):=by unfold Eo;exact Eq.refl _
attribute [irreducible] Eo
def decFrom (acc:Nat) (l:List UInt8):Nat:=l.foldl Eo acc
def mQ (l:List UInt8):Bool:=l.all fun c=>iK c.toNat
def gB (l:List UInt8):Int:=if mQ l=false then 2 else if 1<l.length∧l.head? = some 48 then 2 else if 9223372036854775808≤decFrom 0 l then 6 else 0
theorem vY (c:UInt8):iK c.toNat=true↔48≤c.toNat∧c.toNat≤57:=by
 simp only [iK,decide_eq_true_eq];omega
theorem nK (c:UInt8) (r:List UInt8):mQ (c::r)=true↔(48≤c.toNat∧c.toNat≤57)∧mQ r=true:=by
 simp only [mQ,List.all_cons,Bool.and_eq_true,vY]
theorem LQ (acc d p q:Nat):(acc*10+d)*p+q=acc*(p*10)+(d*p+q):=by
 rw [Nat.add_mul,Nat.mul_assoc,Nat.mul_comm 10 p];omega
theorem jA (acc:Nat) (c:UInt8) (r:List UInt8):decFrom acc (c::r)=decFrom (acc*10+(c.toNat-48)) r:=by
 unfold decFrom;rw [List.foldl_cons,Jk]
theorem oq (l:List UInt8):∀ acc,decFrom acc l=acc*10 ^ l.length+decFrom 0 l:=by
 induction l with
 | nil=>intro acc;simp [decFrom]
 | cons c r ih=>
  intro acc;rw [jA,jA 0,ih,ih (0*10+(c.toNat-48)),List.length_cons,Nat.pow_succ];generalize 10 ^ r.length=p;generalize decFrom 0 r=q;generalize c.toNat-48=d;rw [LQ,Nat.zero_mul,Nat.zero_add]
theorem Dt (l:List UInt8) (acc:Nat):acc≤decFrom acc l:=by
 rw [oq];have:0<10 ^ l.length:=Nat.pow_pos (by omega);have:=Nat.le_mul_of_pos_right acc this;omega
theorem decFrom_lt (l:List UInt8) (h:mQ l=true):decFrom 0 l<10 ^ l.length:=by
 induction l with
 | nil=>simp [decFrom]
 | cons c r ih=>
  obtain⟨hc,hr⟩:=(nK c r).1 h;have:=ih hr;rw [jA,List.length_cons,oq,Nat.pow_succ];have h1:(0*10+(c.toNat-48))*10 ^ r.length≤9*10 ^ r.length:=Nat.mul_le_mul_right _ (by omega);omega
theorem UW (l:List UInt8):∀ m,l.length=m.length→mQ l=true→mQ m=true→(Op.bytesLess l m=true↔decFrom 0 l<decFrom 0 m):=by
 induction l with
 | nil=>intro m h _ _;cases m with|nil=>simp [Op.bytesLess,decFrom]|cons _ _=>simp at h
 | cons c r ih=>
  intro m h hl hm;cases m with
  | nil=>simp at h
  | cons d q=>
   obtain⟨hc,hr⟩:=(nK c r).1 hl;obtain⟨hd,hq⟩:=(nK d q).1 hm;have hlen:r.length=q.length:=by simpa using h
   have b1:=decFrom_lt r hr;have b2:=decFrom_lt q hq;simp only [Op.bytesLess,jA,Bool.or_eq_true,Bool.and_eq_true,decide_eq_true_eq,beq_iff_eq,ih q hlen hr hq];rw [oq r (0*10+(c.toNat-48)),oq q (0*10+(d.toNat-48)),UInt8.lt_iff_toNat_lt,←UInt8.toNat_inj];rw [←hlen] at b2 ⊢;generalize 10 ^ r.length=p at *;rcases Nat.lt_trichotomy c.toNat d.toNat with hlt|he|hgt
   ·have:(0*10+(c.toNat-48)+1)*p≤(0*10+(d.toNat-48))*p:=Nat.mul_le_mul_right _ (by omega)
    rw [Nat.add_mul] at this;constructor
    ·intro _;omega
    ·intro _;exact .inl hlt
   ·rw [he]
    constructor
    ·rintro (h|⟨_,h⟩)<;>omega
    ·intro h;exact .inr ⟨rfl,by omega⟩
   ·have:(0*10+(d.toNat-48)+1)*p≤(0*10+(c.toNat-48))*p:=Nat.mul_le_mul_right _ (by omega)
    rw [Nat.add_mul] at this;constructor
    ·rintro (h|⟨h,_⟩)<;>omega
    ·intro _;omega
theorem Bc (l:List UInt8):∀ acc,mQ l=true→acc≤18446744073709551615→Lib.parseUintM 18446744073709551615 acc l=if decFrom acc l≤18446744073709551615 then .ok (decFrom acc l) else .range:=by
 induction l with
 | nil=>intro acc _ h;simp [Lib.parseUintM,decFrom,h]
 | cons c r ih=>
  intro acc h hacc;obtain⟨hc,hr⟩:=(nK c r).1 h;rw [jA];simp only [Lib.parseUintM,if_pos hc];have hge:=Dt r (acc*10+(c.toNat-48));by_cases h1:1844674407370955162≤acc
  ·rw [if_pos h1,if_neg (by omega)]
  ·rw [if_neg h1]
   by_cases h2:18446744073709551615<acc*10+(c.toNat-48)
   ·rw [if_pos h2,if_neg (by omega)]
   ·rw [if_neg h2]
    exact ih _ hr (by omega)
theorem qM (l:List UInt8) (h:mQ l=true) (hn:l≠[]):Lib.parseIntB 64 l=if decFrom 0 l<9223372036854775808 then .ok (decFrom 0 l:Int) else .range:=by
 cases l with
 | nil=>exact absurd rfl hn
 | cons c r=>
  obtain⟨hc,_⟩:=(nK c r).1 h;have e:=Bc (c::r) 0 h (by omega);have n1:¬ (c.toNat=43∨c.toNat=45):=by omega
  have n2:¬ c.toNat=45:=by omega
  have e2:Lib.parseUintB 64 (c::r)=Lib.parseUintM 18446744073709551615 0 (c::r):=by
   rw [Lib.parseUintB,if_neg hn]
  simp only [Lib.parseIntB,if_neg n1,e2,e];by_cases h1:decFrom 0 (c::r)≤18446744073709551615
  ·rw [if_pos h1]
   have e3:(2:Nat) ^ (64-1)=9223372036854775808:=by decide
   simp only [n2,not_false_eq_true,true_and,e3,false_and,if_false];by_cases h2:9223372036854775808≤decFrom 0 (c::r)
   ·rw [if_pos h2,if_neg (by omega)]
   ·rw [if_neg h2,if_pos (by omega)]
  ·rw [if_neg h1,if_neg (by omega)]
theorem jB {α : Type} (p:α→Bool) (l:List α):l.dropWhile p=[]↔∀ x∈l,p x=true:=by
 induction l with
 | nil=>simp
 | cons a r ih=>
  by_cases h:p a=true
  ·simp [h,ih]
  ·simp [h]
theorem zk (c:UInt8):([48,49,50,51,52,53,54,55,56,57]:List UInt8).contains c=iK c.toNat:=by
 rw [Bool.eq_iff_iff,vY];simp only [List.contains_cons,List.contains_nil,Bool.or_false,Bool.or_eq_true,beq_iff_eq,←UInt8.toNat_inj];have e:∀ n,n<256→(UInt8.ofNat n).toNat=n:=fun n h=>by simp;omega
 have:=c.toNat_lt;show _=48∨_=49∨_=50∨_=51∨_=52∨_=53∨_=54∨_=55∨_=56∨_=57↔_
 omega
theorem lW (l:List UInt8):Lib.trimS l [48,49,50,51,52,53,54,55,56,57]=[]↔mQ l=true:=by
 have e:(fun x=>([48,49,50,51,52,53,54,55,56,57]:List UInt8).contains x)=fun c=>iK c.toNat:=funext zk
 simp only [Lib.trimS,Lib.trimLeftS,Lib.trimRightS,e];constructor
 ·intro h
  rw [jB] at h;simp only [mQ,List.all_eq_true];cases hd:List.dropWhile (fun c:UInt8=>iK c.toNat) l.reverse with
  | nil=>
   rw [jB] at hd;intro x hx;exact hd x (by simpa using hx)
  | cons x xs=>
   have h1:=h x (by rw [hd];simp);have h2:=List.head_dropWhile_not (fun c:UInt8=>iK c.toNat) (l:=l.reverse) (by rw [hd];simp);simp only [hd,List.head_cons] at h2;rw [h1] at h2;cases h2
 ·intro h
  simp only [mQ,List.all_eq_true] at h
  have:List.dropWhile (fun c:UInt8=>iK c.toNat) l.reverse=[]:=by
   rw [jB];intro x hx;exact h x (by simpa using hx)
  rw [this];rfl
end Go.Proofs.YtpcihajmcejliacGreatDoor
