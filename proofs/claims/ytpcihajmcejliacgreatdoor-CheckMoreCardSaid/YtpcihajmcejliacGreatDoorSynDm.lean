/- The parser: a kid of a name alone that is appended; a number that grows by labels. -/
import Derived.Test.YtpcihajmcejliacGreatDoorSynCm
namespace Go.Proofs.YtpcihajmcejliacGreatDoor
open Go.RowKit
namespace bn
def mg (k m:Int) (l:List Tk):Out Nd:=(fJ l).bind fun s l=>.got (.mk k s m []) l
def tX (W w0:World) (S E A N:Nat) (l:List Tk) (kind:Int) (text:ByteArray) (num:Int) (row:Value) (acc:List Nd) (k m:Int):List Value→World→Prop
 | [],u=>iT W w0 u S E A N l kind text num row row acc
 | [v],u=>∃ s l',Hid (fJ l=.got s l')∧v=.string s∧s.size≤7000∧iT W w0 u S E A N l' kind text num row row acc∧acc.length+1+l'.length≤10000
 | _::v::r,u=>fK W w0 S E A N l kind text num row acc (mg k m l) (v::r) u
theorem tX.cell {W w0 u:World} {S E A N:Nat} {l:List Tk} {kind num k m:Int} {text:ByteArray} {row:Value} {acc:List Nd} {vs:List Value} (h:tX W w0 S E A N l kind text num row acc k m vs u) (hv:vs.length≤3):u.cell? ⟨N,3,none⟩=some row:=by
 match vs,hv,h with
 | [],_,h=>exact(show iT .. from h).nd.cell 3
 | [_],_,⟨s,l',_,_,_,h,_⟩=>exact h.nd.cell 3
 | [_,v],_,h=>exact fK.cell (l:=l) (vs:=[v]) h (by simp)
 | [_,v,z],_,h=>exact fK.cell (l:=l) (vs:=[v,z]) h (by simp)
theorem qQ {W w0 u u2:World} {S E A N:Nat} {l l':List Tk} {kind num k m:Int} {text s:ByteArray} {row:Value} {acc:List Nd} (h:iT W w0 u S E A N l kind text num row row acc) (hC:aB (fun i=>i=S) u u2) (hT:fJ l=.got s l') (hs:s.size≤7000) (hP:bu W u2 S E l') :
  tX W w0 S E A N l kind text num row acc k m [.string s] u2:=by
 have h4:=h.few;have h5:=bC.ij hT;exact⟨s,l',Z_ hT,rfl,hs,h.call hC hP (by omega),by omega⟩
theorem qR {W w0 u u2:World} {S E A N:Nat} {l:List Tk} {kind num k m:Int} {text s:ByteArray} {row:Value} {acc:List Nd} (h:tX W w0 S E A N l kind text num row acc k m [.string s] u) (hE:Ext u u2) :
  tX W w0 S E A N l kind text num row acc k m [.string s,.agg #[.int .i64 k,.string s,.int .i64 m,.slice none 0 0]] u2:=by
 obtain⟨s',l',hT,e,hs,hB,hf⟩:=h;obtain rfl:s=s':=by simpa using e
 exact⟨_,l',Z_ (by unfold mg;rw [hT.out];rfl),hB.extend hE,hf,jX _ _ _ _ (by omega)⟩
def zD (W w0:World) (S E A N:Nat) (l:List Tk) (kind:Int) (text:ByteArray) (num:Int) (row:Value) (acc:List Nd) (f:List (Int→Int)):List Value→World→Prop
 | [],u=>iT W w0 u S E A N l kind text num row row acc
 | v::r,u=>∃ b l',Hid (dF l=.got b l')∧v=.int .i64 b∧0≤b∧b≤1∧(∀ i,i<r.length→i<f.length→r[i]? = some (.int .i64 ((f.getD i id) b)))∧iT W w0 u S E A N l' kind text (if r.length≤f.length then num else (f.getD (f.length-1) id) b) row row acc
theorem zD.cell {W w0 u:World} {S E A N:Nat} {l:List Tk} {kind num:Int} {text:ByteArray} {row:Value} {acc:List Nd} {f:List (Int→Int)} {vs:List Value} (h:zD W w0 S E A N l kind text num row acc f vs u) (hv:vs.length≤f.length+1):u.cell? ⟨N,2,none⟩=some (.int .i64 num):=by
 match vs,hv,h with
 | [],_,h=>exact(show iT .. from h).nd.cell 2
 | v::r,hv,⟨b,l',_,_,_,_,_,h⟩=>
  rw [if_pos (by simpa using hv)] at h;exact h.nd.cell 2
theorem x_ {W w0 u u2:World} {S E A N:Nat} {l l':List Tk} {kind num b:Int} {text:ByteArray} {row:Value} {acc:List Nd} {f:List (Int→Int)} (h:iT W w0 u S E A N l kind text num row row acc) (hC:aB (fun i=>i=S) u u2) (hT:dF l=.got b l') (h0:0≤b) (h1:b≤1) (hP:bu W u2 S E l') :
  zD W w0 S E A N l kind text num row acc f [.int .i64 b] u2:=by
 have h5:=bC.dL hT;refine⟨b,l',Z_ hT,rfl,h0,h1,(fun i hi=>by cases hi),?_⟩
 rw [if_pos (by simp)];exact h.call hC hP (by omega)
theorem rS {W w0 u:World} {S E A N:Nat} {l:List Tk} {kind num b:Int} {text:ByteArray} {row:Value} {acc:List Nd} {f:List (Int→Int)} {r:List Value} (h:zD W w0 S E A N l kind text num row acc f (.int .i64 b::r) u) (hr:r.length<f.length) {x:Int} (hx:x=(f.getD r.length id) b) :
  zD W w0 S E A N l kind text num row acc f (.int .i64 b::(r ++ [.int .i64 x])) u:=by
 obtain⟨b',l',hT,e,h0,h1,hs,hB⟩:=h;obtain rfl:b=b':=by simpa using e
 subst hx;refine⟨_,l',hT,rfl,h0,h1,fun i hi hf=>?_,?_⟩
 ·rw [List.length_append,List.length_singleton] at hi
  by_cases hl:i<r.length
  ·rw [List.getElem?_append_left hl];exact hs i hl hf
  ·obtain rfl:i=r.length:=by omega
   rw [List.getElem?_append_right (Nat.le_refl _)];simp
 ·rw [if_pos (by rw [List.length_append,List.length_singleton];omega)]
  rw [if_pos (by omega)] at hB;exact hB
theorem yc {W w0 u:World} {S E A N:Nat} {l:List Tk} {kind num b x:Int} {text:ByteArray} {row z:Value} {acc:List Nd} {f:List (Int→Int)} {r:List Value} (h:zD W w0 S E A N l kind text num row acc f (.int .i64 b::r) u) (hr:r.length=f.length) (hx:x=(f.getD (f.length-1) id) b) :
  zD W w0 S E A N l kind text num row acc f (.int .i64 b::(r ++ [z])) (u.setCell ⟨N,2,none⟩ (.int .i64 x)):=by
 obtain⟨b',l',hT,e,h0,h1,hs,hB⟩:=h;obtain rfl:b=b':=by simpa using e
 rw [if_pos (by omega)] at hB;have q1:=hB.hS;have q2:=hB.hA;have q3:=hB.CN
 have hWS:=hB.pr.hS;have hC:aB (fun i=>i=N) u (u.setCell ⟨N,2,none⟩ (.int .i64 x)):=ak (aB.refl _ _) 2 _;refine⟨_,l',hT,rfl,h0,h1,fun i hi hf=>?_,?_⟩
 ·rw [List.getElem?_append_left (by omega)];exact hs i (by omega) hf
 ·rw [if_neg (by rw [List.length_append,List.length_singleton];omega),←hx]
  refine⟨hB.pr.aO hC (by omega) (fun i e=>by omega),hB.aO.trans hC (fun i hi e=>by omega),hB.res.aO hC (by omega),?_,hB.grow.aO fZ hC (fun i e=>by omega),q1,q2,q3,hB.few⟩
  have:=hB.nd.set 2 (.int .i64 x);exact this
end bn
end Go.Proofs.YtpcihajmcejliacGreatDoor
