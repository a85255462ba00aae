/- Lemmas for the statement. -/
import Derived.Test.YtlgcfimhfmgkmaaGreatDoorChecked
import Derived.WalkKit
import Derived.ProofKit
import Derived.OpenShut
import Derived.ShutString
import Derived.ChangeOld
import Derived.Below
import Derived.Deep.Slices
import Derived.Deep.Fields
import Derived.ChangeSame
import Derived.Lib.SmallJoins
import Derived.Laws.BitsAllLaws
import Derived.Deep.QuietTactic
import Init
import Derived.WalkSpells
import Derived.WalkLawsBesides
import Derived.Lib.Hide
import Derived.BigQuiet
import Derived.Deep.LoopGhost
import Derived.Maps.AppendAt
import Derived.BigRegion
import Derived.Deep.RegionHeld3
import Derived.Deep.DeepCutAuto
import Derived.OwnWalk
set_option linter.unusedVariables false
set_option linter.unusedSimpArgs false
namespace Go.Proofs.YtlgcfimhfmgkmaaGreatDoor
theorem Qh {p:Prop} (h:p):RowKit.Hid p:=h
theorem Qi {a b:Prop} (h:a) (k:b):a∧b:=⟨h,k⟩
open Go.RowKit
section
open Go.ChangeShapes Go.WideShapes Go.ChangeAt Go.RowKit Go.Deep Go.Joins
def IsRow (k:IntKind) (w:World) (a:Option Addr) (len cap:Nat) (zs:List Int):Prop:=
 (a=none∧len=0∧cap=0∧zs=[]) ∨
 ∃ x,a=some x∧len≤cap∧cap≤maxLen∧zs.length=cap∧(∀ i,i<zs.length→w.cell? (x.add i)=some (.int k (zs.getD i 0)))∧∀ n∈zs,(Lit.int k n).wf=true
section
variable {H:Type} {enc:TypeId × Value→H} {P:Program} {w:World}
theorem open_row {t e:TypeId} {k:IntKind} {a:Option Addr} {len cap:Nat} {d:DataW H} {p:List MemPlace} (ht:P.underlying t=some (.slice e)) (he:P.underlying e=some (.int k)) (hc:P.cellsOf e=1)
  (h:DataW.Trod enc P w 0 (fun _=>true) true t (.slice a len cap) d p):∃ zs,IsRow k w a len cap zs:=by
 obtain ⟨fuel,hf⟩:=h
 rcases open_ints ht he hc hf with ⟨hcs,_⟩|⟨x,l,c,zs,hcs,_,hl,hm,hz,_,hcell,hwz⟩
 ·simp [Value.cells] at hcs
  obtain ⟨rfl,rfl,rfl⟩:=hcs
  exact ⟨[],.inl ⟨rfl,rfl,rfl,rfl⟩⟩
 ·simp [Value.cells] at hcs
  obtain ⟨rfl,rfl,rfl⟩:=hcs
  exact ⟨zs,.inr ⟨_,rfl,hl,hm,by simpa using hz,hcell,hwz⟩⟩
end
theorem IsRow.bytes {w:World} {a:Option Addr} {len cap:Nat} {zs:List Int} (h:IsRow .u8 w a len cap zs) :
  ∃ f:Nat→Nat,(∀ i,f i<256)∧len≤cap∧cap≤9223372036854775807∧(a=none→len=0∧cap=0)∧(∀ i,i<len→∃ ad,a=some ad∧w.cell? (ad.add i)=some (.int .u8 ((f i:Nat):Int))):=by
 rcases h with ⟨rfl,rfl,rfl,rfl⟩|⟨x,rfl,h1,h2,h3,h4,h5⟩
 ·exact ⟨fun _=>0,by simp,by simp,by simp,fun _=>⟨rfl,rfl⟩,fun i hi=>by omega⟩
 ·have hb:∀ i,0≤zs.getD i 0∧zs.getD i 0≤255:=by
   intro i
   by_cases hi:i<zs.length
   ·have:=bounds_u8 (h5 (zs.getD i 0) (by rw [List.getD_eq_getElem?_getD,List.getElem?_eq_getElem hi];simp))
    omega
   ·rw [List.getD_eq_getElem?_getD,List.getElem?_eq_none (by omega)];simp
  refine ⟨fun i=>(zs.getD i 0).toNat,fun i=>?_,h1,by simpa [maxLen] using h2,fun e=>absurd e (by simp),fun i hi=>⟨x,rfl,?_⟩⟩
  ·have:=hb i
   show (zs.getD i 0).toNat<256
   omega
  ·rw [h4 i (by omega)]
   have:=hb i
   show some (Value.int .u8 (zs.getD i 0))=some (Value.int .u8 ((zs.getD i 0).toNat:Int))
   rw [Int.toNat_of_nonneg this.1]
end
section
namespace Bv
theorem wrap_in {z:Int} (h0:0≤z) (h1:z≤18446744073709551615):IntKind.u64.wrap z=z:=by rw [IntKind.wrap_u64];omega
end Bv
end
section
theorem ZbS {a b:Value} (h:a=b):Ending.returned a=.returned b:=by rw [h]
theorem ZfW {P:Program} {f:FuncId} {args:Array Value} {w:World} {n:Nat} {v:Value}
  (h:Calls P f args (w.drewN n) fun e w'=>e=.returned v∧w.drewN n=w'):Calls P f args (w.drewN n) fun e w''=>e=.returned v∧∃ m,w''=w.drewN m:=
 h.mono fun _ _ ⟨he,hm⟩=>⟨he,n,hm.symm⟩
structure Only (b:Nat) (w w':World):Prop where
 os:w'.os=w.os
 tape:w'.tape=w.tape
 output:w'.output=w.output
 size:w'.heap.size=w.heap.size
 block:∀ k,k≠b→w'.heap[k]?=w.heap[k]?
theorem Only.refl (b:Nat) (w:World):Only b w w:=⟨rfl,rfl,rfl,rfl,fun _ _=>rfl⟩
theorem Only.trans {b:Nat} {w x y:World} (h:Only b w x) (k:Only b x y):Only b w y:=
 ⟨k.os.trans h.os,k.tape.trans h.tape,k.output.trans h.output,k.size.trans h.size,fun i hi=>(k.block i hi).trans (h.block i hi)⟩
theorem Only.drewN {b:Nat} {w x:World} (h:Only b w x) (n:Nat):Only b w (x.drewN n):=⟨h.os,h.tape,h.output,h.size,h.block⟩
theorem Only.setCell {b:Nat} {w x:World} (h:Only b w x) {p:Addr} (hp:p.block=b) (u:Value):Only b w (x.setCell p u):=
 h.trans ⟨rfl,rfl,rfl,by simp [World.setCell],fun k hk=>Below.heap_setCell _ _ _ _ (by rw [hp];exact hk)⟩
theorem Only.below {b:Nat} {w x:World} (h:Only b w x) {B:Nat} (hB:B≤b):Below B w x:=
 ⟨h.os,h.tape,h.output,by rw [h.size];exact Nat.le_refl _,fun k hk=>h.block k (by omega)⟩
theorem below_drewN' {B:Nat} {w x:World} (h:Below B w x) (n:Nat):Below B w (x.drewN n):=⟨h.os,h.tape,h.output,h.size,h.block⟩
section
variable {w:World} {b:Nat} {cs:Array Value} {t:TypeId}
theorem cell_of_block (h:w.heap[b]?=some (.cells cs t (0,0))) (i:Nat):w.cell? ⟨b,i,none⟩=cs[i]?:=by simp [World.cell?,h]
theorem Zd (h:w.heap[b]?=some (.cells cs t (0,0))) (i:Nat):w.frozen? ⟨b,i,none⟩=false:=by simp [World.frozen?,h]
theorem block_setCell (h:w.heap[b]?=some (.cells cs t (0,0))) (i:Nat) (u:Value):(w.setCell ⟨b,i,none⟩ u).heap[b]?=some (.cells (cs.setIfInBounds i u) t (0,0)):=by
 have hlt:=lt_of_block h
 have h':w.heap[b]=.cells cs t (0,0):=by simpa [Array.getElem?_eq_getElem hlt] using h
 show (w.heap.modify b _)[b]?=_
 rw [Array.getElem?_eq_getElem (by simpa using hlt),Array.getElem_modify_self,h']
 rfl
end
noncomputable def first (p:Nat→Bool):Nat:=@Classical.epsilon Nat ⟨0⟩ (fun j=>p j=true∧∀ i,i<j→p i=false)
end
section
namespace M
def Yz (a b c d e f g h:Bool):Nat:=128*a.toNat+64*b.toNat+32*c.toNat+16*d.toNat+8*e.toNat+4*f.toNat+2*g.toNat+h.toNat
def byteOf (l:List Bool) (i:Nat):Nat:=
 Yz (l.getD (8*i) false) (l.getD (8*i+1) false) (l.getD (8*i+2) false) (l.getD (8*i+3) false) (l.getD (8*i+4) false) (l.getD (8*i+5) false) (l.getD (8*i+6) false) (l.getD (8*i+7) false)
theorem Zkb (a b c d e f g h:Bool):Yz a b c d e f g h<256:=by
 cases a<;>cases b<;>cases c<;>cases d<;>cases e<;>cases f<;>cases g<;>cases h<;>decide
theorem byteOf_lt (l:List Bool) (i:Nat):byteOf l i<256:=Zkb _ _ _ _ _ _ _ _
theorem getD_snoc (l:List Bool) (b:Bool) (m:Nat):(l++[b]).getD m false=if m=l.length then b else l.getD m false:=by
 simp only [List.getD_eq_getElem?_getD]
 rcases Nat.lt_trichotomy m l.length with h | h | h
 ·rw [List.getElem?_append_left h,if_neg (by omega)]
 ·rw [if_pos h,h];simp
 ·rw [if_neg (by omega),List.getElem?_eq_none (by simp;omega),List.getElem?_eq_none (by omega)]
theorem JC (l:List Bool) (m:Nat) (h:l.length≤m):l.getD m false=false:=by
 simp only [List.getD_eq_getElem?_getD];rw [List.getElem?_eq_none h];rfl
theorem byteOf_other (l:List Bool) (b:Bool) (j:Nat) (h:j≠l.length / 8):byteOf (l++[b]) j=byteOf l j:=by
 unfold byteOf
 simp only [getD_snoc]
 rw [if_neg (by omega),if_neg (by omega),if_neg (by omega),if_neg (by omega),if_neg (by omega),if_neg (by omega),if_neg (by omega),if_neg (by omega)]
theorem byteOf_new (l:List Bool) (j:Nat) (h:l.length≤8*j):byteOf l j=0:=by
 unfold byteOf
 rw [JC l _ (by omega),JC l _ (by omega),JC l _ (by omega),JC l _ (by omega),JC l _ (by omega),JC l _ (by omega),JC l _ (by omega),JC l _ (by omega)]
 rfl
theorem Zkc (b:Bool):Yz false false false false false false false false ||| b.toNat*128=Yz b false false false false false false false:=by cases b<;>decide
theorem Zkd (a b:Bool):Yz a false false false false false false false ||| b.toNat*64=Yz a b false false false false false false:=by cases a<;>cases b<;>decide
theorem Zke (a c b:Bool):Yz a c false false false false false false ||| b.toNat*32=Yz a c b false false false false false:=by cases a<;>cases c<;>cases b<;>decide
theorem Zkf (a c d b:Bool):Yz a c d false false false false false ||| b.toNat*16=Yz a c d b false false false false:=by cases a<;>cases c<;>cases d<;>cases b<;>decide
theorem Zkg (a c d e b:Bool):Yz a c d e false false false false ||| b.toNat*8=Yz a c d e b false false false:=by cases a<;>cases c<;>cases d<;>cases e<;>cases b<;>decide
theorem Zkh (a c d e f b:Bool):Yz a c d e f false false false ||| b.toNat*4=Yz a c d e f b false false:=by cases a<;>cases c<;>cases d<;>cases e<;>cases f<;>cases b<;>decide
theorem Zki (a c d e f g b:Bool):Yz a c d e f g false false ||| b.toNat*2=Yz a c d e f g b false:=by cases a<;>cases c<;>cases d<;>cases e<;>cases f<;>cases g<;>cases b<;>decide
theorem Zkj (a c d e f g h b:Bool):Yz a c d e f g h false ||| b.toNat*1=Yz a c d e f g h b:=by cases a<;>cases c<;>cases d<;>cases e<;>cases f<;>cases g<;>cases h<;>cases b<;>decide
theorem byteOf_snoc (l:List Bool) (b:Bool):byteOf l (l.length / 8) ||| b.toNat*2 ^ (7-l.length % 8)=byteOf (l++[b]) (l.length / 8):=by
 obtain ⟨i,p,hp,hn⟩:∃ i p,p<8∧l.length=8*i+p:=⟨l.length / 8,l.length % 8,by omega,by omega⟩
 have e1:l.length / 8=i:=by omega
 have e2:l.length % 8=p:=by omega
 rw [e1,e2]
 unfold byteOf
 simp only [getD_snoc,hn]
 have z:∀ m,8*i+p≤m→l.getD m false=false:=fun m h=>JC l m (by omega)
 rcases (show p=0∨p=1∨p=2∨p=3∨p=4∨p=5∨p=6∨p=7 from by omega) with rfl|rfl|rfl|rfl|rfl|rfl|rfl|rfl
 ·simp only [Nat.add_zero,z (8*i) (by omega),z (8*i+1) (by omega),z (8*i+2) (by omega),z (8*i+3) (by omega),z (8*i+4) (by omega),z (8*i+5) (by omega),z (8*i+6) (by omega),z (8*i+7) (by omega)]
  simpa using Zkc b
 ·simp only [z (8*i+1) (by omega),z (8*i+2) (by omega),z (8*i+3) (by omega),z (8*i+4) (by omega),z (8*i+5) (by omega),z (8*i+6) (by omega),z (8*i+7) (by omega)]
  simpa using Zkd _ b
 ·simp only [z (8*i+2) (by omega),z (8*i+3) (by omega),z (8*i+4) (by omega),z (8*i+5) (by omega),z (8*i+6) (by omega),z (8*i+7) (by omega)]
  simpa using Zke _ _ b
 ·simp only [z (8*i+3) (by omega),z (8*i+4) (by omega),z (8*i+5) (by omega),z (8*i+6) (by omega),z (8*i+7) (by omega)]
  simpa using Zkf _ _ _ b
 ·simp only [z (8*i+4) (by omega),z (8*i+5) (by omega),z (8*i+6) (by omega),z (8*i+7) (by omega)]
  simpa using Zkg _ _ _ _ b
 ·simp only [z (8*i+5) (by omega),z (8*i+6) (by omega),z (8*i+7) (by omega)]
  simpa using Zkh _ _ _ _ _ b
 ·simp only [z (8*i+6) (by omega),z (8*i+7) (by omega)]
  simpa using Zki _ _ _ _ _ _ b
 ·simp only [z (8*i+7) (by omega)]
  simpa using Zkj _ _ _ _ _ _ _ b
end M
end
section
namespace M
def blen (n:Nat):Nat:=if n=0 then 0 else n.log2+1
theorem Zkk:blen 0=0:=rfl
theorem blen_bd {n:Nat} (h:0<n):2 ^ (blen n-1)≤n∧n<2 ^ blen n∧1≤blen n:=by
 unfold blen
 rw [if_neg (by omega)]
 refine ⟨?_,?_,by omega⟩
 ·rw [Nat.add_sub_cancel];exact Nat.log2_self_le (by omega)
 ·exact Nat.lt_log2_self
theorem blen_le {n k:Nat} (h:n<2 ^ k):blen n≤k:=by
 rcases Nat.eq_zero_or_pos n with h0 | h0
 ·subst h0;simp [Zkk]
 ·obtain ⟨a,b,c⟩:=blen_bd h0
  have:¬ k<blen n:=fun hk=>by
   have:2 ^ k≤2 ^ (blen n-1):=Nat.pow_le_pow_right (by decide) (by omega)
   omega
  omega
def cq (n k:Nat):Nat:=blen (n+2 ^ k)-1-k
def cr (n k:Nat):Nat:=n+2 ^ k-2 ^ (cq n k+k)
end M
end
section
namespace M
theorem snocInd {P:List Bool→Prop} (h0:P []) (h1:∀ s b,P s→P (s++[b])) (s:List Bool):P s:=by
 have:∀ r:List Bool,P r.reverse:=by
  intro r
  induction r with
  | nil=>exact h0
  | cons b r ih=>rw [List.reverse_cons];exact h1 _ _ ih
 simpa using this s.reverse
def numOf (s:List Bool):Nat:=s.foldl (fun n b=>2*n+b.toNat) 0
theorem numOf_snoc (s:List Bool) (b:Bool):numOf (s++[b])=2*numOf s+b.toNat:=by
 unfold numOf;rw [List.foldl_append];rfl
theorem numOf_lt (s:List Bool):numOf s<2 ^ s.length:=by
 induction s using snocInd with
 | h0=>simp [numOf]
 | h1 s b ih=>
  rw [numOf_snoc,List.length_append,Nat.pow_add]
  have:=Bool.toNat_lt b
  simp only [List.length_cons,List.length_nil]
  omega
def bitsUpto (n k j:Nat):List Bool:=(List.range j).map fun i=>n.testBit (k-1-i)
theorem bitsUpto_succ (n k j:Nat):bitsUpto n k (j+1)=bitsUpto n k j++[n.testBit (k-1-j)]:=by
 unfold bitsUpto;rw [List.range_succ,List.map_append];rfl
theorem bitsUpto_length (n k j:Nat):(bitsUpto n k j).length=j:=by simp [bitsUpto]
def bitsOf (n k:Nat):List Bool:=bitsUpto n k k
theorem bitsOf_length (n k:Nat):(bitsOf n k).length=k:=bitsUpto_length n k k
theorem Zkl (n k j:Nat) (b:Bool) (h:j≤k):bitsUpto (2*n+b.toNat) (k+1) j=bitsUpto n k j:=by
 unfold bitsUpto
 apply List.map_congr_left
 intro i hi
 rw [List.mem_range] at hi
 rw [show k+1-1-i=(k-1-i)+1 from by omega,Nat.testBit_succ]
 congr 1
 have:=Bool.toNat_lt b
 omega
theorem bitsOf_numOf (s:List Bool):bitsOf (numOf s) s.length=s:=by
 induction s using snocInd with
 | h0=>rfl
 | h1 s b ih=>
  rw [numOf_snoc,List.length_append]
  show bitsUpto _ (s.length+1) (s.length+1)=_
  rw [bitsUpto_succ,Zkl _ _ _ _ (Nat.le_refl _)]
  unfold bitsOf at ih
  rw [ih]
  congr 2
  rw [show s.length+1-1-s.length=0 from by omega,Nat.testBit_zero]
  cases b<;>simp
theorem ZfX:bitsOf 1 1=[true]:=rfl
def codeBits (n k:Nat):List Bool:=bitsOf 0 (cq n k)++([true]++bitsOf (cr n k) (cq n k+k))
theorem codeBits_length (n k:Nat):(codeBits n k).length=2*cq n k+k+1:=by
 unfold codeBits;simp only [List.length_append,bitsOf_length,List.length_cons,List.length_nil];omega
def zeros:List Bool→Nat
 | false :: s=>zeros s+1
 | _=>0
def zig (n:Nat):Nat:=if n<2 ^ 63 then 2*n else 2*(2 ^ 64-n)-1
def zag (v:Nat):Nat:=if v % 2=0 then v / 2 else 2 ^ 64-1-v / 2
theorem zig_lt {n:Nat} (h:n<2 ^ 64):zig n<2 ^ 64:=by unfold zig;split<;>omega
theorem zag_zig {n:Nat} (h:n<2 ^ 64):zag (zig n)=n:=by
 unfold zig
 split
 ·unfold zag;rw [if_pos (by omega)];omega
 ·unfold zag;rw [if_neg (by omega)];omega
end M
end
section
def Qw (l:List Bool) (n:Nat):List Value:=(List.range n).map fun i=>Value.int .u8 ((M.byteOf l i:Nat):Int)
def Zk (l:List Bool):Nat:=(l.length+7) / 8
structure YP (o:Nat) (cs ds:Array Value):Prop where
 size:ds.size=cs.size
 at_:∀ i,i≠o→i≠o+1→ds[i]?=cs[i]?
theorem YP.refl (o:Nat) (cs:Array Value):YP o cs cs:=⟨rfl,fun _ _ _=>rfl⟩
theorem YP.trans {o:Nat} {a b c:Array Value} (h:YP o a b) (k:YP o b c):YP o a c:=⟨k.size.trans h.size,fun i h1 h2=>(k.at_ i h1 h2).trans (h.at_ i h1 h2)⟩
theorem YP.set0 {o:Nat} {a b:Array Value} (h:YP o a b) (u:Value):YP o a (b.setIfInBounds o u):=⟨by simp [h.size],fun i h1 h2=>by rw [Array.getElem?_setIfInBounds,if_neg (fun e=>h1 e.symm)];exact h.at_ i h1 h2⟩
theorem YP.set1 {o:Nat} {a b:Array Value} (h:YP o a b) (u:Value):YP o a (b.setIfInBounds (o+1) u):=⟨by simp [h.size],fun i h1 h2=>by rw [Array.getElem?_setIfInBounds,if_neg (fun e=>h2 e.symm)];exact h.at_ i h1 h2⟩
structure WIn (w:World) (B bw o:Nat) (T:TypeId) (cs:Array Value) (v:Value) (l:List Bool):Prop where
 blk:w.heap[bw]?=some (.cells cs T (0,0))
 c0:cs[o]?=some v
 c1:cs[o+1]?=some (.int .i64 (l.length:Nat))
 own:w.ownsRow B 5 1 v (Zk l) (Qw l (Zk l))
 ty:T≠5
theorem info5:(Tryz.prog.info? 5).map (fun i=>(i.zero,i.size,i.bytes))=some (some (.int .u8 0),1,1):=by kernel_rfl
theorem Zkm (l:List Bool) (n:Nat) (h:l.length≤8*n):Qw l n++[.int .u8 0]=Qw l (n+1):=by
 unfold Qw
 rw [List.range_succ,List.map_append]
 simp [M.byteOf_new l n h]
theorem Zkn (l:List Bool) (b:Bool) (n:Nat) (h:l.length / 8<n):(Qw l n).set (l.length / 8) (.int .u8 ((M.byteOf (l++[b]) (l.length / 8):Nat):Int))=Qw (l++[b]) n:=by
 apply List.ext_getElem?
 intro i
 unfold Qw
 rw [List.getElem?_set]
 simp only [List.length_map,List.length_range,List.getElem?_map]
 by_cases h1:l.length / 8=i
 ·subst h1;simp [h]
 ·rw [if_neg h1]
  by_cases h2:i<n
  ·simp [h2,M.byteOf_other l b i (fun e=>h1 e.symm)]
  ·simp [h2]
open M (bitsUpto bitsUpto_succ bitsUpto_length bitsOf bitsOf_length)
structure X8 (w:World) (bw:Nat) (v:Value) (w':World) (v':Value):Prop where
 os:w'.os=w.os
 tape:w'.tape=w.tape
 output:w'.output=w.output
 size:w.heap.size≤w'.heap.size
 block:∀ q,q<w.heap.size→q≠bw→v.ownBlock≠some q→w'.heap[q]?=w.heap[q]?
 own:v'.ownBlock=v.ownBlock∨∃ q,v'.ownBlock=some q∧w.heap.size≤q
theorem X8.refl (w:World) (bw:Nat) (v:Value):X8 w bw v w v:=⟨rfl,rfl,rfl,Nat.le_refl _,fun _ _ _ _=>rfl,Or.inl rfl⟩
theorem X8.trans {a b c:World} {bw:Nat} {v1 v2 v3:Value} (h:X8 a bw v1 b v2) (k:X8 b bw v2 c v3):X8 a bw v1 c v3:=by
 refine ⟨k.os.trans h.os,k.tape.trans h.tape,k.output.trans h.output,Nat.le_trans h.size k.size,?_,?_⟩
 ·intro q hq hb hv
  refine (k.block q (Nat.lt_of_lt_of_le hq h.size) hb ?_).trans (h.block q hq hb hv)
  intro e
  rcases h.own with h1|⟨g,h1,h2⟩
  ·exact hv (by rw [←h1,e])
  ·rw [h1] at e;injection e with e;omega
 ·rcases k.own with k1|⟨g,k1,k2⟩
  ·rw [k1];exact h.own
  ·exact Or.inr ⟨g,k1,Nat.le_trans h.size k2⟩
theorem Zbi {w:World} {B n g:Nat} {T:TypeId} {v:Value} {xs:List Value} {cs:Array Value} (h:w.ownsRow B 5 1 v n xs) (hg:w.heap[g]?=some (.cells cs T (0,0))) (hT:T≠5):v.ownBlock≠some g:=by
 rcases h.2 with ⟨rfl,_⟩|⟨g',cap,cur,rfl,_,hh,_⟩
 ·simp [Value.ownBlock]
 ·intro he
  have:g'=g:=by simpa [Value.ownBlock] using he
  subst this
  rw [hg] at hh
  injection hh with hh
  injection hh with _ q
  exact hT q
theorem JD {cs:Array Value} {i:Nat} {u x:Value} (h:cs[i]?=some x):(cs.setIfInBounds i u)[i]?=some u:=by
 have hlt:i<cs.size:=by
  rcases Nat.lt_or_ge i cs.size with h1 | h1
  ·exact h1
  ·rw [Array.getElem?_eq_none h1] at h;cases h
 rw [Array.getElem?_setIfInBounds,if_pos rfl,if_pos hlt]
theorem ZY {cs:Array Value} {i j:Nat} {u:Value} (h:i≠j):(cs.setIfInBounds i u)[j]?=cs[j]?:=by rw [Array.getElem?_setIfInBounds,if_neg h]
theorem Zko {w:World} {B bw o g cap nb:Nat} {T:TypeId} {cs:Array Value} {l:List Bool} {b:Bool} (hb:w.heap[bw]?=some (.cells cs T (0,0))) (h0:cs[o]?=some (.slice (some ⟨g,0,none⟩) nb cap)) (h1:cs[o+1]?=some (.int .i64 (l.length:Nat))) (hT:T≠5)
  (ho:w.ownsRow B 5 1 (.slice (some ⟨g,0,none⟩) nb cap) nb (Qw l nb)) (hn:l.length / 8<nb) (hn2:nb=Zk (l++[b])) :
  WIn (((w.setCell ⟨g,l.length / 8,none⟩ (.int .u8 ((M.byteOf (l++[b]) (l.length / 8):Nat):Int))).drew).setCell ⟨bw,o+1,none⟩ (.int .i64 ((l.length:Nat)+1))) B bw o T (cs.setIfInBounds (o+1) (.int .i64 ((l.length:Nat)+1))) (.slice (some ⟨g,0,none⟩) nb cap) (l++[b]) ∧
  X8 w bw (.slice (some ⟨g,0,none⟩) nb cap) (((w.setCell ⟨g,l.length / 8,none⟩ (.int .u8 ((M.byteOf (l++[b]) (l.length / 8):Nat):Int))).drew).setCell ⟨bw,o+1,none⟩ (.int .i64 ((l.length:Nat)+1))) (.slice (some ⟨g,0,none⟩) nb cap):=by
 have hne:g≠bw:=by
  have:=Zbi ho hb hT
  simpa [Value.ownBlock] using this
 refine ⟨⟨?_,?_,?_,?_,hT⟩,rfl,rfl,rfl,by simp [World.setCell],?_,Or.inl rfl⟩
 ·have h1:((w.setCell ⟨g,l.length / 8,none⟩ (.int .u8 ((M.byteOf (l++[b]) (l.length / 8):Nat):Int))).drew).heap[bw]?=some (.cells cs T (0,0)):=
   (Below.heap_setCell _ _ _ _ (fun e=>hne e.symm)).trans hb
  exact block_setCell h1 (o+1) (.int .i64 ((l.length:Nat)+1))
 ·rw [ZY (by omega)];exact h0
 ·rw [JD h1,List.length_append];rfl
 ·rw [←hn2]
  have h1:=(ho.stored (l.length / 8) (.int .u8 ((M.byteOf (l++[b]) (l.length / 8):Nat):Int))).1
  rw [Zkn l b nb hn] at h1
  exact ownsRow_setCell_other (w:=(w.setCell ⟨g,l.length / 8,none⟩ (.int .u8 ((M.byteOf (l++[b]) (l.length / 8):Nat):Int))).drew) h1 (a:=⟨bw,o+1,none⟩) (by simpa [Value.ownBlock] using hne) _
 ·intro q hq hb hv
  refine (Below.heap_setCell _ _ _ _ hb).trans ?_
  exact Below.heap_setCell _ _ _ _ (fun e=>hv (by simp [Value.ownBlock,e]))
theorem Zkp {w:World} {B g cap nb:Nat} {l:List Bool} (h:w.ownsRow B 5 1 (.slice (some ⟨g,0,none⟩) nb cap) nb (Qw l nb)) {i:Nat} (hi:i<nb) :
  w.cell? ⟨g,i,none⟩=some (.int .u8 ((M.byteOf l i:Nat):Int))∧w.frozen? ⟨g,i,none⟩=false:=by
 rcases h.2 with ⟨h0,_⟩|⟨g',cap',cur,e,_,hh,_,_,_,htk⟩
 ·cases h0
 ·injection e with e1 e2 e3
  injection e1 with e1
  injection e1 with e1
  subst e1
  refine ⟨?_,Zd hh i⟩
  have e:=congrArg (fun q:List Value=>q[i]?) htk
  simp only [Nat.mul_one,List.getElem?_take,hi,if_true,Array.getElem?_toList,Qw,List.getElem?_map,List.getElem?_range hi,Option.map_some] at e
  rw [cell_of_block hh i,e]
theorem Zd1 {w:World} {B n:Nat} {v:Value} {xs:List Value} (h:w.ownsRow B 5 1 v n xs) (hn:0<n):∃ g cap,v=.slice (some ⟨g,0,none⟩) n cap:=by
 rcases h.2 with ⟨_,h0⟩|⟨g,cap,_,hv,_⟩
 ·omega
 ·exact ⟨g,cap,hv⟩
theorem Zkq (l:List Bool) (n m:Nat) (hn:n<18446744073709551616) :
  bits .or .u8 ((M.byteOf l (l.length / 8):Nat):Int) (bits .and .u64 (((n / 2 ^ m:Nat)):Int) 1 % 256*2 ^ (7-l.length % 8) % 256)=((M.byteOf (l++[n.testBit m]) (l.length / 8):Nat):Int):=by
 have h1:bits .and .u64 (((n / 2 ^ m:Nat)):Int) 1=(((n.testBit m).toNat:Nat):Int):=by
  have:=u64_and_nat (n / 2 ^ m) 1 (Nat.lt_of_le_of_lt (Nat.div_le_self _ _) hn) (by omega)
  rw [Nat.and_one_is_mod] at this
  rw [Nat.toNat_testBit]
  exact this
 have hp:2 ^ (7-l.length % 8)≤128:=Nat.pow_le_pow_right (n:=2) (by decide) (show 7-l.length % 8≤7 by omega)
 have hb:=Bool.toNat_lt (n.testBit m)
 have h2:(((n.testBit m).toNat:Nat):Int) % 256*2 ^ (7-l.length % 8) % 256=(((n.testBit m).toNat*2 ^ (7-l.length % 8):Nat):Int):=by
  rw [show ((2:Int) ^ (7-l.length % 8))=((2 ^ (7-l.length % 8):Nat):Int) from (Int.natCast_pow 2 _).symm]
  generalize 2 ^ (7-l.length % 8)=P at hp
  cases n.testBit m
  ·simp
  ·simp;omega
 rw [h1,h2,u8_or_nat _ _ (M.byteOf_lt _ _) (by
  generalize 2 ^ (7-l.length % 8)=P at hp
  cases n.testBit m
  ·simp
  ·simp;omega),M.byteOf_snoc]
def Ready (w:World) (B bw o:Nat) (T:TypeId) (cs:Array Value) (v:Value) (m:List Bool) (b:Bool) (wx:World):Prop:=
 ∃ g cap ds,wx.heap[bw]?=some (.cells ds T (0,0))∧YP o cs ds∧ds[o]?=some (.slice (some ⟨g,0,none⟩) (Zk (m++[b])) cap)∧ds[o+1]?=some (.int .i64 (m.length:Nat)) ∧
  wx.ownsRow B 5 1 (.slice (some ⟨g,0,none⟩) (Zk (m++[b])) cap) (Zk (m++[b])) (Qw m (Zk (m++[b])))∧X8 w bw v wx (.slice (some ⟨g,0,none⟩) (Zk (m++[b])) cap)
theorem Tq79 {p:Prop} (h:p:=by
 unfold Zk;rw [List.length_append];simp only [List.length_cons,List.length_nil];omega):p:=h
theorem Zkr {m:List Bool} (b:Bool) (h:m.length % 8≠0):Zk (m++[b])=Zk m:=by
 exact Tq79
theorem ZfY {m:List Bool} (b:Bool) (h:m.length % 8=0):Zk (m++[b])=Zk m+1:=by
 exact Tq79
theorem Zd2 (m:List Bool) (b:Bool):m.length / 8<Zk (m++[b]):=by
 exact Tq79
theorem Zks {w w1:World} {B bw o:Nat} {T:TypeId} {cs:Array Value} {v v':Value} {m:List Bool} {b:Bool} {ob:Obj} (h:WIn w B bw o T cs v m)
  (h8:m.length % 8=0) (hown:w1.ownsRow B 5 1 v' (Zk m+1) (Qw m (Zk m)++[.int .u8 0])) (hg:(w.alloc ob).grownBy w1 v.ownBlock) (hat:v'.ownBlock=v.ownBlock∨v'.ownBlock=some (w.heap.size+1)) :
  Ready w B bw o T cs v m b (w1.setCell ⟨bw,o,none⟩ v'):=by
 have hb:=h.blk
 have ho:=h.own
 have hne:=Zbi ho hb h.ty
 have hlt:=lt_of_block hb
 have h1:w1.heap[bw]?=some (.cells cs T (0,0)):=
  (hg.block bw (by simp;omega) (fun e=>hne e.symm)).trans ((Below.heap_alloc w ob bw hlt).trans hb)
 have hv':v'.ownBlock≠some bw:=Zbi hown h1 h.ty
 rw [Zkm m _ (by unfold Zk;omega),←ZfY b h8] at hown
 obtain ⟨g,cap,rfl⟩:=Zd1 hown (by rw [ZfY b h8];omega)
 refine ⟨g,cap,_,block_setCell h1 o _,(YP.refl o cs).set0 _,JD h.c0,by rw [ZY (by omega)];exact h.c1,?_,?_⟩
 ·exact ownsRow_setCell_other hown (a:=⟨bw,o,none⟩) hv' _
 ·refine ⟨hg.os,hg.tape,hg.output,?_,?_,?_⟩
  ·have:=hg.size;simp [World.setCell] at this ⊢;omega
  ·intro q hq hb hv
   refine (Below.heap_setCell _ _ _ _ hb).trans ((hg.block q (by simp;omega) (fun e=>hv e.symm)).trans (Below.heap_alloc w ob q hq))
  ·rcases hat with h | h
   ·exact Or.inl h
   ·exact Or.inr ⟨_,h,by omega⟩
set_option maxRecDepth 100000 in
set_option maxHeartbeats 1000000 in
theorem Zkt (B bw o:Nat) (T:TypeId) (cs:Array Value) (v:Value) (l:List Bool) (n k:Nat) (w:World) (h:WIn w B bw o T cs v l) (hB:B≤w.heap.size) (hl:l.length+k≤2000000) (hk:k≤64) (hn:n<18446744073709551616) :
  Calls Tryz.prog 232 #[.pointer (some ⟨bw,o,none⟩),.int .u64 (n:Int),.int .i64 (k:Int)] w fun e w'=>e=.returned (.tuple #[])∧∃ v' ds,WIn w' B bw o T ds v' (l++bitsOf n k)∧YP o cs ds∧X8 w bw v w' v':=by
 obtain ⟨i0,hi,hz0,hz1,hz2⟩:=info_parts info5
 have HI:=Qh (Qi hi (Qi hz0 (Qi hz1 hz2)));clear hi hz0 hz1 hz2
 have HW:=Qh h;clear h
 have HB:=Qh hB;clear hB
 go_enter Tryz.func232,Tryz.ntmps232
 go_wp2_with fail
 go_loopg [8] k (fun gh i wr=>∃ j:Nat,gh=k-j∧j≤k∧i=.int .i64 j∧∃ v' ds,(WIn wr B bw o T ds v' (l++bitsUpto n k j)∧YP o cs ds∧X8 w bw v wr v'))
 case atStart=>exact ⟨0,rfl,by omega,rfl,v,cs,by simpa [bitsUpto] using HW.out,YP.refl _ _,X8.refl _ _ _⟩
 case round=>
  obtain ⟨j,hgh,hj,rfl,v',ds,hR⟩:=hrel
  have Hgh:=Qh hgh;clear hgh
  have HR:=Qh hR;clear hR
  by_cases hlt:j<k
  ·obtain ⟨m,hm⟩:∃ m,m=l++bitsUpto n k j:=⟨_,rfl⟩
   have hml:m.length=l.length+j:=by rw [hm,List.length_append,bitsUpto_length]
   have hW:=HR.out.1
   rw [←hm] at hW
   have HM:=Qh (Qi hm (Qi hml hW))
   have c0:=(cell_of_block hW.blk o).trans hW.c0
   have c1:=(cell_of_block hW.blk (o+1)).trans hW.c1
   have f0:=Zd hW.blk o
   have hLb:m.length≤2000000:=by omega
   have hnb:Zk m≤300000:=by unfold Zk;omega
   clear hm hml hW
   go_upto_if 16 with fail
   go_cut [8] (fun i wx=>i=.int .i64 j∧Ready wr B bw o T ds v' m (n.testBit (k-1-j)) wx)
   case first=>
    by_cases h8:m.length % 8=0
    ·have hm8:((m.length:Int) % 8==0)=true:=by rw [beq_iff_eq];omega
     have H8:=Qh h8;clear h8
     go_wp2_with (at_builtin;refine wpList_append_own_at _ rfl _ _ 41 rfl B 5 i0 (.int .u8 0) 1 1 Tryz.underlying41 HI.out.1 HI.out.2.1 HI.out.2.2.1 HI.out.2.2.2 rfl (by decide) _ _ _ rfl (HM.out.2.2.own.alloc _) ⟨wr.heap.size,0,none⟩ 1 1 [.int .u8 0] rfl rfl ?c1 ?c2 ?c3 ?c4 ?c5 ?_)
     case c1=>exact cell_one_new _ _ _
     case c2=>intro u hu;simp at hu;subst hu;rfl
     case c3=>unfold maxLen;omega
     case c4=>omega
     case c5=>have:=HB.out;have:=HR.out.2.2.size;simp;omega
     intro v2 w1 hown2 hgrow2 _ ZfZ
     have hr:=Zks (b:=n.testBit (k-1-j)) HM.out.2.2 H8.out hown2 hgrow2 ZfZ
     have hbl:=(hgrow2.block bw (by have:=lt_of_block HM.out.2.2.blk;simp;omega) (fun e=>Zbi HM.out.2.2.own HM.out.2.2.blk HM.out.2.2.ty e.symm)).trans ((Below.heap_alloc wr _ bw (lt_of_block HM.out.2.2.blk)).trans HM.out.2.2.blk)
     have hcb:=(cell_of_block hbl o).trans HM.out.2.2.c0
     have hfb:=Zd hbl o
     obtain ⟨g2,cap2,rfl⟩:=Zd1 hown2 (by omega)
     have HN:=Qh hr;clear hr hown2 hgrow2 ZfZ hbl
     go_wp2_with fail
     go_meet
     exact ⟨rfl,HN.out⟩
    ·have hm8:((m.length:Int) % 8==0)=false:=by rw [beq_eq_false_iff_ne];omega
     have H8:=Qh h8;clear h8
     go_wp2_with fail
     go_meet
     refine ⟨rfl,?_⟩
     have hW:=HM.out.2.2
     obtain ⟨g,cap,rfl⟩:=Zd1 hW.own (by have:=H8.out;unfold Zk;omega)
     have e:=Zkr (n.testBit (k-1-j)) H8.out
     refine ⟨g,cap,ds,hW.blk,YP.refl _ _,?_,hW.c1,?_,?_⟩
     ·rw [e];exact hW.c0
     ·rw [e];exact hW.own
     ·rw [e];exact X8.refl _ _ _
   case rest=>
    obtain ⟨rfl,hcut⟩:=hcut
    have HF:=Qh HR.out.2
    have HM2:=Qh (Qi HM.out.1 (Qi HM.out.2.1 HM.out.2.2.ty))
    clear HR HM c0 c1 f0 hnb
    obtain ⟨g,cap,es,hb,hsb,h0,h1,ho,hfr⟩:=hcut
    obtain ⟨hc,hf⟩:=Zkp ho (i:=m.length / 8) (Zd2 _ _)
    have hst:=Zko (b:=n.testBit (k-1-j)) hb h0 h1 HM2.out.2.2 ho (Zd2 _ _) rfl
    have hbv:=Zkq m n (k-1-j) hn
    have hnb:=Zd2 m (n.testBit (k-1-j))
    obtain ⟨L,hL⟩:∃ L,L=m.length:=⟨_,rfl⟩
    obtain ⟨nb,Zd3⟩:∃ nb,nb=Zk (m++[n.testBit (k-1-j)]):=⟨_,rfl⟩
    rw [←hL] at h1 hc hf hst hbv hnb hLb
    rw [←Zd3] at h0 ho hst hnb hfr
    have c0:=(cell_of_block hb o).trans h0
    have c1:=(cell_of_block hb (o+1)).trans h1
    have i1:(0:Int)≤((L / 8:Nat):Int):=by omega
    have i2:((L / 8:Nat):Int)<(nb:Int):=by omega
    have s1:(0:Int)≤((k:Int)-1-(j:Int)):=by omega
    have s2:((k:Int)-1-(j:Int))≤64:=by omega
    have s3:((k:Int)-1-(j:Int)).toNat=k-1-j:=by omega
    have w1:IntKind.i64.wrap ((k:Int)-1)=(k:Int)-1:=Go.IntWalk.i64_in _ (by omega)
    have w2:IntKind.i64.wrap ((k:Int)-1-(j:Int))=(k:Int)-1-(j:Int):=Go.IntWalk.i64_in _ (by omega)
    have hne:bw≠g:=by
     have:=Zbi ho hb HM2.out.2.2
     intro e
     exact this (by simp [Value.ownBlock,e])
    have hB2:=(Below.heap_setCell wc ⟨g,L / 8,none⟩ (.int .u8 ((M.byteOf (m++[n.testBit (k-1-j)]) (L / 8):Nat):Int)) bw hne).trans hb
    have Zf0:bits .or .u8 ((M.byteOf m (L / 8):Nat):Int) (bits .and .u64 ((n:Int) / 2 ^ (k-1-j)) 1 % 256*2 ^ (7-L % 8) % 256)=((M.byteOf (m++[n.testBit (k-1-j)]) (L / 8):Nat):Int):=by
     rw [←hbv,Int.natCast_ediv,Int.natCast_pow];rfl
    have HS:=Qh (Qi hst (Qi Zf0 (Qi Zd3 (Qi hB2 (Qi hfr (Qi hsb (Qi h1 h0)))))))
    clear hst hbv Zf0 Zd3 hb ho hL hB2 hfr hsb h0 h1
    go_wp2_with fail
    go_region
    rw [HS.out.2.1]
    obtain ⟨w2,hw2⟩:∃ w2,w2=(wc.setCell ⟨g,L / 8,none⟩ (.int .u8 ((M.byteOf (m++[n.testBit (k-1-j)]) (L / 8):Nat):Int))).drew:=⟨_,rfl⟩
    rw [←hw2]
    have hb2:w2.heap[bw]?=some (.cells es T (0,0)):=by rw [hw2];exact HS.out.2.2.2.1
    have c1:=(cell_of_block hb2 (o+1)).trans HS.out.2.2.2.2.2.2.1
    have f1:=Zd hb2 (o+1)
    have Hw2:=Qh hw2
    clear hb2 hw2 hc hf
    go_wp2_with fail
    go_roundg (k-(j+1))
    case measure=>have hgh:=Hgh.out;omega
    case rel=>
     refine ⟨j+1,rfl,by omega,rfl,.slice (some ⟨g,0,none⟩) nb cap,es.setIfInBounds (o+1) (.int .i64 ((L:Nat)+1)),?_⟩
     rw [bitsUpto_succ,←List.append_assoc,←HM2.out.1,Hw2.out]
     exact ⟨HS.out.1.1,(HF.out.1.trans HS.out.2.2.2.2.2.1).set1 _,(HF.out.2.trans HS.out.2.2.2.2.1).trans HS.out.1.2⟩
  ·have hjk:j=k:=by omega
   subst hjk
   go_wp2_with fail
   go_end0
   exact ⟨rfl,v',ds,HR.out⟩
end
section
structure Fr (F:List Nat) (w:World) (G:List Nat) (w':World):Prop where
 os:w'.os=w.os
 tape:w'.tape=w.tape
 output:w'.output=w.output
 size:w.heap.size≤w'.heap.size
 block:∀ q,q<w.heap.size→q∉F→w'.heap[q]?=w.heap[q]?
 own:∀ q,q∈G→q∈F∨w.heap.size≤q
theorem Fr.refl (F:List Nat) (w:World):Fr F w F w:=⟨rfl,rfl,rfl,Nat.le_refl _,fun _ _ _=>rfl,fun _ h=>Or.inl h⟩
theorem Fr.trans {F G H:List Nat} {a b c:World} (h:Fr F a G b) (k:Fr G b H c):Fr F a H c:=by
 refine ⟨k.os.trans h.os,k.tape.trans h.tape,k.output.trans h.output,Nat.le_trans h.size k.size,?_,?_⟩
 ·intro q hq hF
  refine (k.block q (Nat.lt_of_lt_of_le hq h.size) ?_).trans (h.block q hq hF)
  intro hG
  rcases h.own q hG with h1 | h1
  ·exact hF h1
  ·omega
 ·intro q hq
  rcases k.own q hq with h1 | h1
  ·exact h.own q h1
  ·exact Or.inr (Nat.le_trans h.size h1)
theorem Fr.more {F G:List Nat} {a b:World} (h:Fr F a G b) (H:List Nat):Fr (F++H) a (G++H) b:=by
 refine ⟨h.os,h.tape,h.output,h.size,fun q hq hF=>h.block q hq (fun e=>hF (List.mem_append_left _ e)),?_⟩
 intro q hq
 rcases List.mem_append.1 hq with h1 | h1
 ·rcases h.own q h1 with h2 | h2
  ·exact Or.inl (List.mem_append_left _ h2)
  ·exact Or.inr h2
 ·exact Or.inl (List.mem_append_right _ h1)
theorem Fr.drewN {F G:List Nat} {a b:World} (h:Fr F a G b) (n:Nat):Fr F a G (b.drewN n):=⟨h.os,h.tape,h.output,h.size,h.block,h.own⟩
theorem Fr.of_below {w w':World} (h:Below w.heap.size w w') (F:List Nat):Fr F w F w':=⟨h.os,h.tape,h.output,h.size,fun q hq _=>h.block q hq,fun _ hq=>Or.inl hq⟩
theorem Fr.of_only {b:Nat} {w w':World} (h:Only b w w'):Fr [b] w [b] w':=⟨h.os,h.tape,h.output,by rw [h.size];exact Nat.le_refl _,fun q _ hn=>h.block q (fun e=>hn (by simp [e])),fun _ hq=>Or.inl hq⟩
theorem Fr.below {F G:List Nat} {w w':World} (h:Fr F w G w') {B:Nat} (hB:B≤w.heap.size) (hF:∀ q,q∈F→B≤q):Below B w w':=
 ⟨h.os,h.tape,h.output,h.size,fun q hq=>h.block q (by omega) (fun e=>by have:=hF q e;omega)⟩
theorem Fr.apart {F G H:List Nat} {w w':World} (h:Fr F w G w') (hd:∀ q,q∈H→q∉F) (hl:∀ q,q∈H→q<w.heap.size):∀ q,q∈H→q∉G:=by
 intro q hq hG
 rcases h.own q hG with h1 | h1
 ·exact hd q hq h1
 ·have:=hl q hq;omega
theorem Fr.base {F G:List Nat} {w w':World} (h:Fr F w G w') {B:Nat} (hB:B≤w.heap.size) (hF:∀ q,q∈F→B≤q):∀ q,q∈G→B≤q:=by
 intro q hG
 rcases h.own q hG with h1 | h1
 ·exact hF q h1
 ·omega
def WOk (w:World) (B bw o:Nat) (T:TypeId) (cs:Array Value) (F:List Nat) (l:List Bool):Prop:=∃ v,WIn w B bw o T cs v l∧F=bw :: v.ownBlock.toList∧B≤bw
theorem X8.fr {w w':World} {bw:Nat} {v v':Value} (h:X8 w bw v w' v'):Fr (bw :: v.ownBlock.toList) w (bw :: v'.ownBlock.toList) w':=by
 refine ⟨h.os,h.tape,h.output,h.size,?_,?_⟩
 ·intro q hq hn
  simp only [List.mem_cons,Option.mem_toList,not_or] at hn
  exact h.block q hq hn.1 hn.2
 ·intro q hq
  simp only [List.mem_cons,Option.mem_toList] at hq ⊢
  rcases hq with h1 | h1
  ·exact Or.inl (Or.inl h1)
  ·rcases h.own with h2|⟨g,h2,h3⟩
   ·rw [h2] at h1;exact Or.inl (Or.inr h1)
   ·rw [h2] at h1;injection h1 with h1;subst h1;exact Or.inr h3
theorem Yg {w:World} {B e s n:Nat} {v:Value} {xs:List Value} (h:w.ownsRow B e s v n xs) {q:Nat} (hq:v.ownBlock=some q):q<w.heap.size∧B≤q:=by
 rcases h.2 with ⟨rfl,_⟩|⟨g,cap,cur,rfl,hB,hh,_⟩
 ·simp [Value.ownBlock] at hq
 ·have:g=q:=by simpa [Value.ownBlock] using hq
  subst this
  exact ⟨lt_of_block hh,hB⟩
theorem Zku {w w':World} {B e s n:Nat} {v:Value} {xs:List Value} (h:w.ownsRow B e s v n xs) (hk:∀ q,v.ownBlock=some q→w'.heap[q]?=w.heap[q]?):w'.ownsRow B e s v n xs:=by
 refine ⟨h.1,?_⟩
 rcases h.2 with h1|⟨g,cap,cur,rfl,hB,hh,r⟩
 ·exact Or.inl h1
 ·exact Or.inr ⟨g,cap,cur,rfl,hB,(hk g rfl).trans hh,r⟩
section
variable {w w':World} {B bw o:Nat} {T:TypeId} {cs:Array Value} {F:List Nat} {l:List Bool}
theorem WOk.lt (h:WOk w B bw o T cs F l):∀ q,q∈F→q<w.heap.size:=by
 obtain ⟨v,hw,rfl,_⟩:=h
 intro q hq
 simp only [List.mem_cons,Option.mem_toList] at hq
 rcases hq with rfl | h1
 ·exact lt_of_block hw.blk
 ·exact (Yg hw.own h1).1
theorem WOk.base (h:WOk w B bw o T cs F l):∀ q,q∈F→B≤q:=by
 obtain ⟨v,hw,rfl,hB⟩:=h
 intro q hq
 simp only [List.mem_cons,Option.mem_toList] at hq
 rcases hq with rfl | h1
 ·exact hB
 ·exact (Yg hw.own h1).2
theorem WOk.same (h:WOk w B bw o T cs F l) (hk:∀ q,q∈F→w'.heap[q]?=w.heap[q]?):WOk w' B bw o T cs F l:=by
 obtain ⟨v,hw,rfl,hB⟩:=h
 exact ⟨v,⟨(hk bw (by simp)).trans hw.blk,hw.c0,hw.c1,Zku hw.own fun q hq=>hk q (by simp [hq]),hw.ty⟩,rfl,hB⟩
theorem WOk.below (h:WOk w B bw o T cs F l) (hb:Below w.heap.size w w'):WOk w' B bw o T cs F l:=
 h.same fun q hq=>hb.block q (h.lt q hq)
theorem WOk.head (h:WOk w B bw o T cs F l):bw∈F:=by obtain ⟨v,_,rfl,_⟩:=h;simp
theorem WOk.blk (h:WOk w B bw o T cs F l):w.heap[bw]?=some (.cells cs T (0,0)):=by obtain ⟨v,hw,_⟩:=h;exact hw.blk
theorem WOk.cell (h:WOk w B bw o T cs F l) (i:Nat):w.cell? ⟨bw,i,none⟩=cs[i]?:=cell_of_block h.blk i
theorem WOk.free (h:WOk w B bw o T cs F l) (i:Nat):w.frozen? ⟨bw,i,none⟩=false:=Zd h.blk i
theorem WOk.len (h:WOk w B bw o T cs F l):cs[o+1]?=some (.int .i64 (l.length:Nat)):=by obtain ⟨v,hw,_⟩:=h;exact hw.c1
theorem WOk.set_ (h:WOk w B bw o T cs F l) (i:Nat) (h0:i≠o) (h1:i≠o+1) (u:Value):WOk (w.setCell ⟨bw,i,none⟩ u) B bw o T (cs.setIfInBounds i u) F l:=by
 obtain ⟨v,hw,rfl,hB⟩:=h
 have hne:=Zbi hw.own hw.blk hw.ty
 refine ⟨v,⟨block_setCell hw.blk i u,by rw [ZY h0];exact hw.c0,by rw [ZY h1];exact hw.c1,?_,hw.ty⟩,rfl,hB⟩
 exact ownsRow_setCell_other hw.own (a:=⟨bw,i,none⟩) hne _
end
theorem WOk.new {w:World} {B o:Nat} {T:TypeId} {cs:Array Value} (hB:B≤w.heap.size) (h0:cs[o]?=some (.slice none 0 0)) (h1:cs[o+1]?=some (.int .i64 0)) (hT:T≠5):WOk (w.alloc (.cells cs T)) B w.heap.size o T cs [w.heap.size] []:=
 ⟨.slice none 0 0,⟨heap_alloc_new w _,h0,h1,⟨rfl,Or.inl ⟨rfl,rfl⟩⟩,hT⟩,rfl,hB⟩
open M (bitsOf bitsOf_length)
theorem Zkv (B bw o:Nat) (T:TypeId) (cs:Array Value) (F:List Nat) (l:List Bool) (n k:Nat) (w:World) (h:WOk w B bw o T cs F l) (hB:B≤w.heap.size) (hl:l.length+k≤2000000) (hk:k≤64) (hn:n<18446744073709551616) :
  Calls Tryz.prog 232 #[.pointer (some ⟨bw,o,none⟩),.int .u64 (n:Int),.int .i64 (k:Int)] w fun e w'=>e=.returned (.tuple #[])∧∃ F' ds,WOk w' B bw o T ds F' (l++bitsOf n k)∧YP o cs ds∧Fr F w F' w':=by
 obtain ⟨v,hw,rfl,hb⟩:=h
 refine (Zkt B bw o T cs v l n k w hw hB hl hk hn).mono ?_
 rintro e w' ⟨rfl,v',ds,hw',hs,fr⟩
 exact ⟨rfl,_,ds,⟨v',hw',rfl,hb⟩,hs,fr.fr⟩
theorem Zkw (B bw o:Nat) (T:TypeId) (cs:Array Value) (F:List Nat) (l:List Bool) (k:Int) (w:World) (h:WOk w B bw o T cs F l) (k0:0≤k) (hl:(l.length:Int)+k≤1048576) :
  Calls Tryz.prog 231 #[.pointer (some ⟨bw,o,none⟩),.int .i64 k] w fun e w'=>e=.returned (.int .i64 0)∧w=w':=by
 have hc:=(h.cell (o+1)).trans h.len
 clear h
 go_enter Tryz.func231,Tryz.ntmps231
 go_wp2_with fail
 go_ret
 exact ⟨rfl,rfl⟩
theorem Tq48 {p:Prop} (h:p:=by
 go_enter Tryz.func214,Tryz.ntmps214
 go_wp2_with fail
 refine H.out.1.mono ?_
 rintro e w' ⟨rfl,rfl⟩
 go_wp2_with fail
 refine H.out.2.mono ?_
 rintro e w' ⟨rfl,hq⟩
 have HQ:=Qh hq;clear hq
 go_wp2_with fail
 go_ret
 exact ⟨rfl,HQ.out⟩):p:=h
theorem Zkx (B bw o:Nat) (T:TypeId) (cs:Array Value) (F:List Nat) (l:List Bool) (n k:Nat) (w:World) (h:WOk w B bw o T cs F l) (hB:B≤w.heap.size) (hl:l.length+k≤1048576) (hk:k≤64) (hn:n<2 ^ k) :
  Calls Tryz.prog 214 #[.pointer (some ⟨bw,o,none⟩),.int .u64 (n:Int),.int .i64 (k:Int)] w fun e w'=>e=.returned (.int .i64 0)∧∃ F' ds,WOk w' B bw o T ds F' (l++bitsOf n k)∧YP o cs ds∧Fr F w F' w':=by
 have h64:n<18446744073709551616:=by
  have:2 ^ k≤2 ^ 64:=Nat.pow_le_pow_right (by decide) hk
  have e:(18446744073709551616:Nat)=2 ^ 64:=rfl
  omega
 have hr:=Zkw B bw o T cs F l k w h (by omega) (by omega)
 have hp:=Zkv B bw o T cs F l n k w h hB (by omega) hk h64
 have H:=Qh (Qi hr hp)
 have hz:(n:Int) / 2 ^ k=0:=by
  rw [show ((2:Int) ^ k)=((2 ^ k:Nat):Int) from (Int.natCast_pow 2 k).symm,←Int.natCast_ediv,Nat.div_eq_of_lt hn];rfl
 clear h hB hr hp hn
 rcases Nat.lt_or_ge k 64 with h1 | h1
 ·exact Tq48
 ·have e:k=64:=by omega
  subst e
  clear hz
  exact Tq48
theorem Zf1 {B bw o:Nat} {T:TypeId} {cs:Array Value} {F:List Nat} {l:List Bool} {n k:Int} (N K:Nat) {w:World} (h:WOk w B bw o T cs F l) (hB:B≤w.heap.size) (en:n=N) (ek:k=K) (hl:l.length+K≤1048576) (hk:K≤64) (hn:N<2 ^ K) :
  Calls Tryz.prog 214 #[.pointer (some ⟨bw,o,none⟩),.int .u64 n,.int .i64 k] w fun e w'=>e=.returned (.int .i64 0)∧∃ F' ds,WOk w' B bw o T ds F' (l++bitsOf N K)∧YP o cs ds∧Fr F w F' w':=by
 subst en ek;exact Zkx B bw o T cs F l N K w h hB hl hk hn
theorem Zky {B bw o:Nat} {T:TypeId} {cs:Array Value} {F:List Nat} {l:List Bool} (n:Int) {w:World} (h:WOk w B bw o T cs F l) (e:(l.length:Int)=n) :
  Calls Tryz.prog 212 #[.pointer (some ⟨bw,o,none⟩)] w fun e w'=>e=.returned (.int .i64 n)∧w=w':=by
 subst e
 have hc:=(h.cell (o+1)).trans h.len
 clear h
 go_enter Tryz.func212,Tryz.ntmps212
 go_wp2_with fail
 go_ret
 exact ⟨rfl,rfl⟩
end
end Go.Proofs.YtlgcfimhfmgkmaaGreatDoor
