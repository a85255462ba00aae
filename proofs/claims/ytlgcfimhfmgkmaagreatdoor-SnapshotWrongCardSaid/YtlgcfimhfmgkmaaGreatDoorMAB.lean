/- Lemmas for the statement. -/
import Derived.Test.YtlgcfimhfmgkmaaGreatDoorMAA
import Derived.Laws.CopyOwn
import Derived.Laws.MakeOwn
import Derived.Deep.RegionLaw
import Derived.Outline
set_option linter.unusedVariables false
set_option linter.unusedSimpArgs false
set_option maxRecDepth 100000
set_option maxHeartbeats 1000000
namespace Go.Proofs.YtlgcfimhfmgkmaaGreatDoor
open Go.RowKit
section
open M (bitsOf bitsOf_length codeBits codeBits_length zig zag numOf)
def Z8 (w:World) (A:Option Addr) (n:Nat) (f:Nat→Nat):Prop:=∀ i,i<n→∃ ad,A=some ad∧w.cell? (ad.add i)=some (.int .u8 ((f i:Nat):Int))
def Row (w:World) (F:List Nat) (A:Option Addr) (n:Nat) (f:Nat→Nat):Prop:=
 n=0∨∃ g cur,A=some ⟨g,0,none⟩∧g∈F∧w.heap[g]?=some (.cells cur 5 (0,0))∧∀ i,i<n→cur[i]?=some (.int .u8 ((f i:Nat):Int))
theorem add_zero' (g i:Nat):(Addr.add ⟨g,0,none⟩ i)=⟨g,i,none⟩:=by unfold Addr.add;split<;>simp_all
theorem Row.brow {w:World} {F:List Nat} {A:Option Addr} {n:Nat} {f:Nat→Nat} (h:Row w F A n f):Z8 w A n f:=by
 intro i hi
 rcases h with rfl|⟨g,cur,rfl,_,hh,hc⟩
 ·omega
 ·exact ⟨_,rfl,by rw [add_zero',cell_of_block hh i];exact hc i hi⟩
theorem Row.same {w w':World} {F:List Nat} {A:Option Addr} {n:Nat} {f:Nat→Nat} (h:Row w F A n f) (hk:∀ q,q∈F→w'.heap[q]?=w.heap[q]?):Row w' F A n f:=by
 rcases h with h|⟨g,cur,e,hg,hh,hc⟩
 ·exact Or.inl h
 ·exact Or.inr ⟨g,cur,e,hg,(hk g hg).trans hh,hc⟩
def RAt (w:World) (br:Nat) (F:List Nat) (bl:List Bool) (at_:Nat) (bad:Int):Prop:=
 ∃ A n cap,w.heap[br]?=some (.cells #[.bool true,.slice A n cap,.int .i64 (at_:Nat),.int .i64 bad] 314 (0,0))∧bl.length=8*n∧at_≤bl.length∧n≤1000000∧br∉F∧(∀ q,q∈F→q<w.heap.size)∧Row w F A n (M.byteOf bl)
theorem RAt.lt {w:World} {br:Nat} {F:List Nat} {bl:List Bool} {at_:Nat} {bad:Int} (h:RAt w br F bl at_ bad):∀ q,q∈br :: F→q<w.heap.size:=by
 obtain ⟨A,n,cap,hb,_,_,_,_,hF,_⟩:=h
 intro q hq
 rcases List.mem_cons.1 hq with rfl | h1
 ·exact lt_of_block hb
 ·exact hF q h1
theorem RAt.same {w w':World} {br:Nat} {F:List Nat} {bl:List Bool} {at_:Nat} {bad:Int} (h:RAt w br F bl at_ bad) (hk:∀ q,q∈br :: F→w'.heap[q]?=w.heap[q]?) (hs:w.heap.size≤w'.heap.size):RAt w' br F bl at_ bad:=by
 obtain ⟨A,n,cap,hb,h1,h2,h3,h4,hF,hr⟩:=h
 exact ⟨A,n,cap,(hk br (by simp)).trans hb,h1,h2,h3,h4,fun q hq=>Nat.lt_of_lt_of_le (hF q hq) hs,hr.same fun q hq=>hk q (by simp [hq])⟩
theorem RAt.keep {w w':World} {br:Nat} {F G G':List Nat} {bl:List Bool} {at_:Nat} {bad:Int} (h:RAt w br F bl at_ bad) (fr:Fr G w G' w') (hd:∀ q,q∈br :: F→q∉G):RAt w' br F bl at_ bad:=
 h.same (fun q hq=>fr.block q (h.lt q hq) (hd q hq)) fr.size
theorem RAt.drewN {w:World} {br:Nat} {F:List Nat} {bl:List Bool} {at_:Nat} {bad:Int} (h:RAt w br F bl at_ bad) (n:Nat):RAt (w.drewN n) br F bl at_ bad:=h
theorem RAt.set_at {w:World} {br:Nat} {F:List Nat} {bl:List Bool} {at_:Nat} {bad:Int} (h:RAt w br F bl at_ bad) (a:Nat) (ha:a≤bl.length):RAt (w.setCell ⟨br,2,none⟩ (.int .i64 (a:Nat))) br F bl a bad:=by
 obtain ⟨A,n,cap,hb,h1,h2,h3,h4,hF,hr⟩:=h
 refine ⟨A,n,cap,by simpa using block_setCell hb 2 (.int .i64 (a:Nat)),h1,ha,h3,h4,fun q hq=>by simpa [World.setCell] using hF q hq,hr.same fun q hq=>Below.heap_setCell _ _ _ _ (fun e=>h4 (by cases e;exact hq))⟩
theorem RAt.set_bad {w:World} {br:Nat} {F:List Nat} {bl:List Bool} {at_:Nat} {bad:Int} (h:RAt w br F bl at_ bad) (e:Int):RAt (w.setCell ⟨br,3,none⟩ (.int .i64 e)) br F bl at_ e:=by
 obtain ⟨A,n,cap,hb,h1,h2,h3,h4,hF,hr⟩:=h
 refine ⟨A,n,cap,by simpa using block_setCell hb 3 (.int .i64 e),h1,h2,h3,h4,fun q hq=>by simpa [World.setCell] using hF q hq,hr.same fun q hq=>Below.heap_setCell _ _ _ _ (fun e=>h4 (by cases e;exact hq))⟩
theorem Zkz {a b a' b':Value} (h:a=a') (h':b=b'):Ending.returned (.tuple #[a,b])=.returned (.tuple #[a',b']):=by rw [h,h']
namespace M
theorem ZkA (a b c d e f g h:Bool):Yz a b c d e f g h / 128 % 2=a.toNat:=by cases a<;>cases b<;>cases c<;>cases d<;>cases e<;>cases f<;>cases g<;>cases h<;>decide
theorem ZkB (a b c d e f g h:Bool):Yz a b c d e f g h / 64 % 2=b.toNat:=by cases a<;>cases b<;>cases c<;>cases d<;>cases e<;>cases f<;>cases g<;>cases h<;>decide
theorem ZkC (a b c d e f g h:Bool):Yz a b c d e f g h / 32 % 2=c.toNat:=by cases a<;>cases b<;>cases c<;>cases d<;>cases e<;>cases f<;>cases g<;>cases h<;>decide
theorem ZkD (a b c d e f g h:Bool):Yz a b c d e f g h / 16 % 2=d.toNat:=by cases a<;>cases b<;>cases c<;>cases d<;>cases e<;>cases f<;>cases g<;>cases h<;>decide
theorem ZkE (a b c d e f g h:Bool):Yz a b c d e f g h / 8 % 2=e.toNat:=by cases a<;>cases b<;>cases c<;>cases d<;>cases e<;>cases f<;>cases g<;>cases h<;>decide
theorem ZkF (a b c d e f g h:Bool):Yz a b c d e f g h / 4 % 2=f.toNat:=by cases a<;>cases b<;>cases c<;>cases d<;>cases e<;>cases f<;>cases g<;>cases h<;>decide
theorem ZkG (a b c d e f g h:Bool):Yz a b c d e f g h / 2 % 2=g.toNat:=by cases a<;>cases b<;>cases c<;>cases d<;>cases e<;>cases f<;>cases g<;>cases h<;>decide
theorem ZkH (a b c d e f g h:Bool):Yz a b c d e f g h / 1 % 2=h.toNat:=by cases a<;>cases b<;>cases c<;>cases d<;>cases e<;>cases f<;>cases g<;>cases h<;>decide
theorem byteOf_bit (l:List Bool) (m:Nat):byteOf l (m / 8) / 2 ^ (7-m % 8) % 2=(l.getD m false).toNat:=by
 obtain ⟨i,p,hp,rfl⟩:∃ i p,p<8∧m=8*i+p:=⟨m / 8,m % 8,by omega,by omega⟩
 rw [show (8*i+p) / 8=i from by omega,show (8*i+p) % 8=p from by omega]
 unfold byteOf
 rcases (show p=0∨p=1∨p=2∨p=3∨p=4∨p=5∨p=6∨p=7 from by omega) with rfl|rfl|rfl|rfl|rfl|rfl|rfl|rfl
 ·exact ZkA _ _ _ _ _ _ _ _
 ·exact ZkB _ _ _ _ _ _ _ _
 ·exact ZkC _ _ _ _ _ _ _ _
 ·exact ZkD _ _ _ _ _ _ _ _
 ·exact ZkE _ _ _ _ _ _ _ _
 ·exact ZkF _ _ _ _ _ _ _ _
 ·exact ZkG _ _ _ _ _ _ _ _
 ·exact ZkH _ _ _ _ _ _ _ _
theorem take_one_more {l:List Bool} {a j:Nat} (h:a+j<l.length):(l.drop a).take (j+1)=(l.drop a).take j++[l.getD (a+j) false]:=by
 rw [List.take_succ_eq_append_getElem (by rw [List.length_drop];omega)]
 congr 2
 rw [List.getElem_drop,List.getD_eq_getElem?_getD,List.getElem?_eq_getElem h]
 rfl
end M
theorem ZkI (x:Nat) (h:x<256):bits .and .u8 (x:Int) 1=((x % 2:Nat):Int):=by
 have:=u8_and_nat x 1 h (by omega)
 rw [Nat.and_one_is_mod] at this
 exact this
theorem ZkJ (l:List Bool) (m x:Nat) (hx:x<9223372036854775808) :
  bits .or .u64 ((x:Int)*2) (IntKind.u64.wrap (bits .and .u8 ((M.byteOf l (m / 8):Nat) / (2:Int) ^ (7-m % 8)) 1))=((2*x+(l.getD m false).toNat:Nat):Int):=by
 have hb:=M.byteOf_lt l (m / 8)
 have:=Bool.toNat_lt (l.getD m false)
 rw [show ((M.byteOf l (m / 8):Nat) / (2:Int) ^ (7-m % 8))=(((M.byteOf l (m / 8) / 2 ^ (7-m % 8):Nat)):Int) from by rw [Int.natCast_ediv,Int.natCast_pow];rfl]
 rw [ZkI _ (Nat.lt_of_le_of_lt (Nat.div_le_self _ _) hb),M.byteOf_bit,Bv.wrap_in (by omega) (by omega),show ((x:Int)*2)=((2*x:Nat):Int) from by omega,u64_or_nat _ _ (by omega) (by omega)]
 congr 1
 cases l.getD m false
 ·simp
 ·show 2*x ||| 1=2*x+1
  apply Nat.eq_of_testBit_eq
  intro i
  rw [Nat.testBit_or]
  cases i with
  | zero=>simp [Nat.testBit_zero]
  | succ i=>rw [Nat.testBit_succ,Nat.testBit_succ,Nat.testBit_succ,show (2*x+1) / 2=x from by omega,show 2*x / 2=x from by omega];simp
theorem ZkK (br:Nat) (F:List Nat) (bl:List Bool) (a k:Nat) (bad:Int) (w:World) (h:RAt w br F bl a bad) (hk:a+k≤bl.length) (hk2:k≤64) :
  Calls Tryz.prog 238 #[.pointer (some ⟨br,0,none⟩),.int .i64 (k:Int)] w fun e w'=>e=.returned (.int .u64 (numOf ((bl.drop a).take k):Nat))∧RAt w' br F bl (a+k) bad∧Only br w w':=by
 have HW:=Qh h;clear h
 go_enter Tryz.func238,Tryz.ntmps238
 go_wp2_with fail
 go_loopg [5,7] k (fun gh x i wr=>∃ j X:Nat,gh=k-j∧j≤k∧i=.int .i64 j∧x=.int .u64 X∧(X=numOf ((bl.drop a).take j)∧RAt wr br F bl (a+j) bad∧Only br w wr))
 case atStart=>exact ⟨0,0,rfl,by omega,rfl,rfl,rfl,HW.out,Only.refl _ _⟩
 case round=>
  obtain ⟨j,X,hgh,hj,rfl,rfl,hX,hr,ho⟩:=hrel
  have Hgh:=Qh hgh;clear hgh
  by_cases hlt:j<k
  ·have HR:=Qh (Qi hX (Qi hr ho))
   have hXb:X<2 ^ j:=by
    rw [hX]
    refine Nat.lt_of_lt_of_le (M.numOf_lt _) (Nat.pow_le_pow_right (by decide) ?_)
    rw [List.length_take];omega
   have ZkL:X<9223372036854775808:=by
    have:2 ^ j≤2 ^ 63:=Nat.pow_le_pow_right (by decide) (by omega)
    have e:(9223372036854775808:Nat)=2 ^ 63:=rfl
    omega
   obtain ⟨A,n,cap,hb,hl,ha,hn,hnF,hF,hrow⟩:=hr
   rcases hrow with h0|⟨g,cur,rfl,hg,hh,ZbT⟩
   ·omega
   have hcc:=(cell_of_block hh ((a+j) / 8)).trans (ZbT ((a+j) / 8) (by omega))
   have c1:=(cell_of_block hb 1).trans rfl
   have c2:=(cell_of_block hb 2).trans rfl
   have f2:=Zd hb 2
   have hv:=ZkJ bl (a+j) X ZkL
   have hbt:=M.byteOf_lt bl ((a+j) / 8)
   obtain ⟨L,hL⟩:∃ L,L=a+j:=⟨_,rfl⟩
   rw [←hL] at hcc c2 hv hbt
   obtain ⟨by_,hby⟩:∃ q,q=M.byteOf bl (L / 8):=⟨_,rfl⟩
   rw [←hby] at hcc hv hbt
   have hLn:L<8*n:=by omega
   have HS:=Qh (Qi hL (Qi hv hby))
   have i1:(0:Int)≤((L / 8:Nat):Int):=by omega
   have i2:((L / 8:Nat):Int)<(n:Int):=by omega
   have s1:IntKind.i64.wrap (7-(L:Int) % 8)=7-(L:Int) % 8:=Go.IntWalk.i64_in _ (by omega)
   have s2:(0:Int)≤7-(L:Int) % 8:=by omega
   clear hL hv hby hb hl ha hh ZbT hX hXb ho hg hF hnF
   go_wp2_with fail
   go_quiet (fail)
   rw [HS.out.2.1]
   obtain ⟨X',hX'⟩:∃ q,q=2*X+(bl.getD L false).toNat:=⟨_,rfl⟩
   rw [←hX']
   have HX:=Qh hX';clear hX'
   go_wp2
   go_roundg (k-(j+1))
   case measure=>have:=Hgh.out;omega
   case rel=>
    refine ⟨j+1,X',rfl,by omega,rfl,rfl,?_,?_,?_⟩
    ·rw [M.take_one_more (by omega),M.numOf_snoc,←HR.out.1,HX.out,HS.out.1]
    ·have h1:=(HR.out.2.1.drewN nq).set_at (a+(j+1)) (by omega)
     rw [show ((a+(j+1):Nat):Int)=(L:Int)+1 from by have:=HS.out.1;omega] at h1
     exact h1
    ·exact (HR.out.2.2.drewN nq).setCell rfl _
  ·have hjk:j=k:=by omega
   subst hjk
   have HR:=Qh (Qi hX (Qi hr ho))
   clear hX hr ho
   go_wp2_with fail
   go_ret
   exact ⟨ZbS (congrArg (fun q:Nat=>Value.int .u64 q) HR.out.1),HR.out.2⟩
theorem Zf2 (br:Nat) (F:List Nat) (bl:List Bool) (a:Nat) (bad:Int) (w:World) (h:RAt w br F bl a bad) :
  Calls Tryz.prog 237 #[.pointer (some ⟨br,0,none⟩)] w fun e w'=>e=.returned (.int .i64 ((bl.length-a:Nat):Int))∧∃ m,w'=w.drewN m:=by
 obtain ⟨A,n,cap,hb,hl,ha,hn,hnF,hF,hrow⟩:=h
 have c1:=(cell_of_block hb 1).trans rfl
 have c2:=(cell_of_block hb 2).trans rfl
 have hv:8*(n:Int)-(a:Int)=((bl.length-a:Nat):Int):=by omega
 have H:=Qh hv
 have w1:IntKind.i64.wrap (8*(n:Int))=8*(n:Int):=Go.IntWalk.i64_in _ (by omega)
 have w2:IntKind.i64.wrap (8*(n:Int)-(a:Int))=8*(n:Int)-(a:Int):=Go.IntWalk.i64_in _ (by omega)
 clear hv hb hl ha hn hnF hF hrow
 go_enter Tryz.func237,Tryz.ntmps237
 go_wp2_with fail
 go_quiet (fail)
 go_wp2
 go_ret
 exact ⟨ZbS (congrArg (Value.int .i64) H.out),nq,rfl⟩
theorem ZkM (br:Nat) (F:List Nat) (bl:List Bool) (a k:Nat) (bad:Int) (w:World) (h:RAt w br F bl a bad) (hk:a+k≤bl.length) (hk2:k≤64) :
  Calls Tryz.prog 230 #[.pointer (some ⟨br,0,none⟩),.int .i64 (k:Int)] w fun e w'=>e=.returned (.tuple #[.int .u64 (numOf ((bl.drop a).take k):Nat),.int .i64 0])∧RAt w' br F bl (a+k) bad∧Only br w w':=by
 have hr:=Zf2 br F bl a bad w h
 have hg:=fun m=>ZkK br F bl a k bad (w.drewN m) (h.drewN m) hk hk2
 have H:=Qh (Qi hr hg)
 have hd:decide (((bl.length-a:Nat):Int)<(k:Int))=false:=decide_eq_false (by omega)
 have hd2:decide ((bl.length-a:Nat)<k)=false:=decide_eq_false (by omega)
 clear h hr hg
 go_enter Tryz.func230,Tryz.ntmps230
 go_wp2_with fail
 refine H.out.1.mono ?_
 rintro e w' ⟨rfl,m,rfl⟩
 go_wp2_with fail
 refine (H.out.2 m).mono ?_
 rintro e w' ⟨rfl,h1,h2⟩
 have HQ:=Qh (Qi h1 h2);clear h1 h2
 go_wp2_with fail
 go_ret2
 exact ⟨rfl,HQ.out.1,⟨HQ.out.2.os,HQ.out.2.tape,HQ.out.2.output,HQ.out.2.size,HQ.out.2.block⟩⟩
theorem ZkN (br:Nat) (F:List Nat) (bl:List Bool) (a k:Nat) (bad:Int) (w:World) (h:RAt w br F bl a bad) (hk:bl.length<a+k) (hk2:k≤64) :
  Calls Tryz.prog 230 #[.pointer (some ⟨br,0,none⟩),.int .i64 (k:Int)] w fun e w'=>e=.returned (.tuple #[.int .u64 0,.int .i64 180])∧∃ m,w'=w.drewN m:=by
 have hr:=Zf2 br F bl a bad w h
 have H:=Qh hr
 have hd:decide (((bl.length-a:Nat):Int)<(k:Int))=true:=decide_eq_true (by obtain ⟨A,n,cap,hb,hl,ha,_⟩:=h;omega)
 have hd2:decide ((bl.length-a:Nat)<k)=true:=decide_eq_true (by obtain ⟨A,n,cap,hb,hl,ha,_⟩:=h;omega)
 clear h hr
 go_enter Tryz.func230,Tryz.ntmps230
 go_wp2_with fail
 refine H.out.mono ?_
 rintro e w' ⟨rfl,m,rfl⟩
 go_wp2_with fail
 go_ret2
 exact ⟨rfl,m,rfl⟩
theorem RAt.bad_cell {w:World} {br:Nat} {F:List Nat} {bl:List Bool} {at_:Nat} {bad:Int} (h:RAt w br F bl at_ bad) :
  w.cell? ⟨br,0,none⟩=some (.bool true)∧w.cell? ⟨br,2,none⟩=some (.int .i64 (at_:Nat))∧w.cell? ⟨br,3,none⟩=some (.int .i64 bad)∧(∀ i,w.frozen? ⟨br,i,none⟩=false):=by
 obtain ⟨A,n,cap,hb,_⟩:=h
 exact ⟨(cell_of_block hb 0).trans rfl,(cell_of_block hb 2).trans rfl,(cell_of_block hb 3).trans rfl,fun i=>Zd hb i⟩
theorem ZkO (br:Nat) (k most bad:Int) (f:Value) (w:World) (hm:w.cell? ⟨br,0,none⟩=some (.bool true)) (hb:w.cell? ⟨br,3,none⟩=some (.int .i64 bad)) (hne:(bad != 0)=true) (k0:0≤k) (k1:k≤most) :
  Calls Tryz.prog 229 #[.pointer (some ⟨br,0,none⟩),.int .i64 k,.int .i64 most,f] w fun e w'=>e=.returned (.tuple #[.int .u64 0,.int .i64 bad])∧∃ m,w'=w.drewN m:=by
 go_enter Tryz.func229,Tryz.ntmps229
 go_wp2_with fail
 go_quiet (fail)
 go_wp2
 go_ret2
 exact ⟨rfl,nq,rfl⟩
theorem ZkP (br:Nat) (F:List Nat) (bl:List Bool) (a:Nat) (k most:Int) (v:Int) (s:List Bool) (w:World) (h:RAt w br F bl a 0) (k0:0≤k) (k1:k≤most)
  (hc:Calls Tryz.prog 230 #[.pointer (some ⟨br,0,none⟩),.int .i64 k] w fun e w'=>e=.returned (.tuple #[.int .u64 v,.int .i64 0])∧(∃ a',RAt w' br F bl a' 0∧bl.drop a'=s)∧Only br w w') :
  Calls Tryz.prog 229 #[.pointer (some ⟨br,0,none⟩),.int .i64 k,.int .i64 most,.func (.func 230) #[.pointer (some ⟨br,0,none⟩)] #[]] w fun e w'=>e=.returned (.tuple #[.int .u64 v,.int .i64 0])∧(∃ a',RAt w' br F bl a' 0∧bl.drop a'=s)∧Only br w w':=by
 obtain ⟨c0,c2,c3,hf⟩:=h.bad_cell
 have H:=Qh (Qi h hc)
 clear h hc hf
 go_enter Tryz.func229,Tryz.ntmps229
 go_wp2_with fail
 refine H.out.2.mono ?_
 rintro e w' ⟨rfl,h1⟩
 have HQ:=Qh h1;clear h1
 go_wp2_with fail
 go_ret2
 exact ⟨rfl,HQ.out⟩
theorem ZkQ (br:Nat) (F:List Nat) (bl:List Bool) (a:Nat) (k most:Int) (err v:Int) (w:World) (h:RAt w br F bl a 0) (k0:0≤k) (k1:k≤most) (hne:(err != 0)=true)
  (hc:Calls Tryz.prog 230 #[.pointer (some ⟨br,0,none⟩),.int .i64 k] w fun e w'=>e=.returned (.tuple #[.int .u64 v,.int .i64 err])∧(∃ a',RAt w' br F bl a' 0)∧Only br w w') :
  Calls Tryz.prog 229 #[.pointer (some ⟨br,0,none⟩),.int .i64 k,.int .i64 most,.func (.func 230) #[.pointer (some ⟨br,0,none⟩)] #[]] w fun e w'=>e=.returned (.tuple #[.int .u64 0,.int .i64 err])∧(∃ a',RAt w' br F bl a' err)∧Only br w w':=by
 obtain ⟨c0,c2,c3,hf⟩:=h.bad_cell
 have H:=Qh (Qi h hc)
 clear h hc hf
 go_enter Tryz.func229,Tryz.ntmps229
 go_wp2_with fail
 refine H.out.2.mono ?_
 rintro e w2 ⟨rfl,⟨a',h1⟩,h2⟩
 obtain ⟨_,_,c3,hf⟩:=h1.bad_cell
 have f3:=hf 3
 have HQ:=Qh (Qi h1 h2);clear h1 h2 hf
 go_wp2_with fail
 go_ret2
 exact ⟨rfl,⟨a',HQ.out.1.set_bad err⟩,HQ.out.2.setCell rfl _⟩
def ROk (w:World) (br:Nat) (F:List Nat) (s:List Bool) (bad:Nat):Prop:=∃ bl a,RAt w br F bl a bad∧s=if bad=0 then bl.drop a else []
theorem ROk.lt {w:World} {br:Nat} {F:List Nat} {s:List Bool} {bad:Nat} (h:ROk w br F s bad):∀ q,q∈br :: F→q<w.heap.size:=by obtain ⟨bl,a,hr,_⟩:=h;exact hr.lt
theorem ROk.keep {w w':World} {br:Nat} {F G G':List Nat} {s:List Bool} {bad:Nat} (h:ROk w br F s bad) (fr:Fr G w G' w') (hd:∀ q,q∈br :: F→q∉G):ROk w' br F s bad:=by
 obtain ⟨bl,a,hr,e⟩:=h;exact ⟨bl,a,hr.keep fr hd,e⟩
def X9 (k:Nat) (s:List Bool) (bad:Nat):Nat × Nat × List Bool × Nat:=
 if bad≠0 then (0,bad,[],bad) else if s.length<k then (0,180,[],180) else (numOf (s.take k),0,s.drop k,0)
theorem ZkR (br:Nat) (F:List Nat) (s:List Bool) (bad:Nat) (k:Nat) (w:World) (h:ROk w br F s bad) (hk:k≤64) :
  Calls Tryz.prog 213 #[.pointer (some ⟨br,0,none⟩),.int .i64 (k:Int)] w fun e w'=>e=.returned (.tuple #[.int .u64 ((X9 k s bad).1:Nat),.int .i64 ((X9 k s bad).2.1:Nat)])∧ROk w' br F (X9 k s bad).2.2.1 (X9 k s bad).2.2.2∧Only br w w':=by
 obtain ⟨bl,a,hr,hs⟩:=h
 by_cases hb:bad=0
 ·subst hb
  rw [if_pos rfl] at hs
  have hal:a≤bl.length:=by obtain ⟨A,n,cap,hb,hl,ha,_⟩:=hr;exact ha
  by_cases hl:s.length<k
  ·have e:X9 k s 0=(0,180,[],180):=by unfold X9;rw [if_neg (by simp),if_pos hl]
   rw [e]
   have hn:=ZkN br F bl a k 0 w hr (by rw [hs,List.length_drop] at hl;omega) hk
   have hc:=ZkQ br F bl a k 64 180 0 w hr (by omega) (by omega) (by decide) (hn.mono fun e w' ⟨h1,m,h2⟩=>⟨h1,⟨a,by rw [h2];exact hr.drewN m⟩,by rw [h2];exact (Only.refl _ _).drewN m⟩)
   have H:=Qh hc
   clear hr hn hc hl hal e
   go_enter Tryz.func213,Tryz.ntmps213
   go_wp2_with fail
   refine H.out.mono ?_
   rintro e w' ⟨rfl,h1⟩
   have HQ:=Qh h1;clear h1
   go_wp2_with fail
   go_ret2
   obtain ⟨⟨a',h1⟩,h2⟩:=HQ.out
   exact ⟨rfl,⟨bl,a',h1,rfl⟩,h2⟩
  ·have e:X9 k s 0=(numOf (s.take k),0,s.drop k,0):=by unfold X9;rw [if_neg (by simp),if_neg hl]
   rw [e]
   have hn:=ZkM br F bl a k 0 w hr (by rw [hs,List.length_drop] at hl;omega) hk
   rw [←hs] at hn
   have hc:=ZkP br F bl a k 64 _ (s.drop k) w hr (by omega) (by omega) (hn.mono fun e w' ⟨h1,h2,h3⟩=>⟨h1,⟨a+k,h2,by rw [hs,List.drop_drop]⟩,h3⟩)
   generalize numOf (s.take k)=N at *
   have H:=Qh hc
   clear hr hn hc hl hal e hs
   go_enter Tryz.func213,Tryz.ntmps213
   go_wp2_with fail
   refine H.out.mono ?_
   rintro e w' ⟨rfl,h1⟩
   have HQ:=Qh h1;clear h1
   go_wp2_with fail
   go_ret2
   obtain ⟨⟨a',h1,h3⟩,h2⟩:=HQ.out
   exact ⟨rfl,⟨bl,a',h1,h3.symm⟩,h2⟩
 ·have e:X9 k s bad=(0,bad,[],bad):=by unfold X9;rw [if_pos hb]
  rw [e]
  have hc:=fun f=>ZkO br k 64 bad f w hr.bad_cell.1 hr.bad_cell.2.2.1 (by rw [bne_iff_ne];omega) (by omega) (by omega)
  have H:=Qh (Qi hr hc)
  have HB:=Qh hb
  clear hr hc e hs hb
  go_enter Tryz.func213,Tryz.ntmps213
  go_wp2_with fail
  refine (H.out.2 _).mono ?_
  rintro e w' ⟨rfl,m,rfl⟩
  go_wp2_with fail
  go_ret2
  exact ⟨rfl,⟨bl,a,H.out.1.drewN m,by rw [if_neg HB.out]⟩,(Only.refl _ _).drewN m⟩
theorem Z8.keepd {w w':World} {A:Option Addr} {n:Nat} {f:Nat→Nat} (h:Z8 w A n f) (hb:Below w.heap.size w w'):Z8 w' A n f:=by
 intro i hi
 obtain ⟨ad,e,hc⟩:=h i hi
 exact ⟨ad,e,(hb.cell (World.block_lt_of_cell? w _ hc)).trans hc⟩
def Q4 (w w':World) (v:Value) (n:Nat) (f:Nat→Nat):Prop:=
 (∃ F A cap,v=.slice A n cap∧Row w' F A n f∧(∀ q,q∈F→w.heap.size≤q∧q<w'.heap.size)∧(A=none→n=0∧cap=0))∧Below w.heap.size w w'
theorem ZkS {w:World} {B n:Nat} {v:Value} {f:Nat→Nat} (h:w.ownsRow B 5 1 v n ((List.range n).map fun i=>Value.int .u8 ((f i:Nat):Int))) :
  ∃ F A cap,v=.slice A n cap∧Row w F A n f∧(∀ q,q∈F→B≤q∧q<w.heap.size)∧(A=none→n=0∧cap=0):=by
 rcases h.2 with ⟨rfl,rfl⟩|⟨g,cap,cur,rfl,hB,hh,_,_,_,htk⟩
 ·exact ⟨[],none,0,rfl,Or.inl rfl,fun q hq=>absurd hq (by simp),fun _=>⟨rfl,rfl⟩⟩
 ·refine ⟨[g],some ⟨g,0,none⟩,cap,rfl,Or.inr ⟨g,cur,rfl,by simp,hh,?_⟩,fun q hq=>?_,fun e=>by cases e⟩
  ·intro i hi
   have e:=congrArg (fun q:List Value=>q[i]?) htk
   simp only [Nat.mul_one,List.getElem?_take,hi,if_true,Array.getElem?_toList,List.getElem?_map,List.getElem?_range hi,Option.map_some] at e
   exact e
  ·rw [List.mem_singleton] at hq;subst hq;exact ⟨hB,lt_of_block hh⟩
theorem ZkT (n cap:Nat) (w:World) :
  Calls Tryz.prog 174 #[.slice none 0 0] w fun e w'=>e=.returned (.slice none 0 0)∧w=w':=by
 have q:∀ (w:World) (a:Option Addr) (n c n' c':Nat),(binOp .eql 41 (.slice a n c) (.slice none n' c')).run Tryz.prog w=.ok (.bool a.isNone) w:=fun w a n c n' c'=>Lib.run_eql_slice_nil w _ _ a n c n' c' Tryz.underlying41
 go_enter Tryz.func174,Tryz.ntmps174
 go_wp2_with fail
 go_ret
 exact ⟨rfl,rfl⟩
theorem ZkU (ad:Addr) (n cap:Nat) (f:Nat→Nat) (w:World) (h:Z8 w (some ad) n f) (hn:n≤1000000) :
  Calls Tryz.prog 174 #[.slice (some ad) n cap] w fun e w'=>∃ v,e=.returned v∧Q4 w w' v n f:=by
 obtain ⟨i0,hi,hz0,hz1,hz2⟩:=info_parts info5
 have HI:=Qh (Qi hi (Qi hz0 (Qi hz1 hz2)));clear hi hz0 hz1 hz2
 have hnews:∀ o,∀ j u,((List.range n).map fun i=>Value.int .u8 ((f i:Nat):Int))[j]?=some u→(w.alloc o).cell? (ad.add j)=some u:=by
  intro o j u hu
  rw [List.getElem?_map] at hu
  rcases Nat.lt_or_ge j n with hj | hj
  ·rw [List.getElem?_range hj,Option.map_some] at hu
   obtain ⟨ad',e,hc⟩:=h j hj
   injection e with e
   subst e
   rw [World.cell?_alloc_lt w o _ (World.block_lt_of_cell? w _ hc),hc,hu]
  ·rw [List.getElem?_eq_none (by simp;omega)] at hu;simp at hu
 have H:=Qh hnews;clear hnews h
 have q:∀ (w:World) (a:Option Addr) (n c n' c':Nat),(binOp .eql 41 (.slice a n c) (.slice none n' c')).run Tryz.prog w=.ok (.bool a.isNone) w:=fun w a n c n' c'=>Lib.run_eql_slice_nil w _ _ a n c n' c' Tryz.underlying41
 go_enter Tryz.func174,Tryz.ntmps174
 go_wp2_with (at_builtin;refine wpList_append_own_at _ rfl _ _ 41 rfl w.heap.size 5 i0 (.int .u8 0) 1 1 Tryz.underlying41 HI.out.1 HI.out.2.1 HI.out.2.2.1 HI.out.2.2.2 rfl (by decide) (.slice (some ⟨w.heap.size,0,none⟩) 0 0) 0 [] rfl ?c0 ad n cap ((List.range n).map fun i=>Value.int .u8 ((f i:Nat):Int)) rfl ?c1 ?c2 ?c3 ?c4 ?c5 ?c6 ?_)
 case c0=>exact ⟨rfl,Or.inr ⟨_,0,_,rfl,Nat.le_refl _,heap_alloc_new w _,Nat.le_refl _,by unfold maxLen;omega,rfl,rfl⟩⟩
 case c1=>simp
 case c2=>exact H.out _
 case c3=>intro u hu;rw [List.mem_map] at hu;obtain ⟨i,_,rfl⟩:=hu;rfl
 case c4=>unfold maxLen;omega
 case c5=>omega
 case c6=>simp
 intro v' w1 hown hg _ hat
 have HN:=Qh (Qi hown (Qi hg hat));clear hown hg hat
 go_wp2_with fail
 go_ret
 refine ⟨_,rfl,?_,?_⟩
 ·exact ZkS HN.out.1
 ·exact ((Below.refl _ _).alloc (Nat.le_refl _) _).grown HN.out.2.1 (by simp) (by intro q hq;simp [Value.ownBlock] at hq;omega)
theorem Zd4 (A:Option Addr) (n cap:Nat) (f:Nat→Nat) (w:World) (h:Z8 w A n f) (hn:n≤1000000) (hnil:A=none→n=0∧cap=0) :
  Calls Tryz.prog 174 #[.slice A n cap] w fun e w'=>∃ v,e=.returned v∧Q4 w w' v n f:=by
 rcases A with _ | ad
 ·obtain ⟨rfl,rfl⟩:=hnil rfl
  refine (ZkT 0 0 w).mono ?_
  rintro e w' ⟨rfl,rfl⟩
  exact ⟨_,rfl,⟨[],none,0,rfl,Or.inl rfl,fun q hq=>absurd hq (by simp),fun _=>⟨rfl,rfl⟩⟩,Below.refl _ _⟩
 ·exact ZkU ad n cap f w h hn
theorem WOk.row {w:World} {B bw o:Nat} {T:TypeId} {cs:Array Value} {F:List Nat} {l:List Bool} (h:WOk w B bw o T cs F l):∃ A cap,w.cell? ⟨bw,o,none⟩=some (.slice A (Zk l) cap)∧Z8 w A (Zk l) (M.byteOf l)∧(A=none→Zk l=0∧cap=0):=by
 obtain ⟨v,hw,rfl,hB⟩:=h
 have hc:=(cell_of_block hw.blk o).trans hw.c0
 rcases hw.own.2 with ⟨rfl,h0⟩|⟨g,cap,cur,rfl,hB,hh,_,_,_,htk⟩
 ·exact ⟨none,0,by rw [h0];exact hc,fun i hi=>by omega,fun _=>⟨h0,rfl⟩⟩
 ·refine ⟨some ⟨g,0,none⟩,cap,hc,fun i hi=>⟨_,rfl,?_⟩,fun e=>by cases e⟩
  rw [add_zero',cell_of_block hh i]
  have e:=congrArg (fun q:List Value=>q[i]?) htk
  simp only [Nat.mul_one,List.getElem?_take,hi,if_true,Array.getElem?_toList,Qw,List.getElem?_map,List.getElem?_range hi,Option.map_some] at e
  exact e
theorem Q4.brow {w w':World} {v:Value} {n:Nat} {f:Nat→Nat} (h:Q4 w w' v n f):∃ A cap,v=.slice A n cap∧Z8 w' A n f∧Below w.heap.size w w'∧(A=none→n=0∧cap=0):=by
 obtain ⟨⟨F,A,cap,e,hr,_,hn⟩,hb⟩:=h
 exact ⟨A,cap,e,hr.brow,hb,hn⟩
theorem ZkV {B bw o:Nat} {T:TypeId} {cs:Array Value} {F:List Nat} {l:List Bool} (n:Nat) {w:World} (h:WOk w B bw o T cs F l) (hl:l.length≤2000000) (e:Zk l=n) :
  Calls Tryz.prog 211 #[.pointer (some ⟨bw,o,none⟩)] w fun e w'=>∃ v,e=.returned v∧Q4 w w' v n (M.byteOf l):=by
 subst e
 obtain ⟨A,cap,hc,hr,hnil⟩:=h.row
 have hcl:=Zd4 A (Zk l) cap _ w hr (by unfold Zk;omega) hnil
 have H:=Qh hcl
 clear h hr hnil hcl
 go_enter Tryz.func211,Tryz.ntmps211
 go_wp2_with fail
 refine H.out.mono ?_
 rintro e w' ⟨v,rfl,hq⟩
 have HQ:=Qh hq;clear hq
 go_wp2_with fail
 go_ret
 exact ⟨v,rfl,HQ.out⟩
theorem ZkW (A:Option Addr) (n cap:Nat) (bl:List Bool) (w:World) (h:Z8 w A n (M.byteOf bl)) (hl:bl.length=8*n) (hn:n≤1000000) (hnil:A=none→n=0∧cap=0) :
  Calls Tryz.prog 210 #[.slice A n cap] w fun e w'=>∃ br F,e=.returned (.pointer (some ⟨br,0,none⟩))∧ROk w' br F bl 0∧(∀ q,q∈br :: F→w.heap.size≤q)∧Below w.heap.size w w':=by
 have hcl:=Zd4 A n cap _ w h hn hnil
 have H:=Qh hcl
 clear h hnil hcl
 go_enter Tryz.func210,Tryz.ntmps210
 go_wp2_with fail
 refine H.out.mono ?_
 rintro e w1 ⟨v,rfl,⟨F,A',cap',rfl,hr,hF,_⟩,hb⟩
 have HQ:=Qh (Qi hr (Qi hF hb));clear hr hF hb
 go_wp2_with fail
 go_ret
 obtain ⟨hr,hF,hb⟩:=HQ.out
 refine ⟨w1.heap.size,F,rfl,⟨bl,0,⟨A',n,cap',heap_alloc_new w1 _,hl,by omega,hn,?_,?_,?_⟩,by simp⟩,?_,?_⟩
 ·intro e;have:=(hF _ e).2;omega
 ·intro q hq;have:=(hF q hq).2;simp;omega
 ·exact hr.same fun q hq=>Below.heap_alloc _ _ _ (hF q hq).2
 ·intro q hq
  rcases List.mem_cons.1 hq with rfl | h1
  ·exact hb.size
  ·exact (hF q h1).1
 ·exact hb.alloc hb.size _
theorem Ze {w x y:World} (h:Below w.heap.size w x) (k:Below x.heap.size x y):Below w.heap.size w y:=h.trans (k.mono h.size)
theorem ZkX {w x:World} (h:Below w.heap.size w x) (o:Obj):Below w.heap.size w (x.alloc o):=h.alloc h.size o
theorem YW {w x:World} (h:Below w.heap.size w x) (m:Nat):Below w.heap.size w (x.drewN m):=below_drewN' h m
theorem ZbU {w x y:World} {F G:List Nat} (h:Below w.heap.size w x) (k:Fr F x G y) (hF:∀ q,q∈F→w.heap.size≤q):Below w.heap.size w y:=h.trans (k.below h.size hF)
theorem ZcE {w x y:World} {b:Nat} (h:Below w.heap.size w x) (k:Only b x y) (hb:w.heap.size≤b):Below w.heap.size w y:=h.trans (k.below hb)
def pad (l:List Bool):List Bool:=l++List.replicate (8*Zk l-l.length) false
theorem Zf3 (l:List Bool):(pad l).length=8*Zk l:=by unfold pad;rw [List.length_append,List.length_replicate];unfold Zk;omega
theorem ZkY (l:List Bool):8*Zk l-l.length≤7:=by unfold Zk;omega
theorem ZkZ (l:List Bool) (p m:Nat):(l++List.replicate p false).getD m false=l.getD m false:=by
 simp only [List.getD_eq_getElem?_getD]
 rcases Nat.lt_or_ge m l.length with h | h
 ·rw [List.getElem?_append_left h]
 ·rw [List.getElem?_append_right h,List.getElem?_eq_none h]
  rcases Nat.lt_or_ge (m-l.length) p with h1 | h1
  ·rw [List.getElem?_eq_getElem (by simpa using h1)];simp
  ·rw [List.getElem?_eq_none (by simpa using h1)]
theorem Zk0 (l:List Bool):M.byteOf (pad l)=M.byteOf l:=by
 funext i
 unfold M.byteOf pad
 simp only [ZkZ]
theorem Zk1 {br:Nat} {F:List Nat} {s:List Bool} {bad:Nat} (k V E:Nat) (t:List Bool) (b:Nat) {w:World} (h:ROk w br F s bad) (hk:k≤64) (e:X9 k s bad=(V,E,t,b)) :
  Calls Tryz.prog 213 #[.pointer (some ⟨br,0,none⟩),.int .i64 (k:Int)] w fun e w'=>e=.returned (.tuple #[.int .u64 (V:Int),.int .i64 (E:Int)])∧ROk w' br F t b∧Only br w w':=by
 have:=ZkR br F s bad k w h hk
 rw [e] at this
 exact this
theorem Zk2 {br:Nat} {F:List Nat} {s:List Bool} {bad:Nat} {k:Int} (K V E:Nat) (v:Int) (t:List Bool) (b:Nat) {w:World} (h:ROk w br F s bad) (ek:k=K) (ev:v=V) (hk:K≤64) (e:X9 K s bad=(V,E,t,b)) :
  Calls Tryz.prog 213 #[.pointer (some ⟨br,0,none⟩),.int .i64 k] w fun e w'=>e=.returned (.tuple #[.int .u64 v,.int .i64 (E:Int)])∧ROk w' br F t b∧Only br w w':=by
 subst ek ev;exact Zk1 K V E t b h hk e
theorem Zk3 {A:Option Addr} {cap n:Nat} (l:List Bool) {w:World} (h:Z8 w A n (M.byteOf l)) (hn:n=Zk l) (hl:l.length≤2000000) (hnil:A=none→n=0∧cap=0) :
  Calls Tryz.prog 210 #[.slice A n cap] w fun e w'=>∃ br F,e=.returned (.pointer (some ⟨br,0,none⟩))∧ROk w' br F (pad l) 0∧(∀ q,q∈br :: F→w.heap.size≤q)∧Below w.heap.size w w':=by
 refine ZkW A n cap (pad l) w (by rw [Zk0];exact h) (by rw [Zf3,hn]) (by rw [hn];unfold Zk;omega) hnil
end
section
theorem Zk4 (n:Nat) (w:World) (hn:n≤1000) :
  Calls Tryz.prog 236 #[.int .u64 1,.int .u64 (n:Int)] w fun e w'=>e=.returned (.tuple #[.int .u64 0,.int .u64 (n:Int)])∧w=w':=by
 have h1:bits .and .u64 (n:Int) 4294967295=(n:Int):=by
  have:=u64_and_nat n 4294967295 (by omega) (by omega)
  rw [show (4294967295:Nat)=2 ^ 32-1 from rfl,Nat.and_two_pow_sub_one_eq_mod,Nat.mod_eq_of_lt (by omega)] at this
  exact this
 have h2:(n:Int) / 4294967296=0:=by omega
 have h3:bits .and .u64 1 4294967295=1:=by decide +kernel
 have h4:bits .and .u64 0 4294967295=0:=by decide +kernel
 go_enter Tryz.func236,Tryz.ntmps236
 go_wp2_with fail
 go_ret2
 exact ⟨rfl,rfl⟩
theorem Zk5 (n:Nat) (w:World) (hn:n≤1000) :
  Calls Tryz.prog 228 #[.int .u64 1,.int .u64 (n:Int)] w fun e w'=>e=.returned (.tuple #[.int .u64 0,.int .u64 (n:Int)])∧w=w':=by
 go_enter Tryz.func228,Tryz.ntmps228
 go_wp2_with fail
 refine (Zk4 n _ hn).mono ?_
 rintro e w' ⟨rfl,rfl⟩
 go_wp2_with fail
 go_ret2
 exact ⟨rfl,rfl⟩
theorem info3:(Tryz.prog.info? 3).map (fun i=>(i.zero,i.size,i.bytes))=some (some (.int .i64 0),1,8):=by kernel_rfl
theorem Zf4:(Tryz.prog.info? 3).map (·.size)=some 1:=by kernel_rfl
def ones (n c:Nat):List Value:=List.replicate c (.int .i64 1)++List.replicate (n-c) (.int .i64 0)
theorem Zf5 {n c:Nat} (h:c≤n):(ones n c).length=n:=by unfold ones;simp;omega
theorem Zk6 {n c i:Nat} (h:i<c):(ones n c)[i]?=some (.int .i64 1):=by
 unfold ones;rw [List.getElem?_append_left (by simpa using h),List.getElem?_replicate,if_pos h]
theorem Zf6 {n c m:Nat} (h:c+m≤n):splice (ones n c) c (List.replicate m (.int .i64 1))=ones n (c+m):=by
 unfold splice ones
 rw [List.take_append_of_le_length (by simp),List.take_of_length_le (by simp)]
 rw [List.drop_append,List.drop_eq_nil_of_le (by simp),List.nil_append,List.length_replicate,List.length_replicate,List.drop_replicate,←List.append_assoc,List.replicate_append_replicate]
 congr 2;omega
theorem Zk7 (gx n:Nat) (w:World) (hx:w.cell? ⟨gx,0,none⟩=some (.int .i64 1)) (h1:1≤n) (hn:n≤1000) :
  Calls Tryz.prog 209 #[.slice (some ⟨gx,0,none⟩) 1 1,.int .i64 (n:Int)] w fun e w'=>e=.returned (.slice (some ⟨w.heap.size,0,none⟩) n n)∧w'.heap[w.heap.size]?=some (.cells (ones n n).toArray 3 (0,0))∧Below w.heap.size w w':=by
 obtain ⟨i0,hi,hz0,hz1,hz2⟩:=info_parts info3
 have hmk:∀ W:World,(Instr.makeSlice 48 (.int .i64 (n:Int)) (.int .i64 (n:Int))).run Tryz.prog W=.ok (.slice (some ⟨W.heap.size,0,none⟩) n n) (W.alloc (.cells (madeCells (Value.int .i64 0).cells (n*1)) 3)):=fun W=>by
  have:=run_make (P:=Tryz.prog) W 48 3 i0 (.int .i64 0) Tryz.underlying48 hi hz0 .i64 .i64 (n:Int) (n:Int) (by omega) (by omega) (by rw [hz2];omega) (by omega)
  rw [hz1] at this
  simpa using this
 have hmc:madeCells (Value.int .i64 0).cells (n*1)=(ones n 0).toArray:=by
  apply Array.ext
  ·simp [madeCells,ones]
  ·intro i h1 h2
   simp [madeCells,ones,Nat.mod_one,Value.cells]
 clear hi hz0 hz1 hz2
 have HX:=Qh hx
 rw [hmc] at hmk
 clear hmc
 have hsx:∀ o:Obj,(w.alloc o).cell? ⟨gx,0,none⟩=some (.int .i64 1):=fun o=>(World.cell?_alloc_lt w o _ (World.block_lt_of_cell? w _ hx)).trans hx
 go_enter Tryz.func209,Tryz.ntmps209
 go_wp2_with fail
 refine (Zk5 n _ hn).mono ?_
 rintro e w' ⟨rfl,rfl⟩
 have HS:=Qh hsx;clear hsx hx
 go_wp2_with (with_reducible refine wpList_copy_splice rfl (.tmp 31) (.tmp 32) 48 48 rfl 3 Tryz.underlying48 Zf4 (some ⟨w.heap.size,0,none⟩) (some ⟨gx,0,none⟩) n n 1 1 rfl rfl w.heap.size 0 (ones n 0) 3 (heap_alloc_new w _) [.int .i64 1] ?c1 ?c2 ?c3 ?c4 w.heap.size w ?c5 (Nat.le_refl _) ?_)
 case c1=>show 1=min 1 n;omega
 case c2=>
  intro j v hv
  rcases j with _ | j
  ·simp at hv;subst hv;exact HS.out _
  ·simp at hv
 case c3=>rw [Zf5 (by omega)];simp;omega
 case c4=>intro v hv;simp at hv;subst hv;rfl
 case c5=>exact (Below.refl _ _).alloc (Nat.le_refl _) _
 intro w1 hw1 hb1
 have e1:splice (ones n 0) 0 [Value.int .i64 1]=ones n (0+1):=Zf6 (n:=n) (c:=0) (m:=1) (by omega)
 rw [e1] at hw1
 have H1:=Qh (Qi (show w1.heap[w.heap.size]?=some (.cells (ones n 1).toArray 3 (0,0)) from hw1) hb1)
 clear hw1 hb1 e1 HS
 go_wp2_with fail
 go_loopg [8] (n-1) (fun gh v wr=>∃ c:Nat,gh=n-c∧1≤c∧c≤n∧v=.int .i64 c∧(wr.heap[w.heap.size]?=some (.cells (ones n c).toArray 3 (0,0))∧Below w.heap.size w wr))
 case atStart=>exact ⟨1,by omega,by omega,h1,rfl,H1.out⟩
 case round=>
  obtain ⟨c,hgh,hc1,hcn,rfl,hR⟩:=hrel
  have Hgh:=Qh hgh;clear hgh
  have HR:=Qh hR;clear hR H1
  by_cases hlt:c<n
  ·obtain ⟨m,hm⟩:∃ m,m=min c (n-c):=⟨_,rfl⟩
   have hm1:1≤m∧c+m≤n∧m≤c:=by omega
   obtain ⟨hm1,hm2,hm3⟩:=hm1
   have s1:(List.replicate m (Value.int .i64 1)).length=Nat.min c (n-c):=by rw [List.length_replicate,hm]
   have s2:∀ j v,(List.replicate m (Value.int .i64 1))[j]?=some v→wr.cell? (Addr.add ⟨w.heap.size,0,none⟩ j)=some v:=by
    intro j v hv
    rw [List.getElem?_replicate] at hv
    split at hv
    ·injection hv with hv
     subst hv
     rw [add_zero',cell_of_block HR.out.1 j]
     simpa using Zk6 (n:=n) (c:=c) (i:=j) (by omega)
    ·cases hv
   have s3:c+(List.replicate m (Value.int .i64 1)).length≤(ones n c).length:=by rw [Zf5 hcn,List.length_replicate];exact hm2
   have s4:∀ v∈List.replicate m (Value.int .i64 1),v.oneCell'=true:=by intro v hv;rw [List.eq_of_mem_replicate hv];rfl
   have S:=Qh (Qi s1 (Qi s2 (Qi s3 (Qi s4 hm))))
   clear s1 s2 s3 s4 hm
   go_wp2_with fail
   go_region_law (refine step_copy_splice rfl (.tmp 41) (.tmp 44) 48 48 rfl 3 Tryz.underlying48 Zf4 (some ⟨w.heap.size,c,none⟩) (some ⟨w.heap.size,0,none⟩) (n-c) (n-c) c n (by simp [Act.eval,Act.put];omega) (by simp [Act.eval,Act.put]) w.heap.size c (ones n c) 3 HR.out.1 (List.replicate m (Value.int .i64 1)) S.out.1 (fun _=>⟨rfl,_,rfl,S.out.2.1⟩) S.out.2.2.1 S.out.2.2.2.1 w.heap.size w HR.out.2.drew (Nat.le_refl _) ?_;intro w2 hw2 hb2)
   all_goals
    have e2:=Zf6 (n:=n) (c:=c) (m:=m) hm2
    rw [e2] at hw2
    have H2:=Qh (Qi (show w2.heap[w.heap.size]?=some (.cells (ones n (c+m)).toArray 3 (0,0)) from hw2) hb2)
    clear hw2 hb2 e2
    go_wp2_with fail
    go_roundg (n-(c+m))
    case measure=>have:=Hgh.out;omega
    case rel=>exact ⟨c+m,rfl,by omega,hm2,congrArg (Value.int .i64) ((Go.IntWalk.i64_in _ (by omega)).trans (by simp)),H2.out⟩
  ·obtain rfl:c=n:=by omega
   go_wp2_with fail
   go_ret
   exact ⟨rfl,HR.out⟩
structure MOk (w:World) (bm g:Nat) (fr:List Nat):Prop where
 blk:w.heap[bm]?=some (.cells #[.slice (some ⟨g,0,none⟩) fr.length fr.length,.int .i64 (fr.sum:Nat)] 290 (0,0))
 row:w.heap[g]?=some (.cells (fr.map fun x=>Value.int .i64 ((x:Nat):Int)).toArray 3 (0,0))
 pos:0<fr.length
 few:fr.length≤256
 one:∀ x,x∈fr→1≤x
 tot:fr.sum≤8192
section
variable {w w':World} {bm g:Nat} {fr:List Nat}
theorem MOk.same (h:MOk w bm g fr) (h1:w'.heap[bm]?=w.heap[bm]?) (h2:w'.heap[g]?=w.heap[g]?):MOk w' bm g fr:=⟨h1.trans h.blk,h2.trans h.row,h.pos,h.few,h.one,h.tot⟩
theorem MOk.below (h:MOk w bm g fr) (hb:Below w.heap.size w w'):MOk w' bm g fr:=h.same (hb.block _ (lt_of_block h.blk)) (hb.block _ (lt_of_block h.row))
theorem MOk.keep {F G:List Nat} (h:MOk w bm g fr) (fr':Fr F w G w') (h1:bm∉F) (h2:g∉F):MOk w' bm g fr:=h.same (fr'.block _ (lt_of_block h.blk) h1) (fr'.block _ (lt_of_block h.row) h2)
theorem MOk.ne (h:MOk w bm g fr):bm≠g:=by
 rintro rfl
 have h1:=h.blk
 rw [h.row] at h1
 injection h1 with h1
 injection h1 with _ h2
 exact absurd h2 (by decide)
theorem MOk.at_ (h:MOk w bm g fr) {i:Nat} (hi:i<fr.length):w.cell? ⟨g,i,none⟩=some (.int .i64 ((fr.getD i 0:Nat):Int)):=by
 rw [cell_of_block h.row i];simp [List.getD_eq_getElem?_getD,hi]
theorem MOk.c0 (h:MOk w bm g fr):w.cell? ⟨bm,0,none⟩=some (.slice (some ⟨g,0,none⟩) fr.length fr.length):=(cell_of_block h.blk 0).trans rfl
theorem MOk.c1 (h:MOk w bm g fr):w.cell? ⟨bm,1,none⟩=some (.int .i64 (fr.sum:Nat)):=(cell_of_block h.blk 1).trans rfl
end
theorem Zd5 (n:Nat):(List.replicate n 1).sum=n:=by induction n with
 | zero=>rfl
 | succ n ih=>rw [List.replicate_succ,List.sum_cons,ih];omega
theorem ZcF (n:Nat) (w:World) (h1:1≤n) (hn:n≤256) :
  Calls Tryz.prog 168 #[.int .i64 (n:Int)] w fun e w'=>∃ bm g,e=.returned (.tuple #[.pointer (some ⟨bm,0,none⟩),.int .i64 0])∧MOk w' bm g (List.replicate n 1)∧w.heap.size≤bm∧w.heap.size≤g∧Below w.heap.size w w':=by
 go_enter Tryz.func168,Tryz.ntmps168
 go_wp2_with fail
 refine (Zk7 w.heap.size n _ ((cell_of_block (heap_alloc_new w _) 0).trans rfl) h1 (by omega)).mono ?_
 rintro e w1 ⟨rfl,hr,hb⟩
 obtain ⟨g,hg⟩:∃ g,g=(w.alloc (.cells #[.int .i64 1] 3)).heap.size:=⟨_,rfl⟩
 rw [←hg] at hr
 have hgl:w.heap.size≤g:=by rw [hg];simp
 have H:=Qh (Qi hr (Qi (((Below.refl _ _).alloc (Nat.le_refl _) _).trans (hb.mono (by simp)):Below w.heap.size w w1) (Qi hg hgl)))
 clear hr hb hg hgl
 go_wp2_with fail
 go_ret2
 have e1:ones n n=(List.replicate n 1).map fun x=>Value.int .i64 ((x:Nat):Int):=by unfold ones;simp
 refine ⟨w1.heap.size,g,?_,⟨?_,?_,by simp;omega,by simpa using hn,fun x hx=>by rw [List.eq_of_mem_replicate hx];exact Nat.le_refl _,by rw [Zd5];omega⟩,H.out.2.1.size,H.out.2.2.2,H.out.2.1.alloc H.out.2.1.size _⟩
 ·rfl
 ·rw [List.length_replicate,Zd5,H.out.2.2.1]
  have:=heap_alloc_new w1 (.cells #[.slice (some ⟨w.heap.size+1,0,none⟩) n n,.int .i64 (n:Int)] 290)
  simpa using this
 ·rw [←e1];exact (Below.heap_alloc _ _ _ (lt_of_block H.out.1)).trans H.out.1
theorem Zbj {bm g:Nat} {fr:List Nat} (w:World) (h:MOk w bm g fr) :
  Calls Tryz.prog 165 #[.pointer (some ⟨bm,0,none⟩)] w fun e w'=>e=.returned (.bool true)∧w=w':=by
 have c0:=h.c0
 have hp:=h.pos
 have hf:=h.few
 have hd:decide ((0:Int)<(fr.length:Int))=true:=decide_eq_true (by omega)
 clear h
 go_enter Tryz.func165,Tryz.ntmps165
 go_wp2_with fail
 go_ret
 exact ⟨rfl,rfl⟩
theorem Tq65 {p:Prop} (h:p:=by
 go_enter Tryz.func166,Tryz.ntmps166
 go_wp2_with fail
 refine (Zbj _ H.out).mono ?_
 rintro e w' ⟨rfl,rfl⟩
 go_wp2_with fail
 go_ret
 exact ⟨rfl,rfl⟩):p:=h
theorem Zk8 {bm g:Nat} {fr:List Nat} (s:Int) (b:Bool) (w:World) (h:MOk w bm g fr) (hb:(b=true∧0≤s∧s<fr.length)∨(b=false∧(s<0∨(fr.length:Int)≤s))) :
  Calls Tryz.prog 166 #[.pointer (some ⟨bm,0,none⟩),.int .i64 s] w fun e w'=>e=.returned (.bool b)∧w=w':=by
 have c0:=h.c0
 have hf:=h.few
 have H:=Qh h
 clear h
 rcases hb with ⟨rfl,h0,h1⟩|⟨rfl,h0 | h0⟩
 ·exact Tq65
 ·exact Tq65
 ·have hs:0≤s:=by omega
  have hd:decide (s<(fr.length:Int))=false:=decide_eq_false (by omega)
  go_enter Tryz.func166,Tryz.ntmps166
  go_wp2_with fail
  refine (Zbj _ H.out).mono ?_
  rintro e w' ⟨rfl,rfl⟩
  go_wp2_with fail
  go_ret
  first | exact ⟨rfl,rfl⟩|exact ⟨ZbS (congrArg Value.bool hd),rfl⟩
theorem Zbk (l:List Nat) (k:Nat):(l.take k).sum≤l.sum:=by
 have:=congrArg List.sum (List.take_append_drop k l)
 rw [List.sum_append] at this
 omega
theorem ZaJ (l:List Nat) (k:Nat) (h:k<l.length):(l.take (k+1)).sum=(l.take k).sum+l.getD k 0:=by
 rw [List.take_succ_eq_append_getElem h,List.sum_append]
 simp [List.getD_eq_getElem?_getD,h]
theorem Zk9 {bm g:Nat} {fr:List Nat} (s:Nat) (w:World) (h:MOk w bm g fr) (hs:s≤fr.length) :
  Calls Tryz.prog 205 #[.pointer (some ⟨bm,0,none⟩),.int .i64 (s:Int)] w fun e w'=>e=.returned (.int .u64 ((fr.take s).sum:Nat))∧w=w':=by
 have c0:=h.c0
 have hf:=h.few
 have H:=Qh h
 have ht:=h.tot
 clear h
 go_enter Tryz.func205,Tryz.ntmps205
 go_wp2_with fail
 go_loopg [5,15] s (fun gh v i wr=>∃ j X:Nat,gh=s-j∧j≤s∧i=.int .i64 j∧v=.int .i64 (X:Int)∧(X=(fr.take j).sum∧wr=w))
 case atStart=>exact ⟨0,0,rfl,by omega,rfl,rfl,by simp,rfl⟩
 case round=>
  obtain ⟨j,X,hgh,hj,rfl,rfl,hX,rfl⟩:=hrel
  have Hgh:=Qh hgh;clear hgh
  have hXb:X≤8192:=by rw [hX];exact Nat.le_trans (Zbk _ _) ht
  have HX:=Qh hX;clear hX
  by_cases hlt:j<s
  ·have c1:=H.out.at_ (i:=j) (by omega)
   have hss:=ZaJ fr j (by omega)
   have hb2:=Zbk fr (j+1)
   rw [hss,←HX.out] at hb2
   have i0:(0:Int)≤(j:Int):=by omega
   have i1:(j:Int)<(s:Int):=by omega
   obtain ⟨x,hx⟩:∃ x,x=fr.getD j 0:=⟨_,rfl⟩
   rw [←hx] at c1 hb2 hss
   have HS:=Qh hss;clear hss hx
   have hxb:x≤8192:=by omega
   go_wp2_with fail
   go_roundg (s-(j+1))
   case measure=>have:=Hgh.out;omega
   case rel=>exact ⟨j+1,X+x,rfl,by omega,by go_num,by go_num,by rw [HS.out,←HX.out],rfl⟩
  ·obtain rfl:j=s:=by omega
   go_wp2_with fail
   go_ret
   exact ⟨ZbS (congrArg (fun q:Nat=>Value.int .u64 (q:Int)) HX.out),rfl⟩
end
end Go.Proofs.YtlgcfimhfmgkmaaGreatDoor
