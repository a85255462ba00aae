/- Lemmas for the statement. -/
import Derived.Test.YtlgcfimhfmgkmaaGreatDoorMAV
set_option linter.unusedVariables false
set_option linter.unusedSimpArgs false
namespace Go.Proofs.YtlgcfimhfmgkmaaGreatDoor
open Go.RowKit
section
open Go.RowKit Go.Shelf
def XG (k:Nat) (cs:List Cmp):List Cmp:=if YM k cs then [ZL k cs] else []
def Yb (cs:List Cmp) (m:Nat):List Cmp:=(List.range m).flatMap fun j=>XG (j+1) cs
theorem Ze1 (cs:List Cmp) (m:Nat):Yb cs (m+1)=Yb cs m++XG (m+1) cs:=by unfold Yb;rw [List.range_succ,List.flatMap_append];simp
theorem Zn6 (k:Nat) (cs:List Cmp):(XG k cs).length≤1:=by unfold XG;split<;>simp
theorem ZhZ (cs:List Cmp) (m:Nat):(Yb cs m).length≤m:=by
 induction m with
 | zero=>simp [Yb]
 | succ m ih=>rw [Ze1,List.length_append];have:=Zn6 (m+1) cs;omega
theorem Zcc (k:Nat) (cs:List Cmp):XG k cs=(ZC k cs).toList:=by
 unfold XG YM ZL
 rcases ZC k cs with _ | c<;>rfl
theorem Zdn:∀ (n a:Nat) (cs:List Cmp),cs.Pairwise (fun x y=>x.kind<y.kind)→(∀ c,c∈cs→a<c.kind∧c.kind≤a+n)→(List.range' (a+1) n).flatMap (fun k=>XG k cs)=cs
 | 0,a,cs,_,h=>by
  rcases cs with _|⟨c,cs⟩
  ·rfl
  ·have:=h c (.head _);omega
 | n+1,a,cs,hp,h=>by
  rw [List.range'_succ,List.flatMap_cons]
  rcases cs with _|⟨c,cs⟩
  ·have ih:=Zdn n (a+1) [] List.Pairwise.nil (by simp)
   rw [ih]
   simp [Zcc,ZC]
  ·have hp':=List.pairwise_cons.1 hp
   have hc:=h c (.head _)
   by_cases e:c.kind=a+1
   ·have ih:=Zdn n (a+1) cs hp'.2 (fun d hd=>by have:=hp'.1 d hd;have:=h d (.tail _ hd);omega)
    have h1:XG (a+1) (c :: cs)=[c]:=by rw [Zcc];unfold ZC;rw [List.find?_cons_of_pos (by simpa using e)];rfl
    rw [h1]
    have h2:(List.range' (a+1+1) n).flatMap (fun k=>XG k (c :: cs))=(List.range' (a+1+1) n).flatMap (fun k=>XG k cs):=by
     rw [List.flatMap_def,List.flatMap_def]
     congr 1
     refine List.map_congr_left (fun k hk=>?_)
     have:=(List.mem_range'_1.1 hk).1
     rw [Zcc,Zcc]
     unfold ZC
     rw [List.find?_cons_of_neg (by simp;omega)]
    rw [h2,ih]
    rfl
   ·have ih:=Zdn n (a+1) (c :: cs) hp (fun d hd=>by
     have h1:=h d hd
     rcases List.mem_cons.1 hd with rfl | hd
     ·omega
     ·have:=hp'.1 d hd;omega)
    rw [ih]
    have h1:XG (a+1) (c :: cs)=[]:=by
     rw [Zcc]
     have:ZC (a+1) (c :: cs)=none:=by
      unfold ZC
      rw [List.find?_eq_none]
      intro d hd
      have hlt:a+1<d.kind:=by
       rcases List.mem_cons.1 hd with rfl | hd
       ·omega
       ·have:=hp'.1 d hd;omega
      simp;omega
     rw [this];rfl
    rw [h1];rfl
theorem Ze2 {c:Cmp} (h:YJ c=true):1≤c.kind∧c.kind≤10:=by
 unfold YJ at h
 simp only [Bool.and_eq_true,decide_eq_true_eq] at h
 exact h.1.1
theorem Za2 {e:Ent} (h:Yv e=true):e.cs.Pairwise (fun x y=>x.kind<y.kind)∧∀ c,c∈e.cs→YJ c=true:=by
 unfold Yv Xt ZcY at h
 simp only [Bool.and_eq_true,decide_eq_true_eq,Bool.not_eq_true',List.any_eq_false] at h
 refine ⟨(List.pairwise_map.1 h.1.2).imp (fun h=>by omega),fun c hc=>by simpa using h.2 c hc⟩
theorem Zh0 {e:Ent} (h:Yv e=true):Yb e.cs 10=e.cs:=by
 obtain ⟨h1,h2⟩:=Za2 h
 have:=Zdn 10 0 e.cs h1 (fun c hc=>by have:=Ze2 (h2 c hc);omega)
 rw [List.flatMap_def,List.range'_eq_map_range,List.map_map] at this
 unfold Yb
 rw [List.flatMap_def]
 refine Eq.trans (congrArg List.flatten (List.map_congr_left (fun k _=>?_))) this
 show XG (k+1) e.cs=XG (0+1+k) e.cs
 congr 1
 omega
theorem Zn7 {c:Cmp} (h:YJ c=true) {i:Nat} (hi:szK c.kind≤i):i<4→c.v i=0:=by
 intro h4
 have hk:=Ze2 h
 unfold YJ at h
 simp only [Bool.and_eq_true,decide_eq_true_eq] at h
 obtain ⟨⟨_,⟨⟨h0,h1⟩,h2⟩,h3⟩,_⟩:=h
 have key:∀ (k j:Nat) (v:Int),1≤k→k≤10→szK k≤j→j<4→inR k j v=true→v=0:=by
  intro k j v k1 k2 hj j4 hv
  unfold inR at hv
  simp only [Bool.and_eq_true,Bool.not_eq_true',decide_eq_false_iff_not] at hv
  have:rgL k j=0∧rgH k j=0:=by
   have hk:k=1∨k=2∨k=3∨k=4∨k=5∨k=6∨k=7∨k=8∨k=9∨k=10:=by omega
   have hj':j=0∨j=1∨j=2∨j=3:=by omega
   rcases hk with rfl|rfl|rfl|rfl|rfl|rfl|rfl|rfl|rfl|rfl<;>rcases hj' with rfl|rfl|rfl|rfl<;>first | exact ⟨rfl,rfl⟩|(exfalso;revert hj;decide)
  omega
 have hj':i=0∨i=1∨i=2∨i=3:=by omega
 rcases hj' with rfl|rfl|rfl|rfl
 ·exact key _ 0 _ hk.1 hk.2 hi h4 h0
 ·exact key _ 1 _ hk.1 hk.2 hi h4 h1
 ·exact key _ 2 _ hk.1 hk.2 hi h4 h2
 ·exact key _ 3 _ hk.1 hk.2 hi h4 h3
def ZbB (cs:List Cmp):Prop:=∀ c,c∈cs→YJ c=true
theorem Zh1 {k i:Nat} {cs:List Cmp} (h:ZbB cs) (hi:szK k≤i) (h4:i<4):(ZL k cs).v i=0:=by
 unfold ZL
 rcases hf:ZC k cs with _ | c
 ·simp only [Option.getD_none];unfold Cmp.v;split<;>rfl
 ·have hm:=List.mem_of_find?_eq_some hf
  have hk:c.kind=k:=by have:=List.find?_some hf;simpa using this
  show c.v i=0
  exact Zn7 (h c hm) (by rw [hk];exact hi) h4
def Xh (x y:Cmp) (i:Nat):Cmp:=⟨x.kind,if 0<i then y.v0 else x.v0,if 1<i then y.v1 else x.v1,if 2<i then y.v2 else x.v2,if 3<i then y.v3 else x.v3⟩
theorem Zn8 (x y:Cmp):Xh x y 0=x:=by unfold Xh;simp
theorem Zn9 {k:Nat} {was now:List Cmp} (h:ZbB was) (h':ZbB now):Xh (ZL k was) (ZL k now) (szK k)=ZL k now:=by
 have hv:∀ i,i<4→(if i<szK k then (ZL k now).v i else (ZL k was).v i)=(ZL k now).v i:=by
  intro i hi
  split
  ·rfl
  ·rw [Zh1 h (by omega) hi,Zh1 h' (by omega) hi]
 have h0:=hv 0 (by omega)
 have h1:=hv 1 (by omega)
 have h2:=hv 2 (by omega)
 have h3:=hv 3 (by omega)
 have hk:(ZL k was).kind=(ZL k now).kind:=by rw [Zdm,Zdm]
 unfold Xh
 revert h0 h1 h2 h3
 generalize ZL k was=x at *
 generalize ZL k now=y at *
 obtain ⟨xk,x0,x1,x2,x3⟩:=x
 obtain ⟨yk,y0,y1,y2,y3⟩:=y
 simp only [Cmp.v] at *
 intro h0 h1 h2 h3
 rw [h0,h1,h2,h3,hk]
theorem Zoa (x y:Cmp) (i j:Nat) (hj:j<4):(Xh x y i).v j=if j<i then y.v j else x.v j:=by
 have hj':j=0∨j=1∨j=2∨j=3:=by omega
 rcases hj' with rfl|rfl|rfl|rfl<;>rfl
def Xi (k:Nat) (was now:List Cmp):Nat:=if YM k was=YM k now∧ZL k was=ZL k now then 0 else if YM k now=false then 1 else 2
theorem Zh2 (was now:List Cmp) (k:Nat):XQ was now k=(Zp k,Xi k was now) :: (if Xi k was now=2 then Qm k (ZL k was) (ZL k now) (szK k) else []):=by
 unfold XQ Xi
 split
 ·rfl
 ·split<;>rfl
theorem Zh3 (k:Nat) (was now:List Cmp):Xi k was now<3:=by unfold Xi;split<;>(try split)<;>omega
end
end Go.Proofs.YtlgcfimhfmgkmaaGreatDoor
namespace Go.Proofs.YtlgcfimhfmgkmaaGreatDoor
open Go.RowKit
section
open M (blen zig zag)
section
variable {P:Program} {ops:Array Oper} {Q:Exit→Act→World→Prop} {md:Region.Mode} {C:World→Prop} {c:Nat}
theorem Jf {j k:Nat} {fuel:Nat} {listed:Array Bool} {a:Act} {w:World} (hr:Region.ready md ops listed=[j,k])
  (h:wpOp P ops Q j (fun a' w'=>Gs C c (listed.setIfInBounds j true) w'∧Zz P md ops Q C c fuel (listed.setIfInBounds j true) a' w') a w)
  (h':wpOp P ops Q k (fun a' w'=>Gs C c (listed.setIfInBounds k true) w'∧Zz P md ops Q C c fuel (listed.setIfInBounds k true) a' w') a w):Zz P md ops Q C c (fuel+1) listed a w:=by
 refine ⟨fun h0=>(by rw [hr] at h0;cases h0),fun i hi=>?_⟩
 rw [hr] at hi
 rcases List.mem_cons.1 hi with rfl | hi
 ·exact h
 ·have:i=k:=by simpa using hi
  subst this
  exact h'
end
def rowP (B e k n:Nat) (v:Value) (xs:List Value):Part:=⟨v.ownBlock.toList,fun W=>W.ownsRow B e k v n xs⟩
theorem Za3 {W:World} {B e k n:Nat} {v:Value} {xs:List Value} (h:W.ownsRow B e k v n xs):(rowP B e k n v xs).ok W:=
 ⟨h,fun q hq=>(Yg h (by simpa [rowP] using hq)).1,fun w' hs _=>XW h (fun q hq=>hs q (by simp [rowP,hq]))⟩
def YO (A:Option Addr) (n c:Nat) (cs:List Cmp):Part:=⟨if cs=[] then [] else (A.map Addr.block).toList,fun W=>Zo W A n c cs⟩
theorem Zdo {W:World} {A:Option Addr} {n c:Nat} {cs:List Cmp} (h:Zo W A n c cs) (hp:∀ b o m,A=some ⟨b,o,m⟩→True):(YO A n c cs).ok W:=by
 refine ⟨h,fun q hq=>?_,fun w' hs _=>h.stepN (fun hne b o m hA _=>hs b (by simp [YO,hne,hA]))⟩
 unfold YO at hq
 split at hq
 ·cases hq
 ·rename_i hne
  rcases A with _|⟨b,o,m⟩
  ·simp at hq
  ·simp at hq
   subst hq
   exact h.lt hne _ o m rfl
def erP (r:ER):Part:=YO r.A r.n r.c r.e.cs
section
variable {w0 W W':World} {l m:List Part} {p p' r:Part}
theorem Ses.head (h:Ses w0 W (p :: l)):p.P W:=h.sep.head
theorem Ses.part (h:Ses w0 W l) (hp:p∈l):p.P W:=(h.sep.1 p hp).now
theorem Ses.beside {l l':List Part} (h:Ses w0 W (m++l)) (h':Ses w0 W' l') (fr:Fr (blocks l) W (blocks l') W'):Ses w0 W' (m++l'):=by
 have hap:∀ p,p∈m→∀ q,q∈p.F→q∉blocks l:=fun p hp q hq hb=>by
  obtain ⟨r,hr,hqr⟩:=Qf.1 hb
  exact (List.pairwise_append.1 h.sep.2).2.2 p hp r hr q hq hqr
 refine ⟨⟨fun p hp=>?_,List.pairwise_append.2 ⟨(List.pairwise_append.1 h.sep.2).1,h'.sep.2,fun p hp r hr q hq hqr=>?_⟩⟩,fun p hp q hq=>?_,h'.bel⟩
 ·rcases List.mem_append.1 hp with hp | hp
  ·have ho:=h.sep.1 p (List.mem_append_left _ hp)
   exact ho.keep (fun q hq=>fr.block q (ho.lt q hq) (hap p hp q hq)) fr.size
  ·exact h'.sep.1 p hp
 ·have hlt:=(h.sep.1 p (List.mem_append_left _ hp)).lt q hq
  rcases fr.own q (Qf.2 ⟨r,hr,hqr⟩) with e | e
  ·exact hap p hp q hq e
  ·omega
 ·rcases List.mem_append.1 hp with hp | hp
  ·exact h.base p (List.mem_append_left _ hp) q hq
  ·exact h'.base p hp q hq
theorem Ses.sub {l:List Part} (h:Ses w0 W l) (hs:m.Sublist l):Ses w0 W m:=
 ⟨⟨fun p hp=>h.sep.1 p (hs.subset hp),h.sep.2.sublist hs⟩,fun p hp=>h.base p (hs.subset hp),h.bel⟩
theorem Ses.rowApp {B e k n n':Nat} {v v':Value} {xs xs':List Value} (h:Ses w0 W (rowP B e k n v xs :: l)) (hown:W'.ownsRow B e k v' n' xs') (hg:W.grownBy W' v.ownBlock) (hv:v'.ownBlock=v.ownBlock∨v'.ownBlock=some W.heap.size) :
  Ses w0 W' (rowP B e k n' v' xs' :: l):=by
 refine h.turn1 ⟨hg.os,hg.tape,hg.output,hg.size,fun q hq hn=>hg.block q hq (fun e=>hn (by simp [rowP,←e])),fun q hq=>?_⟩ (Za3 hown)
 have hq:v'.ownBlock=some q:=by simpa [rowP] using hq
 rcases hv with e | e
 ·left;simp [rowP,←e,hq]
 ·right;rw [hq] at e;injection e with e;omega
theorem Ses.rowCrow {B n:Nat} {v:Value} {cs:List Cmp} (h:Ses w0 W (rowP B 75 5 n v (Ya cs) :: l)) (hn:n=cs.length) (hl:n≤1000000) (hk:∀ c,c∈cs→c.kind<256):∃ A c,v=.slice A n c∧Ses w0 W (YO A n c cs :: l):=by
 have ho:W.ownsRow B 75 5 v n (Ya cs):=h.head
 subst hn
 obtain ⟨A,c,rfl,hC⟩:=ZcU ho hl hk
 refine ⟨A,c,rfl,h.swap (fun q hq=>?_) (Zdo hC (fun _ _ _ _=>trivial))⟩
 unfold YO at hq
 split at hq
 ·cases hq
 ·rename_i hne
  rcases ho.2 with ⟨e,hz⟩|⟨g,cap,cur,e,_⟩
  ·exact absurd (List.eq_nil_of_length_eq_zero hz) hne
  ·injection e with e _ _
   subst e
   simpa [rowP,Value.ownBlock] using hq
theorem Ses.objSet {q i:Nat} {cs:Array Value} {T:TypeId} (v:Value) (h:Ses w0 W (Zb q (.cells cs T (0,0)) :: l)):Ses w0 (W.setCell ⟨q,i,none⟩ v) (Zb q (.cells (cs.setIfInBounds i v) T (0,0)) :: l):=by
 have hb:W.heap[q]?=some (.cells cs T (0,0)):=h.head
 exact h.turn1 (p':=Zb q (.cells (cs.setIfInBounds i v) T (0,0))) ((Fr.refl [q] W).store (by simp) i v) (Zb4 (block_setCell hb i v))
end
structure DD (w0 W:World) (X:DX) (rest:List Op) (l:List Part):Prop where
 ex:∃ (Fd:List Nat) (k:ZE) (c:St × Bun),Ses w0 W (l++XE X Fd k c)∧(Yx k c.2∧k.n1≤c.1.cnt∧k.n2≤c.1.cnt)∧DOk X.bit dsz c∧Reads X.bit c rest∧c.1.cnt+rest.length+65≤32768
 ne:X.m1≠X.m2
section
variable {w0 W W':World} {X:DX} {rest:List Op} {l:List Part} {p p':Part}
theorem DD.bel (h:DD w0 W X rest l):Below w0.heap.size w0 W:=by obtain ⟨Fd,k,c,hS,_⟩:=h.ex;exact hS.bel
theorem DD.turn {l':List Part} (h:DD w0 W X rest l) (hs:∀ r,Ses w0 W (l++r)→Ses w0 W' (l'++r)):DD w0 W' X rest l':=by
 obtain ⟨Fd,k,c,hS,hr⟩:=h.ex
 exact ⟨⟨Fd,k,c,hs _ hS,hr⟩,h.ne⟩
theorem DD.get (h:DD w0 W X rest l) (hp:p∈l):p.P W:=by
 obtain ⟨Fd,k,c,hS,_⟩:=h.ex
 exact hS.part (List.mem_append_left _ hp)
theorem DD.below (h:DD w0 W X rest l) (hb:Below W.heap.size W W'):DD w0 W' X rest l:=h.turn (fun r hr=>hr.below hb)
theorem DD.drew (h:DD w0 W X rest l):DD w0 W.drew X rest l:=h.below (Below.refl _ _).drew
theorem DD.alloc (h:DD w0 W X rest l) (o:Obj):DD w0 (W.alloc o) X rest (Zb W.heap.size o :: l):=h.turn (fun r hr=>hr.allocObj o)
theorem DD.new (h:DD w0 W X rest l) (hb:Below W.heap.size W W') (hp:p.ok W') (hf:∀ q,q∈p.F→W.heap.size≤q):DD w0 W' X rest (p :: l):=h.turn (fun r hr=>hr.new hb hp hf)
theorem DD.perm {l':List Part} (h:DD w0 W X rest l) (hp:l.Perm l'):DD w0 W X rest l':=h.turn (fun r hr=>hr.perm (hp.append_right r))
theorem DD.tail (h:DD w0 W X rest (p :: l)):DD w0 W X rest l:=h.turn (fun r hr=>hr.tail)
theorem DD.sub {l':List Part} (h:DD w0 W X rest l) (hs:l'.Sublist l):DD w0 W X rest l':=h.turn (fun r hr=>hr.sub (hs.append_right r))
theorem DD.objSet {q i:Nat} {cs:Array Value} {T:TypeId} (v:Value) (h:DD w0 W X rest (Zb q (.cells cs T (0,0)) :: l)):DD w0 (W.setCell ⟨q,i,none⟩ v) X rest (Zb q (.cells (cs.setIfInBounds i v) T (0,0)) :: l):=h.turn (fun r hr=>Ses.objSet v hr)
theorem DD.rowApp {B e k n n':Nat} {v v':Value} {xs xs':List Value} (h:DD w0 W X rest (rowP B e k n v xs :: l)) (hown:W'.ownsRow B e k v' n' xs') (hg:W.grownBy W' v.ownBlock) (hv:v'.ownBlock=v.ownBlock∨v'.ownBlock=some W.heap.size) :
  DD w0 W' X rest (rowP B e k n' v' xs' :: l):=h.turn (fun r hr=>Ses.rowApp hr hown hg hv)
theorem DD.rowCrow {B n:Nat} {v:Value} {cs:List Cmp} (h:DD w0 W X rest (rowP B 75 5 n v (Ya cs) :: l)) (hn:n=cs.length) (hl:n≤1000000) (hk:∀ c,c∈cs→c.kind<256):∃ A c,v=.slice A n c∧DD w0 W X rest (YO A n c cs :: l):=by
 obtain ⟨Fd,k,c,hS,hr⟩:=h.ex
 obtain ⟨A,c',e,hS'⟩:=Ses.rowCrow hS hn hl hk
 exact ⟨A,c',e,⟨Fd,k,c,hS',hr⟩,h.ne⟩
theorem DD.sym {n:Int} {s:Nat} (h:DD w0 W X ((Zp n,s) :: rest) l) (h0:-1≤n) (h1:n≤18) :
  Calls Tryz.prog 124 #[.int .i64 n,.pointer (some ⟨X.bb,0,none⟩),.pointer (some ⟨X.db,0,none⟩),.pointer (some ⟨X.mb,0,none⟩)] W fun e w'=>e=.returned (.int .i64 (s:Nat))∧DD w0 w' X rest l:=by
 obtain ⟨Fd,k,c,hS,hR,hok,hrd,hc⟩:=h.ex
 have hsub:Ses w0 W (XE X Fd k c):=hS.sub (List.sublist_append_right _ _)
 have hds:DS w0 W X c (blocks (XE X Fd k c)):=⟨⟨Fd,k,rfl,hsub,hR⟩,h.ne,hok⟩
 rw [List.length_cons] at hc
 refine (ZmZ X c _ n s h0 h1 w0 W hds (by omega) hrd.1).mono ?_
 rintro e w' ⟨rfl,F',hd',hfr⟩
 obtain ⟨⟨Fd',k',eF',hS',hR'⟩,hne,hok'⟩:=hd'
 rw [eF'] at hfr
 obtain ⟨_,hft⟩:=hok.step (Zbo X.n X.f) (o:=(Zp n,s)) hrd.1
 have hcn:=(hok.ok.step (bit:=X.bit) hft).2
 exact ⟨rfl,⟨Fd',k',_,hS.beside hS' hfr,hR',hok',hrd.2,by rw [hcn];omega⟩,h.ne⟩
theorem DD.num {n v:Int} (h:DD w0 W X (Yh n v++rest) l) (h0:-3≤n) (h1:n≤1000) (v0:-9223372036854775808≤v) (v1:v≤9223372036854775807) :
  Calls Tryz.prog 126 #[.int .i64 n,.pointer (some ⟨X.bb,0,none⟩),.pointer (some ⟨X.db,0,none⟩),.pointer (some ⟨X.mb,0,none⟩)] W fun e w'=>e=.returned (.int .i64 v)∧DD w0 w' X rest l:=by
 obtain ⟨Fd,k,c,hS,hR,hok,hrd,hc⟩:=h.ex
 have hsub:Ses w0 W (XE X Fd k c):=hS.sub (List.sublist_append_right _ _)
 have hds:DS w0 W X c (blocks (XE X Fd k c)):=⟨⟨Fd,k,rfl,hsub,hR⟩,h.ne,hok⟩
 rw [List.length_append] at hc
 have hr2:=(Zef _ _ _).1 hrd
 refine (Zm0 X c _ n v h0 h1 v0 v1 w0 W hds (by omega) hr2.1).mono ?_
 rintro e w' ⟨rfl,F',hd',hfr⟩
 obtain ⟨⟨Fd',k',eF',hS',hR'⟩,hne,hok'⟩:=hd'
 rw [eF'] at hfr
 obtain ⟨_,hft⟩:=DOk.steps (Zbo X.n X.f) _ _ hok hr2.1
 have hcn:=(hok.ok.steps (bit:=X.bit) hft).2
 exact ⟨rfl,⟨Fd',k',_,hS.beside hS' hfr,hR',hok',hr2.2,by rw [hcn];omega⟩,h.ne⟩
end
theorem Zh4 {w:World} {A:Option Addr} {n:Nat} {f:Nat→Nat} (h:Z8 w A n f) (c:Nat) :
  (convert 41 9 (.slice A n c)).run Tryz.prog w=.ok (.string (ZaM n f)) w:=by
 have hs:Tryz.prog.underlying 41=some (.slice 5):=Tryz.underlying41
 have he:Tryz.prog.underlying 5=some (.int .u8):=Tryz.underlying5
 have hd:Tryz.prog.underlying 9=some .string:=Tryz.underlying9
 rcases A with _ | ad
 ·have h0:n=0:=by
   rcases Nat.eq_zero_or_pos n with h0 | h0
   ·exact h0
   ·obtain ⟨ad,e,_⟩:=h 0 h0
    cases e
  subst h0
  rw [run_convert_bytes_string w 41 9 5 _ 0 c hs he hd]
  simp [Conv.bytesToString,loadCells,ZaM]
  all_goals rfl
 ·have hl:(loadCells ad n).run Tryz.prog w=.ok (((List.range n).map fun i=>((f i:Nat):Int)).map (Value.int .u8)).toArray w:=by
   have:=run_loadCells_list (P:=Tryz.prog) w ad (((List.range n).map fun i=>((f i:Nat):Int)).map (Value.int .u8)) (fun j v hj=>by
    have hjl:j<n:=by
     rcases Nat.lt_or_ge j n with h | h
     ·exact h
     ·rw [List.getElem?_eq_none (by simpa using h)] at hj;cases hj
    obtain ⟨ad',e,hc⟩:=h j hjl
    obtain rfl:ad=ad':=Option.some.inj e
    rw [hc]
    simp [List.getElem?_range hjl] at hj
    rw [hj])
   simpa using this
  rw [run_convert_bytes_string w 41 9 5 _ n c hs he hd,run_bytesToString w _ n c _ hl,foldl_push_bytes]
  simp [ZaM,strOfNums,ByteArray.empty,ByteArray.emptyWithCapacity]
  rfl
theorem Zob {A C:Option Addr} {n m ca cc:Nat} {f g:Nat→Nat} (w:World) (hA:Z8 w A n f) (hC:Z8 w C m g) :
  Calls Tryz.prog 129 #[.slice A n ca,.slice C m cc] w fun e w'=>e=.returned (.bool (Zbm n f==Zbm m g))∧w=w':=by
 rw [←Zgr,←Zgr]
 have h1:=Zh4 hA ca
 have h2:=Zh4 hC cc
 generalize ZaM n f=S at *
 generalize ZaM m g=T at *
 clear hA hC
 go_enter Tryz.func129,Tryz.ntmps129
 go_wp2_with fail
 go_ret
 exact ⟨rfl,rfl⟩
end
end Go.Proofs.YtlgcfimhfmgkmaaGreatDoor
