/- Lemmas for the statement. -/
import Derived.Test.YtlgcfimhfmgkmaaGreatDoorMBJ
set_option linter.unusedVariables false
set_option linter.unusedSimpArgs false
namespace Go.Proofs.YtlgcfimhfmgkmaaGreatDoor
open Go.RowKit
section
def Zaz (l:List Rec):Prop:=l.Pairwise (fun x y=>x.num<y.num)
def ZbK (r:Rec):Prop:=(0≤r.base∧r.base<r.num)∧Zl r.tick r.es=true
theorem Zjh {top:Int}:∀ {l:List Rec} {last:Int},rlB top last l=true↔Zaz l∧∀ r,r∈l→(last<r.num∧r.num≤top)∧ZbK r
 | [],last=>by
  refine ⟨fun _=>⟨List.Pairwise.nil,fun r hr=>by cases hr⟩,fun _=>rfl⟩
 | x :: l,last=>by
  unfold rlB okR
  rw [Bool.and_eq_true,Zjh]
  unfold Zaz ZbK
  simp only [Bool.not_eq_true',Bool.or_eq_false_iff,decide_eq_false_iff_not,List.pairwise_cons,Bool.not_eq_false']
  constructor
  ·rintro ⟨⟨⟨⟨⟨a,b⟩,c⟩,d⟩,e⟩,hl,hm⟩
   refine ⟨⟨fun y hy=>(hm y hy).1.1,hl⟩,fun r hr=>?_⟩
   rcases List.mem_cons.1 hr with rfl | hr
   ·exact ⟨⟨by omega,by omega⟩,⟨by omega,by omega⟩,e⟩
   ·have:=hm r hr
    exact ⟨⟨by omega,this.1.2⟩,this.2⟩
  ·rintro ⟨⟨h1,h2⟩,h3⟩
   have hx:=h3 x (.head _)
   refine ⟨⟨⟨⟨⟨by omega,by omega⟩,by omega⟩,by omega⟩,hx.2.2⟩,h2,fun r hr=>?_⟩
   have:=h3 r (.tail _ hr)
   exact ⟨⟨h1 r hr,this.1.2⟩,this.2⟩
theorem Zji {l:List Rec} {lo hi:Int}:QF l lo hi=true↔l.length≤33∧Zaz l∧∀ r,r∈l→(max lo 1-1<r.num∧r.num≤min hi 1073741824)∧ZbK r:=by
 unfold QF
 rw [Bool.and_eq_true,decide_eq_true_eq,Zjh]
structure JA (s:Snd):Prop where
 cl:1≤s.cl∧s.cl≤8
 nx:1≤s.next∧s.next≤1073741825
 ak:0≤s.acked
 it:Qp s.items=true
 ln:s.log.length≤33
 ris:Zaz s.log
 lg:∀ r,r∈s.log→(max s.acked 1-1<r.num∧r.num≤min (s.next-1) 1073741824)∧ZbK r
 hd:(s.acked=0∧s.log.length≤32)∨(s.acked≠0∧∃ r l,s.log=r :: l∧r.num=s.acked)
theorem QJ {s:Snd}:YU s=true↔JA s:=by
 unfold YU ZbE
 simp only [Bool.and_eq_true,Bool.not_eq_true',Bool.or_eq_false_iff,decide_eq_false_iff_not,Bool.not_eq_false',Zji]
 constructor
 ·rintro ⟨⟨⟨⟨⟨⟨⟨h1,h2⟩,h3⟩,h4⟩,h5⟩,h6⟩,h7,h8,h9⟩,h⟩
  refine ⟨⟨by omega,by omega⟩,⟨by omega,by omega⟩,by omega,h6,h7,h8,h9,?_⟩
  by_cases ha:s.acked=0
  ·rw [if_pos ha] at h
   exact .inl ⟨ha,of_decide_eq_true h⟩
  ·rw [if_neg ha] at h
   refine .inr ⟨ha,?_⟩
   unfold Zat at h
   rcases hl:s.log with _|⟨r,l⟩
   ·rw [hl] at h;cases h
   ·rw [hl] at h;exact ⟨r,l,rfl,of_decide_eq_true h⟩
 ·rintro ⟨h1,h3,h5,h6,h7,h8,h9,h⟩
  refine ⟨⟨⟨⟨⟨⟨⟨by omega,by omega⟩,by omega⟩,by omega⟩,by omega⟩,h6⟩,h7,h8,h9⟩,?_⟩
  rcases h with ⟨ha,h⟩|⟨ha,r,l,e,h⟩
  ·rw [if_pos ha];exact decide_eq_true h
  ·rw [if_neg ha];unfold Zat;rw [e];exact decide_eq_true h
theorem JA.acked_lt {s:Snd} (h:JA s):s.acked<s.next:=by
 rcases h.hd with ⟨h0,_⟩|⟨_,r,l,e,h1⟩
 ·have:=h.nx;omega
 ·have:=h.lg r (by rw [e];exact .head _)
  omega
theorem Zqc {α:Type} (d:Nat) (b:Bool) (l:List α):(XJ d b l).Sublist l:=by
 unfold XJ
 cases b
 ·exact List.Sublist.refl _
 ·show (l.take d++l.drop (d+1)).Sublist l
  conv=>rhs;rw [←List.take_append_drop d l]
  exact List.Sublist.append (List.Sublist.refl _) (by rw [←List.drop_drop];exact List.drop_sublist _ _)
theorem Zfv {l m:List Rec} (h:Zaz m) (hs:l.Sublist m):Zaz l:=List.Pairwise.sublist hs h
theorem Tq52 {p:Prop} (h:p:=by
 unfold XV XJ
 by_cases hc:32+drT X<X.s.log.length+1
 ·rw [if_pos hc,decide_eq_true (by omega)]
  simp only [if_true,List.length_append,List.length_take,List.length_drop,List.length_singleton]
  omega
 ·rw [if_neg hc,decide_eq_false (by omega)]
  simp):p:=h
theorem Zqd {X:TV} {k:Nat} (h:JA X.s) (hn:X.s.next≤1073741824) (hw:Qo X.ws=true) (hv:Zl X.vt (Z7 X k)=true):JA (Xz X k):=by
 have hlt:=h.acked_lt
 have hak:=h.ak
 have hnx:=h.nx
 have hall:Zaz (X.s.log++[Zax X k])∧∀ r,r∈X.s.log++[Zax X k]→(max X.s.acked 1-1<r.num∧r.num≤min X.s.next 1073741824)∧ZbK r:=by
  refine ⟨List.pairwise_append.2 ⟨h.ris,List.pairwise_singleton _ _,fun a ha b hb=>?_⟩,fun r hr=>?_⟩
  ·have hb:b=Zax X k:=by simpa using hb
   have:=(h.lg a ha).1
   rw [hb]
   show a.num<X.s.next
   omega
  ·rcases List.mem_append.1 hr with hr | hr
   ·have:=h.lg r hr
    exact ⟨⟨this.1.1,by omega⟩,this.2⟩
   ·have hr:r=Zax X k:=by simpa using hr
    rw [hr]
    refine ⟨⟨?_,?_⟩,⟨hak,hlt⟩,hv⟩
    ·show max X.s.acked 1-1<X.s.next;omega
    ·show X.s.next≤min X.s.next 1073741824;omega
 have hsub:(XV X k).Sublist (X.s.log++[Zax X k]):=Zqc _ _ _
 have hdr:(X.s.acked=0∧drT X=0)∨(X.s.acked≠0∧drT X=1):=by unfold drT;omega
 have hlen:(XV X k).length=if 32+drT X<X.s.log.length+1 then X.s.log.length else X.s.log.length+1:=by
  exact Tq52
 refine ⟨h.cl,⟨by show 1≤X.s.next+1;omega,by show X.s.next+1≤1073741825;omega⟩,hak,ZoW h.it hw,?_,Zfv hall.1 hsub,fun r hr=>?_,?_⟩
 ·show (XV X k).length≤33
  have:=h.ln
  rw [hlen]
  split<;>omega
 ·have hm:=hall.2 r (hsub.mem hr)
  exact ⟨⟨hm.1.1,by show r.num≤min (X.s.next+1-1) 1073741824;omega⟩,hm.2⟩
 ·rcases h.hd with ⟨h0,h1⟩|⟨h0,r,l,e,h1⟩
  ·refine .inl ⟨h0,?_⟩
   show (XV X k).length≤32
   rw [hlen]
   split<;>omega
  ·refine .inr ⟨h0,?_⟩
   have hd1:drT X=1:=by omega
   show ∃ r l,XV X k=r :: l∧r.num=X.s.acked
   unfold XV
   rw [hd1,e]
   unfold XJ
   split
   ·exact ⟨r,_,rfl,h1⟩
   ·exact ⟨r,_,rfl,h1⟩
theorem Zqe {X:TV} {k:Nat} (h:JA X.s):((XV X k).length:Int)=min ((X.s.log.length:Int)+1) (32+min X.s.acked 1):=by
 have hak:=h.ak
 have hdr:(X.s.acked=0∧drT X=0)∨(X.s.acked≠0∧drT X=1):=by unfold drT;omega
 have h33:=h.ln
 have hhd:=h.hd
 have hlen:(XV X k).length=if 32+drT X<X.s.log.length+1 then X.s.log.length else X.s.log.length+1:=by
  exact Tq52
 rw [hlen]
 rcases hhd with ⟨h0,h1⟩|⟨h0,_⟩<;>split<;>omega
theorem Zqf {X:TV} {k:Nat} (h:JA X.s):∃ l,XV X k=l++[Zax X k]:=by
 unfold XV XJ
 split
 ·rename_i hc
  have hc:=of_decide_eq_true hc
  have:drT X+1≤X.s.log.length:=by omega
  refine ⟨X.s.log.take (drT X)++X.s.log.drop (drT X+1),?_⟩
  rw [List.take_append_of_le_length (by omega),List.drop_append_of_le_length this,List.append_assoc]
 ·exact ⟨_,rfl⟩
theorem Zfw {l:List Rec} {k:Int} {r:Rec} (hk:k≠0) (h:Z6 l k=some r):r∈l∧r.num=k:=by
 unfold Z6 at h
 rw [if_neg hk] at h
 exact ⟨List.mem_of_find?_eq_some h,by simpa using List.find?_some h⟩
theorem Zqg {s:Snd} {k:Int} {r:Rec} (h:JA s) (hk:s.acked<k) (hf:Z6 s.log k=some r):JA (QG s k):=by
 have hak:=h.ak
 obtain ⟨hr,hn⟩:=Zfw (by omega) hf
 have hsub:(s.log.filter (fun r=>!decide (r.num<k))).Sublist s.log:=List.filter_sublist
 have hm:∀ x,x∈s.log.filter (fun r=>!decide (r.num<k))→x∈s.log∧k≤x.num:=fun x hx=>by
  have:=List.mem_filter.1 hx
  refine ⟨this.1,?_⟩
  have h2:=this.2
  simp only [Bool.not_eq_true',decide_eq_false_iff_not] at h2
  omega
 refine ⟨h.cl,h.nx,by show 0≤k;omega,h.it,Nat.le_trans hsub.length_le h.ln,Zfv h.ris hsub,fun x hx=>?_,.inr ⟨by show k≠0;omega,?_⟩⟩
 ·obtain ⟨h1,h2⟩:=hm x hx
  have:=h.lg x h1
  exact ⟨⟨by show max k 1-1<x.num;omega,this.1.2⟩,this.2⟩
 ·show ∃ r l,s.log.filter (fun r=>!decide (r.num<k))=r :: l∧r.num=k
  have hmem:r∈s.log.filter (fun r=>!decide (r.num<k)):=List.mem_filter.2 ⟨hr,by simp [hn]⟩
  have hris:=Zfv h.ris hsub
  rcases hl:s.log.filter (fun r=>!decide (r.num<k)) with _|⟨x,l⟩
  ·rw [hl] at hmem;cases hmem
  ·refine ⟨x,l,hl,?_⟩
   have hx:=(hm x (by rw [hl];exact .head _)).2
   rw [hl] at hmem hris
   rcases List.mem_cons.1 hmem with e | e
   ·rw [←e];exact hn
   ·have:=(List.pairwise_cons.1 hris).1 r e
    omega
end
end Go.Proofs.YtlgcfimhfmgkmaaGreatDoor
namespace Go.Proofs.YtlgcfimhfmgkmaaGreatDoor
open Go.RowKit
section
def vwF (s:Snd) (es:List Ent):List Ent:=Ql s.cl (Xa s.cl es) es
def bsF (s:Snd):Rec:=(Z6 s.log s.acked).getD Rec.zero
def gnF (s:Snd) (es:List Ent):List Int:=YL (Zw (bsF s).es (vwF s es))
def idF (s:Snd) (es:List Ent):List Int:=ZO (Zw (bsF s).es (vwF s es))
def wtF (s:Snd) (es:List Ent):List Wt:=Jz s.cl (vwF s es) (idF s es) (gnF s es)
def plX (s:Snd) (t size:Int) (es:List Ent):TV where
 sb:=0
 wb:=0
 bb:=0
 vb:=0
 gb:=0
 zb:=0
 s:=s
 LA:=none
 ln:=0
 lc:=0
 IA:=none
 iN:=0
 ic:=0
 NA:=none
 wn:=0
 wc:=0
 ws:=wtF s es
 b:=bsF s
 BA:=none
 bn:=0
 bc:=0
 vt:=t
 VA:=none
 vn:=0
 vc:=0
 fs:=vwF s es
 GA:=none
 gn:=0
 gc:=0
 gone:=gnF s es
 size:=size
theorem ZbJ.plain {w w':World} {X Y:TV} {k:Nat} {e:Ending} (h:ZbJ w w' X k e) (hs:X.s=Y.s) (hw:X.ws=Y.ws) (hb:X.b=Y.b) (ht:X.vt=Y.vt) (hf:X.fs=Y.fs) (hg:X.gone=Y.gone) (hz:X.size=Y.size):ZbJ w w' Y k e:=by
 obtain ⟨x1,x2,x3,x4,x5,x6,x7,x8,x9,x10,x11,x12,x13,x14,x15,x16,x17,x18,x19,x20,x21,x22,x23,x24,x25,x26,x27,x28,x29,x30,x31⟩:=X
 obtain ⟨y1,y2,y3,y4,y5,y6,y7,y8,y9,y10,y11,y12,y13,y14,y15,y16,y17,y18,y19,y20,y21,y22,y23,y24,y25,y26,y27,y28,y29,y30,y31⟩:=Y
 dsimp only at hs hw hb ht hf hg hz
 subst hs hw hb ht hf hg hz
 exact h
def Qr (X:TV) (k:Nat):Prop:=8+((Zk (ZB X k):Nat):Int)≤X.size
structure SI where
 s:Snd
 t:Int
 size:Int
 es:List Ent
 LA:Option Addr
 ln:Nat
 lc:Nat
 IA:Option Addr
 iN:Nat
 ic:Nat
 A:Option Addr
 n:Nat
 c:Nat
 g:Nat
structure SE (W:World) (Y:SI):Prop where
 T:Tabs W
 L:Zy W Y.LA Y.ln Y.lc Y.s.log
 I:ZG 3 It.ints W Y.IA Y.iN Y.s.items
 A:Zj W Y.A Y.n Y.c Y.es
 hs:W.heap[Y.g]?=some (.cells #[.int .i64 Y.s.cl,.int .i64 Y.s.next,.int .i64 Y.s.acked,.slice Y.LA Y.ln Y.lc,.slice Y.IA Y.iN Y.ic] 33 (0,0))
 hw:W.heap[Y.g+1]?=some (wO Y.t (.slice Y.A Y.n Y.c))
 hz:W.heap[Y.g+2]?=some (.cells #[.int .i64 Y.size] 3 (0,0))
 hr:W.heap[Y.g+3]?=some ZR
theorem SE.below {W W':World} {Y:SI} (h:SE W Y) (hb:Below W.heap.size W W'):SE W' Y:=
 ⟨h.T.below hb,h.L.below hb,h.I.below hb,h.A.below hb,(hb.block _ (lt_of_block h.hs)).trans h.hs,(hb.block _ (lt_of_block h.hw)).trans h.hw,(hb.block _ (lt_of_block h.hz)).trans h.hz,(hb.block _ (Zh h.hr)).trans h.hr⟩
def JX (s:Snd) (t size:Int) (es:List Ent):Bool:=!(YU s) || !(Zl t es) || decide (size<400) || decide (1200<size)
def Zfx (w w':World) (s:Snd) (t size:Int) (es:List Ent) (v:Value):Prop:=
  (JX s t size es=true∧v=.tuple #[Za7,.slice none 0 0,.int .i64 2]∧Below w.heap.size w w') ∨
  (JX s t size es=false∧1073741824<s.next∧v=.tuple #[Za7,.slice none 0 0,.int .i64 4]∧Below w.heap.size w w') ∨
  ((JX s t size es=false∧s.next≤1073741824) ∧
    ((∃ k x pv B,(Qr (plX s t size es) k∧k≤(wtF s es).length∧∀ j,k<j→j≤(wtF s es).length→¬ Qr (plX s t size es) j)∧v=.tuple #[x,pv,.int .i64 0]∧Xy w.heap.size w' (Xz (plX s t size es) k) x ∧
      (w'.ownsRow B 5 1 pv (8+Zk (ZB (plX s t size es) k)) (X7 (plX s t size es) k)∧w.heap.size≤B)∧Below w.heap.size w w') ∨
     ((∀ j,j≤(wtF s es).length→¬ Qr (plX s t size es) j)∧v=.tuple #[Za7,.slice none 0 0,.int .i64 3]∧Below w.heap.size w w')))
theorem Zqh {w:World} {B:Nat} {v:Value} {l:List Wt} (h:w.ownsRow B 167 2 v l.length (XA l)) (hl:l.length≤1000000):∃ A c,v=.slice A l.length c∧ZG 2 Wt.ints w A l.length l:=by
 rcases l with _|⟨x,l⟩
 ·obtain ⟨A,c,e⟩:=YF h
  exact ⟨A,c,e,rfl,fun j x hj=>by simp at hj,by simp⟩
 ·obtain ⟨b,cp,rfl,hb,hcell⟩:=Q7 h (by rw [XA,Qb _ 2 Zi7];simp)
  refine ⟨_,cp,rfl,rfl,fun j s hj=>⟨b,0,rfl,fun r u hu=>?_⟩,by omega⟩
  have hr:r<2:=(List.getElem?_eq_some_iff.1 hu).1
  rw [Nat.zero_add]
  refine hcell _ _ ((XX _ 2 Zi7 _ j s r hj hr).trans ?_)
  have:s.cells=s.ints.map (Value.int .i64):=rfl
  rw [this,List.getElem?_map,hu]
  rfl
theorem Zqi {w:World} {B c:Nat} {A:Option Addr} {l:List Wt} (h:(rowP B 167 2 l.length (.slice A l.length c) (XA l)).P w) (hl:l.length≤1000000):ZG 2 Wt.ints w A l.length l:=by
 have h':w.ownsRow B 167 2 (.slice A l.length c) l.length (XA l):=h
 obtain ⟨A',c',e',hI⟩:=Zqh h' hl
 injection e' with e1 _ _
 rw [←e1] at hI
 exact hI
theorem Zfy {W:World} {q:Nat} (h:W.heap[q]?=some (wO 0 (.slice none 0 0))):Zq W q:=Zco h (fun u hu=>by
 simp only [List.mem_cons,List.not_mem_nil,or_false] at hu;rcases hu with rfl|rfl<;>simp)
theorem Zqj {W:World} {q:Nat} (h:W.heap[q]?=some ZR):Zq W q:=Zco h (fun u hu=>by
 simp only [List.mem_cons,List.not_mem_nil,or_false] at hu;rcases hu with rfl|rfl|rfl|rfl|rfl<;>simp)
structure Zcp (s:Snd) (t size:Int) (es:List Ent):Prop where
 ok:Zjg s
 rt:YU s=true
 va:Zl t es=true
 sz:400≤size∧size≤1200
 fd:Z6 s.log s.acked=some (bsF s)
 bv:Zl (bsF s).tick (bsF s).es=true
 vv:Zl t (vwF s es)=true
 op:Zbu s.cl t es=true
 wr:Qo (wtF s es)=true
theorem Zfz {s:Snd} {t size:Int} {es:List Ent} (h:JX s t size es=false):Zcp s t size es:=by
 unfold JX at h
 simp only [Bool.or_eq_false_iff,Bool.not_eq_false',decide_eq_false_iff_not] at h
 obtain ⟨⟨⟨h1,h2⟩,h3⟩,h4⟩:=h
 have ho:=ZdO h1
 obtain ⟨r,hr,hv,hm⟩:=ho.fd
 have hb:bsF s=r:=by unfold bsF;rw [hr];rfl
 have hcl:=ho.cl
 have hvw:Zl t (vwF s es)=true:=Zp6 h2
 refine ⟨ho,h1,h2,⟨by omega,by omega⟩,by rw [hb];exact hr,by rw [hb];exact hv,hvw,?_,Zp8 hvw⟩
 unfold Zbu
 rw [decide_eq_false (by omega),decide_eq_false (by omega),h2]
 rfl
theorem ZfA {s:Snd} {t size:Int} {es:List Ent} (h:Zcp s t size es) (hes:∀ r,r∈s.log→r.es.length≤12):(bsF s).es.length≤12:=by
 obtain ⟨r,hr,hv,hm⟩:=h.ok.fd
 have hb:bsF s=r:=by unfold bsF;rw [hr];rfl
 rw [hb]
 rcases hm with rfl | hm
 ·simp [Rec.zero]
 ·exact hes r hm
theorem Zqk {s:Snd} {t size:Int} {es:List Ent} (h:Zcp s t size es) (hes:∀ r,r∈s.log→r.es.length≤12) (hn:es.length≤12):(gnF s es).length≤24∧∀ x,x∈gnF s es→-9223372036854775808≤x∧x≤9223372036854775807:=by
 have h1:=ZfA h hes
 have h2:(vwF s es).length≤12:=Nat.le_trans (ZaV _ _ _) hn
 refine ⟨Nat.le_trans (Zqa h.bv h.vv) (by omega),fun x hx=>?_⟩
 obtain ⟨e,he,e2,_⟩:=(ZhU h.bv h.vv).1 hx
 have:=Z4 h.bv e he
 omega
theorem Zql {s:Snd} {t size:Int} {es:List Ent} (h:Zcp s t size es) (hes:∀ r,r∈s.log→r.es.length≤12) (hn:es.length≤12):(idF s es).length≤24∧∀ x,x∈idF s es→-9223372036854775808≤x∧x≤9223372036854775807:=by
 have h1:=ZfA h hes
 have h2:(vwF s es).length≤12:=Nat.le_trans (ZaV _ _ _) hn
 refine ⟨?_,fun x hx=>?_⟩
 ·unfold idF ZO
  rw [List.length_map]
  exact Nat.le_trans (Zdv h.bv h.vv) (by omega)
 ·rcases (ZhT h.bv h.vv).1 hx with ⟨e,he,_,e2⟩|⟨e,he,_,e2⟩
  ·have:=Z4 h.bv e he;omega
  ·have:=Z4 h.vv e he;omega
theorem Zjj {s:Snd} {t size:Int} {es:List Ent} (h:Zcp s t size es) (hnx:s.next≤1073741824) (hn:es.length≤12) (k:Nat):YU (Xz (plX s t size es) k)=true:=by
 refine QJ.2 (Zqd (X:=plX s t size es) (QJ.1 h.rt) hnx h.wr ?_)
 have h1:=merge_le ((YT s.items (wtF s es) k).map (idS (wtF s es))) h.bv h.vv
 have h2:(vwF s es).length≤12:=Nat.le_trans (ZaV _ _ _) hn
 exact ZeX h.bv h.vv (Nat.le_trans h1 (by omega))
theorem Zqm (w:World) (a b c d:Obj):((((w.alloc a).alloc b).alloc c).alloc d).heap[w.heap.size]?=some a:=(Below.heap_alloc _ _ _ (by simp;omega)).trans (Zbp w a b c)
theorem Zqn (w:World) (a b c d:Obj):((((w.alloc a).alloc b).alloc c).alloc d).heap[w.heap.size+1]?=some b:=(Below.heap_alloc _ _ _ (by simp)).trans (Zbq w a b c)
theorem Zqo (w:World) (a b c d:Obj):((((w.alloc a).alloc b).alloc c).alloc d).heap[w.heap.size+2]?=some c:=(Below.heap_alloc _ _ _ (by simp)).trans (ZaQ w a b c)
theorem Zqp (w:World) (a b c d:Obj):((((w.alloc a).alloc b).alloc c).alloc d).heap[w.heap.size+3]?=some d:=by
 have:=heap_alloc_new (((w.alloc a).alloc b).alloc c) d
 simpa using this
theorem Zjk (w:World) (a b c d:Obj):Below w.heap.size w ((((w.alloc a).alloc b).alloc c).alloc d):=ZkX (Zab w a b c) d
end
end Go.Proofs.YtlgcfimhfmgkmaaGreatDoor
