/- Lemmas for the statement. -/
import Derived.Test.YtlgcfimhfmgkmaaGreatDoorMAQ
set_option linter.unusedVariables false
set_option linter.unusedSimpArgs false
set_option maxRecDepth 100000
set_option maxHeartbeats 8000000
namespace Go.Proofs.YtlgcfimhfmgkmaaGreatDoor
open Go.RowKit
section
structure ZG {α:Type} (k:Nat) (f:α→List Int) (w:World) (A:Option Addr) (n:Nat) (l:List α):Prop where
 len:n=l.length
 at_:∀ (j:Nat) (x:α),l[j]?=some x→∃ b o,A=some ⟨b,o,none⟩∧∀ r v,(f x)[r]?=some v→w.cell? ⟨b,o+j*k+r,none⟩=some (.int .i64 v)
 lim:n≤4611686018427387903
theorem ZG.below {α:Type} {k:Nat} {f:α→List Int} {w w':World} {A:Option Addr} {n:Nat} {l:List α} (h:ZG k f w A n l) (hb:Below w.heap.size w w'):ZG k f w' A n l:=
 ⟨h.len,fun j x hj=>by
  obtain ⟨b,o,e,hc⟩:=h.at_ j x hj
  exact ⟨b,o,e,fun r v hv=>(hb.cell (Zc (hc r v hv))).trans (hc r v hv)⟩,h.lim⟩
structure It where
 i:Int
 w:Int
 s:Int
def It.ints (x:It):List Int:=[x.i,x.w,x.s]
structure Wt where
 i:Int
 w:Int
def Wt.ints (x:Wt):List Int:=[x.i,x.w]
def okW (last i w:Int):Bool:=!(decide (i≤last) || decide (65536<i) || decide (w<1) || decide (16<w))
def XU:Int→List (Int × Int)→Bool
 | _,[]=>true
 | last,(i,w) :: r=>okW last i w&&XU i r
def Xj (l:List (Int × Int)):Bool:=XU (-1) l&&decide (l.length≤64)
def It.pr (x:It):Int × Int:=(x.i,x.w)
def Wt.pr (x:Wt):Int × Int:=(x.i,x.w)
theorem Zid {α:Type} (f:α→Int × Int) (last:Int) (l:List α) (j:Nat) (x:α) (h:l[j]?=some x):XU last ((l.drop j).map f)=(okW last (f x).1 (f x).2&&XU (f x).1 ((l.drop (j+1)).map f)):=by
 have:l.drop j=x :: l.drop (j+1):=by
  obtain ⟨hj,e⟩:=List.getElem?_eq_some_iff.1 h
  rw [List.drop_eq_getElem_cons hj,e]
 rw [this,List.map_cons]
 rfl
theorem Zie {fn:Func} {p:Tmp} (h:fn.results=#[.cell p 167]) (tmps:Array Value) (w:World) (g:Nat) (cs:Array Value) (hn:cs.size=2)
  (hp:tmps.getD p undef=.pointer (some ⟨g,0,none⟩)) (hg:w.heap[g]?=some (.cells cs 167 (0,0))) :
  (results fn tmps).run Tryz.prog w=.ok (.agg cs) w:=by
 have hp':tmps[p]?.getD undef=.pointer (some ⟨g,0,none⟩):=by simpa using hp
 have hi:(Tryz.prog.info? 167).map (·.size)=some cs.size:=by rw [hn];kernel_rfl
 have hl:=run_loadVar_row (P:=Tryz.prog) w g 167 167 cs (0,0) _ hg Tryz.underlying167 rfl hi
 simp [results,h,hp',asAddr,hl]
theorem Tq55 {p:Prop} (h:p:=by
 go_upto_region 1 with fail
 rw [←e1,←eg]
 clear e1 eg
 go_wp2_with fail
 refine bodyPost_ret (Zie rfl _ _ (g+1) _ rfl rfl (Yw (.int .i64 x.i) (.int .i64 x.w) H.out.1)) rfl ?_
 exact ⟨rfl,YB _ _ H.out.2.1 (by have:=H.out.2.2;omega)⟩):p:=h
theorem Zoj (x:It) (w:World):Calls Tryz.prog 138 #[.agg #[.int .i64 x.i,.int .i64 x.w,.int .i64 x.s]] w fun e w'=>e=.returned (.agg #[.int .i64 x.i,.int .i64 x.w])∧Below w.heap.size w w':=by
 obtain ⟨w1,e1⟩:∃ W,W=(w.alloc (.cells #[.int .i64 x.i,.int .i64 x.w,.int .i64 x.s] 134 (0,0))).alloc (.cells #[.int .i64 0,.int .i64 0] 167 (0,0)):=⟨_,rfl⟩
 obtain ⟨g,eg⟩:∃ g,g=w.heap.size:=⟨_,rfl⟩
 have hb:Below w.heap.size w w1:=by rw [e1];exact ZQ w _ _
 have hg0:w1.heap[g]?=some (.cells #[.int .i64 x.i,.int .i64 x.w,.int .i64 x.s] 134 (0,0)):=by rw [e1,eg];exact ZZ w _ _
 have hg1:w1.heap[g+1]?=some (.cells #[.int .i64 0,.int .i64 0] 167 (0,0)):=by rw [e1,eg];exact Z0 w _ _
 obtain ⟨f0,f1,f2⟩:=cs3 hg0
 obtain ⟨k0,k1⟩:=cs2 hg1
 have k2:=Zd hg1 0
 have k3:=Zd hg1 1
 have H:=Qh (Qi hg1 (Qi hb eg))
 clear hb hg0 hg1
 go_enter Tryz.func138,Tryz.ntmps138
 exact Tq55
theorem Tq37 {p:Prop} (h:p:=by
 have i2:decide (j<n)=false:=decide_eq_false hlt
 have ht:l.drop j=[]:=List.drop_eq_nil_of_le (by omega)
 rw [ht] at hS
 have hR:R=decide (n≤64):=by
  rw [eR];unfold Xj;rw [hS,List.length_map,←hlen];rfl
 have HX:=Qh (Qi hR hW)
 clear hlt hg hS hW h eR hlen hlim ht hR
 go_wp2_with fail
 go_ret
 refine ⟨?_,HX.out.2⟩
 rw [HX.out.1]
 simp
 try omega):p:=h
theorem Tq97 {p:Prop} (h:p:=by
 go_wp2_with fail
 go_ret
 refine ⟨?_,HO.out⟩
 rw [H.out.2];unfold Xj;rw [HX.out.2.2.1];rfl):p:=h
theorem Tq8 {p:Prop} (h:p:=by
 obtain ⟨W3,e3⟩:∃ V,V=W2.alloc (.cells #[.int .i64 x.i,.int .i64 x.w] 167 (0,0)):=⟨_,rfl⟩
 obtain ⟨g3,eg3⟩:∃ g,g=W2.heap.size:=⟨_,rfl⟩
 rw [←e3,←eg3]
 have hg3:W3.heap[g3]?=some (.cells #[.int .i64 x.i,.int .i64 x.w] 167 (0,0)):=by rw [e3,eg3];exact heap_alloc_new W2 _
 have hb3:Below W2.heap.size W2 W3:=by rw [e3];exact Zg W2 _
 obtain ⟨z0,z1⟩:=cs2 hg3
 have hout:Below w.heap.size w W3:=by
  have h1:=HX.out.2.2.2
  have h2:=h1.trans (HB.out.mono h1.size)
  exact h2.trans (hb3.mono h2.size)
 have HO:=Qh hout
 clear hg3 hb3 e3 eg3 hout
 unfold okW at eOK
 by_cases t1:x.i≤last
 ·have d1:decide (x.i≤last)=true:=decide_eq_true t1
  have hok:OK=false:=by rw [eOK,d1];rfl
  clear eOK
  subst hok
  clear t1
  exact Tq97
 have d1:decide (x.i≤last)=false:=decide_eq_false t1
 by_cases t2:65536<x.i
 ·have d2:decide (65536<x.i)=true:=decide_eq_true t2
  have hok:OK=false:=by rw [eOK,d1,d2];rfl
  clear eOK
  subst hok
  clear t1 t2
  exact Tq97
 have d2:decide (65536<x.i)=false:=decide_eq_false t2
 by_cases t3:x.w<1
 ·have d3:decide (x.w<1)=true:=decide_eq_true t3
  have hok:OK=false:=by rw [eOK,d1,d2,d3];rfl
  clear eOK
  subst hok
  clear t1 t2 t3
  exact Tq97
 have d3:decide (x.w<1)=false:=decide_eq_false t3
 by_cases t4:16<x.w
 ·have d4:decide (16<x.w)=true:=decide_eq_true t4
  have hok:OK=false:=by rw [eOK,d1,d2,d3,d4];rfl
  clear eOK
  subst hok
  clear t1 t2 t3 t4
  exact Tq97
 have d4:decide (16<x.w)=false:=decide_eq_false t4
 have hok:OK=true:=by rw [eOK,d1,d2,d3,d4];rfl
 clear eOK
 subst hok
 clear t1 t2 t3 t4
 go_wp2_with fail
 go_roundg (n-(j+1))
 case measure=>have:=HX.out.1;have:=HX.out.2.1;omega
 case rel=>exact ⟨j+1,x.i,by have:=HX.out.1;omega,by go_num,rfl,HX.out.2.2.1,HO.out⟩):p:=h
theorem Zok (A:Option Addr) (n cap:Nat) (l:List It) (w:World) (h:ZG 3 It.ints w A n l) :
  Calls Tryz.prog 137 #[.slice A n cap,.func (.func 138) #[] #[]] w fun e w'=>e=.returned (.bool (Xj (l.map It.pr)))∧Below w.heap.size w w':=by
 obtain ⟨R,eR⟩:∃ R,R=Xj (l.map It.pr):=⟨_,rfl⟩
 rw [←eR]
 have H:=Qh (Qi h eR)
 clear h eR
 go_enter Tryz.func137,Tryz.ntmps137
 go_wp2_with fail
 go_loopg [5,11] n (fun gh la iv wr=>∃ (j:Nat) (last:Int),gh+j=n∧iv=.int .i64 (j:Nat)∧la=.int .i64 last∧XU (-1) (l.map It.pr)=XU last ((l.drop j).map It.pr)∧Below w.heap.size w wr)
 case atStart=>exact ⟨0,-1,rfl,rfl,rfl,rfl,Below.refl _ _⟩
 case round=>
  obtain ⟨j,last,hg,rfl,rfl,hS,hW⟩:=hrel
  obtain ⟨W,eW⟩:∃ W,W=wr:=⟨_,rfl⟩
  rw [←eW] at hW ⊢
  clear eW
  obtain ⟨h,eR⟩:=H.out
  have hlen:=h.len
  have hlim:=h.lim
  by_cases hlt:j<n
  ·obtain ⟨x,hx⟩:∃ x,l[j]?=some x:=⟨_,List.getElem?_eq_getElem (by omega)⟩
   have i2:decide (j<n)=true:=decide_eq_true hlt
   obtain ⟨b,o,rfl,hc⟩:=h.at_ j x hx
   have c0:W.cell? ⟨b,o+j*3,none⟩=some (.int .i64 x.i):=(hW.cell (Zc (hc 0 x.i rfl))).trans (hc 0 x.i rfl)
   have c1:W.cell? ⟨b,o+j*3+1,none⟩=some (.int .i64 x.w):=(hW.cell (Zc (hc 1 x.w rfl))).trans (hc 1 x.w rfl)
   have c2:W.cell? ⟨b,o+j*3+2,none⟩=some (.int .i64 x.s):=(hW.cell (Zc (hc 2 x.s rfl))).trans (hc 2 x.s rfl)
   have i0:(0:Int)≤(j:Int):=by omega
   have i1:(j:Int)<(n:Int):=by omega
   have u2:wrap64 ((j:Int)+1)=(j:Int)+1:=Zn _ (by omega) (by omega)
   obtain ⟨W1,e1⟩:∃ V,V=W.alloc (.cells #[.int .i64 x.i,.int .i64 x.w,.int .i64 x.s] 134 (0,0)):=⟨_,rfl⟩
   obtain ⟨g1,eg⟩:∃ g,g=W.heap.size:=⟨_,rfl⟩
   have hg1:W1.heap[g1]?=some (.cells #[.int .i64 x.i,.int .i64 x.w,.int .i64 x.s] 134 (0,0)):=by rw [e1,eg];exact heap_alloc_new W _
   have hb1:Below W.heap.size W W1:=by rw [e1];exact Zg W _
   obtain ⟨y0,y1,y2⟩:=cs3 hg1
   have F:=Zoj x W1
   rw [Zid It.pr last l j x hx] at hS
   obtain ⟨OK,eOK⟩:∃ OK,OK=okW last x.i x.w:=⟨_,rfl⟩
   have hS:XU (-1) (l.map It.pr)=(OK&&XU x.i ((l.drop (j+1)).map It.pr)):=by rw [hS,eOK];rfl
   have HX:=Qh (Qi hlt (Qi hg (Qi hS (hW.trans (hb1.mono hW.size)))))
   clear hlt hg hS hW hb1 hg1 hc h eR hlen hlim hx
   go_upto_region 5 with fail
   rw [←e1,←eg]
   clear e1 eg
   go_upto_region 6 with (go_at_call 138;refine F.mono ?_;rintro e W2 ⟨rfl,hb2⟩;have HB:=Qh hb2;clear hb2 F)
   exact Tq8
  ·exact Tq37
theorem Zol (x:Wt) (w:World):Calls Tryz.prog 160 #[.agg #[.int .i64 x.i,.int .i64 x.w]] w fun e w'=>e=.returned (.agg #[.int .i64 x.i,.int .i64 x.w])∧Below w.heap.size w w':=by
 obtain ⟨w1,e1⟩:∃ W,W=(w.alloc (.cells #[.int .i64 x.i,.int .i64 x.w] 167 (0,0))).alloc (.cells #[.int .i64 0,.int .i64 0] 167 (0,0)):=⟨_,rfl⟩
 obtain ⟨g,eg⟩:∃ g,g=w.heap.size:=⟨_,rfl⟩
 have hb:Below w.heap.size w w1:=by rw [e1];exact ZQ w _ _
 have hg0:w1.heap[g]?=some (.cells #[.int .i64 x.i,.int .i64 x.w] 167 (0,0)):=by rw [e1,eg];exact ZZ w _ _
 have hg1:w1.heap[g+1]?=some (.cells #[.int .i64 0,.int .i64 0] 167 (0,0)):=by rw [e1,eg];exact Z0 w _ _
 obtain ⟨f0,f1⟩:=cs2 hg0
 obtain ⟨k0,k1⟩:=cs2 hg1
 have k2:=Zd hg1 0
 have k3:=Zd hg1 1
 have H:=Qh (Qi hg1 (Qi hb eg))
 clear hb hg0 hg1
 go_enter Tryz.func160,Tryz.ntmps160
 exact Tq55
theorem Zom (A:Option Addr) (n cap:Nat) (l:List Wt) (w:World) (h:ZG 2 Wt.ints w A n l) :
  Calls Tryz.prog 159 #[.slice A n cap,.func (.func 160) #[] #[]] w fun e w'=>e=.returned (.bool (Xj (l.map Wt.pr)))∧Below w.heap.size w w':=by
 obtain ⟨R,eR⟩:∃ R,R=Xj (l.map Wt.pr):=⟨_,rfl⟩
 rw [←eR]
 have H:=Qh (Qi h eR)
 clear h eR
 go_enter Tryz.func159,Tryz.ntmps159
 go_wp2_with fail
 go_loopg [5,11] n (fun gh la iv wr=>∃ (j:Nat) (last:Int),gh+j=n∧iv=.int .i64 (j:Nat)∧la=.int .i64 last∧XU (-1) (l.map Wt.pr)=XU last ((l.drop j).map Wt.pr)∧Below w.heap.size w wr)
 case atStart=>exact ⟨0,-1,rfl,rfl,rfl,rfl,Below.refl _ _⟩
 case round=>
  obtain ⟨j,last,hg,rfl,rfl,hS,hW⟩:=hrel
  obtain ⟨W,eW⟩:∃ W,W=wr:=⟨_,rfl⟩
  rw [←eW] at hW ⊢
  clear eW
  obtain ⟨h,eR⟩:=H.out
  have hlen:=h.len
  have hlim:=h.lim
  by_cases hlt:j<n
  ·obtain ⟨x,hx⟩:∃ x,l[j]?=some x:=⟨_,List.getElem?_eq_getElem (by omega)⟩
   have i2:decide (j<n)=true:=decide_eq_true hlt
   obtain ⟨b,o,rfl,hc⟩:=h.at_ j x hx
   have c0:W.cell? ⟨b,o+j*2,none⟩=some (.int .i64 x.i):=(hW.cell (Zc (hc 0 x.i rfl))).trans (hc 0 x.i rfl)
   have c1:W.cell? ⟨b,o+j*2+1,none⟩=some (.int .i64 x.w):=(hW.cell (Zc (hc 1 x.w rfl))).trans (hc 1 x.w rfl)
   have i0:(0:Int)≤(j:Int):=by omega
   have i1:(j:Int)<(n:Int):=by omega
   have u2:wrap64 ((j:Int)+1)=(j:Int)+1:=Zn _ (by omega) (by omega)
   obtain ⟨W1,e1⟩:∃ V,V=W.alloc (.cells #[.int .i64 x.i,.int .i64 x.w] 167 (0,0)):=⟨_,rfl⟩
   obtain ⟨g1,eg⟩:∃ g,g=W.heap.size:=⟨_,rfl⟩
   have hg1:W1.heap[g1]?=some (.cells #[.int .i64 x.i,.int .i64 x.w] 167 (0,0)):=by rw [e1,eg];exact heap_alloc_new W _
   have hb1:Below W.heap.size W W1:=by rw [e1];exact Zg W _
   obtain ⟨y0,y1⟩:=cs2 hg1
   have F:=Zol x W1
   rw [Zid Wt.pr last l j x hx] at hS
   obtain ⟨OK,eOK⟩:∃ OK,OK=okW last x.i x.w:=⟨_,rfl⟩
   have hS:XU (-1) (l.map Wt.pr)=(OK&&XU x.i ((l.drop (j+1)).map Wt.pr)):=by rw [hS,eOK];rfl
   have HX:=Qh (Qi hlt (Qi hg (Qi hS (hW.trans (hb1.mono hW.size)))))
   clear hlt hg hS hW hb1 hg1 hc h eR hlen hlim hx
   go_upto_region 5 with fail
   rw [←e1,←eg]
   clear e1 eg
   go_upto_region 6 with (go_at_call 160;refine F.mono ?_;rintro e W2 ⟨rfl,hb2⟩;have HB:=Qh hb2;clear hb2 F)
   exact Tq8
  ·exact Tq37
end
end Go.Proofs.YtlgcfimhfmgkmaaGreatDoor
namespace Go.Proofs.YtlgcfimhfmgkmaaGreatDoor
open Go.RowKit
section
theorem Zif (x:Int) (w:World):Calls Tryz.prog 163 #[.int .i64 x] w fun e w'=>e=.returned (.bool false)∧w'=w:=by
 go_enter Tryz.func163,Tryz.ntmps163
 go_wp2_with fail
 go_ret
 exact ⟨rfl,rfl⟩
def Xk (x y:Int):Int:=if x<y then -1 else if y<x then 1 else 0
theorem Ze5 (x y:Int) (w:World):Calls Tryz.prog 106 #[.int .i64 x,.int .i64 y] w fun e w'=>e=.returned (.int .i64 (Xk x y))∧w'=w:=by
 obtain ⟨R,eR⟩:∃ R,R=Xk x y:=⟨_,rfl⟩
 rw [←eR]
 have HR:=Qh eR
 clear eR
 have F1:=fun W=>Zif x W
 have F2:=fun W=>Zif y W
 go_enter Tryz.func106,Tryz.ntmps106
 go_upto_region 9 with (go_at_call 163;first | (refine (F1 _).mono ?_;rintro e w2 ⟨rfl,rfl⟩) | (refine (F2 _).mono ?_;rintro e w3 ⟨rfl,rfl⟩))
 by_cases t1:x<y
 ·have d1:decide (x<y)=true:=decide_eq_true t1
  have hR:R=-1:=by rw [HR.out];unfold Xk;rw [if_pos t1]
  clear t1 HR F1 F2
  subst hR
  go_wp2_with fail
  go_ret
  exact ⟨rfl,rfl⟩
 have d1:decide (x<y)=false:=decide_eq_false t1
 by_cases t2:y<x
 ·have d2:decide (y<x)=true:=decide_eq_true t2
  have hR:R=1:=by rw [HR.out];unfold Xk;rw [if_neg t1,if_pos t2]
  clear t1 t2 HR F1 F2
  subst hR
  go_wp2_with fail
  go_ret
  exact ⟨rfl,rfl⟩
 have d2:decide (y<x)=false:=decide_eq_false t2
 have hR:R=0:=by rw [HR.out];unfold Xk;rw [if_neg t1,if_neg t2]
 clear t1 t2 HR F1 F2
 subst hR
 go_wp2_with fail
 go_ret
 exact ⟨rfl,rfl⟩
def orI (x y:Int):Int:=if x=0 then y else x
theorem Zon (x y:Int) (b:Nat) (w:World) (h:w.heap[b]?=some (.cells #[.int .i64 x,.int .i64 y] 3 (0,0))):Calls Tryz.prog 105 #[.slice (some ⟨b,0,none⟩) 2 2] w fun e w'=>e=.returned (.int .i64 (orI x y))∧w'=w:=by
 obtain ⟨f0,f1⟩:=cs2 h
 clear h
 obtain ⟨R,eR⟩:∃ R,R=orI x y:=⟨_,rfl⟩
 rw [←eR]
 have HR:=Qh eR
 clear eR
 go_enter Tryz.func105,Tryz.ntmps105
 go_wp2_with fail
 go_loopg [8] 2 (fun gh iv wr=>∃ j:Nat,gh+j=2∧iv=.int .i64 (j:Nat)∧wr=w∧(1≤j→x=0)∧(2≤j→y=0))
 case atStart=>exact ⟨0,rfl,rfl,rfl,fun h=>by omega,fun h=>by omega⟩
 case round=>
  obtain ⟨j,hg,rfl,rfl,h1,h2⟩:=hrel
  have hj:j=0∨j=1∨j=2:=by omega
  have HX:=Qh (Qi hg (Qi h1 h2))
  clear hg h1 h2
  rcases hj with rfl|rfl|rfl
  ·by_cases hx:x=0
   ·have b1:(x==0)=true:=by rw [hx];rfl
    go_wp2_with fail
    go_roundg 1
    case measure=>have:=HX.out.1;omega
    case rel=>exact ⟨1,rfl,by go_num,rfl,fun _=>hx,fun h=>by omega⟩
   ·have b1:(x==0)=false:=by rw [beq_eq_false_iff_ne];exact hx
    have hR:R=x:=by rw [HR.out];unfold orI;rw [if_neg hx]
    clear hx HR
    subst hR
    go_wp2_with fail
    go_ret
    exact ⟨rfl,rfl⟩
  ·have hx:=HX.out.2.1 (by omega)
   by_cases hy:y=0
   ·have b1:(y==0)=true:=by rw [hy];rfl
    go_wp2_with fail
    go_roundg 0
    case measure=>have:=HX.out.1;omega
    case rel=>exact ⟨2,rfl,by go_num,rfl,fun _=>hx,fun _=>hy⟩
   ·have b1:(y==0)=false:=by rw [beq_eq_false_iff_ne];exact hy
    have hR:R=y:=by rw [HR.out];unfold orI;rw [if_pos hx]
    clear hx hy HR
    subst hR
    go_wp2_with fail
    go_ret
    exact ⟨rfl,rfl⟩
  ·have hx:=HX.out.2.1 (by omega)
   have hy:=HX.out.2.2 (by omega)
   have hR:R=0:=by rw [HR.out];unfold orI;rw [if_pos hx,hy]
   clear hx hy HR
   subst hR
   go_wp2_with fail
   go_ret
   exact ⟨rfl,rfl⟩
end
end Go.Proofs.YtlgcfimhfmgkmaaGreatDoor
namespace Go.Proofs.YtlgcfimhfmgkmaaGreatDoor
open Go.RowKit
section
def fbO:Obj:=.cells #[.func (.func 33) #[] #[]] 86 (0,0)
theorem Zig (id k:Int) (A:Option Addr) (n c fb:Nat) (w:World) (hf:w.heap[fb]?=some fbO) :
  Calls Tryz.prog 181 #[.agg #[.int .i64 id,.slice A n c],.int .i64 k,.pointer (some ⟨fb,0,none⟩)] w fun e w'=>e=.returned (.int .i64 (Xk id k))∧Below w.heap.size w w':=by
 obtain ⟨w1,g,e1,eg,⟨f0,f1⟩,hb⟩:=Zaa w id A n c
 have ff:w1.cell? ⟨fb,0,none⟩=some (.func (.func 33) #[] #[]):=(hb.cell (Zc (Za hf 0 _ rfl))).trans (Za hf 0 _ rfl)
 have F:=Zen id A n c w1
 have H:=Qh hb
 clear hb hf
 go_enter Tryz.func181,Tryz.ntmps181
 go_upto_region 1 with fail
 rw [←e1,←eg]
 clear e1 eg
 go_wp2_with (first
  | (go_at_call 33;refine F.mono ?_;rintro e w2 ⟨rfl,hb2⟩;have H2:=Qh hb2;clear hb2)
  | (go_at_call 106;refine (Ze5 _ _ _).mono ?_;rintro e w3 ⟨rfl,rfl⟩))
 go_ret
 exact ⟨rfl,H.out.trans (H2.out.mono H.out.size)⟩
theorem Zih (a b:Int):(Xk a b<0↔a<b)∧(Xk a b=0↔a=b):=by
 unfold Xk
 split
 ·omega
 ·split<;>omega
theorem Tq84 {p:Prop} (h:p:=by
 rcases Nat.eq_or_lt_of_le ht with rfl | ht
 ·rw [hx] at hy;injection hy with hy;rw [←hy];exact hR
 ·have:=H.out.2.1 m t x y ht hx hy
  omega):p:=h
theorem Tq80 {p:Prop} (h:p:=by
 rcases Nat.eq_or_lt_of_le (Nat.le_of_lt_succ ht) with rfl | ht
 ·rw [hx] at hy;injection hy with hy;rw [←hy];exact hR
 ·have:=H.out.2.1 t m y x ht hy hx
  omega):p:=h
theorem Tq70 {p:Prop} (h:p:=by
 refine ⟨0,n,⟨rfl,Nat.zero_le _,Nat.le_refl _⟩,⟨fun t y h=>by omega,fun t y h hy=>?_⟩,rfl,rfl,Below.refl _ _⟩
 have:=(List.getElem?_eq_some_iff.1 hy).1
 have:=H.out.1.len
 omega):p:=h
theorem Tq43 {p:Prop} (h:p:=by
 go_ret2
 obtain ⟨hx,hg,hall,hW,hsg,hin,hlen⟩:=HX.out
 refine ⟨i,decide (R=0),rfl,⟨⟨by omega,hall.1,hall.2⟩,?_⟩,hW.trans (H3.out.mono hW.size)⟩
 rw [decide_eq_true_eq,hsg.2]
 constructor
 ·intro e;exact ⟨x,hx,e⟩
 ·rintro ⟨y,hy,e⟩;rw [hx] at hy;injection hy with hy;rw [hy];exact e):p:=h
theorem Tq34 {p:Prop} (h:p:=by
 have i3:decide (i<n)=false:=decide_eq_false hin
 have HX:=Qh (Qi hg (Qi hall (Qi hW (Qi hin hlen))))
 clear hlt hg hall hW h hlen hlim hin
 go_wp2_with fail
 go_ret2
 obtain ⟨hg,hall,hW,hin,hlen⟩:=HX.out
 refine ⟨i,false,rfl,⟨⟨by omega,hall.1,hall.2⟩,?_⟩,hW⟩
 constructor
 ·intro e;cases e
 ·rintro ⟨y,hy,_⟩
  have:=(List.getElem?_eq_some_iff.1 hy).1
  omega):p:=h
theorem Zoo (fb:Nat) (K:Int) (A:Option Addr) (n cap:Nat) (l:List Ent) (w:World) (h:Zj w A n cap l) (hup:∀ (i j:Nat) x y,i<j→l[i]?=some x→l[j]?=some y→Ent.id x<Ent.id y) (hf:w.heap[fb]?=some fbO) :
  Calls Tryz.prog 180 #[.slice A n cap,.int .i64 K,.func (.func 181) #[] #[.pointer (some ⟨fb,0,none⟩)]] w fun e w'=>∃ (k:Nat) (b:Bool),e=.returned (.tuple #[.int .i64 (k:Nat),.bool b])∧((k≤n∧(∀ (t:Nat) y,t<k→l[t]?=some y→Ent.id y<K)∧(∀ (t:Nat) y,k≤t→l[t]?=some y→K≤Ent.id y))∧(b=true↔∃ x,l[k]?=some x∧Ent.id x=K))∧Below w.heap.size w w':=by
 have H:=Qh (Qi h (Qi hup hf))
 clear h hup hf
 go_enter Tryz.func180,Tryz.ntmps180
 go_wp2_with fail
 go_loopg [9,10] n (fun gh iv jv wr=>∃ i j:Nat,(gh=j-i∧i≤j∧j≤n)∧((∀ (t:Nat) y,t<i→l[t]?=some y→Ent.id y<K)∧(∀ (t:Nat) y,j≤t→l[t]?=some y→K≤Ent.id y))∧iv=.int .i64 (i:Nat)∧jv=.int .i64 (j:Nat)∧Below w.heap.size w wr)
 case atStart=>
  exact Tq70
 case round=>
  obtain ⟨i,j,hg,hall,rfl,rfl,hW⟩:=hrel
  obtain ⟨W,eW⟩:∃ W,W=wr:=⟨_,rfl⟩
  rw [←eW] at hW ⊢
  clear eW
  have h:=H.out.1
  have hlen:=h.len
  have hlim:=h.lim
  by_cases hlt:i<j
  ·obtain ⟨m,em⟩:∃ m,m=(i+j) / 2:=⟨_,rfl⟩
   have hmi:i≤m:=by omega
   have hmj:m<j:=by omega
   obtain ⟨x,hx⟩:∃ x,l[m]?=some x:=⟨_,List.getElem?_eq_getElem (by omega)⟩
   have i0:(0:Int)≤(m:Int):=by omega
   have i1:(m:Int)<(n:Int):=by omega
   have i2:decide (i<j)=true:=decide_eq_true hlt
   have i3:wrap64 ((i:Int)+(j:Int))=((i+j:Nat):Int):=by rw [Zn _ (by omega) (by omega)];omega
   have i4:wrap64 (IntKind.u64.wrap ((i:Int)+(j:Int)) / 2)=(m:Int):=by rw [Go.IntWalk.u64_in _ ⟨by omega,by omega⟩,Zn _ (by omega) (by omega),em];omega
   have w2:wrap64 ((m:Int)+1)=(m:Int)+1:=Zn _ (by omega) (by omega)
   obtain ⟨R,eR⟩:∃ R:Int,R=Xk x.id K:=⟨_,rfl⟩
   have hsg:(R<0↔Ent.id x<K)∧(R=0↔Ent.id x=K):=by rw [eR];exact Zih _ _
   obtain ⟨b,o,CA,cn,cc,rfl,⟨c0,c1⟩,hr⟩:=h.at_ m x hx
   have c0:=(Zm (hW.block b (Zc c0)) _).trans c0
   have c1:=(Zm (hW.block b (Zc c1)) _).trans c1
   have hr:=hr.below hW
   have hfW:=(hW.block fb (Zh H.out.2.2)).trans H.out.2.2
   have F:Calls Tryz.prog 181 #[.agg #[.int .i64 x.id,.slice CA cn cc],.int .i64 K,.pointer (some ⟨fb,0,none⟩)] W fun e w'=>e=.returned (.int .i64 R)∧Below W.heap.size W w':=by rw [eR];exact Zig x.id K CA cn cc fb W hfW
   obtain ⟨D,eD⟩:∃ D:Bool,D=decide (R<0):=⟨_,rfl⟩
   have HX:=Qh (Qi hx (Qi hg (Qi hall (Qi hW (Qi hsg (Qi eD (Qi hmi (Qi hmj hlen))))))))
   have eD':=eD.symm
   clear hx hlt hg hall hW hsg eR eD h hlen hlim em hmi hmj
   rcases D with _ | _
   ·go_wp2_with (go_at_call 181;refine F.mono ?_;rintro e w3 ⟨rfl,hb3⟩;have H3:=Qh hb3;clear hb3)
    go_roundg (m-i)
    case measure=>have:=HX.out.2.1;have:=HX.out.2.2.2.2.2.2;omega
    case rel=>
     obtain ⟨hx,hg,hall,hW,hsg,eD,hmi,hmj,hlen⟩:=HX.out
     refine ⟨i,m,⟨rfl,hmi,by omega⟩,⟨hall.1,fun t y ht hy=>?_⟩,rfl,rfl,hW.trans (H3.out.mono hW.size)⟩
     have hR:K≤Ent.id x:=by
      have:=of_decide_eq_false eD.symm
      have:=hsg.1
      omega
     exact Tq84
   ·go_wp2_with (go_at_call 181;refine F.mono ?_;rintro e w3 ⟨rfl,hb3⟩;have H3:=Qh hb3;clear hb3)
    go_roundg (j-(m+1))
    case measure=>have:=HX.out.2.1;have:=HX.out.2.2.2.2.2.2;omega
    case rel=>
     obtain ⟨hx,hg,hall,hW,hsg,eD,hmi,hmj,hlen⟩:=HX.out
     refine ⟨m+1,j,⟨rfl,by omega,hg.2.2⟩,⟨fun t y ht hy=>?_,hall.2⟩,by go_num,rfl,hW.trans (H3.out.mono hW.size)⟩
     have hR:Ent.id x<K:=hsg.1.1 (of_decide_eq_true eD.symm)
     exact Tq80
  ·obtain rfl:i=j:=by omega
   have i2:decide (i<i)=false:=decide_eq_false hlt
   by_cases hin:i<n
   ·obtain ⟨x,hx⟩:∃ x,l[i]?=some x:=⟨_,List.getElem?_eq_getElem (by omega)⟩
    obtain ⟨m,em⟩:∃ m,m=i:=⟨_,rfl⟩
    have i0:(0:Int)≤(i:Int):=by omega
    have i1:(i:Int)<(n:Int):=by omega
    have i3:decide (i<n)=true:=decide_eq_true hin
    obtain ⟨R,eR⟩:∃ R:Int,R=Xk x.id K:=⟨_,rfl⟩
    have hsg:(R<0↔Ent.id x<K)∧(R=0↔Ent.id x=K):=by rw [eR];exact Zih _ _
    obtain ⟨b,o,CA,cn,cc,rfl,⟨c0,c1⟩,hr⟩:=h.at_ i x hx
    have c0:=(Zm (hW.block b (Zc c0)) _).trans c0
    have c1:=(Zm (hW.block b (Zc c1)) _).trans c1
    have hr:=hr.below hW
    have hfW:=(hW.block fb (Zh H.out.2.2)).trans H.out.2.2
    have F:Calls Tryz.prog 181 #[.agg #[.int .i64 x.id,.slice CA cn cc],.int .i64 K,.pointer (some ⟨fb,0,none⟩)] W fun e w'=>e=.returned (.int .i64 R)∧Below W.heap.size W w':=by rw [eR];exact Zig x.id K CA cn cc fb W hfW
    have HX:=Qh (Qi hx (Qi hg (Qi hall (Qi hW (Qi hsg (Qi hin hlen))))))
    clear hx hlt hg hall hW hsg eR h hlen hlim em hin
    go_wp2_with (go_at_call 181;refine F.mono ?_;rintro e w3 ⟨rfl,hb3⟩;have H3:=Qh hb3;clear hb3)
    exact Tq43
   ·exact Tq34
end
end Go.Proofs.YtlgcfimhfmgkmaaGreatDoor
namespace Go.Proofs.YtlgcfimhfmgkmaaGreatDoor
open Go.RowKit
section
theorem Zop (e:Ent) (A:Option Addr) (n c:Nat) (w:World) (h:Zo w A n c e.cs) :
    Calls Tryz.prog 77 #[.agg #[.int .i64 e.id,.slice A n c]] w fun r w'=>∃ PA qn qc,r=.returned (.agg #[.int .i64 e.id,.slice PA qn qc])∧(Zo w' PA qn qc e.cs∧∀ b o q,PA=some ⟨b,o,q⟩→w.heap.size≤b)∧Below w.heap.size w w':=by
  obtain ⟨w1,e1⟩:∃ W,W=(w.alloc (.cells #[.int .i64 e.id,.slice A n c] 70 (0,0))).alloc (.cells #[.int .i64 0,.slice none 0 0] 70 (0,0)):=⟨_,rfl⟩
  obtain ⟨g,eg⟩:∃ g,g=w.heap.size:=⟨_,rfl⟩
  have hb:Below w.heap.size w w1:=by rw [e1];exact ZQ w _ _
  have hg0:w1.heap[g]?=some (.cells #[.int .i64 e.id,.slice A n c] 70 (0,0)):=by rw [e1,eg];exact ZZ w _ _
  have hg1:w1.heap[g+1]?=some (.cells #[.int .i64 0,.slice none 0 0] 70 (0,0)):=by rw [e1,eg];exact Z0 w _ _
  have hB1:ZN w g e.id A n c w1:=⟨by rw [eg];exact hb,hg0,⟨_,_,hg1⟩⟩
  have FS:∀ W,ZN w g e.id A n c W→(W.cell? ⟨g,0,none⟩=some (.int .i64 e.id)∧W.cell? ⟨g,1,none⟩=some (.slice A n c))∧ZN w g e.id A n c W:=fun W hW=>
    ⟨⟨Za hW.a 0 _ rfl,Za hW.a 1 _ rfl⟩,hW⟩
  have KP:∀ W,ZN w g e.id A n c W→Calls Tryz.prog 132 #[.slice A n c] W fun r w'=>∃ PA qn qc,r=.returned (.slice PA qn qc)∧(Zo w' PA qn qc e.cs∧∀ b o q,PA=some ⟨b,o,q⟩→W.heap.size≤b)∧Below W.heap.size W w':=fun W hW=>
    ZeE A n c e.cs W (h.below (by rw [←eg];exact hW.out))
  obtain ⟨⟨k0,k1⟩,-⟩:=FS w1 hB1
  have HFS:=Qh FS
  have HKP:=Qh KP
  have H:=Qh (Qi hB1 eg)
  clear FS KP hB1 hb hg0 hg1 h
  go_enter Tryz.func77,Tryz.ntmps77
  go_upto_region 1 with fail
  rw [←e1,←eg]
  clear e1 eg
  have B2:=H.out.1
  go_region_held3 (fun W=>(W.cell? ⟨g,0,none⟩=some (.int .i64 e.id)∧W.cell? ⟨g,1,none⟩=some (.slice A n c))∧ZN w g e.id A n c W)
      ((refine HFS.out _ ?_;repeat (first | with_reducible assumption | with_reducible exact (And.right (by with_reducible assumption)) | with_reducible apply ZN.drew | with_reducible apply ZN.set2)))
      (first
      | (refine Zbs 132 [.tmp 6] _ rfl rfl (fun _ _=>rfl) _ rfl (HKP.out _ (And.right (by with_reducible assumption))) ?_
         rintro r wq ⟨PA,qn,qc,rfl,hPC,hbq⟩
         refine ⟨_,rfl,?_⟩
         have hbw:ZN w g e.id A n c wq:=ZN.call (And.right (by with_reducible assumption)) hbq
         obtain ⟨x4,x5,-,⟨m4,m5,m6,m7⟩⟩:=hbw.facts
         have HPC:=Qh (Qi hPC hbq)
         clear hbq hPC))
  all_goals go_wp2_with fail
  obtain ⟨⟨hC,hlow⟩,hbq⟩:=HPC.out
  have hl1:=Zh H.out.1.a
  obtain ⟨p1,q1,hr1⟩:=H.out.1.r
  have hl2:=Zh hr1
  have hsz:w1.drew.heap.size=w1.heap.size:=rfl
  obtain ⟨p3,q3,hr⟩:=hbw.r
  have eg:=H.out.2
  have hout:Below w.heap.size w wq:=by rw [←eg];exact hbw.out
  refine bodyPost_ret (ZeB rfl _ _ (g+1) _ rfl rfl (Yw (.int .i64 e.id) (.slice PA qn qc) hr)) rfl ?_
  refine ⟨PA,qn,qc,rfl,⟨hC.stepA (fun b o m hA _=>YE _ _ _ _ ?_),fun b o m hA=>by have:w1.heap.size≤b:=hlow b o m hA;omega⟩,YB _ _ hout (by omega)⟩
  have:w1.heap.size≤b:=hlow b o m hA
  omega
theorem Zii {t:Int} {es:List Ent} (h:Zl t es=true):∀ (i j:Nat) x y,i<j→es[i]?=some x→es[j]?=some y→Ent.id x<Ent.id y:=by
 unfold Zl Xt at h
 simp only [Bool.and_eq_true,decide_eq_true_eq] at h
 have hp:=List.pairwise_iff_getElem.1 (List.pairwise_map.1 h.1.2)
 intro i j x y hij hx hy
 obtain ⟨h1,rfl⟩:=List.getElem?_eq_some_iff.1 hx
 obtain ⟨h2,rfl⟩:=List.getElem?_eq_some_iff.1 hy
 exact hp i j h1 h2 hij
def Zdq (es:List Ent) (K:Int) (k:Nat) (b:Bool):Prop:=(k≤es.length∧(∀ (t:Nat) y,t<k→es[t]?=some y→y.id<K)∧(∀ (t:Nat) y,k≤t→es[t]?=some y→K≤y.id))∧(b=true↔∃ x,es[k]?=some x∧x.id=K)
theorem Zoq (K:Int) (A:Option Addr) (n c:Nat) (es:List Ent) (w:World) (h:Zj w A n c es) (hup:∀ (i j:Nat) x y,i<j→es[i]?=some x→es[j]?=some y→Ent.id x<Ent.id y) :
  Calls Tryz.prog 141 #[.slice A n c,.int .i64 K,.func (.func 33) #[] #[]] w fun e w'=>∃ (k:Nat) (b:Bool),e=.returned (.tuple #[.int .i64 (k:Nat),.bool b])∧Zdq es K k b∧Below w.heap.size w w':=by
 obtain ⟨w1,e1⟩:∃ W,W=w.alloc fbO:=⟨_,rfl⟩
 obtain ⟨g,eg⟩:∃ g,g=w.heap.size:=⟨_,rfl⟩
 have hg:w1.heap[g]?=some fbO:=by rw [e1,eg];exact heap_alloc_new w _
 have hb:Below w.heap.size w w1:=by rw [e1];exact Zg w _
 have F:=Zoo g K A n c es w1 (h.below hb) hup hg
 have H:=Qh (Qi hb h.len)
 clear hb hg h hup
 unfold fbO at e1
 go_enter Tryz.func141,Tryz.ntmps141
 go_upto_region 1 with fail
 rw [←e1,←eg]
 clear e1 eg
 go_wp2_with (go_at_call 180;refine F.mono ?_;rintro e w2 ⟨k,b,rfl,h1,h2⟩;have H2:=Qh (Qi h1 h2);clear h1 h2)
 go_ret2
 refine ⟨k,b,rfl,?_,H.out.1.trans (H2.out.2.mono H.out.1.size)⟩
 have:=H2.out.1
 rw [H.out.2] at this
 exact this
theorem Zor (K t:Int) (A:Option Addr) (n c:Nat) (es:List Ent) (w:World) (hT:Tabs w) (h:Zj w A n c es) (va:Zl t es=true) :
    Calls Tryz.prog 74 #[.agg #[.int .i64 t,.slice A n c],.int .i64 K] w fun e w'=>∃ (k:Nat) (b:Bool),e=.returned (.tuple #[.int .i64 (k:Nat),.bool b])∧Zdq es K k b∧Below w.heap.size w w':=by
  obtain ⟨w1,g,e1,eg,⟨f0,f1⟩,hb⟩:=ZgO w t A n c
  have FV:=Qd t A n c es w1 (hT.below hb) (h.below hb)
  rw [va] at FV
  have H:=Qh (Qi hb (Qi h va))
  clear hb h va hT
  go_enter Tryz.func74,Tryz.ntmps74
  go_upto_region 1 with fail
  rw [←e1,←eg]
  clear e1 eg
  go_wp2_with (first
    | (have t1:=FV
       go_at_call 9
       refine t1.mono ?_
       rintro e w2 ⟨rfl,hb2⟩
       have Zt:=H.out.1.trans (hb2.mono H.out.1.size)
       have k1:=(hb2.cell (Zc f1)).trans f1
       have FP:=Zoq K A n c es w2 (H.out.2.1.below Zt) (Zii H.out.2.2)
       have H2:=Qh Zt
       clear hb2 Zt FV t1 f0 f1)
    | (have t2:=FP
       go_at_call 141
       refine t2.mono ?_
       rintro e w3 ⟨k,b,rfl,h1,h2⟩
       have H3:=Qh (Qi h1 (H2.out.trans (h2.mono H2.out.size)))
       clear h1 h2 FP t2))
  go_ret2
  exact ⟨k,b,rfl,H3.out.1,H3.out.2⟩
def Zij (es:List Ent) (K:Int) (x:Ent) (b:Bool):Prop:=(b=true∧x∈es∧x.id=K)∨(b=false∧x=⟨0,[]⟩∧∀ y,y∈es→y.id≠K)
theorem Zdq.none {es:List Ent} {K:Int} {k:Nat} (h:Zdq es K k false) (hup:∀ (i j:Nat) x y,i<j→es[i]?=some x→es[j]?=some y→Ent.id x<Ent.id y):∀ y,y∈es→y.id≠K:=by
 intro y hy e
 obtain ⟨t,ht⟩:=List.getElem?_of_mem hy
 have hn:¬ ∃ x,es[k]?=some x∧x.id=K:=fun hx=>by have:=h.2.2 hx;cases this
 obtain ⟨h1,h2,h3⟩:=h.1
 by_cases e1:t<k
 ·have:=h2 t y e1 ht;omega
 ·by_cases e2:t=k
  ·subst e2;exact hn ⟨y,ht,e⟩
  ·have hk:k<es.length:=by have:=(List.getElem?_eq_some_iff.1 ht).1;omega
   obtain ⟨z,hz⟩:∃ z,es[k]?=some z:=⟨_,List.getElem?_eq_getElem hk⟩
   have q1:=hup k t z y (by omega) hz ht
   have q2:=h3 k z (Nat.le_refl _) hz
   omega
theorem Zos (w:World) (t:Int) (A:Option Addr) (n c:Nat):∃ W g,W=(w.alloc (.cells #[.int .i64 t,.slice A n c] 24 (0,0))).alloc (.cells #[.int .i64 0,.slice none 0 0] 70 (0,0))∧g=w.heap.size ∧
  W.heap[g]?=some (.cells #[.int .i64 t,.slice A n c] 24 (0,0))∧W.heap[g+1]?=some (.cells #[.int .i64 0,.slice none 0 0] 70 (0,0))∧Below w.heap.size w W:=
 ⟨_,_,rfl,rfl,ZZ w _ _,Z0 w _ _,ZQ w _ _⟩
theorem Zot (K t:Int) (A:Option Addr) (n c:Nat) (es:List Ent) (w:World) (hT:Tabs w) (h:Zj w A n c es) (va:Zl t es=true) :
  Calls Tryz.prog 128 #[.agg #[.int .i64 t,.slice A n c],.int .i64 K] w fun e w'=>∃ (x:Ent) (b:Bool) (PA:Option Addr) (qn qc:Nat),e=.returned (.tuple #[.agg #[.int .i64 x.id,.slice PA qn qc],.bool b])∧Zij es K x b∧(Zo w' PA qn qc x.cs∧∀ b o q,PA=some ⟨b,o,q⟩→w.heap.size≤b)∧Below w.heap.size w w':=by
 obtain ⟨w1,g,e1,eg,hg0,hg1,hb1⟩:=Zos w t A n c
 obtain ⟨f0,f1⟩:=cs2 hg0
 have FF:=Zor K t A n c es w1 (hT.below hb1) (h.below hb1) va
 have H:=Qh (Qi hb1 (Qi hg0 (Qi hg1 (Qi h (Qi va eg)))))
 clear hb1 hg0 hg1 h va hT
 go_enter Tryz.func128,Tryz.ntmps128
 go_upto_region 1 with fail
 rw [←e1,←eg]
 clear e1 eg
 go_upto_region 2 with (
  go_at_call 74
  refine FF.mono ?_
  rintro e w2 ⟨k,b,rfl,hk,hb2⟩
  have H2:=Qh (Qi hk hb2)
  clear hk hb2 FF)
 have hr2:=(H2.out.2.block _ (Zh H.out.2.2.1)).trans H.out.2.2.1
 have k1:=(H2.out.2.cell (Zc f1)).trans f1
 obtain ⟨z0,z1⟩:=cs2 hr2
 have Zt:Below w.heap.size w w2:=H.out.1.trans (H2.out.2.mono H.out.1.size)
 have HR:=Qh (Qi hr2 Zt)
 rcases b with _ | _
 ·have z2:=Zd hr2 0
  have z3:=Zd hr2 1
  clear hr2 Zt f0 f1
  go_wp2_with fail
  refine bodyPost_ret (ZeD rfl _ _ (g+1) _ rfl rfl (Yw (.int .i64 0) (.slice none 0 0) HR.out.1)) rfl ?_
  refine ⟨⟨0,[]⟩,false,none,0,0,rfl,Or.inr ⟨rfl,rfl,H2.out.1.none (Zii H.out.2.2.2.2.1)⟩,⟨⟨rfl,fun j c hj=>by simp at hj,fun _=>⟨rfl,rfl⟩,Nat.zero_le _,fun c hc=>by simp at hc⟩,fun b o q e=>by cases e⟩,YB _ _ HR.out.2 (by have:=H.out.2.2.2.2.2;omega)⟩
 ·obtain ⟨x,hx,hid⟩:=H2.out.1.2.1 rfl
  have hlt:=(List.getElem?_eq_some_iff.1 hx).1
  have hl:=H.out.2.2.2.1.len
  have hlim:=H.out.2.2.2.1.lim
  obtain ⟨b,o,CA,cn,cc,rfl,⟨c0,c1⟩,hr⟩:=H.out.2.2.2.1.at_ k x hx
  have c0:=(Zt.cell (Zc c0)).trans c0
  have c1:=(Zt.cell (Zc c1)).trans c1
  have hr:=hr.below Zt
  have i0:(0:Int)≤(k:Int):=by omega
  have i1:(k:Int)<(n:Int):=by omega
  have FO:=Zop x CA cn cc w2 hr
  have HX:=Qh (Qi hx hid)
  clear hr2 Zt f0 f1 hx hid hr hlt hl hlim
  go_upto_region 5 with (
   go_at_call 77
   refine FO.mono ?_
   rintro e w3 ⟨PA,qn,qc,rfl,hC,hb3⟩
   have hr3:=(hb3.block _ (Zh HR.out.1)).trans HR.out.1
   obtain ⟨y0,y1⟩:=cs2 hr3
   have y2:=Zd hr3 0
   have y3:=Zd hr3 1
   have H3:=Qh (Qi hC (Qi hb3 hr3))
   clear hC hb3 hr3 FO)
  all_goals try go_wp2_with fail
  obtain ⟨⟨hC,hlow⟩,hb3,hr3⟩:=H3.out
  have hlt2:=Zh HR.out.1
  refine bodyPost_ret (ZeD rfl _ _ (g+1) _ rfl rfl (Yw (.int .i64 x.id) (.slice PA qn qc) hr3)) rfl ?_
  refine ⟨x,true,PA,qn,qc,rfl,Or.inl ⟨rfl,List.mem_of_getElem? HX.out.1,HX.out.2⟩,⟨hC.stepA (fun b o m hA _=>YE _ _ _ _ ?_),fun b o m hA=>?_⟩,YB _ _ (HR.out.2.trans (hb3.mono HR.out.2.size)) (by have:=H.out.2.2.2.2.2;omega)⟩
  ·have:w2.heap.size≤b:=hlow b o m hA
   omega
  ·have:w2.heap.size≤b:=hlow b o m hA
   have:=HR.out.2.size
   omega
end
end Go.Proofs.YtlgcfimhfmgkmaaGreatDoor
