/- Lemmas for the statement. -/
import Derived.Test.YtlgcfimhfmgkmaaGreatDoorMAY
import Derived.Test.YtlgcfimhfmgkmaaGreatDoorMAT
set_option linter.unusedVariables false
set_option linter.unusedSimpArgs false
set_option maxRecDepth 100000
set_option maxHeartbeats 8000000
namespace Go.Proofs.YtlgcfimhfmgkmaaGreatDoor
open Go.RowKit
section
abbrev Zik (w:World) (A:Option Addr) (n _cap:Nat) (l:List It):Prop:=ZG 3 It.ints w A n l
def X4 (x:It):Bool:=decide (x.s<0) || decide (1073741824<x.s)
theorem Zou (x:It) (w:World):Calls Tryz.prog 140 #[.agg #[.int .i64 x.i,.int .i64 x.w,.int .i64 x.s]] w fun e w'=>e=.returned (.bool (X4 x))∧Below w.heap.size w w':=by
 obtain ⟨R,eR⟩:∃ R,R=X4 x:=⟨_,rfl⟩
 rw [←eR]
 have HR:=Qh eR
 clear eR
 obtain ⟨w1,e1⟩:∃ W,W=w.alloc (.cells #[.int .i64 x.i,.int .i64 x.w,.int .i64 x.s] 134 (0,0)):=⟨_,rfl⟩
 obtain ⟨g,eg⟩:∃ g,g=w.heap.size:=⟨_,rfl⟩
 have hb:Below w.heap.size w w1:=by rw [e1];exact Zg w _
 have hg0:w1.heap[g]?=some (.cells #[.int .i64 x.i,.int .i64 x.w,.int .i64 x.s] 134 (0,0)):=by rw [e1,eg];exact heap_alloc_new w _
 have f2:w1.cell? ⟨g,2,none⟩=some (.int .i64 x.s):=Za hg0 2 _ rfl
 have H:=Qh hb
 clear hb hg0
 go_enter Tryz.func140,Tryz.ntmps140
 go_upto_region 1 with fail
 rw [←e1,←eg]
 clear e1 eg
 by_cases t1:x.s<0
 ·have d1:decide (x.s<0)=true:=decide_eq_true t1
  have hB:R=true:=by rw [HR.out];unfold X4;rw [d1];rfl
  clear t1 HR
  subst hB
  go_wp2_with fail
  go_ret
  exact ⟨rfl,H.out⟩
 have d1:decide (x.s<0)=false:=decide_eq_false t1
 obtain ⟨T,eT⟩:∃ T,T=decide (1073741824<x.s):=⟨_,rfl⟩
 have tT:decide (1073741824<x.s)=T:=eT.symm
 have hB:R=T:=by rw [HR.out];unfold X4;rw [d1,tT];rfl
 clear t1 HR eT
 subst hB
 go_wp2_with fail
 all_goals go_ret
 all_goals exact ⟨rfl,H.out⟩
theorem Zov  (A:Option Addr) (n cap:Nat) (l:List It) (w:World) (h:Zik w A n cap l)  :
  Calls Tryz.prog 179 #[.slice A n cap,.func (.func 140) #[] #[]] w fun e w'=>∃ k:Int,e=.returned (.int .i64 k)∧Xd (X4) l k∧Below w.heap.size w w':=by
 have H:=Qh (Qi h trivial)
 clear h 
 go_enter Tryz.func179,Tryz.ntmps179
 go_wp2_with fail
 go_loopg [8] n (fun gh iv wr=>∃ j:Nat,gh+j=n∧(∀ (i:Nat) y,i<j→l[i]?=some y→(X4) y=false)∧iv=.int .i64 (j:Nat)∧Below w.heap.size w wr)
 case atStart=>exact ⟨0,rfl,fun i y h=>by omega,rfl,Below.refl _ _⟩
 case round=>
  obtain ⟨j,hg,hall,rfl,hW⟩:=hrel
  obtain ⟨W,eW⟩:∃ W,W=wr:=⟨_,rfl⟩
  rw [←eW] at hW ⊢
  clear eW
  have h:=H.out.1
  have hlen:=h.len
  have hlim:=h.lim
  by_cases hlt:j<n
  ·obtain ⟨x,hx⟩:∃ x,l[j]?=some x:=⟨_,List.getElem?_eq_getElem (by omega)⟩
   have i0:(0:Int)≤(j:Int):=by omega
   have i1:(j:Int)<(n:Int):=by omega
   have i2:decide (j<n)=true:=decide_eq_true hlt
   have w2:wrap64 ((j:Int)+1)=(j:Int)+1:=Zn _ (by omega) (by omega)
   obtain ⟨R,eR⟩:∃ R,R=(X4) x:=⟨_,rfl⟩
   obtain ⟨b,o,rfl,hc⟩:=h.at_ j x hx
   have c0:W.cell? ⟨b,o+j*3,none⟩=some (.int .i64 x.i):=(hW.cell (Zc (hc 0 x.i rfl))).trans (hc 0 x.i rfl)
   have c1:W.cell? ⟨b,o+j*3+1,none⟩=some (.int .i64 x.w):=(hW.cell (Zc (hc 1 x.w rfl))).trans (hc 1 x.w rfl)
   have c2:W.cell? ⟨b,o+j*3+2,none⟩=some (.int .i64 x.s):=(hW.cell (Zc (hc 2 x.s rfl))).trans (hc 2 x.s rfl)
   clear hc
   have F:Calls Tryz.prog 140 #[.agg #[.int .i64 x.i,.int .i64 x.w,.int .i64 x.s]] W fun e w'=>e=.returned (.bool R)∧Below W.heap.size W w':=by rw [eR];exact Zou x W
   have HX:=Qh (Qi hx (Qi hlt (Qi hg (Qi hall (Qi hW eR)))))
   clear hx hlt hg hall hW eR h hlen hlim
   rcases R with _ | _
   ·go_wp2_with (go_at_call 140;refine F.mono ?_;rintro e w3 ⟨rfl,hb3⟩;have H3:=Qh hb3;clear hb3)
    exact Tq3
   ·go_wp2_with (go_at_call 140;refine F.mono ?_;rintro e w3 ⟨rfl,hb3⟩;have H3:=Qh hb3;clear hb3)
    exact Tq12
  ·exact Tq4
theorem Zow  (A:Option Addr) (n cap:Nat) (l:List It) (w:World) (h:Zik w A n cap l)  :
  Calls Tryz.prog 139 #[.slice A n cap,.func (.func 140) #[] #[]] w fun e w'=>e=.returned (.bool (l.any (X4)))∧Below w.heap.size w w':=by
 have I:=Zov A n cap l w h
 obtain ⟨R,eR⟩:∃ R,R=l.any (X4):=⟨_,rfl⟩
 rw [←eR]
 have HR:=Qh eR
 clear eR h 
 go_enter Tryz.func139,Tryz.ntmps139
 go_wp2_with (go_at_call 179;refine I.mono ?_;rintro e w2 ⟨k,rfl,hk,hb2⟩;have H2:=Qh (Qi hk hb2);clear hk hb2)
 go_ret
 exact ⟨by rw [HR.out,←H2.out.1.any];rfl,H2.out.2⟩
def Qo (l:List Wt):Bool:=Xj (l.map Wt.pr)
def Qp (l:List It):Bool:=Xj (l.map It.pr)&&!(l.any X4)
theorem Zox (A:Option Addr) (n cap:Nat) (l:List Wt) (w:World) (h:ZG 2 Wt.ints w A n l) :
  Calls Tryz.prog 102 #[.slice A n cap] w fun e w'=>e=.returned (.bool (Qo l))∧Below w.heap.size w w':=by
 have F:=Zom A n cap l w h
 clear h
 unfold Qo
 go_enter Tryz.func102,Tryz.ntmps102
 go_wp2_with (go_at_call 159;refine F.mono ?_;rintro e w2 ⟨rfl,hb2⟩;have H2:=Qh hb2;clear hb2)
 go_ret
 exact ⟨rfl,H2.out⟩
theorem Zil (A:Option Addr) (n cap:Nat) (l:List It) (w:World) (h:ZG 3 It.ints w A n l) :
  Calls Tryz.prog 72 #[.slice A n cap] w fun e w'=>e=.returned (.bool (Qp l))∧Below w.heap.size w w':=by
 have F:=Zok A n cap l w h
 have G:=fun W (hb:Below w.heap.size w W)=>Zow A n cap l W (h.below hb)
 have HG:=Qh G
 clear h G
 unfold Qp
 obtain ⟨S,eS⟩:∃ S,S=Xj (l.map It.pr):=⟨_,rfl⟩
 rw [←eS] at F ⊢
 clear eS
 go_enter Tryz.func72,Tryz.ntmps72
 rcases S with _ | _
 ·go_wp2_with (go_at_call 137;refine F.mono ?_;rintro e w2 ⟨rfl,hb2⟩;have H2:=Qh hb2;clear hb2)
  go_ret
  exact ⟨rfl,H2.out⟩
 ·go_wp2_with (first
   | (go_at_call 137;refine F.mono ?_;rintro e w2 ⟨rfl,hb2⟩;have G2:=HG.out w2 hb2;have H2:=Qh hb2;clear hb2)
   | (go_at_call 139;refine G2.mono ?_;rintro e w3 ⟨rfl,hb3⟩;have H3:=Qh hb3;clear hb3))
  go_ret
  exact ⟨by simp,H2.out.trans (H3.out.mono H2.out.size)⟩
end
end Go.Proofs.YtlgcfimhfmgkmaaGreatDoor
namespace Go.Proofs.YtlgcfimhfmgkmaaGreatDoor
open Go.RowKit
section
theorem Zoy (ob oi oj:Nat) (i j si sj:Int) (w:World) (hi:w.cell? ⟨ob,oi+2,none⟩=some (.int .i64 si)) (hj:w.cell? ⟨ob,oj+2,none⟩=some (.int .i64 sj)) :
  Calls Tryz.prog 104 #[.agg #[.pointer (some ⟨ob,oi,none⟩),.int .i64 i],.agg #[.pointer (some ⟨ob,oj,none⟩),.int .i64 j]] w fun r w'=>r=.returned (.int .i64 (orI (Xk sj si) (Xk i j)))∧∃ o1 o2 o3,w'=(((w.alloc o1).alloc o2).alloc o3).drew:=by
 have hmx:Tryz.prog.follows .mixedOrders=true:=by kernel_rfl
 obtain ⟨w1,e1⟩:∃ W,W=(w.alloc (.cells #[.pointer (some ⟨ob,oi,none⟩),.int .i64 i] 173 (0,0))).alloc (.cells #[.pointer (some ⟨ob,oj,none⟩),.int .i64 j] 173 (0,0)):=⟨_,rfl⟩
 obtain ⟨g,eg⟩:∃ g,g=w.heap.size:=⟨_,rfl⟩
 have hb:Below w.heap.size w w1:=by rw [e1];exact ZQ w _ _
 have hg0:w1.heap[g]?=some (.cells #[.pointer (some ⟨ob,oi,none⟩),.int .i64 i] 173 (0,0)):=by rw [e1,eg];exact ZZ w _ _
 have hg1:w1.heap[g+1]?=some (.cells #[.pointer (some ⟨ob,oj,none⟩),.int .i64 j] 173 (0,0)):=by rw [e1,eg];exact Z0 w _ _
 have HC:w1.drew.cell? ⟨g,0,none⟩=some (.pointer (some ⟨ob,oi,none⟩))∧w1.drew.cell? ⟨g,1,none⟩=some (.int .i64 i)∧w1.drew.cell? ⟨g+1,0,none⟩=some (.pointer (some ⟨ob,oj,none⟩))∧w1.drew.cell? ⟨g+1,1,none⟩=some (.int .i64 j)∧w1.drew.cell? ⟨ob,oi+2,none⟩=some (.int .i64 si)∧w1.drew.cell? ⟨ob,oj+2,none⟩=some (.int .i64 sj):=⟨Za hg0 0 _ rfl,Za hg0 1 _ rfl,Za hg1 0 _ rfl,Za hg1 1 _ rfl,(hb.cell (Zc hi)).trans hi,(hb.cell (Zc hj)).trans hj⟩
 have HE:=Qh e1
 clear hb hg0 hg1 hi hj
 go_enter Tryz.func104,Tryz.ntmps104
 go_upto_region 1 with fail
 rw [←e1,←eg]
 clear e1 eg
 refine Yy (fun W=>W.cell? ⟨g,0,none⟩=some (.pointer (some ⟨ob,oi,none⟩))∧W.cell? ⟨g,1,none⟩=some (.int .i64 i)∧W.cell? ⟨g+1,0,none⟩=some (.pointer (some ⟨ob,oj,none⟩))∧W.cell? ⟨g+1,1,none⟩=some (.int .i64 j)∧W.cell? ⟨ob,oi+2,none⟩=some (.int .i64 si)∧W.cell? ⟨ob,oj+2,none⟩=some (.int .i64 sj)) 16 hmx ?_
 change Zz _ _ _ _ _ _ _ _ _ (World.drew _)
 refine tkp 0 rfl (Or.inr HC) ?_
 refine tkp 5 rfl (Or.inr HC) ?_
 refine tkp 11 rfl (Or.inr HC) ?_
 refine tkp 13 rfl (Or.inr HC) ?_
 refine tkl 1 rfl HC (by intro W ⟨hC0,hC1,hC2,hC3,hC4,hC5⟩;go_simp;try with_reducible rfl) ?_
 refine tkp 2 rfl (Or.inr HC) ?_
 refine tkp 3 rfl (Or.inr HC) ?_
 refine tkl 4 rfl HC (by intro W ⟨hC0,hC1,hC2,hC3,hC4,hC5⟩;go_simp;try with_reducible rfl) ?_
 refine tkl 6 rfl HC (by intro W ⟨hC0,hC1,hC2,hC3,hC4,hC5⟩;go_simp;try with_reducible rfl) ?_
 refine tkp 7 rfl (Or.inr HC) ?_
 refine tkp 8 rfl (Or.inr HC) ?_
 refine tkl 9 rfl HC (by intro W ⟨hC0,hC1,hC2,hC3,hC4,hC5⟩;go_simp;try with_reducible rfl) ?_
 refine tkl 12 rfl HC (by intro W ⟨hC0,hC1,hC2,hC3,hC4,hC5⟩;go_simp;try with_reducible rfl) ?_
 refine tkl 14 rfl HC (by intro W ⟨hC0,hC1,hC2,hC3,hC4,hC5⟩;go_simp;try with_reducible rfl) ?_
 refine Zi 10 rfl (fun K hK=>?_)
 go_simp
 refine (Ze5 _ _ _).mono ?_
 rintro e v1 ⟨rfl,rfl⟩
 refine hK _ _ ?_;clear hK K
 refine ⟨Or.inr HC,?_⟩
 refine Zi 15 rfl (fun K hK=>?_)
 go_simp
 refine (Ze5 _ _ _).mono ?_
 rintro e v2 ⟨rfl,rfl⟩
 refine hK _ _ ?_;clear hK K
 refine ⟨Or.inr HC,?_⟩
 refine Zi 16 rfl (fun K hK=>?_)
 go_simp
 refine hK _ _ ?_;clear hK K
 refine ⟨Or.inl (by kernel_rfl),?_⟩
 refine Zi 17 rfl (fun K hK=>?_)
 go_simp
 refine (Zon (Xk sj si) (Xk i j) w1.heap.size (w1.alloc (.cells #[.int .i64 (Xk sj si),.int .i64 (Xk i j)] 3 (0,0))).drew (heap_alloc_new w1 _)).mono ?_
 rintro e v3 ⟨rfl,rfl⟩
 refine hK _ _ ?_;clear hK K
 refine ⟨Or.inl (by kernel_rfl),?_⟩
 refine tkq 18 rfl ?_
 refine ZX (by kernel_rfl) ?_ _
 go_wp2_with fail
 go_ret
 exact ⟨rfl,_,_,_,by rw [HE.out]⟩
end
end Go.Proofs.YtlgcfimhfmgkmaaGreatDoor
namespace Go.Proofs.YtlgcfimhfmgkmaaGreatDoor
open Go.RowKit
section
open Go.RowKit Go.Shelf
structure QI (n:Nat) where
 i:Nat
 lt:i<n
def Qq {n:Nat} (ob:Nat) (x:QI n):List Value:=[.pointer (some ⟨ob,x.i*3,none⟩),.int .i64 (x.i:Nat)]
def cfQ {n:Nat} (sc:Nat→Int) (x y:QI n):Int:=orI (Xk (sc y.i) (sc x.i)) (Xk (x.i:Nat) (y.i:Nat))
theorem Zdr {n:Nat} (sc:Nat→Int) (x y:QI n):ltOf (cfQ sc) x y=true↔(sc y.i<sc x.i∨sc x.i=sc y.i∧x.i<y.i):=by
 unfold ltOf cfQ orI Xk
 rw [decide_eq_true_eq]
 split<;>split<;>(try split)<;>omega
theorem Zoz {n:Nat} (sc:Nat→Int):Sort.SWO (ltOf (cfQ (n:=n) sc)) where
 irrefl x:=by
  rw [←Bool.not_eq_true,Zdr];omega
 trans x y z h1 h2:=by
  rw [Zdr] at *;omega
 ntrans x y z h1 h2:=by
  rw [←Bool.not_eq_true,Zdr] at *;omega
theorem ZoA {n:Nat} [Inhabited (QI n)] (ob:Nat) (sc:Nat→Int) (blk off size:Nat) (w:World) (hob:ob≠blk) (hs:∀ i,i<n→w.cell? ⟨ob,i*3+2,none⟩=some (.int .i64 (sc i))) :
  CmpLays Tryz.prog 104 #[] (Qq (n:=n) ob) 2 (cfQ sc) blk off size w:=by
 intro m os dk hsz x y
 rw [Array.append_empty]
 have far:∀ i,i<n→(sortWorldK (Qq (n:=n) ob) 2 w blk off m dk os).cell? ⟨ob,i*3+2,none⟩=some (.int .i64 (sc i)):=fun i hi=>
  (cell?_sortWorldK_other _ _ _ _ _ _ _ _ _ hob (Zc (hs i hi))).trans (hs i hi)
 refine (Zoy ob (x.i*3) (y.i*3) (x.i:Nat) (y.i:Nat) (sc x.i) (sc y.i) _ (far x.i x.lt) (far y.i y.lt)).mono ?_
 rintro e w' ⟨rfl,o1,o2,o3,rfl⟩
 refine ⟨rfl,1,#[o1,o2,o3],?_⟩
 rw [Sort.alloc_eq_grow,Sort.alloc_eq_grow,Sort.alloc_eq_grow,Sort.grow_grow,Sort.grow_grow]
 rfl
theorem ZoB {n:Nat} (ob:Nat) (sc:Nat→Int) (w:World) (B:Nat) (v:Value) (l:List (QI n)) (hown:w.ownsRow B 173 2 v l.length (l.flatMap (Qq ob))) (hob:v.ownBlock≠some ob)
  (hs:∀ i,i<n→w.cell? ⟨ob,i*3+2,none⟩=some (.int .i64 (sc i))) (hl:l.length≤1000000) :
  Calls Tryz.prog 103 #[v,.func (.func 104) #[] #[]] w fun e w'=>e=.returned (.tuple #[])∧∃ l':List (QI n),(l'.Perm l∧l'.Pairwise (fun x y=>ltOf (cfQ sc) y x=false))∧w'.ownsRow B 173 2 v l'.length (l'.flatMap (Qq ob))∧w.grownBy w' v.ownBlock:=by
 rcases l with _|⟨x0,l0⟩
 ·obtain ⟨A,c,rfl⟩:=YF hown
  refine (AnyF.slices_SortFunc_none Zhc A c _ w).mono ?_
  rintro e w' ⟨rfl,rfl⟩
  exact ⟨rfl,[],⟨List.Perm.refl _,List.Pairwise.nil⟩,hown,⟨rfl,rfl,rfl,Nat.le_refl _,fun _ _ _=>rfl⟩⟩
 ·haveI:Inhabited (QI n):=⟨x0⟩
  obtain ⟨rs,er⟩:∃ rs,rs=x0 :: l0:=⟨_,rfl⟩
  have hpos:0<rs.length:=by rw [er];simp
  rw [←er] at hown hl ⊢
  clear er
  obtain ⟨g,cap,hv⟩:∃ g cap,v=.slice (some ⟨g,0,none⟩) rs.length cap:=by
   rcases hown.2 with ⟨_,hn⟩|⟨g',cap,cur,e,r⟩
   ·omega
   ·exact ⟨g',cap,e⟩
  have ho:v.ownBlock=some g:=by rw [hv];rfl
  have hlt:=Yg hown ho
  have hown':w.ownsRow B 173 2 v rs.length (rs.toArray.toList.flatMap (Qq ob)):=hown
  have hH:=Zht (Qq ob) (fun x=>rfl) hown' ho (by simp)
  have hne:ob≠g:=fun e=>hob (by rw [ho,e])
  have hC:=AnyQ.slices_SortFunc Zhc 2 Tryz.isAgg173 Tryz.sizeOf173 (Qq ob) (fun x=>rfl) (fun x u hu=>by simp only [Qq,List.mem_cons,List.not_mem_nil,or_false] at hu;rcases hu with rfl|rfl<;>rfl) (cfQ sc) (Zoz sc) 104 #[] g 0 cap rs.toArray w (enters_of Tryz.func104 (by kernel_rfl) rfl) (ZoA ob sc g 0 _ w hne hs) hH hlt.1 (by simp;omega)
  have hsz:rs.toArray.size=rs.length:=by simp
  rw [hsz,←hv] at hC
  refine hC.mono ?_
  rintro e w' ⟨rfl,d',m,os,hp,hsd,rfl⟩
  have hds:d'.size=rs.toArray.size:=hp.1
  have hgr:=Zhu (Qq ob) 2 w g m d' os
  have hperm:d'.toList.Perm rs:=by
   have:=hp.2.2
   have e1:d'.extract 0 rs.length=d':=by rw [←hsz,←hds];simp
   have e2:rs.toArray.extract 0 rs.length=rs.toArray:=by rw [←hsz];simp
   rw [e1,e2] at this
   exact this
  refine ⟨rfl,d'.toList,⟨hperm,?_⟩,?_,by rw [ho];exact hgr⟩
  ·rw [List.pairwise_iff_getElem]
   intro i j hi hj hij
   have:=hsd i j (Nat.zero_le _) hij (by rw [Array.length_toList,hds,hsz] at hj;exact hj)
   rw [getElem!_pos d' i (by simpa using hi),getElem!_pos d' j (by simpa using hj)] at this
   simpa only [Array.getElem_toList] using this
  ·have hos:=Zhv (Qq ob) (fun x=>rfl) hown' ho (by simp) hds m os
   rw [Array.length_toList,hds,hsz]
   exact hos
end
end Go.Proofs.YtlgcfimhfmgkmaaGreatDoor
namespace Go.Proofs.YtlgcfimhfmgkmaaGreatDoor
open Go.RowKit
section
theorem Ze6:∀ (l:List (Int × Int)) (last:Int),XU last l=true→∀ p,p∈l→(last<p.1∧p.1≤65536)∧1≤p.2∧p.2≤16
 | [],_,_,p,hp=>by cases hp
 | (i,w) :: r,last,h,p,hp=>by
  unfold XU at h
  rw [Bool.and_eq_true] at h
  have hk:=h.1
  unfold okW at hk
  simp only [Bool.not_eq_true',Bool.or_eq_false_iff,decide_eq_false_iff_not] at hk
  rcases List.mem_cons.1 hp with rfl | hp
  ·exact ⟨⟨by omega,by omega⟩,by omega,by omega⟩
  ·have:=Ze6 r i h.2 p hp
   exact ⟨⟨by omega,this.1.2⟩,this.2⟩
theorem Zds {l:List Wt} (h:Qo l=true):l.length≤64∧∀ x,x∈l→(0≤x.i∧x.i≤65536)∧1≤x.w∧x.w≤16:=by
 unfold Qo Xj at h
 simp only [Bool.and_eq_true,decide_eq_true_eq,List.length_map] at h
 refine ⟨h.2,fun x hx=>?_⟩
 have:=Ze6 _ _ h.1 x.pr (List.mem_map.2 ⟨x,hx,rfl⟩)
 unfold Wt.pr at this
 omega
theorem Zcd {l:List It} (h:Qp l=true):l.length≤64∧∀ x,x∈l→(0≤x.i∧x.i≤65536)∧(1≤x.w∧x.w≤16)∧0≤x.s∧x.s≤1073741824:=by
 unfold Qp Xj at h
 simp only [Bool.and_eq_true,decide_eq_true_eq,List.length_map,Bool.not_eq_true'] at h
 refine ⟨h.1.2,fun x hx=>?_⟩
 have h1:=Ze6 _ _ h.1.1 x.pr (List.mem_map.2 ⟨x,hx,rfl⟩)
 have h2:X4 x=false:=by
  by_cases hb:X4 x=true
  ·have:l.any X4=true:=List.any_eq_true.2 ⟨x,hx,hb⟩
   rw [this] at h;cases h.2
  ·simpa using hb
 unfold X4 at h2
 simp only [Bool.or_eq_false_iff,decide_eq_false_iff_not] at h2
 unfold It.pr at h1
 omega
def QD (l:List It):Int→Int:=l.foldl (fun t x=>Qc t x.i x.s) (fun _=>0)
theorem ZoC (l:List It) (j:Nat) (x:It) (h:l[j]?=some x):QD (l.take (j+1))=Qc (QD (l.take j)) x.i x.s:=by
 rw [List.take_add_one,h]
 unfold QD
 rw [List.foldl_append]
 rfl
theorem Zim (l:List It) (h:∀ x,x∈l→0≤x.s∧x.s≤1073741824) (k:Int):0≤QD l k∧QD l k≤1073741824:=by
 unfold QD
 suffices H:∀ (l:List It) (t:Int→Int),(∀ x,x∈l→0≤x.s∧x.s≤1073741824)→(∀ k,0≤t k∧t k≤1073741824)→0≤l.foldl (fun t x=>Qc t x.i x.s) t k∧l.foldl (fun t x=>Qc t x.i x.s) t k≤1073741824 from H l _ h (fun _=>⟨by decide,by decide⟩)
 intro l
 induction l with
 | nil=>intro t _ ht;exact ht k
 | cons x r ih=>
  intro t hl ht
  refine ih _ (fun y hy=>hl y (.tail _ hy)) (fun q=>?_)
  show 0≤Qc t x.i x.s q∧Qc t x.i x.s q≤1073741824
  unfold Qc
  by_cases e:q=x.i
  ·rw [if_pos e];exact hl x (.head _)
  ·rw [if_neg e];exact ht q
end
end Go.Proofs.YtlgcfimhfmgkmaaGreatDoor
namespace Go.Proofs.YtlgcfimhfmgkmaaGreatDoor
open Go.RowKit
section
def KB (W:World) (g:Nat) (T:TypeId) (k m j:Nat) (el:Nat→List Value):Prop:=
 ∃ co:Array Value,W.heap[g]?=some (.cells co T (0,0))∧co.size=m*k∧∀ i,i<j→∀ r v,(el i)[r]?=some v→co[i*k+r]?=some v
section
variable {W W':World} {g:Nat} {T:TypeId} {k m j:Nat} {el:Nat→List Value}
theorem KB.keep (h:KB W g T k m j el) (hs:W'.heap[g]?=W.heap[g]?):KB W' g T k m j el:=by
 obtain ⟨co,h1,h2⟩:=h
 exact ⟨co,hs.trans h1,h2⟩
theorem KB.lt (h:KB W g T k m j el):g<W.heap.size:=by
 obtain ⟨co,h1,h2⟩:=h
 exact Zh h1
theorem KB.cell (h:KB W g T k m j el) {i r:Nat} {v:Value} (hi:i<j) (hv:(el i)[r]?=some v):W.cell? ⟨g,i*k+r,none⟩=some v:=by
 obtain ⟨co,h1,h2,h3⟩:=h
 exact Za h1 _ _ (h3 i hi r v hv)
theorem KB.free (h:KB W g T k m j el) (o:Nat):W.frozen? ⟨g,o,none⟩=false:=by
 obtain ⟨co,h1,h2⟩:=h
 exact Zd h1 o
theorem KB.some (h:KB W g T k m j el) {o:Nat} (ho:o<m*k):∃ v,W.cell? ⟨g,o,none⟩=some v:=by
 obtain ⟨co,h1,h2,h3⟩:=h
 exact ⟨_,Za h1 o _ (Array.getElem?_eq_getElem (by omega))⟩
theorem KB.set3 {a b c:Value} (hk:∀ i,(el i).length=3) (h:KB W g T 3 m j el) (hj:j<m) (he:el j=[a,b,c]):KB (((W.setCell ⟨g,j*3,none⟩ a).setCell ⟨g,j*3+1,none⟩ b).setCell ⟨g,j*3+2,none⟩ c) g T 3 m (j+1) el:=by
 obtain ⟨co,h1,h2,h3⟩:=h
 refine ⟨_,block_setCell (block_setCell (block_setCell h1 _ a) _ b) _ c,by simpa using h2,fun i hi r v hv=>?_⟩
 by_cases e:i=j
 ·subst e
  rw [he] at hv
  match r,hv with
  | 0,hv=>simp at hv;subst hv;simp [Array.getElem?_setIfInBounds];omega
  | 1,hv=>simp at hv;subst hv;simp [Array.getElem?_setIfInBounds];omega
  | 2,hv=>simp at hv;subst hv;simp [Array.getElem?_setIfInBounds];omega
  | r+3,hv=>simp at hv
 ·have:=h3 i (by omega) r v hv
  have hr:r<3:=by rw [←hk i];exact (List.getElem?_eq_some_iff.1 hv).1
  rw [Array.getElem?_setIfInBounds_ne (by omega),Array.getElem?_setIfInBounds_ne (by omega),Array.getElem?_setIfInBounds_ne (by omega)]
  exact this
theorem KB.set2 {a b:Value} (hk:∀ i,(el i).length=2) (h:KB W g T 2 m j el) (hj:j<m) (he:el j=[a,b]):KB ((W.setCell ⟨g,j*2,none⟩ a).setCell ⟨g,j*2+1,none⟩ b) g T 2 m (j+1) el:=by
 obtain ⟨co,h1,h2,h3⟩:=h
 refine ⟨_,block_setCell (block_setCell h1 _ a) _ b,by simpa using h2,fun i hi r v hv=>?_⟩
 by_cases e:i=j
 ·subst e
  rw [he] at hv
  match r,hv with
  | 0,hv=>simp at hv;subst hv;simp [Array.getElem?_setIfInBounds];omega
  | 1,hv=>simp at hv;subst hv;simp [Array.getElem?_setIfInBounds];omega
  | r+2,hv=>simp at hv
 ·have:=h3 i (by omega) r v hv
  have hr:r<2:=by rw [←hk i];exact (List.getElem?_eq_some_iff.1 hv).1
  rw [Array.getElem?_setIfInBounds_ne (by omega),Array.getElem?_setIfInBounds_ne (by omega)]
  exact this
end
end
end Go.Proofs.YtlgcfimhfmgkmaaGreatDoor
namespace Go.Proofs.YtlgcfimhfmgkmaaGreatDoor
open Go.RowKit
section
theorem ZoD {W:World} {B g:Nat} {T:TypeId} {k m:Nat} {el:Nat→List Value} (h:KB W g T k m m el) (hk:∀ i,(el i).length=k) (hB:B≤g) (hm:m≤maxLen):W.ownsRow B T k (.slice (some ⟨g,0,none⟩) m m) m ((List.range m).flatMap el):=by
 obtain ⟨co,h1,h2,h3⟩:=h
 have hlen:((List.range m).flatMap el).length=m*k:=by
  have:=Qb el k hk (List.range m)
  rw [this,List.length_range]
 refine ⟨hlen,Or.inr ⟨g,m,co,rfl,hB,h1,Nat.le_refl _,hm,h2,?_⟩⟩
 refine List.ext_getElem? fun t=>?_
 by_cases ht:t<m*k
 ·have k0:0<k:=by
   rcases Nat.eq_zero_or_pos k with e | e
   ·subst e;simp at ht
   ·exact e
  have hq:t / k<m:=(Nat.div_lt_iff_lt_mul k0).2 ht
  have hr:t % k<k:=Nat.mod_lt _ k0
  have e:t=t / k*k+t % k:=(Nat.div_add_mod' t k).symm
  have hf:=XX el k hk (List.range m) (t / k) (t / k) (t % k) (by simp [hq]) hr
  rw [←e] at hf
  rw [hf,List.getElem?_take_of_lt ht]
  have hv:(el (t / k))[t % k]?=some ((el (t / k))[t % k]'(by rw [hk];exact hr)):=List.getElem?_eq_getElem _
  have:=h3 (t / k) hq (t % k) _ hv
  rw [←e] at this
  rw [hv]
  simpa using this
 ·rw [List.getElem?_eq_none (by simp;omega),List.getElem?_eq_none (by omega)]
def QU (m:Nat):List (QI m):=(List.finRange m).map fun i=>⟨i.1,i.2⟩
theorem Ze7 (m:Nat):(QU m).length=m:=by simp [QU]
theorem ZoE (m ob:Nat):(QU m).flatMap (Qq ob)=(List.range m).flatMap (fun i=>[.pointer (some ⟨ob,i*3,none⟩),.int .i64 (i:Nat)]):=by
 have h:(QU m).map QI.i=List.range m:=by
  unfold QU
  rw [List.map_map]
  exact List.ext_getElem (by simp) (fun i h1 h2=>by simp)
 rw [←h,List.flatMap_map]
 rfl
end
end Go.Proofs.YtlgcfimhfmgkmaaGreatDoor
