/- Lemmas for the statement. -/
import Derived.Test.YtlgcfimhfmgkmaaGreatDoorMBB
import Derived.Lib.SliceRun
import Derived.Deep.Upon
set_option linter.unusedVariables false
set_option linter.unusedSimpArgs false
set_option maxRecDepth 100000
set_option maxHeartbeats 8000000
namespace Go.Proofs.YtlgcfimhfmgkmaaGreatDoor
open Go.RowKit
section
structure LR where
 r:Rec
 F:List Nat
 A:Option Addr
 n:Nat
 c:Nat
def LR.cells (x:LR):List Value:=[.int .i64 x.r.num,.int .i64 x.r.base,.int .i64 x.r.tick,.slice x.A x.n x.c]
def lrs (l:List LR):List Value:=l.flatMap LR.cells
def lrP (x:LR):Part:=eP x.F x.A x.n x.c x.r.es
theorem QW (x:LR):x.cells.length=4:=rfl
theorem Zcg (l:List LR) (t:LR):lrs (l++[t])=lrs l++t.cells:=by simp [lrs]
theorem ZbG (x:LR):∀ u∈x.cells,u.oneCell'=true:=by
 intro u hu
 simp only [LR.cells,List.mem_cons,List.not_mem_nil,or_false] at hu
 rcases hu with rfl|rfl|rfl|rfl<;>rfl
theorem Zdx:(Tryz.prog.info? 45).map (fun i=>(i.zero,i.size,i.bytes))=some (some (.agg #[.int .i64 0,.int .i64 0,.int .i64 0,.slice none 0 0]),4,48):=by kernel_rfl
theorem Tq16 {p:Prop} (h:p:=by
 rcases l with _|⟨c,l⟩
 ·exact Tq98
 ·have hle:=ZcO h
  obtain ⟨b,cp,rfl,hb,hcell⟩:=Q7 h (by rw [lrs,Qb _ 4 QW];simp)
  refine ⟨_,cp,rfl,by simp,fun j s hj=>?_,(fun e=>by cases e),hl,hle _ _ rfl⟩
  rw [List.getElem?_map] at hj
  rcases hx:(c :: l)[j]? with _ | r
  ·rw [hx] at hj;cases hj
  rw [hx] at hj
  injection hj with hj
  subst hj
  have hk:∀ k,k<4→∀ u,r.cells[k]?=some u→w.cell? ⟨b,0+j*4+k,none⟩=some u:=fun k hk u hu=>by rw [Nat.zero_add];exact hcell _ u ((XX _ 4 QW _ j r k hx hk).trans hu)
  exact ⟨b,0,r.A,r.n,r.c,rfl,⟨hk 0 (by omega) _ rfl,hk 1 (by omega) _ rfl,hk 2 (by omega) _ rfl,hk 3 (by omega) _ rfl⟩,hr r (List.mem_of_getElem? hx)⟩):p:=h
theorem Zch {w:World} {B:Nat} {v:Value} {l:List LR} (h:w.ownsRow B 45 4 v l.length (lrs l)) (hl:l.length≤1000000) (hr:∀ x,x∈l→Zj w x.A x.n x.c x.r.es):∃ A c,v=.slice A l.length c∧Zy w A l.length c (l.map LR.r):=by
 exact Tq16
theorem Tq51 {p:Prop} (h:p:=by
 have i2:decide (j<n)=false:=decide_eq_false hlt
 have ht:l.take j=l:=List.take_of_length_le (by omega)
 rw [ht] at hls
 have HX:=Qh (Qi hls hS)
 clear hls hS ht hlt hg h hlen hrl
 go_wp2_with fail
 go_ret
 exact ⟨_,ls,rfl,HX.out.1,HX.out.2⟩):p:=h
theorem Tq31 {p:Prop} (h:p:=by
 go_wp2_with fail
 go_roundg (n-(j+1))
 case measure=>have:=HX.out.1;have:=HX.out.2.1;omega
 case rel=>
  refine ⟨j+1,ls++[x9],by have:=HX.out.1;have:=HX.out.2.1;omega,by go_num,?_,?_⟩
  ·rw [List.map_append,HX.out.2.2.1,List.take_add_one,HX.out.2.2.2.1,HS4.out.2.2];rfl
  ·rw [List.length_append,Zcg,List.map_append]
   refine HS5.out.perm (List.Perm.cons _ ?_)
   exact (List.perm_append_comm (l₁:=[lrP x9]))):p:=h
theorem Zdy (A:Option Addr) (n c:Nat) (l:List Rec) (w:World) (h:Zy w A n c l) (hn:n≤1000) (hes:∀ r,r∈l→r.es.length≤1000) :
  Calls Tryz.prog 59 #[.slice A n c] w fun e w'=>∃ (v:Value) (ls:List LR),e=.returned v∧ls.map LR.r=l∧Ses w w' (rowP w.heap.size 45 4 ls.length v (lrs ls) :: ls.map lrP):=by
 obtain ⟨i9,hi9,hz0,hz1,hz2⟩:=info_parts Zdx
 have HI:=Qh (Qi hi9 (Qi hz0 (Qi hz1 hz2)))
 have H:=Qh (Qi h (Qi hn hes))
 clear h hi9 hz0 hz1 hz2 hn hes
 go_enter Tryz.func59,Tryz.ntmps59
 go_wp2_with fail
 go_loopg [3,8] n (fun gh v iv wr=>∃ (j:Nat) (ls:List LR),gh+j=n∧iv=.int .i64 (j:Nat)∧ls.map LR.r=l.take j∧Ses w wr (rowP w.heap.size 45 4 ls.length v (lrs ls) :: ls.map lrP))
 case atStart=>exact ⟨0,[],rfl,rfl,rfl,(Ses.start w).row0 w.heap.size 45 4⟩
 case round=>
  obtain ⟨j,ls,hg,rfl,hls,hS⟩:=hrel
  obtain ⟨W,eW⟩:∃ W,W=wr:=⟨_,rfl⟩
  rw [←eW] at hS ⊢
  clear eW
  have h:=H.out.1
  have hlen:=h.len
  have hn:=H.out.2.1
  have hrl:ls.length≤n:=by
   have:=congrArg List.length hls
   rw [List.length_map,List.length_take] at this
   omega
  obtain ⟨OA,oc,eo⟩:=YF (hS.part (p:=rowP w.heap.size 45 4 ls.length _ (lrs ls)) (.head _))
  subst eo
  by_cases hlt:j<n
  ·obtain ⟨x,hx⟩:∃ x,l[j]?=some x:=⟨_,List.getElem?_eq_getElem (by omega)⟩
   obtain ⟨b,o,CA,cn,cc,rfl,⟨c0,c1,c2,c3⟩,hr⟩:=h.at_ j x hx
   have c0:=(hS.bel.cell (Zc c0)).trans c0
   have c1:=(hS.bel.cell (Zc c1)).trans c1
   have c2:=(hS.bel.cell (Zc c2)).trans c2
   have c3:=(hS.bel.cell (Zc c3)).trans c3
   have i0:(0:Int)≤(j:Int):=by omega
   have i1:(j:Int)<(n:Int):=by omega
   have i2:decide (j<n)=true:=decide_eq_true hlt
   have u2:wrap64 ((j:Int)+1)=(j:Int)+1:=Zn _ (by omega) (by omega)
   obtain ⟨W1,q5,e1,eq5,hS1⟩:∃ V q,V=W.alloc (.cells #[.int .i64 x.num,.int .i64 x.base,.int .i64 x.tick,.slice CA cn cc] 45 (0,0))∧q=W.heap.size∧Ses w V (Zb q (.cells #[.int .i64 x.num,.int .i64 x.base,.int .i64 x.tick,.slice CA cn cc] 45 (0,0)) :: rowP w.heap.size 45 4 ls.length (.slice OA ls.length oc) (lrs ls) :: ls.map lrP):=⟨_,_,rfl,rfl,hS.allocObj _⟩
   have hg5:W1.heap[q5]?=some (.cells #[.int .i64 x.num,.int .i64 x.base,.int .i64 x.tick,.slice CA cn cc] 45 (0,0)):=hS1.sep.head
   have y2:W1.cell? ⟨q5,2,none⟩=some (.int .i64 x.tick):=Za hg5 2 _ rfl
   have y3:W1.cell? ⟨q5,3,none⟩=some (.slice CA cn cc):=Za hg5 3 _ rfl
   have hE:Zj W1 CA cn cc x.es:=hr.below hS1.bel
   have FW:=Zix x.tick CA cn cc x.es W1 hE (by have:=hE.len;have:=H.out.2.2 x (List.mem_of_getElem? hx);omega)
   have HN:=Qh (show ls.length+1≤maxLen∧(ls.length+1)*48≤140737488355328 by unfold maxLen;omega)
   have HX:=Qh (Qi hlt (Qi hg (Qi hls (Qi hx hS1))))
   clear hlt hg hls hx hS hr hg5 hE h hlen hrl hS1
   go_upto_region 5 with fail
   rw [←e1,←eq5]
   clear e1 eq5
   go_upto_region 6 with (
    go_at_call 63
    refine FW.mono ?_
    rintro e W2 ⟨WA,wn,wc,rfl,hNE,hb2⟩
    obtain ⟨F,hok,hlow⟩:=hNE
    have hS2:=HX.out.2.2.2.2.new hb2 hok hlow
    have hg5:W2.heap[q5]?=some (.cells #[.int .i64 x.num,.int .i64 x.base,.int .i64 x.tick,.slice CA cn cc] 45 (0,0)):=hS2.sep.tail.head
    have y2:W2.cell? ⟨q5,2,none⟩=some (.int .i64 x.tick):=Za hg5 2 _ rfl
    have y3:W2.cell? ⟨q5,3,none⟩=some (.slice CA cn cc):=Za hg5 3 _ rfl
    have y4:=Zd hg5 2
    have y5:=Zd hg5 3
    have HS2:=Qh hS2
    clear hb2 hok hlow hS2 hg5 FW)
   obtain ⟨W3,e3,hS3⟩:∃ V,V=(W2.setCell ⟨q5,2,none⟩ (.int .i64 x.tick)).setCell ⟨q5,3,none⟩ (.slice WA wn wc)∧Ses w V (Zb q5 (.cells #[.int .i64 x.num,.int .i64 x.base,.int .i64 x.tick,.slice WA wn wc] 45 (0,0)) :: eP F WA wn wc x.es :: rowP w.heap.size 45 4 ls.length (.slice OA ls.length oc) (lrs ls) :: ls.map lrP):=
    ⟨_,rfl,Ses.objSet (i:=3) (.slice WA wn wc) (Ses.objSet (i:=2) (.int .i64 x.tick) HS2.out.front2)⟩
   rw [←e3]
   have hg6:W3.heap[q5]?=some (.cells #[.int .i64 x.num,.int .i64 x.base,.int .i64 x.tick,.slice WA wn wc] 45 (0,0)):=hS3.sep.head
   obtain ⟨x9,ex9⟩:∃ x9:LR,x9=⟨x,F,WA,wn,wc⟩:=⟨_,rfl⟩
   obtain ⟨z0,z1,z2,z3⟩:=cs4 hg6
   obtain ⟨W4,e4⟩:∃ V,V=W3.alloc (.cells #[.int .i64 x.num,.int .i64 x.base,.int .i64 x.tick,.slice WA wn wc] 45 (0,0)):=⟨_,rfl⟩
   obtain ⟨g4,eg4⟩:∃ q,q=W3.heap.size:=⟨_,rfl⟩
   have hS4:Ses w W4 (rowP w.heap.size 45 4 ls.length (.slice OA ls.length oc) (lrs ls) :: lrP x9 :: ls.map lrP):=by
    rw [e4,ex9];exact ((hS3.tail).front2).below (Zg W3 _)
   have hnews:∀ j u,x9.cells[j]?=some u→W4.cell? ((⟨g4,0,none⟩:Addr).add j)=some u:=by rw [e4,ex9];exact XC W3 #[.int .i64 x.num,.int .i64 x.base,.int .i64 x.tick,.slice WA wn wc] 45 g4 eg4
   have HS4:=Qh (Qi hS4 (Qi hnews ex9))
   clear e3 hS3 hg6 hS4 hnews ex9 y2 y3 y4 y5 c0 c1 c2 c3
   go_upto_region 7 with (at_builtin;rw [←e4,←eg4];clear e4 eg4;refine wpList_append_own_at _ rfl (.tmp 16) (.tmp 18) 30 rfl w.heap.size 45 i9 _ 4 48 Tryz.underlying30 HI.out.1 HI.out.2.1 HI.out.2.2.1 HI.out.2.2.2 rfl (by decide) _ ls.length _ rfl (HS4.out.1.part (p:=rowP w.heap.size 45 4 ls.length (.slice OA ls.length oc) (lrs ls)) (.head _)) ⟨g4,0,none⟩ 1 1 x9.cells rfl rfl HS4.out.2.1 (ZbG x9) HN.out.1 HN.out.2 HS4.out.1.bel.size ?_;intro v5 W5 hown5 hg5 _ hblk;have HS5:=Qh (HS4.out.1.rowApp hown5 hg5 hblk);clear hown5 hg5 hblk)
   clear z0 z1 z2 z3
   exact Tq31
  ·exact Tq51
end
end Go.Proofs.YtlgcfimhfmgkmaaGreatDoor
namespace Go.Proofs.YtlgcfimhfmgkmaaGreatDoor
open Go.RowKit
section
def Y2 (xs:List Value) (o:Nat) (vs:List Value):List Value:=xs.take o++vs++xs.drop (o+vs.length)
theorem Zph (xs:List Value) (o:Nat):Y2 xs o []=xs:=by simp [Y2]
theorem Zpi (xs:List Value) (o:Nat) (v:Value) (vs:List Value) (h:o<xs.length):Y2 (xs.set o v) (o+1) vs=Y2 xs o (v :: vs):=by
 unfold Y2
 have h1:(xs.set o v).take (o+1)=xs.take o++[v]:=by
  rw [List.take_add_one,List.take_set_of_le (Nat.le_refl o),List.getElem?_set_self h];rfl
 have h2:(xs.set o v).drop (o+1+vs.length)=xs.drop (o+(v :: vs).length):=by
  rw [List.drop_set_of_lt (by omega),List.length_cons]
  congr 1;omega
 rw [h1,h2];simp
theorem Zpj (xs:List Value) (o:Nat) (vs:List Value) (h:o+vs.length≤xs.length):(Y2 xs o vs).length=xs.length:=by
 unfold Y2;simp;omega
theorem Zpk {w w':World} {r:Option Nat} (h:w.drew.grownBy w' r):w.grownBy w' r:=⟨h.os,h.tape,h.output,h.size,h.block⟩
theorem Zpl (w:World) (r:Option Nat):w.grownBy w r:=⟨rfl,rfl,rfl,Nat.le_refl _,fun _ _ _=>rfl⟩
theorem Zpm {w:World} {B e s n:Nat} {v:Value} {xs:List Value} (h:w.ownsRow B e s v n xs):w.drew.ownsRow B e s v n xs:=h
theorem Za4 {B e s g cap n:Nat}:∀ (vs:List Value) (o:Nat) (xs:List Value) (w:World),w.ownsRow B e s (.slice (some ⟨g,0,none⟩) n cap) n xs→o+vs.length≤xs.length →
  (w.setCells g o vs).ownsRow B e s (.slice (some ⟨g,0,none⟩) n cap) n (Y2 xs o vs)∧w.grownBy (w.setCells g o vs) (some g)
 | [],o,xs,w,h,_=>by rw [Zph];exact ⟨h,Zpl w _⟩
 | v :: vs,o,xs,w,h,hl=>by
  rw [List.length_cons] at hl
  have h1:=h.stored o v
  have h2:=Za4 vs (o+1) (xs.set o v) (w.setCell ⟨g,o,none⟩ v) h1.1 (by rw [List.length_set];omega)
  rw [Zpi xs o v vs (by omega)] at h2
  exact ⟨h2.1,h1.2.trans h2.2⟩
theorem Zfi {w:World} {B e s g cap n n':Nat} {xs:List Value} (h:w.ownsRow B e s (.slice (some ⟨g,0,none⟩) n cap) n xs) (hn:n'≤n) :
  w.ownsRow B e s (.slice (some ⟨g,0,none⟩) n' cap) n' (xs.take (n'*s)):=by
 have hm:n'*s≤n*s:=Nat.mul_le_mul_right s hn
 refine ⟨by rw [List.length_take,h.1];omega,?_⟩
 rcases h.2 with ⟨h',_⟩|⟨g',cap',cur,h',hb,hg,hnc,hcm,hcs,htake⟩
 ·simp at h'
 ·simp only [Value.slice.injEq,Option.some.injEq,Addr.mk.injEq,and_true,true_and] at h'
  obtain ⟨rfl,rfl⟩:=h'
  exact .inr ⟨g,cap,cur,rfl,hb,hg,by omega,hcm,hcs,by rw [←htake,List.take_take];congr 1;omega⟩
theorem Zci {w:World} {B e s g cap n:Nat} {xs:List Value} (h:w.ownsRow B e s (.slice (some ⟨g,0,none⟩) n cap) n xs):n≤cap∧cap≤maxLen∧B≤g∧g<w.heap.size:=by
 rcases h.2 with ⟨h',_⟩|⟨g',cap',cur,h',hb,hg,hnc,hcm,hcs,htake⟩
 ·simp at h'
 ·simp only [Value.slice.injEq,Option.some.injEq,Addr.mk.injEq,and_true,true_and] at h'
  obtain ⟨rfl,rfl⟩:=h'
  exact ⟨hnc,hcm,hb,lt_of_block hg⟩
theorem Zdz (zs:Array Value) (n:Nat):(Builtin.zeroCells zs n).toList.length=n*zs.size∧∀ v∈(Builtin.zeroCells zs n).toList,v∈zs.toList:=by
 refine ⟨by rw [Array.length_toList,size_zeroCells],fun v hv=>?_⟩
 rcases Nat.eq_zero_or_pos zs.size with h0 | h0
 ·have h1:(Builtin.zeroCells zs n).toList.length=0:=by rw [Array.length_toList,size_zeroCells,h0,Nat.mul_zero]
  rw [List.length_eq_zero_iff.1 h1] at hv;cases hv
 ·obtain ⟨i,hi,rfl⟩:=List.mem_iff_getElem.1 hv
  simp only [Builtin.zeroCells]
  simp
  rw [getElem!_pos zs _ (Nat.mod_lt _ h0)]
  exact Array.getElem_mem _
theorem Zfj {P:Program} (w:World) (t e ty:TypeId) (z:Value) (ht:P.underlying t=some (.slice e)) (hv:∀ w,(zeroValue e).run P w=.ok z w) (h1:∀ v∈z.cells.toList,v.oneCell'=true) (b o n c:Nat) (hn:0<n)
  (hc:∀ j,j<n*z.cells.size→(w.cell? ⟨b,o+j,none⟩).isSome=true) (hf:∀ j,j<n*z.cells.size→w.frozen? ⟨b,o+j,none⟩=false) :
  (Builtin.clear_ #[t] ty #[.slice (some ⟨b,o,none⟩) n c]).run P w=.ok (.tuple #[]) (w.setCells b o (Builtin.zeroCells z.cells n).toList):=by
 have hz:=Zdz z.cells n
 have hst:=run_storeCells_cells (P:=P) b o (Builtin.zeroCells z.cells n).toList 0 w (by rw [hz.1];simpa using hc) (by rw [hz.1];simpa using hf) (fun v hv'=>h1 v (hz.2 v hv'))
 simp only [Nat.add_zero] at hst
 obtain ⟨m,rfl⟩:∃ m,n=m+1:=⟨n-1,by omega⟩
 simp [Builtin.clear_,run_underlying ht,hv,hst]
theorem Zfk:∀ w,(zeroValue 45).run Tryz.prog w=.ok (Value.agg #[.int .i64 0,.int .i64 0,.int .i64 0,.slice none 0 0]) w:=fun w=>by kernel_rfl
theorem Zpn (B g cap n i j:Nat) (xs:List Value) (w:World) (h:w.ownsRow B 45 4 (.slice (some ⟨g,0,none⟩) n cap) n xs) (h1:∀ u∈xs,u.oneCell'=true) (hij:i<j) (hj:j≤n) (hn:n≤1000000) :
  Calls Tryz.prog 54 #[.slice (some ⟨g,0,none⟩) n cap,.int .i64 (i:Nat),.int .i64 (j:Nat)] w fun e w'=>e=.returned (.slice (some ⟨g,0,none⟩) (i+(n-j)) cap)∧w'.ownsRow B 45 4 (.slice (some ⟨g,0,none⟩) (i+(n-j)) cap) (i+(n-j)) (xs.take (i*4)++xs.drop (j*4))∧w.grownBy w' (some g):=by
 obtain ⟨iz,hi,hz0,hz1,hz2⟩:=info_parts Zdx
 obtain ⟨hnc,hcm,hB,hgl⟩:=Zci h
 have hm:maxLen≤9223372036854775807:=by unfold maxLen;omega
 have hlen:=h.1
 have hic:i≤cap:=by omega
 have hjc:j≤cap:=by omega
 have hd:=Zpm h
 obtain ⟨news,hnews⟩:∃ news,news=xs.drop (j*4):=⟨_,rfl⟩
 have hln:news.length=(n-j)*4:=by rw [hnews,List.length_drop,hlen];omega
 obtain ⟨A,hA,hsrc⟩:∃ A:Addr,(if cap=j then some (⟨g,0,none⟩:Addr) else some ⟨g,j*4,none⟩)=some A∧∀ t u,news[t]?=some u→w.drew.cell? (A.add t)=some u:=by
  by_cases hcj:cap=j
  ·refine ⟨⟨g,0,none⟩,by simp [hcj],fun t u hu=>?_⟩
   have h0:news.length=0:=by rw [hln];omega
   rw [List.length_eq_zero_iff.1 h0] at hu
   simp at hu
  ·refine ⟨⟨g,j*4,none⟩,by simp [hcj],fun t u hu=>?_⟩
   have ht:t<(n-j)*4:=by
    have:=(List.getElem?_eq_some_iff.1 hu).1
    rwa [hln] at this
   rw [hnews,List.getElem?_drop] at hu
   rw [Addr.add_lit]
   exact (hd.cellAt (j*4+t) (by omega)).trans hu
 have hone:∀ u∈news,u.oneCell'=true:=fun u hu=>h1 u (by rw [hnews] at hu;exact List.mem_of_mem_drop hu)
 have hsp:∀ t,t<news.length→(w.drew.cell? ⟨g,0+i*4+t,none⟩).isSome=true∧w.drew.frozen? ⟨g,0+i*4+t,none⟩=false:=by
  intro t ht
  rw [hln] at ht
  rw [Nat.zero_add]
  exact ⟨by rw [hd.cellAt (i*4+t) (by omega),List.getElem?_eq_getElem (by omega)];rfl,hd.frozenAt _⟩
 have hfit:i*4+news.length≤xs.length:=by rw [hln,hlen];omega
 obtain ⟨W1,hW1⟩:∃ W1,W1=w.drew.setCells g (0+i*4) news:=⟨_,rfl⟩
 obtain ⟨hO1,hG1⟩:=Za4 news (i*4) xs w.drew hd hfit
 have hL1:=Zpj xs (i*4) news hfit
 rw [Nat.zero_add] at hW1
 rw [←hW1] at hO1 hG1
 obtain ⟨m,em⟩:∃ m,m=i+(n-j):=⟨_,rfl⟩
 obtain ⟨zs,ezs⟩:∃ zs,zs=(Builtin.zeroCells (Value.agg #[.int .i64 0,.int .i64 0,.int .i64 0,.slice none 0 0]).cells (n-m)).toList:=⟨_,rfl⟩
 have hzs:zs.length=(n-m)*4:=by rw [ezs];exact (Zdz _ _).1
 have Ziy:m*4+zs.length≤(Y2 xs (i*4) news).length:=by rw [hL1,hzs,hlen];omega
 have hcl:∀ ty,(Builtin.clear_ #[30] ty #[.slice (some ⟨g,m*4,none⟩) (n-m) (cap-m)]).run Tryz.prog W1=.ok (.tuple #[]) (W1.setCells g (m*4) zs):=fun ty=>by
  rw [ezs]
  refine Zfj W1 30 45 ty (Value.agg #[.int .i64 0,.int .i64 0,.int .i64 0,.slice none 0 0]) Tryz.underlying30 Zfk (by decide) g (m*4) (n-m) (cap-m) (by omega) (fun t ht=>?_) (fun t ht=>hO1.frozenAt _)
  have ht:t<(n-m)*4:=ht
  rw [hO1.cellAt (m*4+t) (by omega),List.getElem?_eq_getElem (by rw [hL1];omega)];rfl
 obtain ⟨hO2,hG2⟩:=Za4 zs (m*4) _ W1 hO1 Ziy
 have hfin:(W1.setCells g (m*4) zs).ownsRow B 45 4 (.slice (some ⟨g,0,none⟩) m cap) m (xs.take (i*4)++xs.drop (j*4)):=by
  have hc:=Zfi hO2 (n':=m) (by omega)
  have e1:(Y2 (Y2 xs (i*4) news) (m*4) zs).take (m*4)=xs.take (i*4)++xs.drop (j*4):=by
   have e2:(Y2 xs (i*4) news).take (m*4)=xs.take (i*4)++news:=by
    unfold Y2
    rw [List.take_left' (by rw [List.length_append,List.length_take,hln,hlen];omega)]
   have e3:((Y2 xs (i*4) news).take (m*4)).length=m*4:=by rw [List.length_take,hL1,hlen];omega
   rw [Y2,List.append_assoc,List.take_left' e3,e2,hnews]
  rwa [e1] at hc
 have HF:=Qh (Qi hfin ((Zpk hG1).trans hG2))
 subst em
 have Zpo:=hcl
 have mixed:Tryz.prog.follows .mixedOrders=true:=by kernel_rfl
 have HW:=Qh (show W1=w.drew.setCells g (0+i*4) news by rw [Nat.zero_add];exact hW1)
 have HS:=Qh (Qi hln (Qi hsrc (Qi hone hsp)))
 have ht:Tryz.prog.underlying 30=some (.slice 45):=Tryz.underlying30
 have HI:=Qh (Qi hi hz1)
 have hne:(i==j)=false:=by simp;omega
 have hz:(n==0)=false:=by simp;omega
 clear h h1 hd hO1 hG1 hO2 hG2 hfin Zpo hW1 hsrc hone hsp hfit Ziy hlen hln hnews hL1 hzs ezs hi hz0 hz1 hz2 hB hgl
 go_enter Tryz.func54,Tryz.ntmps54
 go_wp2_with fail
 go_region_law_o (refine step_append_room rfl (.tmp 22) (.tmp 25) 30 rfl 45 iz 4 ht HI.out.1 HI.out.2 g 0 i cap (by simp [Act.eval,Act.put]) A (n-j) (cap-j) news (by simp [Act.eval,Act.put,hA]) HS.out.1 HS.out.2.1 HS.out.2.2.1 (by omega) HS.out.2.2.2 ?_;rw [←HW.out])
 go_wp2_with fail
 go_ret
 exact ⟨rfl,HF.out.1,HF.out.2⟩
end
end Go.Proofs.YtlgcfimhfmgkmaaGreatDoor
namespace Go.Proofs.YtlgcfimhfmgkmaaGreatDoor
open Go.RowKit
section
theorem Za5 {fn:Func} {p u:Tmp} (h:fn.results=#[.cell p 33,.tmp u]) (tmps:Array Value) (w:World) (g:Nat) (cs:Array Value) (hn:cs.size=5)
  (hp:tmps.getD p undef=.pointer (some ⟨g,0,none⟩)) (hg:w.heap[g]?=some (.cells cs 33 (0,0))) :
  (results fn tmps).run Tryz.prog w=.ok (.tuple #[.agg cs,tmps.getD u undef]) w:=by
 have hp':tmps[p]?.getD undef=.pointer (some ⟨g,0,none⟩):=by simpa using hp
 have hi:(Tryz.prog.info? 33).map (·.size)=some cs.size:=by rw [hn];kernel_rfl
 have hl:=run_loadVar_row (P:=Tryz.prog) w g 33 33 cs (0,0) _ hg Tryz.underlying33 rfl hi
 simp [results,h,hp',asAddr,hl]
def nilS:Value:=.slice none 0 0
def JR (c:Int):Value:=if c<1∨8<c then .tuple #[.agg #[.int .i64 0,.int .i64 0,.int .i64 0,.slice none 0 0,.slice none 0 0],.int .i64 2] else .tuple #[.agg #[.int .i64 c,.int .i64 1,.int .i64 0,.slice none 0 0,.slice none 0 0],.int .i64 0]
theorem Tq64 {p:Prop} (h:p:=by
 go_wp2_with fail
 refine bodyPost_ret (Za5 rfl _ _ g _ rfl rfl (Yk (.int .i64 0) (.int .i64 0) (.int .i64 0) (.slice none 0 0) (.slice none 0 0) H.out.2.1)) rfl ?_
 exact ⟨by rw [hR];rfl,hP _ _ _ _ _⟩):p:=h
theorem Ziz (c:Int) (w:World):Calls Tryz.prog 11 #[.int .i64 c] w fun e w'=>e=.returned (JR c)∧Below w.heap.size w w':=by
 obtain ⟨w1,e1⟩:∃ W,W=w.alloc (.cells #[.int .i64 0,.int .i64 0,.int .i64 0,.slice none 0 0,.slice none 0 0] 33 (0,0)):=⟨_,rfl⟩
 obtain ⟨g,eg⟩:∃ g,g=w.heap.size:=⟨_,rfl⟩
 have hb:Below w.heap.size w w1:=by rw [e1];exact Zg w _
 have hg0:w1.heap[g]?=some (.cells #[.int .i64 0,.int .i64 0,.int .i64 0,.slice none 0 0,.slice none 0 0] 33 (0,0)):=by rw [e1,eg];exact heap_alloc_new w _
 obtain ⟨f0,f1,f2,f3,f4⟩:=ce5 hg0
 have z0:=Zd hg0 0
 have z1:=Zd hg0 1
 have z2:=Zd hg0 2
 have z3:=Zd hg0 3
 have z4:=Zd hg0 4
 obtain ⟨R,eR⟩:∃ R,R=JR c:=⟨_,rfl⟩
 rw [←eR]
 have H:=Qh (Qi hb (Qi hg0 (Qi eg eR)))
 clear hb hg0 eR
 go_enter Tryz.func11,Tryz.ntmps11
 go_upto_region 1 with fail
 rw [←e1,←eg]
 clear e1 eg
 have hP:∀ a b c d e,Below w.heap.size w (QS w1 g a b c d e):=fun a b c d e=>Yl a b c d e H.out.1 (by have:=H.out.2.2.1;omega)
 by_cases t1:c<1
 ·have d1:decide (c<1)=true:=decide_eq_true t1
  have hR:R=.tuple #[.agg #[.int .i64 0,.int .i64 0,.int .i64 0,.slice none 0 0,.slice none 0 0],.int .i64 2]:=by rw [H.out.2.2.2];unfold JR;rw [if_pos (.inl t1)]
  clear t1
  exact Tq64
 have d1:decide (c<1)=false:=decide_eq_false t1
 by_cases t2:8<c
 ·have d2:decide (8<c)=true:=decide_eq_true t2
  have hR:R=.tuple #[.agg #[.int .i64 0,.int .i64 0,.int .i64 0,.slice none 0 0,.slice none 0 0],.int .i64 2]:=by rw [H.out.2.2.2];unfold JR;rw [if_pos (.inr t2)]
  clear t1 t2
  exact Tq64
 have d2:decide (8<c)=false:=decide_eq_false t2
 have hR:R=.tuple #[.agg #[.int .i64 c,.int .i64 1,.int .i64 0,.slice none 0 0,.slice none 0 0],.int .i64 0]:=by rw [H.out.2.2.2];unfold JR;rw [if_neg (by omega)]
 clear t1 t2
 go_wp2_with fail
 refine bodyPost_ret (Za5 rfl _ _ g _ rfl rfl (Yk (.int .i64 c) (.int .i64 1) (.int .i64 0) (.slice none 0 0) (.slice none 0 0) H.out.2.1)) rfl ?_
 exact ⟨by rw [hR];rfl,hP _ _ _ _ _⟩
end
end Go.Proofs.YtlgcfimhfmgkmaaGreatDoor
namespace Go.Proofs.YtlgcfimhfmgkmaaGreatDoor
open Go.RowKit
section
abbrev Zau (r:Rec) (A:Option Addr) (n c:Nat):Value:=.agg #[.int .i64 r.num,.int .i64 r.base,.int .i64 r.tick,.slice A n c]
theorem ZbH {fn:Func} {p u:Tmp} (h:fn.results=#[.cell p 45,.tmp u]) (tmps:Array Value) (w:World) (g:Nat) (cs:Array Value) (hn:cs.size=4)
  (hp:tmps.getD p undef=.pointer (some ⟨g,0,none⟩)) (hg:w.heap[g]?=some (.cells cs 45 (0,0))) :
  (results fn tmps).run Tryz.prog w=.ok (.tuple #[.agg cs,tmps.getD u undef]) w:=by
 have hp':tmps[p]?.getD undef=.pointer (some ⟨g,0,none⟩):=by simpa using hp
 have hi:(Tryz.prog.info? 45).map (·.size)=some cs.size:=by rw [hn];kernel_rfl
 have hl:=run_loadVar_row (P:=Tryz.prog) w g 45 45 cs (0,0) _ hg Tryz.underlying45 rfl hi
 simp [results,h,hp',asAddr,hl]
def Jh:Obj:=.cells #[.int .i64 0,.int .i64 0,.int .i64 0,.slice none 0 0] 45 (0,0)
theorem Zpp (x:Rec) (CA:Option Addr) (cn cc:Nat) (k:Int) (kb:Nat) (w:World) (hkb:w.cell? ⟨kb,0,none⟩=some (.int .i64 k)) :
  Calls Tryz.prog 96 #[.agg #[.int .i64 x.num,.int .i64 x.base,.int .i64 x.tick,.slice CA cn cc],.pointer (some ⟨kb,0,none⟩)] w fun e w'=>e=.returned (.bool (decide (x.num=k)))∧Below w.heap.size w w':=by
 obtain ⟨w1,e1⟩:∃ w1,w1=w.alloc (.cells #[.int .i64 x.num,.int .i64 x.base,.int .i64 x.tick,.slice CA cn cc] 45 (0,0)):=⟨_,rfl⟩
 obtain ⟨g,eg⟩:∃ g,g=w.heap.size:=⟨_,rfl⟩
 have hb:Below w.heap.size w w1:=by rw [e1];exact Zg w _
 have hg:w1.heap[g]?=some (.cells #[.int .i64 x.num,.int .i64 x.base,.int .i64 x.tick,.slice CA cn cc] 45 (0,0)):=by rw [e1,eg];exact heap_alloc_new w _
 have f0:w1.cell? ⟨g,0,none⟩=some (.int .i64 x.num):=Za hg 0 _ rfl
 have hkb:=(hb.cell (Zc hkb)).trans hkb
 obtain ⟨R,eR⟩:∃ R,R=decide (x.num=k):=⟨_,rfl⟩
 have hd:(x.num==k)=R:=by rw [eR];rfl
 rw [←eR]
 have H:=Qh hb
 clear hb hg eR
 go_enter Tryz.func96,Tryz.ntmps96
 go_upto_region 1 with fail
 rw [←e1,←eg]
 clear e1 eg
 go_wp2_with fail
 go_ret
 exact ⟨rfl,H.out⟩
theorem Zpq (kd:Int) (kb:Nat) (A:Option Addr) (n cap:Nat) (l:List Rec) (w:World) (h:Zy w A n cap l) (hkb:w.cell? ⟨kb,0,none⟩=some (.int .i64 kd)) :
  Calls Tryz.prog 133 #[.slice A n cap,.func (.func 96) #[] #[.pointer (some ⟨kb,0,none⟩)]] w fun e w'=>∃ k:Int,e=.returned (.int .i64 k)∧Xd (fun r=>decide (r.num=kd)) l k∧Below w.heap.size w w':=by
 have H:=Qh (Qi h hkb)
 clear h hkb
 go_enter Tryz.func133,Tryz.ntmps133
 go_wp2_with fail
 go_loopg [8] n (fun gh iv wr=>∃ j:Nat,gh+j=n∧(∀ (i:Nat) y,i<j→l[i]?=some y→(fun r=>decide (r.num=kd)) y=false)∧iv=.int .i64 (j:Nat)∧Below w.heap.size w wr)
 case atStart=>exact ⟨0,rfl,fun i y h=>by omega,rfl,Below.refl _ _⟩
 case round=>
  obtain ⟨j,hg,hall,rfl,hW⟩:=hrel
  obtain ⟨W,eW⟩:∃ W,W=wr:=⟨_,rfl⟩
  rw [←eW] at hW ⊢
  clear eW
  have h:=H.out.1
  have hlen:=h.len
  have hlim:=h.lim
  by_cases hlt:j<n
  ·obtain ⟨x,hx⟩:∃ x,l[j]?=some x:=⟨_,List.getElem?_eq_getElem (by omega)⟩
   have i0:(0:Int)≤(j:Int):=by omega
   have i1:(j:Int)<(n:Int):=by omega
   have i2:decide (j<n)=true:=decide_eq_true hlt
   have w2:wrap64 ((j:Int)+1)=(j:Int)+1:=Zn _ (by omega) (by omega)
   obtain ⟨R,eR⟩:∃ R,R=(fun r=>decide (r.num=kd)) x:=⟨_,rfl⟩
   obtain ⟨b,o,CA,cn,cc,rfl,⟨c0,c1,c2,c3⟩,hr⟩:=h.at_ j x hx
   have hbk:=hW.block b (Zc c0)
   have c0:=(Zm hbk _).trans c0
   have c1:=(Zm hbk _).trans c1
   have c2:=(Zm hbk _).trans c2
   have c3:=(Zm hbk _).trans c3
   clear hbk
   have F:Calls Tryz.prog 96 #[.agg #[.int .i64 x.num,.int .i64 x.base,.int .i64 x.tick,.slice CA cn cc],.pointer (some ⟨kb,0,none⟩)] W fun e w'=>e=.returned (.bool R)∧Below W.heap.size W w':=by rw [eR];exact Zpp x CA cn cc kd kb W ((Zm (hW.block kb (Zc H.out.2)) _).trans H.out.2)
   have HX:=Qh (Qi hx (Qi hlt (Qi hg (Qi hall (Qi hW eR)))))
   clear hx hlt hg hall hW eR h hlen hlim
   rcases R with _ | _
   ·go_wp2_with (go_at_call 96;refine F.mono ?_;rintro e w3 ⟨rfl,hb3⟩;have H3:=Qh hb3;clear hb3)
    exact Tq3
   ·go_wp2_with (go_at_call 96;refine F.mono ?_;rintro e w3 ⟨rfl,hb3⟩;have H3:=Qh hb3;clear hb3)
    exact Tq12
  ·exact Tq4
theorem Xd.findG {α:Type} {p:α→Bool} {l:List α} {k:Int} (h:Xd p l k):(∃ (j:Nat) (x:α),k=((j:Nat):Int)∧l[j]?=some x∧l.find? p=some x)∨(k=-1∧l.find? p=none):=by
 rcases h with ⟨j,x,rfl,hx,hp,hno⟩|⟨rfl,h⟩
 ·refine .inl ⟨j,x,rfl,hx,?_⟩
  obtain ⟨hj,e⟩:=List.getElem?_eq_some_iff.1 hx
  rw [List.find?_eq_some_iff_getElem]
  refine ⟨hp,j,hj,e,fun i hi=>?_⟩
  rw [hno i _ hi (List.getElem?_eq_getElem (by omega))]
  rfl
 ·exact .inr ⟨rfl,List.find?_eq_none.2 (fun y hy=>by rw [h y hy];simp)⟩
def ZdA (w:World) (o:Option Rec) (r:Rec) (RA:Option Addr) (rn rc:Nat) (b:Bool):Prop:=(o=some r∧b=true∧Zj w RA rn rc r.es)∨(o=none∧b=false∧r=Rec.zero∧RA=none∧rn=0∧rc=0)
theorem Zpr (k:Int) (kb:Nat) (A:Option Addr) (n c:Nat) (l:List Rec) (w0 w:World) (h:Zy w0 A n c l) (hb0:Below w0.heap.size w0 w) (hkb:w.cell? ⟨kb,0,none⟩=some (.int .i64 k)) :
  Calls Tryz.prog 95 #[.slice A n c,.func (.func 96) #[] #[.pointer (some ⟨kb,0,none⟩)]] w fun e w'=>∃ r RA rn rc b,e=.returned (.tuple #[Zau r RA rn rc,.bool b])∧ZdA w0 (l.find? (fun r=>decide (r.num=k))) r RA rn rc b∧Below w.heap.size w w':=by
 obtain ⟨w1,e1⟩:∃ W,W=w.alloc Jh:=⟨_,rfl⟩
 obtain ⟨g,eg⟩:∃ g,g=w.heap.size:=⟨_,rfl⟩
 have hb:Below w.heap.size w w1:=by rw [e1];exact Zg w _
 have hg0:w1.heap[g]?=some Jh:=by rw [e1,eg];exact heap_alloc_new w _
 have h1:=(h.below hb0).below hb
 have F:=Zpq k kb A n c l w1 h1 ((hb.cell (Zc hkb)).trans hkb)
 have H:=Qh (Qi hb (Qi (Qi h hb0) (Qi hg0 eg)))
 clear hb h hb0 hg0 hkb h1
 unfold Jh at e1
 go_enter Tryz.func95,Tryz.ntmps95
 go_upto_region 1 with fail
 rw [←e1,←eg]
 clear e1 eg
 go_upto_region 2 with (go_at_call 133;refine F.mono ?_;rintro e w2 ⟨kk,rfl,hk,hb2⟩;have H2:=Qh (Qi hk hb2);clear hk hb2)
 have hg2:w2.heap[g]?=some Jh:=(H2.out.2.block _ (Zh H.out.2.2.1)).trans H.out.2.2.1
 have hbw:=H.out.1.trans (H2.out.2.mono H.out.1.size)
 rcases Xd.findG H2.out.1 with ⟨j,x,rfl,hx,hf⟩|⟨rfl,hf⟩
 ·have hlen:=H.out.2.1.1.len
  have hlim:=H.out.2.1.1.lim
  obtain ⟨hj,-⟩:=List.getElem?_eq_some_iff.1 hx
  have i0:(0:Int)≤(j:Int):=by omega
  have i1:(j:Int)<(n:Int):=by omega
  have i3:decide ((0:Int)≤(j:Int))=true:=decide_eq_true (by omega)
  obtain ⟨b,o,CA,cn,cc,rfl,⟨c0,c1,c2,c3⟩,hr⟩:=H.out.2.1.1.at_ j x hx
  have hbz:=H.out.2.1.2.trans (hbw.mono H.out.2.1.2.size)
  have c0:=(hbz.cell (Zc c0)).trans c0
  have c1:=(hbz.cell (Zc c1)).trans c1
  have c2:=(hbz.cell (Zc c2)).trans c2
  have c3:=(hbz.cell (Zc c3)).trans c3
  obtain ⟨r0,r1,r2,r3⟩:=cs4 hg2
  have hfz:=fun i=>Zd hg2 i
  have HX:=Qh (Qi hf (Qi hr (Qi hg2 hbw)))
  clear hf hr hg2 hbw hbz hx hlen hlim hj
  go_wp2_with fail
  refine bodyPost_ret (ZbH rfl _ _ g _ rfl rfl (Zac (.int .i64 x.num) (.int .i64 x.base) (.int .i64 x.tick) (.slice CA cn cc) HX.out.2.2.1)) rfl ?_
  exact ⟨x,CA,cn,cc,true,rfl,Or.inl ⟨HX.out.1,rfl,HX.out.2.1⟩,Jp _ _ _ _ HX.out.2.2.2 (by have:=H.out.2.2.2;omega)⟩
 ·obtain ⟨w3,e3⟩:∃ W,W=w2.alloc Jh:=⟨_,rfl⟩
  obtain ⟨g3,eg3⟩:∃ q,q=w2.heap.size:=⟨_,rfl⟩
  have hb3:Below w2.heap.size w2 w3:=by rw [e3];exact Zg w2 _
  have hg3:w3.heap[g3]?=some Jh:=by rw [e3,eg3];exact heap_alloc_new w2 _
  have hg2:=(hb3.block _ (Zh hg2)).trans hg2
  obtain ⟨q0,q1,q2,q3⟩:=cs4 hg3
  obtain ⟨r0,r1,r2,r3⟩:=cs4 hg2
  have hfz:=fun i=>Zd hg2 i
  have HX:=Qh (Qi hf (Qi hg2 (hbw.trans (hb3.mono hbw.size))))
  clear hf hg2 hbw hb3 hg3
  unfold Jh at e3
  go_upto_region 5 with fail
  rw [←e3,←eg3]
  clear e3 eg3
  go_wp2_with fail
  refine bodyPost_ret (ZbH rfl _ _ g _ rfl rfl (Zac (.int .i64 0) (.int .i64 0) (.int .i64 0) (.slice none 0 0) HX.out.2.1)) rfl ?_
  exact ⟨Rec.zero,none,0,0,false,rfl,Or.inr ⟨HX.out.1,rfl,rfl,rfl,rfl,rfl⟩,Jp _ _ _ _ HX.out.2.2 (by have:=H.out.2.2.2;omega)⟩
theorem ZdB (k:Int) (A:Option Addr) (n c:Nat) (l:List Rec) (w:World) (h:Zy w A n c l) :
  Calls Tryz.prog 45 #[.slice A n c,.int .i64 k] w fun e w'=>∃ r RA rn rc b,e=.returned (.tuple #[Zau r RA rn rc,.bool b])∧ZdA w' (Z6 l k) r RA rn rc b∧Below w.heap.size w w':=by
 obtain ⟨w1,e1⟩:∃ W,W=(w.alloc (.cells #[.int .i64 k] 3 (0,0))).alloc Jh:=⟨_,rfl⟩
 obtain ⟨g,eg⟩:∃ g,g=w.heap.size:=⟨_,rfl⟩
 have hb:Below w.heap.size w w1:=by rw [e1];exact ZQ w _ _
 have hk0:w1.heap[g]?=some (.cells #[.int .i64 k] 3 (0,0)):=by rw [e1,eg];exact ZZ w _ _
 have hg0:w1.heap[g+1]?=some Jh:=by rw [e1,eg];exact Z0 w _ _
 have f0:w1.cell? ⟨g,0,none⟩=some (.int .i64 k):=Za hk0 0 _ rfl
 have F:=Zpr k g A n c l w w1 h hb f0
 obtain ⟨r0,r1,r2,r3⟩:=cs4 hg0
 have hfz:=fun i=>Zd hg0 i
 have H:=Qh (Qi hb (Qi hg0 (Qi eg h)))
 clear hb h hg0 hk0
 unfold Jh at e1
 by_cases h0:k=0
 ·subst h0
  go_enter Tryz.func45,Tryz.ntmps45
  go_upto_region 1 with fail
  rw [←e1,←eg]
  clear e1 eg F
  go_wp2_with fail
  refine bodyPost_ret (ZbH rfl _ _ (g+1) _ rfl rfl (Zac (.int .i64 0) (.int .i64 0) (.int .i64 0) (.slice none 0 0) H.out.2.1)) rfl ?_
  exact ⟨Rec.zero,none,0,0,true,rfl,Or.inl ⟨rfl,rfl,Zj.nilS _⟩,Jp _ _ _ _ H.out.1 (by have:=H.out.2.2;omega)⟩
 ·have hd:(k==0)=false:=beq_eq_false_iff_ne.2 h0
  have HK:=Qh h0
  clear h0
  go_enter Tryz.func45,Tryz.ntmps45
  go_upto_region 1 with fail
  rw [←e1,←eg]
  clear e1 eg
  go_wp2_with (
   go_at_call 95
   refine F.mono ?_
   rintro e w2 ⟨r,RA,rn,rc,b,rfl,hF,hb2⟩
   have hg2:w2.heap[g+1]?=some Jh:=(hb2.block _ (Zh H.out.2.1)).trans H.out.2.1
   obtain ⟨r0,r1,r2,r3⟩:=cs4 hg2
   have hfz2:=fun i=>Zd hg2 i
   have H2:=Qh (Qi hF (Qi hb2 hg2))
   clear hF hb2 hg2 F)
  refine bodyPost_ret (ZbH rfl _ _ (g+1) _ rfl rfl (Zac (.int .i64 r.num) (.int .i64 r.base) (.int .i64 r.tick) (.slice RA rn rc) H2.out.2.2)) rfl ?_
  have hbf:=Jp (.int .i64 r.num) (.int .i64 r.base) (.int .i64 r.tick) (.slice RA rn rc) (H.out.1.trans (H2.out.2.1.mono H.out.1.size)) (show w.heap.size≤g+1 by have:=H.out.2.2.1;omega)
  refine ⟨r,RA,rn,rc,b,rfl,?_,hbf⟩
  unfold Z6
  rw [if_neg HK.out]
  rcases H2.out.1 with ⟨h1,h2,h3⟩|h1
  ·exact Or.inl ⟨h1,h2,h3.below hbf⟩
  ·exact Or.inr h1
end
end Go.Proofs.YtlgcfimhfmgkmaaGreatDoor
