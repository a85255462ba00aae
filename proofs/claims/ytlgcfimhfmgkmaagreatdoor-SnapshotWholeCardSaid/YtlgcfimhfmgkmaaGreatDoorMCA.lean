/- Lemmas for the statement. -/
import Derived.Test.YtlgcfimhfmgkmaaGreatDoorMBS
set_option linter.unusedVariables false
set_option linter.unusedSimpArgs false
set_option maxRecDepth 100000
set_option maxHeartbeats 8000000
namespace Go.Proofs.YtlgcfimhfmgkmaaGreatDoor
open Go.RowKit
section
def EHead (w:World) (A:Option Addr) (n:Nat) (k:Nat→Nat):Prop:=∀ j,j<n→∃ b o id CA cc,A=some ⟨b,o,none⟩∧(w.cell? ⟨b,o+j*2,none⟩=some (.int .i64 id)∧w.cell? ⟨b,o+j*2+1,none⟩=some (.slice CA (k j) cc))
theorem EHead.below {w w':World} {A:Option Addr} {n:Nat} {k:Nat→Nat} (h:EHead w A n k) (hb:Below w.heap.size w w'):EHead w' A n k:=fun j hj=>by
 obtain ⟨b,o,id,CA,cc,e,h0,h1⟩:=h j hj
 exact ⟨b,o,id,CA,cc,e,(hb.cell (Zc h0)).trans h0,(hb.cell (Zc h1)).trans h1⟩
def fewB (n:Nat) (k:Nat→Nat):Bool:=decide (n≤12∧∀ j,j<n→k j≤12)
theorem few23_ok (t:Int) (A:Option Addr) (n c:Nat) (k:Nat→Nat) (w:World) (h:EHead w A n k) :
  Calls Tryz.prog 31 #[.agg #[.int .i64 t,.slice A n c]] w fun e w'=>e=.returned (.bool (fewB n k))∧Below w.heap.size w w':=by
 obtain ⟨w1,g,e1,eg,⟨f0,f1⟩,hb⟩:=ZgO w t A n c
 have hb1:=Qh hb
 have H:=Qh h
 have E1:=Qh (Qi e1 eg)
 clear h hb e1 eg f0
 by_cases hn:n≤12
 case neg=>
  have hR:fewB n k=false:=by unfold fewB;exact decide_eq_false (by intro h;exact hn h.1)
  rw [hR]
  have d1:decide (12<n)=true:=decide_eq_true (by omega)
  have d2:decide ((12:Int)<(n:Int))=true:=decide_eq_true (by omega)
  clear hR hn
  go_enter Tryz.func31,Tryz.ntmps31
  go_upto_region 1 with fail
  rw [←E1.out.1,←E1.out.2]
  clear E1
  go_wp2_with fail
  go_ret
  exact ⟨rfl,hb1.out⟩
 have d1:decide (12<n)=false:=decide_eq_false (by omega)
 have d2:decide ((12:Int)<(n:Int))=false:=decide_eq_false (by omega)
 obtain ⟨R,eR⟩:∃ R,R=fewB n k:=⟨_,rfl⟩
 rw [←eR]
 have HR:=Qh (Qi hn eR)
 clear hn eR
 go_enter Tryz.func31,Tryz.ntmps31
 go_upto_region 1 with fail
 rw [←E1.out.1,←E1.out.2]
 clear E1
 go_wp2_with fail
 clear f1 d1 d2
 go_loopg [12] n (fun gh iv wr=>∃ j:Nat,gh+j=n∧iv=.int .i64 (j:Nat)∧(∀ i,i<j→k i≤12)∧Below w.heap.size w wr)
 case atStart=>exact ⟨0,rfl,rfl,fun i hi=>by omega,hb1.out⟩
 case round=>
  obtain ⟨j,hg,rfl,hall,hW⟩:=hrel
  obtain ⟨W,eW⟩:∃ W,W=wr:=⟨_,rfl⟩
  rw [←eW] at hW ⊢
  clear eW
  have hn:=HR.out.1
  by_cases hlt:j<n
  ·obtain ⟨b,o,id,CA,cc,rfl,c0,c1⟩:=H.out j hlt
   have c0:=(hW.cell (Zc c0)).trans c0
   have c1:=(hW.cell (Zc c1)).trans c1
   have i0:(0:Int)≤(j:Int):=by omega
   have i1:(j:Int)<(n:Int):=by omega
   have i2:decide (j<n)=true:=decide_eq_true hlt
   have u2:wrap64 ((j:Int)+1)=(j:Int)+1:=Zn _ (by omega) (by omega)
   obtain ⟨W1,q,e1,eq,⟨y0,y1⟩,hb4⟩:=Zaa W id CA (k j) cc
   have E1:=Qh (Qi e1 eq)
   have HX:=Qh (Qi hlt (Qi hg (Qi hall (Ze hW hb4))))
   by_cases hk:k j≤12
   ·have d3:decide (12<k j)=false:=decide_eq_false (by omega)
    have d4:decide ((12:Int)<(k j:Int))=false:=decide_eq_false (by omega)
    have HK:=Qh hk
    clear hk hlt hg hall hW hn hb4 e1 eq
    go_upto_region 6 with fail
    rw [←E1.out.1,←E1.out.2]
    go_wp2_with fail
    go_roundg (n-(j+1))
    case measure=>have:=HX.out.1;have:=HX.out.2.1;omega
    case rel=>
     refine ⟨j+1,by have:=HX.out.1;omega,by go_num,fun i hi=>?_,HX.out.2.2.2⟩
     rcases Nat.lt_or_ge i j with h | h
     ·exact HX.out.2.2.1 i h
     ·have:i=j:=by omega
      rw [this];exact HK.out
   ·have d3:decide (12<k j)=true:=decide_eq_true (by omega)
    have d4:decide ((12:Int)<(k j:Int))=true:=decide_eq_true (by omega)
    have hf:R=false:=by rw [HR.out.2];unfold fewB;exact decide_eq_false (fun h=>hk (h.2 j hlt))
    subst hf
    clear hk hlt hg hall hW hn hb4 e1 eq
    go_upto_region 6 with fail
    rw [←E1.out.1,←E1.out.2]
    go_wp2_with fail
    go_ret
    exact ⟨rfl,HX.out.2.2.2⟩
  ·have i2:decide (j<n)=false:=decide_eq_false hlt
   have hf:R=true:=by rw [HR.out.2];unfold fewB;exact decide_eq_true ⟨hn,fun i hi=>hall i (by omega)⟩
   subst hf
   have HX:=Qh hW
   clear hlt hg hall hW hn
   go_wp2_with fail
   go_ret
   exact ⟨rfl,HX.out⟩
theorem few26_ok (t:Int) (A:Option Addr) (n c:Nat) (k:Nat→Nat) (w:World) (h:EHead w A n k) :
  Calls Tryz.prog 8 #[.slice none 0 0,.agg #[.int .i64 t,.slice A n c]] w fun e w'=>e=.returned (.bool (fewB n k))∧Below w.heap.size w w':=by
 obtain ⟨w1,g,e1,eg,⟨f0,f1⟩,hb⟩:=ZgO w t A n c
 have F:=few23_ok t A n c k w1 (h.below hb)
 have hb1:=Qh hb
 have E1:=Qh (Qi e1 eg)
 clear h hb e1 eg
 obtain ⟨R,eR⟩:∃ R,R=fewB n k:=⟨_,rfl⟩
 rw [←eR] at F ⊢
 clear eR
 go_enter Tryz.func8,Tryz.ntmps8
 go_upto_region 1 with fail
 rw [←E1.out.1,←E1.out.2]
 clear E1
 rcases R with _ | _
 ·go_wp2_with (go_at_call 31;refine F.mono ?_;rintro e w2 ⟨rfl,hb2⟩;have H2:=Qh hb2;clear hb2 F f0 f1)
  go_ret
  exact ⟨rfl,Ze hb1.out H2.out⟩
 ·go_wp2_with (go_at_call 31;refine F.mono ?_;rintro e w2 ⟨rfl,hb2⟩;have H2:=Qh hb2;clear hb2 F f0 f1)
  go_loopg [17] 0 (fun gh iv wr=>iv=.int .i64 0∧Below w.heap.size w wr)
  case atStart=>exact ⟨rfl,Ze hb1.out H2.out⟩
  case round=>
   obtain ⟨rfl,hW⟩:=hrel
   have HW:=Qh hW
   clear hW
   go_wp2_with fail
   go_ret
   exact ⟨rfl,HW.out⟩
end
end Go.Proofs.YtlgcfimhfmgkmaaGreatDoor
namespace Go.Proofs.YtlgcfimhfmgkmaaGreatDoor
open Go.RowKit
section
open Go.ChangeShapes Go.WideShapes Go.ChangeAt Go.RowKit Go.Deep Go.Joins
theorem list_of {α:Type} {n:Nat} {p:Nat→α→Prop} (h:∀ j,j<n→∃ a,p j a):∃ l:List α,l.length=n∧∀ j a,l[j]?=some a→p j a:=by
 induction n with
 | zero=>exact ⟨[],rfl,fun j a hj=>by simp at hj⟩
 | succ n ih=>
  obtain ⟨l,hl,hp⟩:=ih (fun j hj=>h j (by omega))
  obtain ⟨a,ha⟩:=h n (by omega)
  refine ⟨l++[a],by simp [hl],fun j x hj=>?_⟩
  rw [List.getElem?_append] at hj
  split at hj
  ·exact hp j x hj
  ·rename_i hge
   have hj2:=(List.getElem?_eq_some_iff.1 hj).1
   simp at hj2
   have e:j=n:=by omega
   subst e
   rw [hl,Nat.sub_self] at hj
   have e2:a=x:=by simpa using hj
   rw [←e2];exact ha
theorem spot_none {w:World} {x:Addr} {v:Value} (h:w.cell? (x.add 0)=some v):∃ b o,x=⟨b,o,none⟩∧∀ j,x.add j=⟨b,o+j,none⟩:=by
 obtain ⟨b,o,sp⟩:=x
 have hs:=World.cell?_spot h
 simp [Addr.add] at hs
 subst hs
 refine ⟨b,o,rfl,fun j=>?_⟩
 unfold Addr.add
 split
 ·rename_i h0;rw [h0];rfl
 ·rfl
theorem list2 {α:Type} {l:List α} (h:l.length=2):∃ a b,l=[a,b]:=by
 match l,h with
 | [a,b],_=>exact ⟨a,b,rfl⟩
theorem list5 {α:Type} {l:List α} (h:l.length=5):∃ a b c d e,l=[a,b,c,d,e]:=by
 match l,h with
 | [a,b,c,d,e],_=>exact ⟨a,b,c,d,e,rfl⟩
theorem list6 {α:Type} {l:List α} (h:l.length=6):∃ a b c d e f,l=[a,b,c,d,e,f]:=by
 match l,h with
 | [a,b,c,d,e,f],_=>exact ⟨a,b,c,d,e,f,rfl⟩
theorem okWide_array {P:Program} {w:World} {r:Reach} {base n:Nat} {t e:TypeId} {v:Value} (ht:P.underlying t=some (.array n e)) (h:Value.okWide P w r base t v):∃ cs,v=.agg cs∧cs.size=P.cellsOf t:=by
 simp only [Value.okWide,ht] at h
 obtain ⟨cs,h1,h2,_⟩:=h
 exact ⟨cs,h1,h2⟩
section
variable {H:Type} {enc:TypeId × Value→H} {w:World}
theorem open_crow {fuel:Nat} {a:Option Addr} {len cap:Nat} {y:DataW H × List MemPlace} (hf:DataW.trod enc Tryz.prog w 0 (fun _=>true) true fuel 68 [.slice a len cap]=some y) (hlim:len≤1000000):∃ cs,Zo w a len cap cs:=by
 rcases open_slice Tryz.underlying68 hf with ⟨hcs,_⟩|⟨x,l,c,m,n,D,Pl,hcs,_,hl,hm,hmm,_,hi⟩
 ·simp at hcs
  obtain ⟨rfl,rfl,rfl⟩:=hcs
  exact ⟨[],rfl,fun j u hu=>by simp at hu,fun _=>⟨rfl,rfl⟩,by omega,fun c hc=>by cases hc⟩
 ·simp at hcs
  obtain ⟨rfl,rfl,rfl⟩:=hcs
  have hC:Tryz.prog.cellsOf 75=5:=by kernel_rfl
  have hI:Tryz.prog.cellsOf 3=1:=by kernel_rfl
  have hU:Tryz.prog.cellsOf 5=1:=by kernel_rfl
  have hV:Tryz.prog.cellsOf 73=4:=by kernel_rfl
  have key:∀ i,i<len→∃ c:Cmp,c.kind<256∧∃ b o,(some x:Option Addr)=some ⟨b,o,none⟩∧ZcR w b (o+i*5) c:=by
   intro i him
   obtain ⟨cs',hc,htr⟩:=hi i (by simp at hmm;omega)
   rw [hC] at hc
   obtain ⟨_,hcl,hat⟩:=World.cells?_some hc
   obtain ⟨c0,c1,c2,c3,c4,rfl⟩:=list5 hcl
   obtain ⟨y0,y1,n',_,_,h0,h1⟩:=trod_struct2 Tryz.underlying75 htr
   have h0':DataW.trod enc Tryz.prog w 0 (fun _=>true) true n' 5 [c0]=some y0:=by
    have:=h0
    simp only [hU] at this
    exact this
   have h1':DataW.trod enc Tryz.prog w 0 (fun _=>true) true n' 73 [c1,c2,c3,c4]=some y1:=by
    have:=h1
    simp only [hV] at this
    exact this
   obtain ⟨k,hk,_,hwk⟩:=DataW.trod_int Tryz.underlying5 h0'
   injection hk with hk
   obtain ⟨xs,m',_,_,_,hxl,hxi⟩:=DataW.trod_array Tryz.underlying73 h1'
   rw [hI] at hxi
   have g0:=hxi 0 (by omega)
   have g1:=hxi 1 (by omega)
   have g2:=hxi 2 (by omega)
   have g3:=hxi 3 (by omega)
   rw [List.getElem?_eq_getElem (by omega)] at g0 g1 g2 g3
   obtain ⟨v0,e0,_,_⟩:=DataW.trod_int Tryz.underlying3 g0
   obtain ⟨v1,e1,_,_⟩:=DataW.trod_int Tryz.underlying3 g1
   obtain ⟨v2,e2,_,_⟩:=DataW.trod_int Tryz.underlying3 g2
   obtain ⟨v3,e3,_,_⟩:=DataW.trod_int Tryz.underlying3 g3
   have bk:=bounds_u8 hwk
   have f0:c1=.int .i64 v0:=by simpa using e0
   have f1:c2=.int .i64 v1:=by simpa using e1
   have f2:c3=.int .i64 v2:=by simpa using e2
   have f3:c4=.int .i64 v3:=by simpa using e3
   clear e0 e1 e2 e3
   subst hk f0 f1 f2 f3
   have a0:=hat 0 (by omega)
   have a1:=hat 1 (by omega)
   have a2:=hat 2 (by omega)
   have a3:=hat 3 (by omega)
   have a4:=hat 4 (by omega)
   rw [Go.Deep.add_add] at a0 a1 a2 a3 a4
   obtain ⟨b,o,ex,ea⟩:∃ b o,x=⟨b,o,none⟩∧∀ j,x.add j=⟨b,o+j,none⟩:=by
    obtain ⟨cs2,hc2,_⟩:=hi 0 (by simp at hmm;omega)
    rw [hC] at hc2
    obtain ⟨_,Zpo,ZfZ⟩:=World.cells?_some hc2
    have a9:=ZfZ 0 (by omega)
    rw [Go.Deep.add_add,Nat.zero_mul,List.getElem?_eq_getElem (by omega)] at a9
    exact spot_none a9
   rw [ea] at a0 a1 a2 a3 a4
   refine ⟨⟨k.toNat,v0,v1,v2,v3⟩,by show k.toNat<256;omega,b,o,by rw [ex],?_,?_,?_,?_,?_⟩
   ·show w.cell? ⟨b,o+i*5,none⟩=some (.int .u8 ((k.toNat:Nat):Int))
    rw [Int.toNat_of_nonneg bk.1];exact a0
   ·exact a1
   ·exact a2
   ·exact a3
   ·exact a4
  obtain ⟨cs,hcl,hcs⟩:=list_of key
  refine ⟨cs,hcl.symm,fun j c hj=>(hcs j c hj).2,(fun e=>by cases e),hlim,fun c hc=>?_⟩
  obtain ⟨j,hj⟩:=List.getElem?_of_mem hc
  exact (hcs j c hj).1
theorem open_erow {fuel:Nat} {A:Option Addr} {n c:Nat} {y:DataW H × List MemPlace} (hf:DataW.trod enc Tryz.prog w 0 (fun _=>true) true fuel 22 [.slice A n c]=some y):∃ k,EHead w A n k∧(fewB n k=true→∃ es,Zj w A n c es):=by
 rcases open_slice Tryz.underlying22 hf with ⟨hcs,_⟩|⟨x,l,c,m,n',D,Pl,hcs,_,hl,hm,hmm,_,hi⟩
 ·simp at hcs
  obtain ⟨rfl,rfl,rfl⟩:=hcs
  exact ⟨fun _=>0,fun j hj=>by omega,fun _=>⟨[],Zj.nilS w⟩⟩
 ·simp at hcs
  obtain ⟨rfl,rfl,rfl⟩:=hcs
  have hC:Tryz.prog.cellsOf 70=2:=by kernel_rfl
  have hI:Tryz.prog.cellsOf 3=1:=by kernel_rfl
  have hS:Tryz.prog.cellsOf 68=1:=by kernel_rfl
  have key:∀ i,i<n→∃ (b o:Nat) (id:Int) (CA:Option Addr) (kn cc:Nat),x=⟨b,o,none⟩∧(w.cell? ⟨b,o+i*2,none⟩=some (.int .i64 id)∧w.cell? ⟨b,o+i*2+1,none⟩=some (.slice CA kn cc))∧(kn≤12→∃ cs,Zo w CA kn cc cs):=by
   intro i him
   obtain ⟨cs',hc,htr⟩:=hi i (by simp at hmm;omega)
   rw [hC] at hc
   obtain ⟨_,hcl,hat⟩:=World.cells?_some hc
   obtain ⟨c0,c1,rfl⟩:=list2 hcl
   obtain ⟨y0,y1,n2,_,_,h0,h1⟩:=trod_struct2 Tryz.underlying70 htr
   have h0':DataW.trod enc Tryz.prog w 0 (fun _=>true) true n2 3 [c0]=some y0:=by
    have:=h0
    simp only [hI] at this
    exact this
   have h1':DataW.trod enc Tryz.prog w 0 (fun _=>true) true n2 68 [c1]=some y1:=by
    have:=h1
    simp only [hS] at this
    exact this
   obtain ⟨id,hk,_,_⟩:=DataW.trod_int Tryz.underlying3 h0'
   injection hk with hk
   have hsl:∃ CA kn cc,c1=.slice CA kn cc:=by
    rcases open_slice Tryz.underlying68 h1' with ⟨hcs,_⟩|⟨x,l,c,_,_,_,_,hcs,_⟩
    ·injection hcs with hcs;exact ⟨_,_,_,hcs⟩
    ·injection hcs with hcs;exact ⟨_,_,_,hcs⟩
   obtain ⟨CA,kn,cc,rfl⟩:=hsl
   subst hk
   have a0:=hat 0 (by omega)
   have a1:=hat 1 (by omega)
   rw [Go.Deep.add_add] at a0 a1
   obtain ⟨b,o,ex,ea⟩:∃ b o,x=⟨b,o,none⟩∧∀ j,x.add j=⟨b,o+j,none⟩:=by
    obtain ⟨cs2,hc2,_⟩:=hi 0 (by simp at hmm;omega)
    rw [hC] at hc2
    obtain ⟨_,Zpo,ZfZ⟩:=World.cells?_some hc2
    have a9:=ZfZ 0 (by omega)
    rw [Go.Deep.add_add,Nat.zero_mul,List.getElem?_eq_getElem (by omega)] at a9
    exact spot_none a9
   rw [ea] at a0 a1
   exact ⟨b,o,id,CA,kn,cc,ex,⟨a0,a1⟩,fun hk=>open_crow h1' (by omega)⟩
  obtain ⟨L,hLl,hL⟩:=list_of (α:=Int × (Option Addr × Nat × Nat)) (n:=n) (p:=fun i z=>∃ (b o:Nat),x=⟨b,o,none⟩∧(w.cell? ⟨b,o+i*2,none⟩=some (.int .i64 z.1)∧w.cell? ⟨b,o+i*2+1,none⟩=some (.slice z.2.1 z.2.2.1 z.2.2.2))∧(z.2.2.1≤12→∃ cs,Zo w z.2.1 z.2.2.1 z.2.2.2 cs))
   (fun i hi=>by obtain ⟨b,o,id,CA,kn,cc,h1,h2,h3⟩:=key i hi;exact ⟨(id,CA,kn,cc),b,o,h1,h2,h3⟩)
  have hget:∀ i,i<n→∃ z,L[i]?=some z:=fun i hi=>⟨_,List.getElem?_eq_getElem (by omega)⟩
  refine ⟨fun i=>match L[i]? with | some z=>z.2.2.1 | none=>0,fun j hj=>?_,fun Zd8=>?_⟩
  ·obtain ⟨z,hz⟩:=hget j hj
   obtain ⟨b,o,e,h,_⟩:=hL j z hz
   refine ⟨b,o,z.1,z.2.1,z.2.2.2,by rw [e],h.1,?_⟩
   simp only [hz]
   exact h.2
  ·unfold fewB at Zd8
   have Zd8:=of_decide_eq_true Zd8
   obtain ⟨es,hel,hes⟩:=list_of (α:=Ent) (n:=n) (p:=fun i e=>∃ b o CA cn cc,(some x:Option Addr)=some ⟨b,o,none⟩∧(w.cell? ⟨b,o+i*2,none⟩=some (.int .i64 e.id)∧w.cell? ⟨b,o+i*2+1,none⟩=some (.slice CA cn cc))∧Zo w CA cn cc e.cs) (fun i hi=>by
    obtain ⟨z,hz⟩:=hget i hi
    obtain ⟨b,o,e,h,hc⟩:=hL i z hz
    have h12:=Zd8.2 i hi
    simp only [hz] at h12
    obtain ⟨cs,hcs⟩:=hc h12
    exact ⟨⟨z.1,cs⟩,b,o,z.2.1,z.2.2.1,z.2.2.2,by rw [e],h,hcs⟩)
   exact ⟨es,hel.symm,fun j e hj=>hes j e hj,(fun e=>by cases e),by have:=Zd8.1;omega,hl⟩
theorem open_wldA {fuel:Nat} {c0 c1:Value} {y:DataW H × List MemPlace} (hf:DataW.trod enc Tryz.prog w 0 (fun _=>true) true fuel 24 [c0,c1]=some y):∃ t A n c k,c0=.int .i64 t∧c1=.slice A n c∧EHead w A n k∧(fewB n k=true→∃ es,Zj w A n c es):=by
 have hI:Tryz.prog.cellsOf 3=1:=by kernel_rfl
 have hS:Tryz.prog.cellsOf 22=1:=by kernel_rfl
 obtain ⟨y0,y1,n2,_,_,h0,h1⟩:=trod_struct2 Tryz.underlying24 hf
 have h0':DataW.trod enc Tryz.prog w 0 (fun _=>true) true n2 3 [c0]=some y0:=by
  have:=h0
  simp only [hI] at this
  exact this
 have h1':DataW.trod enc Tryz.prog w 0 (fun _=>true) true n2 22 [c1]=some y1:=by
  have:=h1
  simp only [hS] at this
  exact this
 obtain ⟨t,hk,_,_⟩:=DataW.trod_int Tryz.underlying3 h0'
 injection hk with hk
 have hsl:∃ CA kn cc,c1=.slice CA kn cc:=by
  rcases open_slice Tryz.underlying22 h1' with ⟨hcs,_⟩|⟨x,l,c,_,_,_,_,hcs,_⟩
  ·injection hcs with hcs;exact ⟨_,_,_,hcs⟩
  ·injection hcs with hcs;exact ⟨_,_,_,hcs⟩
 obtain ⟨A,n,c,rfl⟩:=hsl
 obtain ⟨k,h2,h3⟩:=open_erow h1'
 exact ⟨t,A,n,c,k,hk,rfl,h2,h3⟩
theorem open_wldsA {r:Reach} {b0:Nat} {v:Value} {d:DataW H} {p:List MemPlace} (hv:Value.okWide Tryz.prog w r b0 25 v) (h:DataW.Trod enc Tryz.prog w 0 (fun _=>true) true 25 v d p) :
  ∃ (tt:Nat→Int) (AA:Nat→Option Addr) (nn cc:Nat→Nat) (kk:Nat→Nat→Nat),v=.agg #[.int .i64 (tt 0),.slice (AA 0) (nn 0) (cc 0),.int .i64 (tt 1),.slice (AA 1) (nn 1) (cc 1),.int .i64 (tt 2),.slice (AA 2) (nn 2) (cc 2)] ∧
   (∀ j,j<3→EHead w (AA j) (nn j) (kk j))∧∀ j,j<3→fewB (nn j) (kk j)=true→∃ es,Zj w (AA j) (nn j) (cc j) es:=by
 have hA:Tryz.prog.cellsOf 25=6:=by kernel_rfl
 have hW:Tryz.prog.cellsOf 24=2:=by kernel_rfl
 obtain ⟨cs,rfl,hsz⟩:=okWide_array Tryz.underlying25 hv
 obtain ⟨fuel,hf⟩:=h
 obtain ⟨c0,c1,c2,c3,c4,c5,hcs⟩:=list6 (l:=cs.toList) (by rw [Array.length_toList,hsz,hA])
 have hcs2:cs=#[c0,c1,c2,c3,c4,c5]:=by rw [←Array.toArray_toList (xs:=cs),hcs]
 subst hcs2
 obtain ⟨xs,m',_,_,_,hxl,hxi⟩:=DataW.trod_array Tryz.underlying25 hf
 rw [hW] at hxi
 have g0:=hxi 0 (by omega)
 have g1:=hxi 1 (by omega)
 have g2:=hxi 2 (by omega)
 rw [List.getElem?_eq_getElem (by omega)] at g0 g1 g2
 obtain ⟨t0,A0,n0,d0,k0,rfl,rfl,p0,q0⟩:=open_wldA (by simpa [Value.cells] using g0)
 obtain ⟨t1,A1,n1,d1,k1,rfl,rfl,p1,q1⟩:=open_wldA (by simpa [Value.cells] using g1)
 obtain ⟨t2,A2,n2,d2,k2,rfl,rfl,p2,q2⟩:=open_wldA (by simpa [Value.cells] using g2)
 refine ⟨fun j=>match j with | 0=>t0 | 1=>t1 | _=>t2,fun j=>match j with | 0=>A0 | 1=>A1 | _=>A2,fun j=>match j with | 0=>n0 | 1=>n1 | _=>n2,fun j=>match j with | 0=>d0 | 1=>d1 | _=>d2,fun j=>match j with | 0=>k0 | 1=>k1 | _=>k2,rfl,?_,?_⟩
 ·intro j hj
  match j,hj with
  | 0,_=>exact p0
  | 1,_=>exact p1
  | 2,_=>exact p2
 ·intro j hj
  match j,hj with
  | 0,_=>exact q0
  | 1,_=>exact q1
  | 2,_=>exact q2
end
end
end Go.Proofs.YtlgcfimhfmgkmaaGreatDoor
namespace Go.Proofs.YtlgcfimhfmgkmaaGreatDoor
open Go.RowKit
section
theorem ints_ext:∀ {l m:List Int},l.Pairwise (· < ·)→m.Pairwise (· < ·)→(∀ x,x∈l↔x∈m)→l=m
 | [],[],_,_,_=>rfl
 | [],y :: m,_,_,h=>by have:=(h y).2 (.head _);cases this
 | x :: l,[],_,_,h=>by have:=(h x).1 (.head _);cases this
 | x :: l,y :: m,hl,hm,h=>by
  have h1:=List.pairwise_cons.1 hl
  have h2:=List.pairwise_cons.1 hm
  have e:x=y:=by
   rcases List.mem_cons.1 ((h x).1 (.head _)) with e | hx
   ·exact e
   ·rcases List.mem_cons.1 ((h y).2 (.head _)) with e | hy
    ·exact e.symm
    ·have:=h1.1 y hy;have:=h2.1 x hx;omega
  subst e
  rw [ints_ext h1.2 h2.2 (fun z=>?_)]
  constructor
  ·intro hz
   rcases List.mem_cons.1 ((h z).1 (.tail _ hz)) with rfl | hz'
   ·have:=h1.1 z hz;omega
   ·exact hz'
  ·intro hz
   rcases List.mem_cons.1 ((h z).2 (.tail _ hz)) with rfl | hz'
   ·have:=h2.1 z hz;omega
   ·exact hz'
theorem changed_rise {s t:Int} {es fs:List Ent} (va:Zl s es=true) (vb:Zl t fs=true):(ZO (Zw es fs)).Pairwise (· < ·):=by
 unfold ZO
 rw [List.pairwise_map]
 exact ZhS va vb
theorem cut_len (p:Int→Bool):∀ l:List Int,(l.filter (fun x=>!p x)).length+(l.filter p).length=l.length
 | []=>rfl
 | x :: l=>by
  have:=cut_len p l
  rw [List.filter_cons,List.filter_cons]
  cases p x<;>simp<;>omega
theorem count_law {s t:Int} {b fs:List Ent} {ids:List Int} (vb:Zl s b=true) (vf:Zl t fs=true) (vm:Zl t (QT b fs ids)=true) :
  (ZO (Zw (QT b fs ids) fs)).length+(ZO (Zw b (QT b fs ids))).length=(ZO (Zw b fs)).length:=by
 have e1:ZO (Zw (QT b fs ids) fs)=(ZO (Zw b fs)).filter (fun k=>!decide (k∈ids)):=by
  refine ints_ext (changed_rise vm vf) (List.Pairwise.sublist List.filter_sublist (changed_rise vb vf)) (fun k=>?_)
  rw [List.mem_filter,ZhT vm vf,ZhT vb vf]
  simp only [Bool.not_eq_true',decide_eq_false_iff_not,Zdh]
  constructor
  ·rintro (⟨x,hx,hn,rfl⟩|⟨x,hx,hn,rfl⟩)
   ·rcases hx with ⟨hx,hi⟩|⟨hx,hi⟩
    ·exact ⟨.inl ⟨x,hx,hn,rfl⟩,hi⟩
    ·exact absurd hx hn
   ·have hi:x.id∉ids:=fun hi=>hn (.inr ⟨hx,hi⟩)
    exact ⟨.inr ⟨x,hx,fun hb=>hn (.inl ⟨hb,hi⟩),rfl⟩,hi⟩
  ·rintro ⟨⟨x,hx,hn,rfl⟩|⟨x,hx,hn,rfl⟩,hi⟩
   ·exact .inl ⟨x,.inl ⟨hx,hi⟩,hn,rfl⟩
   ·exact .inr ⟨x,hx,fun h=>h.elim (fun h=>hn h.1) (fun h=>hi h.2),rfl⟩
 have e2:ZO (Zw b (QT b fs ids))=(ZO (Zw b fs)).filter (fun k=>decide (k∈ids)):=by
  refine ints_ext (changed_rise vb vm) (List.Pairwise.sublist List.filter_sublist (changed_rise vb vf)) (fun k=>?_)
  rw [List.mem_filter,ZhT vb vm,ZhT vb vf]
  simp only [decide_eq_true_eq,Zdh]
  constructor
  ·rintro (⟨x,hx,hn,rfl⟩|⟨x,hx,hn,rfl⟩)
   ·have hi:x.id∈ids:=Classical.byContradiction fun hi=>hn (.inl ⟨hx,hi⟩)
    exact ⟨.inl ⟨x,hx,fun hf=>hn (.inr ⟨hf,hi⟩),rfl⟩,hi⟩
   ·rcases hx with ⟨hx,_⟩|⟨hx,hi⟩
    ·exact absurd hx hn
    ·exact ⟨.inr ⟨x,hx,hn,rfl⟩,hi⟩
  ·rintro ⟨⟨x,hx,hn,rfl⟩|⟨x,hx,hn,rfl⟩,hi⟩
   ·exact .inl ⟨x,hx,fun h=>h.elim (fun h=>h.2 hi) (fun h=>hn h.1),rfl⟩
   ·exact .inr ⟨x,.inr ⟨hx,hi⟩,hn,rfl⟩
 rw [e1,e2]
 exact cut_len _ _
theorem none_left {s t:Int} {es fs:List Ent} (va:Zl s es=true) (vb:Zl t fs=true) (h:(ZO (Zw es fs)).length=0):es=fs:=by
 have h0:ZO (Zw es fs)=[]:=List.eq_nil_of_length_eq_zero h
 refine ZeU (YG va) (YG vb) (fun x=>⟨fun hx=>?_,fun hx=>?_⟩)
 ·refine Classical.byContradiction fun hn=>?_
  have:=(ZhT va vb).2 (.inl ⟨x,hx,hn,rfl⟩)
  rw [h0] at this
  cases this
 ·refine Classical.byContradiction fun hn=>?_
  have:=(ZhT va vb).2 (.inr ⟨x,hx,hn,rfl⟩)
  rw [h0] at this
  cases this
structure SnW (j:Nat) (cl:Int) (s:Snd) (r:Rcv):Prop where
 full:JA s
 cl:s.cl=cl
 nx:s.next=(j:Int)+1
 ak:s.acked=(j:Int)
 lg:(j=0∧s.log=[]∧r=⟨0,0,[]⟩)∨(1≤j∧∃ x,s.log=[x]∧x.num=(j:Int)∧x.base=(j:Int)-1∧Zl x.tick x.es=true∧x.es.length≤12 ∧
  ((j=1∧r=⟨0,1,[x]⟩)∨(2≤j∧∃ y,r=⟨(j:Int)-1,j,[y,x]⟩∧y.num=(j:Int)-1∧(0≤y.base∧y.base<y.num)∧Zl y.tick y.es=true∧y.es.length≤12)))
theorem snW_0 {cl:Int} (h:1≤cl∧cl≤8):SnW 0 cl ⟨cl,1,0,[],[]⟩ ⟨0,0,[]⟩:=
 ⟨⟨h,⟨by show (1:Int)≤1;omega,by show (1:Int)≤1073741825;omega⟩,by show (0:Int)≤0;omega,show Qp []=true from by decide,Nat.zero_le _,List.Pairwise.nil,(fun r hr=>by cases hr),.inl ⟨rfl,Nat.zero_le _⟩⟩,rfl,rfl,rfl,.inl ⟨rfl,rfl,rfl⟩⟩
section
variable {j:Nat} {cl:Int} {s:Snd} {r:Rcv}
theorem SnW.small (h:SnW j cl s r):∀ x,x∈s.log→x.es.length≤12:=by
 intro y hy
 rcases h.lg with ⟨_,e,_⟩|⟨_,x,e,_,_,_,hl,_⟩
 ·rw [e] at hy;cases hy
 ·rw [e] at hy
  rcases List.mem_cons.1 hy with rfl | hy
  ·exact hl
  ·cases hy
theorem SnW.smallR (h:SnW j cl s r):∀ x,x∈r.log→x.es.length≤12:=by
 intro z hz
 rcases h.lg with ⟨_,_,e⟩|⟨_,x,_,_,_,_,hl,⟨_,e⟩|⟨_,y,e,_,_,_,hy⟩⟩
 ·rw [e] at hz;cases hz
 ·rw [e] at hz
  rcases List.mem_cons.1 hz with rfl | hz
  ·exact hl
  ·cases hz
 ·rw [e] at hz
  rcases List.mem_cons.1 hz with rfl | hz
  ·exact hy
  ·rcases List.mem_cons.1 hz with rfl | hz
   ·exact hl
   ·cases hz
theorem SnW.log (h:SnW j cl s r) {X:TV} (hX:X.s=s) (k:Nat):XV X k=s.log++[Zax X k]:=by
 have hl:s.log.length≤1:=by
  rcases h.lg with ⟨_,e,_⟩|⟨_,x,e,_⟩
  ·rw [e];simp
  ·rw [e];simp
 have hd:0≤drT X:=Nat.zero_le _
 unfold XV
 rw [hX,decide_eq_false (by omega)]
 rfl
theorem SnW.found (h:SnW j cl s r):Z6 s.log j=some (bsF s)∧Z6 r.log j=some (bsF s):=by
 unfold bsF
 rw [h.ak]
 rcases h.lg with ⟨rfl,e,e2⟩|⟨hj,x,e,hn,_,_,_,hr⟩
 ·exact ⟨rfl,rfl⟩
 ·have h1:Z6 s.log j=some x:=by
   unfold Z6
   rw [if_neg (by omega),e,List.find?_cons_of_pos (by simpa using hn)]
  have h2:Z6 r.log j=some x:=by
   rcases hr with ⟨_,e⟩|⟨hj2,y,e,hy,_⟩
   ·unfold Z6
    rw [if_neg (by omega),e,List.find?_cons_of_pos (by simpa using hn)]
   ·unfold Z6
    rw [if_neg (by omega),e,List.find?_cons_of_neg (by simp [hy];omega),List.find?_cons_of_pos (by simpa using hn)]
  rw [h1,h2]
  exact ⟨rfl,rfl⟩
theorem SnW.base (h:SnW j cl s r):(j=0∧s.log=[]∧bsF s=Rec.zero)∨(1≤j∧∃ x,s.log=[x]∧bsF s=x):=by
 have hf:=h.found.1
 rcases h.lg with ⟨rfl,e,_⟩|⟨hj,x,e,hn,_⟩
 ·refine .inl ⟨rfl,e,?_⟩
  unfold Z6 at hf
  rw [if_pos (by rfl)] at hf
  injection hf with hf
  exact hf.symm
 ·refine .inr ⟨hj,x,e,?_⟩
  unfold Z6 at hf
  rw [if_neg (by omega),e,List.find?_cons_of_pos (by simpa using hn)] at hf
  injection hf with hf
  exact hf.symm
theorem SnW.valid (h:SnW j cl s r) (hj:j≤1000):XI r=true:=by
 rcases h.lg with ⟨_,_,e⟩|⟨hj1,x,_,hn,hb,hv,_,⟨hj2,e⟩|⟨hj2,y,e,hy,hyb,hyv,_⟩⟩
 ·rw [e];decide
 ·subst hj2
  have hn1:x.num=1:=by simpa using hn
  have hb0:x.base=0:=by rw [hb];rfl
  rw [e]
  unfold XI Zdw
  have Zft:QF [x] 0 1=true:=Zji.2 ⟨by simp,List.pairwise_singleton _ _,fun z hz=>by
   rcases List.mem_cons.1 hz with rfl | hz
   ·exact ⟨⟨by rw [hn1];decide,by rw [hn1];decide⟩,⟨by omega,by omega⟩,hv⟩
   ·cases hz⟩
  simp [Zft,lastB,hn1]
 ·rw [e]
  unfold XI Zdw
  have Zft:QF [y,x] ((j:Int)-1) j=true:=Zji.2 ⟨by simp,List.pairwise_cons.2 ⟨(fun z hz=>(by
   rcases List.mem_cons.1 hz with rfl | hz
   ·omega
   ·cases hz)),List.pairwise_singleton _ _⟩,fun z hz=>by
   rcases List.mem_cons.1 hz with rfl | hz
   ·exact ⟨⟨by omega,by omega⟩,hyb,hyv⟩
   ·rcases List.mem_cons.1 hz with rfl | hz
    ·exact ⟨⟨by omega,by omega⟩,⟨by omega,by omega⟩,hv⟩
    ·cases hz⟩
  have d1:decide ((j:Int)-1<0)=false:=decide_eq_false (by omega)
  have d2:decide ((j:Int)<0)=false:=decide_eq_false (by omega)
  have d3:decide (1073741824<(j:Int))=false:=decide_eq_false (by omega)
  have d4:decide ((j:Int)≤(j:Int)-1)=false:=decide_eq_false (by omega)
  have d5:¬ (j:Int)=0:=by omega
  have d6:lastB [y,x] (j:Int)=true:=by simp [lastB,hn]
  have d7:Zat [y,x] ((j:Int)-1)=true:=by simp [Zat,hy]
  simp only [d1,d2,d3,d4,Zft,d6,d7,if_neg d5]
  simp
theorem SnW.nums (h:SnW j cl s r):r.base≤(j:Int)∧0≤r.base∧r.last=(j:Int)∧∀ z,z∈r.log→0<z.num∧z.num≤(j:Int):=by
 rcases h.lg with ⟨rfl,_,e⟩|⟨hj1,x,_,hn,hb,hv,_,⟨hj2,e⟩|⟨hj2,y,e,hy,hyb,hyv,_⟩⟩
 ·rw [e];exact ⟨by show (0:Int)≤0;omega,by show (0:Int)≤0;omega,rfl,fun z hz=>by cases hz⟩
 ·rw [e]
  refine ⟨by show (0:Int)≤j;omega,by show (0:Int)≤0;omega,by show (1:Int)=j;omega,fun z hz=>?_⟩
  rcases List.mem_cons.1 hz with rfl | hz
  ·omega
  ·cases hz
 ·rw [e]
  refine ⟨by show (j:Int)-1≤j;omega,by show 0≤(j:Int)-1;omega,rfl,fun z hz=>?_⟩
  rcases List.mem_cons.1 hz with rfl | hz
  ·omega
  ·rcases List.mem_cons.1 hz with rfl | hz
   ·omega
   ·cases hz
theorem SnW.takes (h:SnW j cl s r) (hj:j≤1000) {pn:Nat} (hp:8≤pn):YV r pn (j+1) j=none:=by
 obtain ⟨h1,h2,h3,h4⟩:=h.nums
 refine ZqJ (h.valid hj) (by omega) (by omega) ?_ h.found.2
 rintro (hs | hs)
 ·rcases hf:Z6 r.log ((j+1:Nat):Int) with _ | x
  ·rw [hf] at hs;cases hs
  ·obtain ⟨hx,hxn⟩:=Zfw (by omega) hf
   have:=h4 x hx
   omega
 ·omega
theorem SnW.next (h:SnW j cl s r) (hj:j≤1000) {X:TV} (hX:X.s=s) (hw:Qo X.ws=true) (k:Nat) (hv:Zl X.vt (Z7 X k)=true) (hl:(Z7 X k).length≤12) :
  JA (Xz X k)∧Z6 (Xz X k).log ((j:Int)+1)=some (Zax X k)∧(QG (Xz X k) ((j:Int)+1)).log=[Zax X k] ∧
  SnW (j+1) cl (QG (Xz X k) ((j:Int)+1)) (Zbc r ((j:Int)+1) j X.vt (Z7 X k)):=by
 have hnx:=h.nx
 have hak:=h.ak
 have hfull:JA (Xz X k):=Zqd (by rw [hX];exact h.full) (by rw [hX];omega) hw hv
 have Zft:(Xz X k).log=s.log++[Zax X k]:=h.log hX k
 have hrec:(Zax X k).num=(j:Int)+1∧(Zax X k).base=(j:Int):=⟨by show X.s.next=_;rw [hX,hnx],by show X.s.acked=_;rw [hX,hak]⟩
 have hfind:Z6 (Xz X k).log ((j:Int)+1)=some (Zax X k):=by
  unfold Z6
  rw [if_neg (by omega),Zft]
  rcases h.lg with ⟨_,e,_⟩|⟨_,x,e,hn,_⟩
  ·rw [e,List.nil_append,List.find?_cons_of_pos (by simp [hrec.1])]
  ·rw [e,List.cons_append,List.nil_append,List.find?_cons_of_neg (by simp [hn];omega),List.find?_cons_of_pos (by simp [hrec.1])]
 have hal:(QG (Xz X k) ((j:Int)+1)).log=[Zax X k]:=by
  show (Xz X k).log.filter (fun r=>!decide (r.num<(j:Int)+1))=_
  rw [Zft]
  have e9:(!decide ((Zax X k).num<(j:Int)+1))=true:=by simp [hrec.1]
  rcases h.lg with ⟨_,e,_⟩|⟨_,x,e,hn,_⟩
  ·rw [e,List.nil_append,List.filter_cons,if_pos e9];rfl
  ·have e8:(!decide (x.num<(j:Int)+1))=false:=by rw [decide_eq_true (by omega)];rfl
   rw [e,List.cons_append,List.nil_append,List.filter_cons,if_neg (by rw [e8];simp),List.filter_cons,if_pos e9];rfl
 refine ⟨hfull,hfind,hal,⟨Zqg hfull (by show X.s.acked<_;rw [hX];omega) hfind,?_,?_,?_,.inr ⟨by omega,Zax X k,hal,?_,?_,hv,hl,?_⟩⟩⟩
 ·show X.s.cl=cl
  rw [hX,h.cl]
 ·show X.s.next+1=((j+1:Nat):Int)+1
  rw [hX];omega
 ·show (j:Int)+1=((j+1:Nat):Int)
  omega
 ·rw [hrec.1];omega
 ·rw [hrec.2];omega
 ·have er:(⟨(j:Int)+1,j,X.vt,Z7 X k⟩:Rec)=Zax X k:=by
   unfold Zax
   rw [hX,hnx,hak]
  obtain ⟨h1,h2,h3,h4⟩:=h.nums
  have hmb:max r.base (j:Int)=(j:Int):=by omega
  have hml:max r.last ((j:Int)+1)=(j:Int)+1:=by omega
  unfold Zbc
  rw [er,hmb,hml]
  have e9:(!(XK (j:Int) ((j:Int)+1) (Zax X k).num))=true:=by
   unfold XK
   rw [hrec.1,decide_eq_false (by omega),decide_eq_false (by omega)];rfl
  rcases h.lg with ⟨rfl,_,e⟩|⟨hj1,x,_,hn,hb,hv,hx12,⟨hj2,e⟩|⟨hj2,y,e,hy,hyb,hyv,_⟩⟩
  ·refine .inl ⟨rfl,?_⟩
   rw [e,List.nil_append,List.filter_cons,if_pos e9];rfl
  ·have e8:(!(XK (j:Int) ((j:Int)+1) x.num))=true:=by
    unfold XK
    rw [hn,decide_eq_false (by omega),decide_eq_false (by omega)];rfl
   refine .inr ⟨by omega,x,?_,by omega,⟨by omega,by omega⟩,hv,hx12⟩
   rw [e,List.cons_append,List.nil_append,List.filter_cons,if_pos e8,List.filter_cons,if_pos e9]
   subst hj2
   rfl
  ·have e8:(!(XK (j:Int) ((j:Int)+1) x.num))=true:=by
    unfold XK
    rw [hn,decide_eq_false (by omega),decide_eq_false (by omega)];rfl
   have e7:¬ (!(XK (j:Int) ((j:Int)+1) y.num))=true:=by
    unfold XK
    rw [decide_eq_true (by omega)];simp
   refine .inr ⟨by omega,x,?_,by omega,⟨by omega,by omega⟩,hv,hx12⟩
   rw [e,List.cons_append,List.cons_append,List.nil_append,List.filter_cons,if_neg e7,List.filter_cons,if_pos e8,List.filter_cons,if_pos e9]
   have e1:(j:Int)=((j+1:Nat):Int)-1:=by omega
   have e2:(j:Int)+1=((j+1:Nat):Int):=by omega
   rw [e2,List.filter_nil,←e1]
end
end
end Go.Proofs.YtlgcfimhfmgkmaaGreatDoor
namespace Go.Proofs.YtlgcfimhfmgkmaaGreatDoor
open Go.RowKit
section
theorem no_both {W:World} {A:Option Addr} {n c cc:Nat} {cs:List Cmp} {l:List Rec} (hc:Zo W A n cc cs) (hL:Zy W A n c l) (hne:l≠[]):False:=by
 have h1:=hc.len
 have h2:=hL.len
 have h0:0<l.length:=List.length_pos_iff.2 hne
 obtain ⟨x,hx⟩:∃ x,cs[0]?=some x:=⟨_,List.getElem?_eq_getElem (by omega)⟩
 obtain ⟨r,hr⟩:∃ r,l[0]?=some r:=⟨_,List.getElem?_eq_getElem h0⟩
 obtain ⟨b,o,e,hcc⟩:=hc.at_ 0 x hx
 obtain ⟨b',o',_,_,_,e',⟨k0,_⟩,_⟩:=hL.at_ 0 r hr
 rw [e] at e'
 injection e' with e'
 injection e' with e1 e2
 subst e1 e2
 have k1:=hcc.c0
 rw [Nat.zero_mul,Nat.add_zero] at k0 k1
 rw [k0] at k1
 cases k1
structure Boxes (W:World) (D:Nat→Prop) (p:Int→Prop):Prop where
 ent:∀ q,D q→∀ (i:Nat) (k:Int) (CA:Option Addr) (cn cc:Nat) (cs:List Cmp),W.cell? ⟨q,i,none⟩=some (.int .i64 k)→W.cell? ⟨q,i+1,none⟩=some (.slice CA cn cc)→1≤k→Zo W CA cn cc cs→False
 u8:∀ q,D q→∀ (i:Nat) (k:Int),W.cell? ⟨q,i,none⟩=some (.int .u8 k)→False
 rec_:∀ q,D q→∀ (i:Nat) (a b c:Int) (CA:Option Addr) (cn cc:Nat),W.cell? ⟨q,i,none⟩=some (.int .i64 a)→W.cell? ⟨q,i+1,none⟩=some (.int .i64 b)→W.cell? ⟨q,i+2,none⟩=some (.int .i64 c)→W.cell? ⟨q,i+3,none⟩=some (.slice CA cn cc)→p b
theorem Zj.off {W W':World} {D:Nat→Prop} {p:Int→Prop} (hD:Boxes W D p) {A:Option Addr} {n c:Nat} {l:List Ent} (h:Zj W A n c l) (hid:∀ e,e∈l→1≤e.id) (hk:∀ b,b<W.heap.size→¬ D b→W'.heap[b]?=W.heap[b]?):Zj W' A n c l:=by
 refine ⟨h.len,fun j e hj=>?_,h.nil,h.lim,h.le⟩
 obtain ⟨b,o,CA,cn,cc,ea,⟨h0,h1⟩,hc⟩:=h.at_ j e hj
 have hs:=hk b (Zc h0) (fun hd=>hD.ent b hd _ _ _ _ _ _ h0 h1 (hid e (List.mem_of_getElem? hj)) hc)
 refine ⟨b,o,CA,cn,cc,ea,⟨(Zm hs _).trans h0,(Zm hs _).trans h1⟩,hc.len,fun i x hx=>?_,hc.nil,hc.lim,hc.kind⟩
 obtain ⟨b',o',ea',hcc⟩:=hc.at_ i x hx
 exact ⟨b',o',ea',hcc.step (hk b' (Zc hcc.c0) (fun hd=>hD.u8 b' hd _ _ hcc.c0))⟩
theorem Zy.off {W W':World} {D:Nat→Prop} {p:Int→Prop} (hD:Boxes W D p) {A:Option Addr} {n c:Nat} {l:List Rec} (h:Zy W A n c l) (hid:∀ r,r∈l→∀ e,e∈r.es→1≤e.id) (hp:∀ r,r∈l→¬ p r.base) (hk:∀ b,b<W.heap.size→¬ D b→W'.heap[b]?=W.heap[b]?):Zy W' A n c l:=by
 refine ⟨h.len,fun j r hj=>?_,h.nil,h.lim,h.le⟩
 obtain ⟨b,o,CA,cn,cc,e,⟨c0,c1,c2,c3⟩,hc⟩:=h.at_ j r hj
 have hr:=List.mem_of_getElem? hj
 have hs:=hk b (Zc c0) (fun hd=>hp r hr (hD.rec_ b hd _ _ _ _ _ _ _ c0 c1 c2 c3))
 exact ⟨b,o,CA,cn,cc,e,⟨(Zm hs _).trans c0,(Zm hs _).trans c1,(Zm hs _).trans c2,(Zm hs _).trans c3⟩,hc.off hD (hid r hr) hk⟩
abbrev rcvO (a b:Int) (x:Value):Obj:=.cells #[.int .i64 a,.int .i64 b,x] 38 (0,0)
theorem rbox_cell {W:World} {q:Nat} {a b:Int} {A:Option Addr} {n c:Nat} (hq:W.heap[q]?=some (rcvO a b (.slice A n c))) {i:Nat} {u:Value} (h:W.cell? ⟨q,i,none⟩=some u):(i=0∧u=.int .i64 a)∨(i=1∧u=.int .i64 b)∨(i=2∧u=.slice A n c):=by
 rw [cell_of_block hq i] at h
 rcases i with _ | _ | _ | i
 ·injection h with h;exact .inl ⟨rfl,h.symm⟩
 ·injection h with h;exact .inr (.inl ⟨rfl,h.symm⟩)
 ·injection h with h;exact .inr (.inr ⟨rfl,h.symm⟩)
 ·simp at h
theorem two_boxes {W:World} {q r:Nat} {cl nx ak a b:Int} {LA IA RA:Option Addr} {ln lc iN ic rn rc:Nat} {ls rs:List Rec}
  (hq:W.heap[q]?=some (Y4 cl nx ak (.slice LA ln lc) (.slice IA iN ic))) (hr:W.heap[r]?=some (rcvO a b (.slice RA rn rc))) (hL:Zy W LA ln lc ls) (hR:Zy W RA rn rc rs) (h1:ls≠[]∨ak≤0) (h2:rs≠[]∨b≤0) :
  Boxes W (fun x=>x=q∨x=r) (fun k=>k=nx):=by
 refine ⟨?_,?_,?_⟩
 ·rintro x (rfl|rfl) i k CA cn cc cs c0 c1 hk hc
  ·have hi:i=2∧k=ak:=by
    have s1:=ZdW hq c1
    have s0:=Qt hq c0
    omega
   obtain ⟨rfl,rfl⟩:=hi
   have e:=cell_of_block hq 3
   rw [c1] at e
   have e:some (Value.slice CA cn cc)=some (.slice LA ln lc):=e
   injection e with e
   injection e with e1 e2 e3
   subst e1 e2 e3
   rcases h1 with h1 | h1
   ·exact no_both hc hL h1
   ·omega
  ·have hi:i=1∧k=b:=by
    rcases rbox_cell hr c1 with ⟨_,e⟩|⟨_,e⟩|⟨e1,_⟩
    ·cases e
    ·cases e
    ·rcases rbox_cell hr c0 with ⟨e0,_⟩|⟨_,e0⟩|⟨_,e0⟩
     ·omega
     ·injection e0 with _ e0;exact ⟨by omega,e0⟩
     ·cases e0
   obtain ⟨rfl,rfl⟩:=hi
   have e:=cell_of_block hr 2
   rw [c1] at e
   have e:some (Value.slice CA cn cc)=some (.slice RA rn rc):=e
   injection e with e
   injection e with e1 e2 e3
   subst e1 e2 e3
   rcases h2 with h2 | h2
   ·exact no_both hc hR h2
   ·omega
 ·rintro x (rfl|rfl) i k c0
  ·rcases ZfM hq c0 with ⟨_,e⟩|⟨_,e⟩|⟨_,e⟩|⟨_,_,_,_,e⟩<;>simp at e
  ·rcases rbox_cell hr c0 with ⟨_,e⟩|⟨_,e⟩|⟨_,e⟩<;>simp at e
 ·rintro x (rfl|rfl) i k1 k2 k3 CA cn cc c0 c1 c2 c3
  ·have s3:=ZdW hq c3
   have s0:=Qt hq c0
   have s1:=Qt hq c1
   have s2:=Qt hq c2
   omega
  ·exfalso
   rcases rbox_cell hr c2 with ⟨e,_⟩|⟨e,_⟩|⟨_,e⟩
   ·omega
   ·omega
   ·cases e
theorem Za6.later {w w1 W:World} {s:Snd} {v:Value} (h:Za6 w w1 s v) (hl:s.log.length≤1000) (hi:s.items.length≤1000) (hz:w1.heap.size≤W.heap.size) (hk:∀ b,w.heap.size≤b→b<w1.heap.size→W.heap[b]?=w1.heap[b]?):ZA W s v:=by
 obtain ⟨B,B2,OA,QA,oc,qc,ls,rfl,hls,hS⟩:=h
 have hll:ls.length≤1000:=by rw [←hls,List.length_map] at hl;exact hl
 have part:∀ p,p∈(rowP B 45 4 ls.length (.slice OA ls.length oc) (lrs ls) :: (ls.map lrP++[rowP B2 134 3 s.items.length (.slice QA s.items.length qc) (ZM s.items)]))→p.P W:=fun p hp=>
  (hS.sep.1 p hp).same W (fun q hq=>hk q (hS.base p hp q hq) ((hS.sep.1 p hp).lt q hq)) hz
 have h1:W.ownsRow B 45 4 (.slice OA ls.length oc) ls.length (lrs ls):=part _ (.head _)
 obtain ⟨A',c',e',hL⟩:=Zch h1 (by omega) (fun x hx=>part (lrP x) (.tail _ (List.mem_append_left _ (List.mem_map.2 ⟨x,hx,rfl⟩))))
 injection e' with e1 _ e2
 rw [←e1,←e2,hls] at hL
 have h2:W.ownsRow B2 134 3 (.slice QA s.items.length qc) s.items.length (ZM s.items):=part (rowP B2 134 3 s.items.length (.slice QA s.items.length qc) (ZM s.items)) (.tail _ (List.mem_append_right _ (.head _)))
 obtain ⟨A2,c2,e3,hI⟩:=Zpw h2 (by omega)
 injection e3 with e4 _ e5
 rw [←e4] at hI
 exact ⟨OA,QA,ls.length,oc,s.items.length,qc,rfl,hL,hI,fun e=>Zfb h2 e⟩
theorem snd_its {s:Snd} (h:JA s):s.items.length≤64:=(Zcd h.it).1
theorem sndV_parts {w:World} {s:Snd} {a b c:Int} {LA IA:Option Addr} {ln lc iN ic:Nat} (h:ZA w s (.agg #[.int .i64 a,.int .i64 b,.int .i64 c,.slice LA ln lc,.slice IA iN ic])):Zy w LA ln lc s.log:=by
 obtain ⟨_,_,_,_,_,_,e,h1,h2,h3⟩:=h
 injection e with e
 simp only [Array.mk.injEq,List.cons.injEq,Value.slice.injEq] at e
 obtain ⟨-,-,-,⟨rfl,rfl,rfl⟩,⟨rfl,rfl,rfl⟩,-⟩:=e
 exact h1
theorem rcvV_parts {w:World} {r:Rcv} {a b:Int} {LA:Option Addr} {ln lc:Nat} (h:ZaD w r (.agg #[.int .i64 a,.int .i64 b,.slice LA ln lc])):Zy w LA ln lc r.log:=by
 obtain ⟨_,_,_,e,h1⟩:=h
 injection e with e
 simp only [Array.mk.injEq,List.cons.injEq,Value.slice.injEq] at e
 obtain ⟨-,-,⟨rfl,rfl,rfl⟩,-⟩:=e
 exact h1
theorem rcvV_on {w w':World} {r:Rcv} {v:Value} (h:ZaD w r v) (hb:Below w.heap.size w w'):ZaD w' r v:=by
 obtain ⟨LA,ln,lc,e,hL⟩:=h
 exact ⟨LA,ln,lc,e,hL.below hb⟩
section
variable {j:Nat} {cl t size:Int} {s:Snd} {r:Rcv} {es:List Ent}
structure Rnd (j:Nat) (cl:Int) (s:Snd) (r:Rcv) (t size:Int) (es:List Ent):Prop where
 h:SnW j cl s r
 j3:j<3
 clr:1≤cl∧cl≤8
 va:Zl t es=true
 sz:400≤size∧size≤1200
 n12:es.length≤12
theorem Rnd.bad (H:Rnd j cl s r t size es):JX s t size es=false:=by
 unfold JX
 rw [QJ.2 H.h.full,H.va,decide_eq_false (by have:=H.sz;omega),decide_eq_false (by have:=H.sz;omega)]
 rfl
theorem Rnd.good (H:Rnd j cl s r t size es):Zcp s t size es:=Zfz H.bad
theorem Rnd.view (H:Rnd j cl s r t size es):Zl t (Ql cl (Xa cl es) es)=true∧(Ql cl (Xa cl es) es).length≤12∧vwF s es=Ql cl (Xa cl es) es:=by
 refine ⟨Zp6 H.va,Nat.le_trans (ZaV _ _ _) H.n12,?_⟩
 unfold vwF
 rw [H.h.cl]
theorem Rnd.next (H:Rnd j cl s r t size es) (k:Nat):Zl t (Z7 (plX s t size es) k)=true∧(Z7 (plX s t size es) k).length≤12:=by
 have hg:=H.good
 have h1:=merge_le ((YT s.items (wtF s es) k).map (idS (wtF s es))) hg.bv hg.vv
 have h2:(vwF s es).length≤12:=Nat.le_trans (ZaV _ _ _) H.n12
 refine ⟨ZeX hg.bv hg.vv (Nat.le_trans h1 (by omega)),?_⟩
 have h3:(Z7 (plX s t size es) k).length=(XR (bsF s).es (vwF s es) (YL (Zw (bsF s).es (vwF s es))++(YT s.items (wtF s es) k).map (idS (wtF s es)))).length:=by
  show (QT _ _ _).length=_
  unfold QT
  rw [Zdg]
  rfl
 omega
theorem Rnd.after (H:Rnd j cl s r t size es) (k:Nat):JA (Xz (plX s t size es) k)∧Z6 (Xz (plX s t size es) k).log ((j:Int)+1)=some (Zax (plX s t size es) k)∧(QG (Xz (plX s t size es) k) ((j:Int)+1)).log=[Zax (plX s t size es) k] ∧
  SnW (j+1) cl (QG (Xz (plX s t size es) k) ((j:Int)+1)) (Zbc r ((j:Int)+1) j t (Z7 (plX s t size es) k)):=
 H.h.next (by have:=H.j3;omega) (X:=plX s t size es) rfl H.good.wr k (H.next k).1 (H.next k).2
theorem ZaD.off {W W':World} {D:Nat→Prop} {p:Int→Prop} (hD:Boxes W D p) {r:Rcv} {v:Value} (h:ZaD W r v) (hid:∀ x,x∈r.log→∀ e,e∈x.es→1≤e.id) (hp:∀ x,x∈r.log→¬ p x.base) (hk:∀ b,b<W.heap.size→¬ D b→W'.heap[b]?=W.heap[b]?):ZaD W' r v:=by
 obtain ⟨A,n,c,e,hL⟩:=h
 exact ⟨A,n,c,e,hL.off hD hid hp hk⟩
theorem SnW.old (h:SnW j cl s r):(s.log≠[]∨(j:Int)≤0)∧(r.log≠[]∨r.last≤0):=by
 rcases h.lg with ⟨rfl,_,e⟩|⟨_,x,e,_,_,_,_,⟨_,e2⟩|⟨_,y,e2,_⟩⟩
 ·rw [e];exact ⟨.inr (by decide),.inr (by decide)⟩
 ·rw [e,e2];exact ⟨.inl (by simp),.inl (by simp)⟩
 ·rw [e,e2];exact ⟨.inl (by simp),.inl (by simp)⟩
theorem SnW.recsR (h:SnW j cl s r):∀ x,x∈r.log→Zl x.tick x.es=true∧x.base<x.num∧x.num≤(j:Int):=by
 intro z hz
 rcases h.lg with ⟨_,_,e⟩|⟨hj,x,_,hn,hb,hv,_,⟨_,e⟩|⟨_,y,e,hy,hyb,hyv,_⟩⟩
 ·rw [e] at hz;cases hz
 ·rw [e] at hz
  rcases List.mem_cons.1 hz with rfl | hz
  ·exact ⟨hv,by omega,by omega⟩
  ·cases hz
 ·rw [e] at hz
  rcases List.mem_cons.1 hz with rfl | hz
  ·exact ⟨hyv,by omega,by omega⟩
  ·rcases List.mem_cons.1 hz with rfl | hz
   ·exact ⟨hv,by omega,by omega⟩
   ·cases hz
theorem SnW.idsR (h:SnW j cl s r):∀ x,x∈r.log→∀ e,e∈x.es→1≤e.id:=fun x hx e he=>(Z4 (h.recsR x hx).1 e he).1
theorem SnW.basesR (h:SnW (j+1) cl s r):∀ x,x∈r.log→¬ x.base=(j:Int)+1:=fun x hx e=>by
 have:=h.recsR x hx
 omega
theorem whole_send (H:Rnd j cl s r t size es) {v:Value} {A:Option Addr} {n c:Nat} {w:World} (hT:Tabs w) (hS:ZA w s v) (hA:Zj w A n c es) :
  Calls Tryz.prog 13 #[v,.agg #[.int .i64 t,.slice A n c],.int .i64 size] w fun e w'=>∃ (a b d:Int) (LA IA PA:Option Addr) (ln lc iN ic pn pc:Nat) (ev:Int),e=.returned (.tuple #[.agg #[.int .i64 a,.int .i64 b,.int .i64 d,.slice LA ln lc,.slice IA iN ic],.slice PA pn pc,.int .i64 ev]) ∧
   (ev=3∨(ev=0∧∃ k B,(cl=a∧(j:Int)+2=b∧(j:Int)=d)∧Qr (plX s t size es) k∧ZA w' (Xz (plX s t size es) k) (.agg #[.int .i64 a,.int .i64 b,.int .i64 d,.slice LA ln lc,.slice IA iN ic])∧w'.ownsRow B 5 1 (.slice PA pn pc) (8+Zk (ZB (plX s t size es) k)) (X7 (plX s t size es) k)))∧Below w.heap.size w w':=by
 have hj:=H.j3
 have hak:=H.h.ak
 have hnx:=H.h.nx
 refine (ZqZ s t size es v A n c w hT hS hA (by omega) H.h.small H.n12).mono ?_
 rintro e w' ⟨u,rfl,h⟩
 rcases h with ⟨h,_⟩|⟨_,h,_⟩|⟨_,⟨k,x,pv,B,⟨h1,h2,h3⟩,rfl,hS',hp,hb⟩|⟨_,rfl,hb⟩⟩
 ·rw [H.bad] at h;cases h
 ·omega
 ·have hV:=hS'.toV
  have hV2:=hV
  obtain ⟨LA,IA,ln,lc,iN,ic,rfl,_⟩:=hV2
  obtain ⟨PA,pc,rfl⟩:=YF hp.1
  refine ⟨_,_,_,LA,IA,PA,ln,lc,iN,ic,_,pc,0,rfl,.inr ⟨rfl,k,B,⟨?_,?_,?_⟩,h1,hV,hp.1⟩,hb⟩
  ·exact H.h.cl.symm
  ·show _=s.next+1;omega
  ·exact hak.symm
 ·exact ⟨0,0,0,none,none,none,0,0,0,0,0,0,3,rfl,.inl rfl,hb⟩
theorem whole_recv (H:Rnd j cl s r t size es) {k B:Nat} (hf:Qr (plX s t size es) k) {u v:Value} {w:World} (hT:Tabs w) (hR:ZaD w r u) (hp:w.ownsRow B 5 1 v (8+Zk (ZB (plX s t size es) k)) (X7 (plX s t size es) k)) :
  Calls Tryz.prog 14 #[u,v] w fun e w'=>∃ (a b:Int) (LA VA:Option Addr) (ln lc vn vc:Nat),e=.returned (.tuple #[.agg #[.int .i64 a,.int .i64 b,.slice LA ln lc],.agg #[.int .i64 t,.slice VA vn vc],.int .i64 0]) ∧
   ((a=(Zbc r ((j:Int)+1) j t (Z7 (plX s t size es) k)).base∧b=(Zbc r ((j:Int)+1) j t (Z7 (plX s t size es) k)).last)∧ZaD w' (Zbc r ((j:Int)+1) j t (Z7 (plX s t size es) k)) (.agg #[.int .i64 a,.int .i64 b,.slice LA ln lc])∧Zj w' VA vn vc (Z7 (plX s t size es) k))∧Below w.heap.size w w':=by
 have hj:=H.j3
 have hak:=H.h.ak
 have hnx:=H.h.nx
 have Y5:=H.h.nums.2.2.2
 have hX:(plX s t size es).s=s:=rfl
 have e0:n4 (YD (plX s t size es) k) 0=j+1:=by rw [ZjC _ _ (by rw [hX,hnx];omega),hX,hnx];omega
 have e4:n4 (YD (plX s t size es) k) 4=j:=by rw [ZjD _ _ (by rw [hX,hak];omega),hX,hak];omega
 refine (ZjF (plX s t size es) k r u v B w hT hR hp (by rw [hX];omega) (by rw [hX];omega) hf H.sz.2 H.h.smallR (fun _=>⟨bsF s,?_,rfl,rfl,(H.next k).1,(H.next k).2,fun y hy=>?_⟩)).mono ?_
 ·rw [hX,hak];exact H.h.found.2
 ·rw [hX,hnx]
  have:=Y5 y hy
  omega
 ·rintro e w' ⟨z,rfl,h⟩
  rw [show ZfF w w' r (8+Zk (ZB (plX s t size es) k)) (YD (plX s t size es) k) (plX s t size es).vt (Z7 (plX s t size es) k) z=ZfF w w' r (8+Zk (ZB (plX s t size es) k)) (YD (plX s t size es) k) t (Z7 (plX s t size es) k) z from rfl] at h
  unfold ZfF at h
  rw [e0,e4,H.h.takes (by omega) (by omega)] at h
  rcases h with ⟨_,h,_⟩|⟨_,x,VA,vn,vc,rfl,hx,hE,hb⟩
  ·cases h
  ·have en:(((j+1:Nat):Nat):Int)=(j:Int)+1:=by omega
   rw [en] at hx
   have hx2:=hx
   obtain ⟨LA,ln,lc,rfl,_⟩:=hx2
   exact ⟨_,_,LA,VA,ln,lc,vn,vc,rfl,⟨⟨rfl,rfl⟩,hx,hE⟩,hb⟩
theorem whole_ack (H:Rnd j cl s r t size es) (k:Nat) {v:Value} {w:World} (hT:Tabs w) (hS:ZA w (Xz (plX s t size es) k) v) :
  Calls Tryz.prog 17 #[v,.int .i64 ((j:Int)+1)] w fun e w'=>∃ (OA QA:Option Addr) (oc qn qc:Nat),e=.returned (.tuple #[.agg #[.int .i64 cl,.int .i64 ((j:Int)+2),.int .i64 ((j:Int)+1),.slice OA 1 oc,.slice QA qn qc],.int .i64 0]) ∧
   Za6 w w' (QG (Xz (plX s t size es) k) ((j:Int)+1)) (.agg #[.int .i64 cl,.int .i64 ((j:Int)+2),.int .i64 ((j:Int)+1),.slice OA 1 oc,.slice QA qn qc])∧Below w.heap.size w w':=by
 have hj:=H.j3
 have hak:=H.h.ak
 have hnx:=H.h.nx
 obtain ⟨hfull,hfind,hal,hS2⟩:=H.after k
 have e1:(Xz (plX s t size es) k).acked=(j:Int):=hak
 have Zft:(Xz (plX s t size es) k).log=s.log++[Zax (plX s t size es) k]:=H.h.log (X:=plX s t size es) rfl k
 refine (ZdV _ _ v w hT hS (by rw [e1];omega) (by have:=hfull.ln;omega) (fun x hx=>?_) (by have:=snd_its hfull;omega)).mono ?_
 ·rw [Zft] at hx
  rcases List.mem_append.1 hx with hx | hx
  ·exact H.h.small x hx
  ·have hx:x=Zax (plX s t size es) k:=by simpa using hx
   rw [hx]
   exact (H.next k).2
 ·rintro e w' ⟨u,rfl,h⟩
  rcases h with ⟨h,_⟩|⟨_,h,_⟩|⟨_,_,h,_⟩|⟨_,_,_,x,rfl,hR⟩
  ·rw [QJ.2 hfull] at h;cases h
  ·rw [e1] at h;omega
  ·rw [hfind] at h;cases h
  ·have hR2:=hR
   obtain ⟨B,B2,OA,QA,oc,qc,ls,rfl,hls,hSes⟩:=hR2
   have hn:ls.length=1:=by rw [←List.length_map (f:=LR.r),hls,hal];rfl
   have Zpo:(QG (Xz (plX s t size es) k) ((j:Int)+1)).cl=cl:=hS2.cl
   have hnx2:(QG (Xz (plX s t size es) k) ((j:Int)+1)).next=(j:Int)+2:=by have:=hS2.nx;omega
   have hak2:(QG (Xz (plX s t size es) k) ((j:Int)+1)).acked=(j:Int)+1:=rfl
   rw [hn,Zpo,hnx2,hak2] at hR
   rw [hn,Zpo,hnx2,hak2]
   exact ⟨OA,QA,oc,_,qc,rfl,hR,hSes.bel⟩
theorem whole_rec (H:Rnd j cl s r t size es) {k:Nat} {a b d:Int} {LA IA:Option Addr} {ln lc iN ic:Nat} {w:World} (hS:ZA w (Xz (plX s t size es) k) (.agg #[.int .i64 a,.int .i64 b,.int .i64 d,.slice LA ln lc,.slice IA iN ic])) :
  ∃ (g o m CN cc:Nat) (CA:Option Addr),LA=some ⟨g,o,none⟩∧ln=m+1∧m≤1∧(w.cell? ⟨g,o+m*4,none⟩=some (.int .i64 ((j:Int)+1))∧w.cell? ⟨g,o+m*4+1,none⟩=some (.int .i64 (j:Int))∧w.cell? ⟨g,o+m*4+2,none⟩=some (.int .i64 t)∧w.cell? ⟨g,o+m*4+3,none⟩=some (.slice CA CN cc))∧Zj w CA CN cc (Z7 (plX s t size es) k):=by
 have hL:=sndV_parts hS
 have Zft:(Xz (plX s t size es) k).log=s.log++[Zax (plX s t size es) k]:=H.h.log (X:=plX s t size es) rfl k
 rw [Zft] at hL
 have hl:s.log.length≤1:=by
  rcases H.h.lg with ⟨_,e,_⟩|⟨_,x,e,_⟩
  ·rw [e];simp
  ·rw [e];simp
 obtain ⟨g,o,CA,CN,cc,e,⟨c0,c1,c2,c3⟩,hE⟩:=hL.at_ s.log.length (Zax (plX s t size es) k) (by simp)
 have hln:=hL.len
 rw [List.length_append] at hln
 have e0:(Zax (plX s t size es) k).num=(j:Int)+1:=by show s.next=_;rw [H.h.nx]
 have e1:(Zax (plX s t size es) k).base=(j:Int):=H.h.ak
 rw [e0] at c0
 rw [e1] at c1
 exact ⟨g,o,s.log.length,CN,cc,CA,e,hln,hl,⟨c0,c1,c2,c3⟩,hE⟩
theorem whole_base (h:SnW j cl s r) (hj:1≤j) {a b d:Int} {LA IA:Option Addr} {ln lc iN ic:Nat} {w:World} (hS:ZA w s (.agg #[.int .i64 a,.int .i64 b,.int .i64 d,.slice LA ln lc,.slice IA iN ic])) :
  ∃ (g o CN cc:Nat) (CA:Option Addr),LA=some ⟨g,o,none⟩∧ln=1∧(w.cell? ⟨g,o+2,none⟩=some (.int .i64 (bsF s).tick)∧w.cell? ⟨g,o+3,none⟩=some (.slice CA CN cc))∧Zj w CA CN cc (bsF s).es:=by
 have hL:=sndV_parts hS
 rcases h.base with ⟨h0,_⟩|⟨_,x,e,hb⟩
 ·omega
 ·rw [hb]
  rw [e] at hL
  obtain ⟨g,o,CA,CN,cc,e,⟨c0,c1,c2,c3⟩,hE⟩:=hL.at_ 0 x rfl
  rw [Nat.zero_mul,Nat.add_zero] at c2 c3
  exact ⟨g,o,CN,cc,CA,e,hL.len,⟨c2,c3⟩,hE⟩
theorem whole_count (H:Rnd j cl s r t size es) (k:Nat):(ZO (Zw (Z7 (plX s t size es) k) (Ql cl (Xa cl es) es))).length+(ZO (Zw (bsF s).es (Z7 (plX s t size es) k))).length=(ZO (Zw (bsF s).es (Ql cl (Xa cl es) es))).length ∧
  ((ZO (Zw (Z7 (plX s t size es) k) (Ql cl (Xa cl es) es))).length=0→Z7 (plX s t size es) k=Ql cl (Xa cl es) es)∧(ZO (Zw (bsF s).es (Ql cl (Xa cl es) es))).length≤24:=by
 have hg:=H.good
 obtain ⟨hv,hl,hvw⟩:=H.view
 have e:Z7 (plX s t size es) k=QT (bsF s).es (Ql cl (Xa cl es) es) (QZ (plX s t size es) k):=by rw [←hvw];rfl
 have hn:=H.next k
 refine ⟨?_,fun h=>none_left hn.1 hv h,?_⟩
 ·rw [e] at hn ⊢
  exact count_law hg.bv hv hn.1
 ·unfold ZO
  rw [List.length_map]
  have:=ZfA hg H.h.small
  exact Nat.le_trans (Zdv hg.bv hv) (by omega)
end
end
end Go.Proofs.YtlgcfimhfmgkmaaGreatDoor
