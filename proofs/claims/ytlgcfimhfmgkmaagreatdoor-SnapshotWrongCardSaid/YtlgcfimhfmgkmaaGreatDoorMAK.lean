/- Lemmas for the statement. -/
import Derived.Test.YtlgcfimhfmgkmaaGreatDoorMAI
import Derived.Test.YtlgcfimhfmgkmaaGreatDoorMAJ
import Derived.Test.YtlgcfimhfmgkmaaGreatDoorMAG
import Derived.Shelf.RegionOpenPlain
set_option linter.unusedVariables false
set_option linter.unusedSimpArgs false
set_option maxRecDepth 100000
set_option maxHeartbeats 4000000
namespace Go.Proofs.YtlgcfimhfmgkmaaGreatDoor
open Go.RowKit
section
theorem Zmr (e:Ent) (A:Option Addr) (n c:Nat) (w:World) (hT:Tabs w) (h:Zo w A n c e.cs) :
  Calls Tryz.prog 35 #[.agg #[.int .i64 e.id,.slice A n c]] w fun r w'=>r=.returned (.bool (!(Yv e)))∧Below w.heap.size w w':=by
 obtain ⟨R,eR⟩:∃ R,R=Yv e:=⟨_,rfl⟩
 obtain ⟨w1,g,e1,eg,⟨f0,f1⟩,hb⟩:=Zaa w e.id A n c
 have F:=Zmp e A n c w1 (hT.below hb) (h.below hb)
 rw [←eR] at F ⊢
 have H:=Qh hb
 clear hT h hb eR
 go_enter Tryz.func35,Tryz.ntmps35
 go_upto_region 1 with fail
 rw [←e1,←eg]
 clear e1 eg
 go_wp2_with (go_at_call 36;refine F.mono ?_;rintro r w2 ⟨rfl,hb2⟩;have H2:=Qh hb2;clear hb2)
 go_ret
 exact ⟨rfl,H.out.trans (H2.out.mono H.out.size)⟩
theorem Zms  (A:Option Addr) (n cap:Nat) (l:List Ent) (w:World) (h:Zj w A n cap l) (hT:Tabs w) :
  Calls Tryz.prog 83 #[.slice A n cap,.func (.func 35) #[] #[]] w fun e w'=>∃ k:Int,e=.returned (.int .i64 k)∧Xd (fun e=>!(Yv e)) l k∧Below w.heap.size w w':=by
 have H:=Qh (Qi h hT)
 clear h hT
 go_enter Tryz.func83,Tryz.ntmps83
 go_wp2_with fail
 go_loopg [8] n (fun gh iv wr=>∃ j:Nat,gh+j=n∧(∀ (i:Nat) y,i<j→l[i]?=some y→(fun e=>!(Yv e)) y=false)∧iv=.int .i64 (j:Nat)∧Below w.heap.size w wr)
 case atStart=>exact ⟨0,rfl,fun i y h=>by omega,rfl,Below.refl _ _⟩
 case round=>
  obtain ⟨j,hg,hall,rfl,hW⟩:=hrel
  obtain ⟨W,eW⟩:∃ W,W=wr:=⟨_,rfl⟩
  rw [←eW] at hW ⊢
  clear eW
  have h:=H.out.1
  have hlen:=h.len
  have hlim:=h.lim
  by_cases hlt:j<n
  ·obtain ⟨x,hx⟩:∃ x,l[j]?=some x:=⟨_,List.getElem?_eq_getElem (by omega)⟩
   have i0:(0:Int)≤(j:Int):=by omega
   have i1:(j:Int)<(n:Int):=by omega
   have i2:decide (j<n)=true:=decide_eq_true hlt
   have w2:wrap64 ((j:Int)+1)=(j:Int)+1:=Zn _ (by omega) (by omega)
   obtain ⟨R,eR⟩:∃ R,R=(fun e=>!(Yv e)) x:=⟨_,rfl⟩
   obtain ⟨b,o,CA,cn,cc,rfl,⟨c0,c1⟩,hr⟩:=h.at_ j x hx
   have c0:=(Zm (hW.block b (Zc c0)) _).trans c0
   have c1:=(Zm (hW.block b (Zc c1)) _).trans c1
   have hr:=hr.below hW
   have F:Calls Tryz.prog 35 #[.agg #[.int .i64 x.id,.slice CA cn cc]] W fun e w'=>e=.returned (.bool R)∧Below W.heap.size W w':=by rw [eR];exact Zmr x CA cn cc W (H.out.2.below hW) hr
   have HX:=Qh (Qi hx (Qi hlt (Qi hg (Qi hall (Qi hW eR)))))
   clear hx hlt hg hall hW eR h hlen hlim
   rcases R with _ | _
   ·go_wp2_with (go_at_call 35;refine F.mono ?_;rintro e w3 ⟨rfl,hb3⟩;have H3:=Qh hb3;clear hb3)
    exact Tq3
   ·go_wp2_with (go_at_call 35;refine F.mono ?_;rintro e w3 ⟨rfl,hb3⟩;have H3:=Qh hb3;clear hb3)
    exact Tq12
  ·exact Tq4
theorem Zmt  (A:Option Addr) (n cap:Nat) (l:List Ent) (w:World) (h:Zj w A n cap l) (hT:Tabs w) :
  Calls Tryz.prog 34 #[.slice A n cap,.func (.func 35) #[] #[]] w fun e w'=>e=.returned (.bool (l.any (fun e=>!(Yv e))))∧Below w.heap.size w w':=by
 have I:=Zms A n cap l w h hT
 obtain ⟨R,eR⟩:∃ R,R=l.any (fun e=>!(Yv e)):=⟨_,rfl⟩
 rw [←eR]
 have HR:=Qh eR
 clear eR h hT
 go_enter Tryz.func34,Tryz.ntmps34
 go_wp2_with (go_at_call 83;refine I.mono ?_;rintro e w2 ⟨k,rfl,hk,hb2⟩;have H2:=Qh (Qi hk hb2);clear hk hb2)
 go_ret
 exact ⟨by rw [HR.out,←H2.out.1.any];rfl,H2.out.2⟩
def Zl (t:Int) (es:List Ent):Bool:=(decide (0≤t)&&decide (t≤1073741824))&&decide (es.length≤64)&&Xt (es.map Ent.id)&&!(es.any fun e=>!(Yv e))
theorem ZgO (w:World) (t:Int) (A:Option Addr) (n c:Nat):∃ W g,W=w.alloc (.cells #[.int .i64 t,.slice A n c] 24 (0,0))∧g=w.heap.size∧(W.cell? ⟨g,0,none⟩=some (.int .i64 t)∧W.cell? ⟨g,1,none⟩=some (.slice A n c))∧Below w.heap.size w W:=by
 exact Tq77
theorem Qd (t:Int) (A:Option Addr) (n c:Nat) (es:List Ent) (w:World) (hT:Tabs w) (h:Zj w A n c es) :
  Calls Tryz.prog 9 #[.agg #[.int .i64 t,.slice A n c]] w fun r w'=>r=.returned (.bool (Zl t es))∧Below w.heap.size w w':=by
 obtain ⟨w1,g,e1,eg,⟨f0,f1⟩,hb⟩:=ZgO w t A n c
 have h1:Zj w1 A n c es:=h.below hb
 have S1:=Zmq A n c es w1 h1
 have S2:=fun W (hW:Below w1.heap.size w1 W)=>Zmt A n c es W (h1.below hW) ((hT.below hb).below hW)
 obtain ⟨R,eR⟩:∃ R,R=Zl t es:=⟨_,rfl⟩
 obtain ⟨P1,eP1⟩:∃ P,P=Xt (es.map Ent.id):=⟨_,rfl⟩
 obtain ⟨P2,eP2⟩:∃ P,P=es.any (fun e=>!(Yv e)):=⟨_,rfl⟩
 have eR2:R=((decide (0≤t)&&decide (t≤1073741824))&&decide (n≤64)&&P1&&!P2):=by rw [eR,eP1,eP2,h.len];rfl
 rw [←eP1] at S1
 rw [←eP2] at S2
 rw [←eR]
 have H:=Qh (Qi hb (Qi eR2 S2))
 clear hb h h1 hT eR eR2 S2 eP1 eP2
 rcases q1:decide (0≤t) with _ | _
 ·go_enter Tryz.func9,Tryz.ntmps9
  go_upto_region 1 with fail
  rw [←e1,←eg]
  clear e1 eg
  go_wp2_with fail
  go_ret
  exact ⟨by rw [H.out.2.1,q1];rfl,H.out.1⟩
 rcases q2:decide (t≤1073741824) with _ | _
 ·go_enter Tryz.func9,Tryz.ntmps9
  exact Tq91
 rcases q3:decide (n≤64) with _ | _
 ·have q3':decide ((n:Int)≤64)=false:=decide_eq_false (by have:=of_decide_eq_false q3;omega)
  go_enter Tryz.func9,Tryz.ntmps9
  go_upto_region 1 with fail
  rw [←e1,←eg]
  clear e1 eg
  go_wp2_with fail
  go_ret
  exact ⟨by rw [H.out.2.1,q1,q2,q3];rfl,H.out.1⟩
 have q3':decide ((n:Int)≤64)=true:=decide_eq_true (by have:=of_decide_eq_true q3;omega)
 rcases P1 with _ | _
 ·go_enter Tryz.func9,Tryz.ntmps9
  go_upto_region 1 with fail
  rw [←e1,←eg]
  clear e1 eg
  go_wp2_with (go_at_call 32;refine S1.mono ?_;rintro e w2 ⟨rfl,hb2⟩;have H2:=Qh hb2;clear hb2)
  go_ret
  exact ⟨by rw [H.out.2.1,q1,q2,q3];rfl,H.out.1.trans (H2.out.mono H.out.1.size)⟩
 ·go_enter Tryz.func9,Tryz.ntmps9
  go_upto_region 1 with fail
  rw [←e1,←eg]
  clear e1 eg
  go_wp2_with (first
   | (go_at_call 32;refine S1.mono ?_;rintro e w2 ⟨rfl,hb2⟩;have g1:=(hb2.cell (Zc f1)).trans f1;have S3:=H.out.2.2 w2 hb2;have H2:=Qh hb2;clear hb2 S1 f0 f1)
   | (go_at_call 34;refine S3.mono ?_;rintro e w3 ⟨rfl,hb3⟩;have H3:=Qh hb3;clear hb3 S3))
  go_ret
  exact ⟨by rw [H.out.2.1,q1,q2,q3];rfl,H.out.1.trans ((H2.out.trans (H3.out.mono H2.out.size)).mono H.out.1.size)⟩
end
end Go.Proofs.YtlgcfimhfmgkmaaGreatDoor
namespace Go.Proofs.YtlgcfimhfmgkmaaGreatDoor
open Go.RowKit
section
theorem Zbp (w:World) (a b c:Obj):(((w.alloc a).alloc b).alloc c).heap[w.heap.size]?=some a:=(Below.heap_alloc _ _ _ (by simp<;>omega)).trans (ZZ w a b)
theorem Zbq (w:World) (a b c:Obj):(((w.alloc a).alloc b).alloc c).heap[w.heap.size+1]?=some b:=(Below.heap_alloc _ _ _ (by simp)).trans (Z0 w a b)
theorem ZaQ (w:World) (a b c:Obj):(((w.alloc a).alloc b).alloc c).heap[w.heap.size+1+1]?=some c:=by
 have:=heap_alloc_new ((w.alloc a).alloc b) c
 simpa using this
theorem Zg (w:World) (a:Obj):Below w.heap.size w (w.alloc a):=(Below.refl _ w).alloc (Nat.le_refl _) _
theorem ZQ (w:World) (a b:Obj):Below w.heap.size w ((w.alloc a).alloc b):=(Zg w a).trans ((Zg _ b).mono (by simp))
theorem Zab (w:World) (a b c:Obj):Below w.heap.size w (((w.alloc a).alloc b).alloc c):=(ZQ w a b).trans ((Zg _ c).mono (by simp<;>omega))
theorem Za {w:World} {g:Nat} {cs:Array Value} {T:TypeId} (h:w.heap[g]?=some (.cells cs T (0,0))) (i:Nat) (v:Value) (hv:cs[i]?=some v):w.cell? ⟨g,i,none⟩=some v:=(cell_of_block h i).trans hv
theorem cs2 {w:World} {g:Nat} {cs:Array Value} {a b:Value} {T:TypeId} (h:w.heap[g]?=some (.cells cs T (0,0))) (h0:cs[0]?=some a:=by rfl) (h1:cs[1]?=some b:=by rfl):w.cell? ⟨g,0,none⟩=some a∧w.cell? ⟨g,1,none⟩=some b:=⟨Za h 0 _ h0,Za h 1 _ h1⟩
theorem cs3 {w:World} {g:Nat} {cs:Array Value} {a b c:Value} {T:TypeId} (h:w.heap[g]?=some (.cells cs T (0,0))) (h0:cs[0]?=some a:=by rfl) (h1:cs[1]?=some b:=by rfl) (h2:cs[2]?=some c:=by rfl):w.cell? ⟨g,0,none⟩=some a∧w.cell? ⟨g,1,none⟩=some b∧w.cell? ⟨g,2,none⟩=some c:=⟨Za h 0 _ h0,Za h 1 _ h1,Za h 2 _ h2⟩
theorem cs4 {w:World} {g:Nat} {cs:Array Value} {a b c d:Value} {T:TypeId} (h:w.heap[g]?=some (.cells cs T (0,0))) (h0:cs[0]?=some a:=by rfl) (h1:cs[1]?=some b:=by rfl) (h2:cs[2]?=some c:=by rfl) (h3:cs[3]?=some d:=by rfl):w.cell? ⟨g,0,none⟩=some a∧w.cell? ⟨g,1,none⟩=some b∧w.cell? ⟨g,2,none⟩=some c∧w.cell? ⟨g,3,none⟩=some d:=⟨Za h 0 _ h0,Za h 1 _ h1,Za h 2 _ h2,Za h 3 _ h3⟩
theorem cs5 {w:World} {g:Nat} {cs:Array Value} {a b c d e:Value} {T:TypeId} (h:w.heap[g]?=some (.cells cs T (0,0))) (h0:cs[0]?=some a:=by rfl) (h1:cs[1]?=some b:=by rfl) (h2:cs[2]?=some c:=by rfl) (h3:cs[3]?=some d:=by rfl) (h4:cs[4]?=some e:=by rfl):w.cell? ⟨g,0,none⟩=some a∧w.cell? ⟨g,1,none⟩=some b∧w.cell? ⟨g,2,none⟩=some c∧w.cell? ⟨g,3,none⟩=some d∧w.cell? ⟨g,4,none⟩=some e:=⟨Za h 0 _ h0,Za h 1 _ h1,Za h 2 _ h2,Za h 3 _ h3,Za h 4 _ h4⟩
theorem ce5 {w:World} {g:Nat} {a b c d e:Value} {T:TypeId} (h:w.heap[g]?=some (.cells #[a,b,c,d,e] T (0,0))):w.cell? ⟨g,0,none⟩=some a∧w.cell? ⟨g,1,none⟩=some b∧w.cell? ⟨g,2,none⟩=some c∧w.cell? ⟨g,3,none⟩=some d∧w.cell? ⟨g,4,none⟩=some e:=⟨Za h 0 _ rfl,Za h 1 _ rfl,Za h 2 _ rfl,Za h 3 _ rfl,Za h 4 _ rfl⟩
theorem fb5 {w:World} {g:Nat} {cs:Array Value} {T:TypeId} (h:w.heap[g]?=some (.cells cs T (0,0))):w.frozen? ⟨g,0,none⟩=false∧w.frozen? ⟨g,1,none⟩=false∧w.frozen? ⟨g,2,none⟩=false∧w.frozen? ⟨g,3,none⟩=false∧w.frozen? ⟨g,4,none⟩=false:=⟨Zd h 0,Zd h 1,Zd h 2,Zd h 3,Zd h 4⟩
theorem nm1 (w:World) (o:Obj):∃ W q,W=w.alloc o∧q=w.heap.size∧Below w.heap.size w W∧W.heap[q]?=some o:=⟨_,_,rfl,rfl,Zg w _,heap_alloc_new w _⟩
theorem nm2 (w:World) (a b:Obj):∃ W q,W=(w.alloc a).alloc b∧q=w.heap.size∧Below w.heap.size w W∧W.heap[q]?=some a∧W.heap[q+1]?=some b:=⟨_,_,rfl,rfl,ZQ w _ _,ZZ w _ _,Z0 w _ _⟩
theorem cr2 {w w':World} {a0 a1:Addr} {v0 v1:Value} (hb:Below w.heap.size w w') (h:w.cell? a0=some v0∧w.cell? a1=some v1):w'.cell? a0=some v0∧w'.cell? a1=some v1:=⟨(hb.cell (World.block_lt_of_cell? w _ h.1)).trans (h.1),(hb.cell (World.block_lt_of_cell? w _ h.2)).trans (h.2)⟩
theorem cr3 {w w':World} {a0 a1 a2:Addr} {v0 v1 v2:Value} (hb:Below w.heap.size w w') (h:w.cell? a0=some v0∧w.cell? a1=some v1∧w.cell? a2=some v2):w'.cell? a0=some v0∧w'.cell? a1=some v1∧w'.cell? a2=some v2:=⟨(hb.cell (World.block_lt_of_cell? w _ h.1)).trans (h.1),(hb.cell (World.block_lt_of_cell? w _ h.2.1)).trans (h.2.1),(hb.cell (World.block_lt_of_cell? w _ h.2.2)).trans (h.2.2)⟩
theorem cr4 {w w':World} {a0 a1 a2 a3:Addr} {v0 v1 v2 v3:Value} (hb:Below w.heap.size w w') (h:w.cell? a0=some v0∧w.cell? a1=some v1∧w.cell? a2=some v2∧w.cell? a3=some v3):w'.cell? a0=some v0∧w'.cell? a1=some v1∧w'.cell? a2=some v2∧w'.cell? a3=some v3:=⟨(hb.cell (World.block_lt_of_cell? w _ h.1)).trans (h.1),(hb.cell (World.block_lt_of_cell? w _ h.2.1)).trans (h.2.1),(hb.cell (World.block_lt_of_cell? w _ h.2.2.1)).trans (h.2.2.1),(hb.cell (World.block_lt_of_cell? w _ h.2.2.2)).trans (h.2.2.2)⟩
theorem cr5 {w w':World} {a0 a1 a2 a3 a4:Addr} {v0 v1 v2 v3 v4:Value} (hb:Below w.heap.size w w') (h:w.cell? a0=some v0∧w.cell? a1=some v1∧w.cell? a2=some v2∧w.cell? a3=some v3∧w.cell? a4=some v4):w'.cell? a0=some v0∧w'.cell? a1=some v1∧w'.cell? a2=some v2∧w'.cell? a3=some v3∧w'.cell? a4=some v4:=⟨(hb.cell (World.block_lt_of_cell? w _ h.1)).trans (h.1),(hb.cell (World.block_lt_of_cell? w _ h.2.1)).trans (h.2.1),(hb.cell (World.block_lt_of_cell? w _ h.2.2.1)).trans (h.2.2.1),(hb.cell (World.block_lt_of_cell? w _ h.2.2.2.1)).trans (h.2.2.2.1),(hb.cell (World.block_lt_of_cell? w _ h.2.2.2.2)).trans (h.2.2.2.2)⟩
theorem cr7 {w w':World} {a0 a1 a2 a3 a4 a5 a6:Addr} {v0 v1 v2 v3 v4 v5 v6:Value} (hb:Below w.heap.size w w') (h:w.cell? a0=some v0∧w.cell? a1=some v1∧w.cell? a2=some v2∧w.cell? a3=some v3∧w.cell? a4=some v4∧w.cell? a5=some v5∧w.cell? a6=some v6):w'.cell? a0=some v0∧w'.cell? a1=some v1∧w'.cell? a2=some v2∧w'.cell? a3=some v3∧w'.cell? a4=some v4∧w'.cell? a5=some v5∧w'.cell? a6=some v6:=⟨(hb.cell (World.block_lt_of_cell? w _ h.1)).trans (h.1),(hb.cell (World.block_lt_of_cell? w _ h.2.1)).trans (h.2.1),(hb.cell (World.block_lt_of_cell? w _ h.2.2.1)).trans (h.2.2.1),(hb.cell (World.block_lt_of_cell? w _ h.2.2.2.1)).trans (h.2.2.2.1),(hb.cell (World.block_lt_of_cell? w _ h.2.2.2.2.1)).trans (h.2.2.2.2.1),(hb.cell (World.block_lt_of_cell? w _ h.2.2.2.2.2.1)).trans (h.2.2.2.2.2.1),(hb.cell (World.block_lt_of_cell? w _ h.2.2.2.2.2.2)).trans (h.2.2.2.2.2.2)⟩
theorem Zmu {w w':World} {a0 a1 a2 a3 a4 a5 a6 a7 a8 a9:Addr} {v0 v1 v2 v3 v4 v5 v6 v7 v8 v9:Value} (hb:Below w.heap.size w w') (h:w.cell? a0=some v0∧w.cell? a1=some v1∧w.cell? a2=some v2∧w.cell? a3=some v3∧w.cell? a4=some v4∧w.cell? a5=some v5∧w.cell? a6=some v6∧w.cell? a7=some v7∧w.cell? a8=some v8∧w.cell? a9=some v9):w'.cell? a0=some v0∧w'.cell? a1=some v1∧w'.cell? a2=some v2∧w'.cell? a3=some v3∧w'.cell? a4=some v4∧w'.cell? a5=some v5∧w'.cell? a6=some v6∧w'.cell? a7=some v7∧w'.cell? a8=some v8∧w'.cell? a9=some v9:=⟨(hb.cell (World.block_lt_of_cell? w _ h.1)).trans (h.1),(hb.cell (World.block_lt_of_cell? w _ h.2.1)).trans (h.2.1),(hb.cell (World.block_lt_of_cell? w _ h.2.2.1)).trans (h.2.2.1),(hb.cell (World.block_lt_of_cell? w _ h.2.2.2.1)).trans (h.2.2.2.1),(hb.cell (World.block_lt_of_cell? w _ h.2.2.2.2.1)).trans (h.2.2.2.2.1),(hb.cell (World.block_lt_of_cell? w _ h.2.2.2.2.2.1)).trans (h.2.2.2.2.2.1),(hb.cell (World.block_lt_of_cell? w _ h.2.2.2.2.2.2.1)).trans (h.2.2.2.2.2.2.1),(hb.cell (World.block_lt_of_cell? w _ h.2.2.2.2.2.2.2.1)).trans (h.2.2.2.2.2.2.2.1),(hb.cell (World.block_lt_of_cell? w _ h.2.2.2.2.2.2.2.2.1)).trans (h.2.2.2.2.2.2.2.2.1),(hb.cell (World.block_lt_of_cell? w _ h.2.2.2.2.2.2.2.2.2)).trans (h.2.2.2.2.2.2.2.2.2)⟩
def put2 (w:World) (g:Nat) (a b:Value):World:=(w.setCell ⟨g,0,none⟩ a).setCell ⟨g,1,none⟩ b
theorem YE (w:World) (g:Nat) (a b:Value) {q:Nat} (hq:q≠g):(put2 w g a b).heap[q]?=w.heap[q]?:=by
 unfold put2
 rw [Below.heap_setCell _ _ _ _ hq,Below.heap_setCell _ _ _ _ hq]
theorem Yw {w:World} {g:Nat} {x y:Value} {T:TypeId} (a b:Value) (h:w.heap[g]?=some (.cells #[x,y] T (0,0))):(put2 w g a b).heap[g]?=some (.cells #[a,b] T (0,0)):=by
 unfold put2
 exact block_setCell (block_setCell h 0 _) 1 _
theorem YB {B:Nat} {w w':World} {g:Nat} (a b:Value) (h:Below B w w') (hg:B≤g):Below B w (put2 w' g a b):=by
 unfold put2
 exact (h.setCell (p:=⟨g,0,none⟩) hg _).setCell (p:=⟨g,1,none⟩) hg _
def JE (w:World) (g:Nat) (a b c d:Value):World:=(((w.setCell ⟨g,0,none⟩ a).setCell ⟨g,1,none⟩ b).setCell ⟨g,2,none⟩ c).setCell ⟨g,3,none⟩ d
theorem ZgP (w:World) (g:Nat) (a b c d:Value) {q:Nat} (hq:q≠g):(JE w g a b c d).heap[q]?=w.heap[q]?:=by
 unfold JE
 rw [Below.heap_setCell _ _ _ _ hq,Below.heap_setCell _ _ _ _ hq,Below.heap_setCell _ _ _ _ hq,Below.heap_setCell _ _ _ _ hq]
theorem Zac {w:World} {g:Nat} {x y z u:Value} {T:TypeId} (a b c d:Value) (h:w.heap[g]?=some (.cells #[x,y,z,u] T (0,0))):(JE w g a b c d).heap[g]?=some (.cells #[a,b,c,d] T (0,0)):=by
 unfold JE
 exact block_setCell (block_setCell (block_setCell (block_setCell h 0 _) 1 _) 2 _) 3 _
theorem Jp {B:Nat} {w w':World} {g:Nat} (a b c d:Value) (h:Below B w w') (hg:B≤g):Below B w (JE w' g a b c d):=by
 unfold JE
 exact (((h.setCell (p:=⟨g,0,none⟩) hg _).setCell (p:=⟨g,1,none⟩) hg _).setCell (p:=⟨g,2,none⟩) hg _).setCell (p:=⟨g,3,none⟩) hg _
theorem ZgQ {fn:Func} {p u:Tmp} (h:fn.results=#[.cell p 73,.tmp u]) (tmps:Array Value) (w:World) (g:Nat) (cs:Array Value) (hn:cs.size=4)
  (hp:tmps.getD p undef=.pointer (some ⟨g,0,none⟩)) (hg:w.heap[g]?=some (.cells cs 73 (0,0))) :
  (results fn tmps).run Tryz.prog w=.ok (.tuple #[.agg cs,tmps.getD u undef]) w:=by
 have hp':tmps[p]?.getD undef=.pointer (some ⟨g,0,none⟩):=by simpa using hp
 have hi:(Tryz.prog.info? 73).map (·.size)=some cs.size:=by rw [hn];kernel_rfl
 have hl:=run_loadVar_row (P:=Tryz.prog) w g 73 73 cs (0,0) _ hg Tryz.underlying73 rfl hi
 simp [results,h,hp',asAddr,hl]
theorem ZcZ {fn:Func} {p u:Tmp} (h:fn.results=#[.cell p 152,.tmp u]) (tmps:Array Value) (w:World) (g:Nat) (cs:Array Value) (hn:cs.size=2)
  (hp:tmps.getD p undef=.pointer (some ⟨g,0,none⟩)) (hg:w.heap[g]?=some (.cells cs 152 (0,0))) :
  (results fn tmps).run Tryz.prog w=.ok (.tuple #[.agg cs,tmps.getD u undef]) w:=by
 have hp':tmps[p]?.getD undef=.pointer (some ⟨g,0,none⟩):=by simpa using hp
 have hi:(Tryz.prog.info? 152).map (·.size)=some cs.size:=by rw [hn];kernel_rfl
 have hl:=run_loadVar_row (P:=Tryz.prog) w g 152 152 cs (0,0) _ hg Tryz.underlying152 rfl hi
 simp [results,h,hp',asAddr,hl]
theorem Zmv {fn:Func} {p u:Tmp} (h:fn.results=#[.cell p 93,.tmp u]) (tmps:Array Value) (w:World) (g:Nat) (cs:Array Value) (hn:cs.size=2)
  (hp:tmps.getD p undef=.pointer (some ⟨g,0,none⟩)) (hg:w.heap[g]?=some (.cells cs 93 (0,0))) :
  (results fn tmps).run Tryz.prog w=.ok (.tuple #[.agg cs,tmps.getD u undef]) w:=by
 have hp':tmps[p]?.getD undef=.pointer (some ⟨g,0,none⟩):=by simpa using hp
 have hi:(Tryz.prog.info? 93).map (·.size)=some cs.size:=by rw [hn];kernel_rfl
 have hl:=run_loadVar_row (P:=Tryz.prog) w g 93 93 cs (0,0) _ hg Tryz.underlying93 rfl hi
 simp [results,h,hp',asAddr,hl]
theorem Zeo {fn:Func} {p u:Tmp} (h:fn.results=#[.cell p 24,.tmp u]) (tmps:Array Value) (w:World) (g:Nat) (cs:Array Value) (hn:cs.size=2)
  (hp:tmps.getD p undef=.pointer (some ⟨g,0,none⟩)) (hg:w.heap[g]?=some (.cells cs 24 (0,0))) :
  (results fn tmps).run Tryz.prog w=.ok (.tuple #[.agg cs,tmps.getD u undef]) w:=by
 have hp':tmps[p]?.getD undef=.pointer (some ⟨g,0,none⟩):=by simpa using hp
 have hi:(Tryz.prog.info? 24).map (·.size)=some cs.size:=by rw [hn];kernel_rfl
 have hl:=run_loadVar_row (P:=Tryz.prog) w g 24 24 cs (0,0) _ hg Tryz.underlying24 rfl hi
 simp [results,h,hp',asAddr,hl]
theorem Zmw (x:Cmp) (k kb:Nat) (w:World) (hkb:w.cell? ⟨kb,0,none⟩=some (.int .u8 (k:Nat))) :
  Calls Tryz.prog 151 #[x.agg,.pointer (some ⟨kb,0,none⟩)] w fun e w'=>e=.returned (.bool (decide (x.kind=k)))∧Below w.heap.size w w':=by
 obtain ⟨w1,e1⟩:∃ w1,w1=w.alloc (.cells #[.int .u8 (x.kind:Nat),.int .i64 x.v0,.int .i64 x.v1,.int .i64 x.v2,.int .i64 x.v3] 75 (0,0)):=⟨_,rfl⟩
 obtain ⟨g,eg⟩:∃ g,g=w.heap.size:=⟨_,rfl⟩
 have hb:Below w.heap.size w w1:=by rw [e1];exact (Below.refl _ w).alloc (Nat.le_refl _) _
 have hg:w1.heap[g]?=some (.cells #[.int .u8 (x.kind:Nat),.int .i64 x.v0,.int .i64 x.v1,.int .i64 x.v2,.int .i64 x.v3] 75 (0,0)):=by rw [e1,eg];exact heap_alloc_new w _
 obtain ⟨f0,f1,f2,f3,f4⟩:=QM hg
 have hkb:=(hb.cell (Zc hkb)).trans hkb
 have hd:((x.kind:Int)==(k:Int))=decide (x.kind=k):=by rw [Bool.eq_iff_iff,beq_iff_eq,decide_eq_true_iff];omega
 obtain ⟨R,eR⟩:∃ R,R=decide (x.kind=k):=⟨_,rfl⟩
 rw [←eR] at hd ⊢
 have H:=Qh hb
 clear hb hg eR
 unfold Cmp.agg
 go_enter Tryz.func151,Tryz.ntmps151
 go_upto_region 1 with fail
 rw [←e1,←eg]
 clear e1 eg
 go_wp2_with fail
 go_ret
 exact ⟨rfl,H.out⟩
theorem Zmx (kd kb:Nat) (A:Option Addr) (n cap:Nat) (l:List Cmp) (w:World) (h:Zo w A n cap l) (hkb:w.cell? ⟨kb,0,none⟩=some (.int .u8 (kd:Nat))) :
  Calls Tryz.prog 150 #[.slice A n cap,.func (.func 151) #[] #[.pointer (some ⟨kb,0,none⟩)]] w fun e w'=>∃ k:Int,e=.returned (.int .i64 k)∧Xd (fun c=>decide (c.kind=kd)) l k∧Below w.heap.size w w':=by
 have H:=Qh (Qi h hkb)
 clear h hkb
 go_enter Tryz.func150,Tryz.ntmps150
 go_wp2_with fail
 go_loopg [8] n (fun gh iv wr=>∃ j:Nat,gh+j=n∧(∀ (i:Nat) y,i<j→l[i]?=some y→(fun c=>decide (c.kind=kd)) y=false)∧iv=.int .i64 (j:Nat)∧Below w.heap.size w wr)
 case atStart=>exact ⟨0,rfl,fun i y h=>by omega,rfl,Below.refl _ _⟩
 case round=>
  obtain ⟨j,hg,hall,rfl,hW⟩:=hrel
  obtain ⟨W,eW⟩:∃ W,W=wr:=⟨_,rfl⟩
  rw [←eW] at hW ⊢
  clear eW
  have h:=H.out.1
  have hlen:=h.len
  have hlim:=h.lim
  by_cases hlt:j<n
  ·obtain ⟨x,hx⟩:∃ x,l[j]?=some x:=⟨_,List.getElem?_eq_getElem (by omega)⟩
   have i0:(0:Int)≤(j:Int):=by omega
   have i1:(j:Int)<(n:Int):=by omega
   have i2:decide (j<n)=true:=decide_eq_true hlt
   have w2:wrap64 ((j:Int)+1)=(j:Int)+1:=Zn _ (by omega) (by omega)
   obtain ⟨R,eR⟩:∃ R,R=(fun c=>decide (c.kind=kd)) x:=⟨_,rfl⟩
   obtain ⟨b,o,rfl,hc⟩:=h.at_ j x hx
   obtain ⟨c0,c1,c2,c3,c4⟩:=hc.step (hW.block b (Zc hc.c0))
   have hkx:=h.kind x (List.mem_of_getElem? hx)
   have F:Calls Tryz.prog 151 #[.agg #[.int .u8 (x.kind:Nat),.int .i64 x.v0,.int .i64 x.v1,.int .i64 x.v2,.int .i64 x.v3],.pointer (some ⟨kb,0,none⟩)] W fun e w'=>e=.returned (.bool R)∧Below W.heap.size W w':=by rw [eR];exact Zmw x kd kb W ((Zm (hW.block kb (Zc H.out.2)) _).trans H.out.2)
   have HX:=Qh (Qi hx (Qi hlt (Qi hg (Qi hall (Qi hW eR)))))
   clear hx hlt hg hall hW eR h hlen hlim
   rcases R with _ | _
   ·go_wp2_with (go_at_call 151;refine F.mono ?_;rintro e w3 ⟨rfl,hb3⟩;have H3:=Qh hb3;clear hb3)
    exact Tq3
   ·go_wp2_with (go_at_call 151;refine F.mono ?_;rintro e w3 ⟨rfl,hb3⟩;have H3:=Qh hb3;clear hb3)
    exact Tq12
  ·exact Tq4
def ZC (k:Nat) (cs:List Cmp):Option Cmp:=cs.find? (fun c=>decide (c.kind=k))
def Cmp.arr (c:Cmp):Value:=.agg #[.int .i64 c.v0,.int .i64 c.v1,.int .i64 c.v2,.int .i64 c.v3]
def ZgR:Option Cmp→Value
 | none=>.agg #[.int .i64 0,.int .i64 0,.int .i64 0,.int .i64 0]
 | some c=>c.arr
theorem Xd.find {p:Cmp→Bool} {l:List Cmp} {k:Int} (h:Xd p l k):(∃ (j:Nat) (x:Cmp),k=((j:Nat):Int)∧l[j]?=some x∧l.find? p=some x)∨(k=-1∧l.find? p=none):=by
 rcases h with ⟨j,x,rfl,hx,hp,hall⟩|⟨rfl,h⟩
 ·refine Or.inl ⟨j,x,rfl,hx,?_⟩
  rw [List.find?_eq_some_iff_getElem]
  obtain ⟨hj,hx⟩:=List.getElem?_eq_some_iff.1 hx
  exact ⟨hp,j,hj,hx,fun i hi=>by rw [hall i _ hi (List.getElem?_eq_getElem (by omega))];rfl⟩
 ·exact Or.inr ⟨rfl,List.find?_eq_none.2 (fun y hy=>by rw [h y hy];simp)⟩
theorem Zep (id:Int) (A:Option Addr) (n c:Nat) (cs:List Cmp) (k:Nat) (w:World) (h:Zo w A n c cs) :
  Calls Tryz.prog 90 #[.agg #[.int .i64 id,.slice A n c],.int .u8 (k:Nat)] w fun r w'=>r=.returned (.tuple #[ZgR (ZC k cs),.bool (ZC k cs).isSome])∧Below w.heap.size w w':=by
 obtain ⟨w1,e1⟩:∃ W,W=((w.alloc (.cells #[.int .i64 id,.slice A n c] 157 (0,0))).alloc (.cells #[.int .u8 (k:Nat)] 5 (0,0))).alloc (.cells #[.int .i64 0,.int .i64 0,.int .i64 0,.int .i64 0] 73 (0,0)):=⟨_,rfl⟩
 obtain ⟨g,eg⟩:∃ g,g=w.heap.size:=⟨_,rfl⟩
 have hb:Below w.heap.size w w1:=by rw [e1];exact Zab w _ _ _
 have hg0:w1.heap[g]?=some (.cells #[.int .i64 id,.slice A n c] 157 (0,0)):=by rw [e1,eg];exact Zbp w _ _ _
 have hg1:w1.heap[g+1]?=some (.cells #[.int .u8 (k:Nat)] 5 (0,0)):=by rw [e1,eg];exact Zbq w _ _ _
 have hg2:w1.heap[g+1+1]?=some (.cells #[.int .i64 0,.int .i64 0,.int .i64 0,.int .i64 0] 73 (0,0)):=by rw [e1,eg];exact ZaQ w _ _ _
 obtain ⟨f0,f1⟩:=cs2 hg0
 have f2:w1.cell? ⟨g+1,0,none⟩=some (.int .u8 (k:Nat)):=Za hg1 0 _ rfl
 have h1:Zo w1 A n c cs:=h.below hb
 have F:=Zmx k (g+1) A n c cs w1 h1 f2
 obtain ⟨R,eR⟩:∃ R,R=ZC k cs:=⟨_,rfl⟩
 rw [←eR]
 have H:=Qh (Qi hb (Qi eR (Qi h1 hg2)))
 have HG:=Qh eg
 clear hb h h1 hg0 hg1 hg2 eR
 go_enter Tryz.func90,Tryz.ntmps90
 go_upto_region 1 with fail
 rw [←e1,←eg]
 clear e1 eg
 go_upto_region 2 with (go_at_call 150;refine F.mono ?_;rintro e w2 ⟨kk,rfl,hk,hb2⟩;have H2:=Qh (Qi hk hb2);clear hk hb2)
 have g1:=(H2.out.2.cell (Zc f1)).trans f1
 have hg2:=(H2.out.2.block _ (Zh H.out.2.2.2)).trans H.out.2.2.2
 obtain ⟨r0,r1,r2,r3,s0,s1,s2,s3⟩:=ZlV hg2
 rcases Xd.find H2.out.1 with ⟨j,x,rfl,hx,hf⟩|⟨rfl,hf⟩
 ·have h:=H.out.2.2.1.below H2.out.2
  have hlen:=h.len
  have hlim:=h.lim
  obtain ⟨hj,-⟩:=List.getElem?_eq_some_iff.1 hx
  have i0:(0:Int)≤(j:Int):=by omega
  have i1:(j:Int)<(n:Int):=by omega
  have i3:decide ((j:Int)<0)=false:=decide_eq_false (by omega)
  have i4:((j:Int)).toNat=j:=rfl
  obtain ⟨b,o,rfl,hc⟩:=h.at_ j x hx
  obtain ⟨c0,c1,c2,c3,c4⟩:=hc
  have HR:R=some x:=H.out.2.1.trans hf
  subst HR
  have HX:=Qh (Qi h hg2)
  clear h hg2 hf hx hlen hlim
  go_wp2_with fail
  refine bodyPost_ret (ZgQ rfl _ _ (g+1+1) _ rfl rfl (Zac (.int .i64 x.v0) (.int .i64 x.v1) (.int .i64 x.v2) (.int .i64 x.v3) HX.out.2)) rfl ?_
  exact ⟨rfl,Jp _ _ _ _ (H.out.1.trans (H2.out.2.mono H.out.1.size)) (by have:=HG.out;omega)⟩
 ·have HR:R=none:=H.out.2.1.trans hf
  subst HR
  go_wp2_with fail
  refine bodyPost_ret (ZgQ rfl _ _ (g+1+1) _ rfl rfl (Zac (.int .i64 0) (.int .i64 0) (.int .i64 0) (.int .i64 0) hg2)) rfl ?_
  exact ⟨rfl,Jp _ _ _ _ (H.out.1.trans (H2.out.2.mono H.out.1.size)) (by have:=HG.out;omega)⟩
end
end Go.Proofs.YtlgcfimhfmgkmaaGreatDoor
namespace Go.Proofs.YtlgcfimhfmgkmaaGreatDoor
open Go.RowKit
section
def Zp (n:Int):Nat:=(n+1).toNat
def ZH (n:Int):Nat:=20+3*(n+3).toNat
def dsz (j:Nat):Nat:=if j=0 then 4 else if j<20 then 3 else if (j-20) % 3=0 then 65 else 2
def ZT:Bun:=fun j=>List.replicate (dsz j) 1
theorem ZgS (j:Nat):1≤dsz j∧dsz j≤256:=by
 unfold dsz
 repeat' split
 all_goals omega
theorem Zb3:Shape dsz ZT:=⟨fun j=>XL.new (ZgS j).1 (ZgS j).2,fun j=>by simp [ZT]⟩
theorem Zeq (n:Int) (h0:-1≤n) (h1:n≤18):dsz (Zp n)=if n=-1 then 4 else 3:=by
 unfold dsz Zp
 by_cases e:n=-1
 ·subst e;rfl
 ·rw [if_neg (by omega),if_pos (by omega),if_neg e]
theorem Zc0 (n:Int):Zb0 dsz (ZH n):=by
 unfold ZH
 refine ⟨?_,?_,?_⟩
 ·unfold dsz;rw [if_neg (by omega),if_neg (by omega),if_pos (by omega)]
 ·unfold dsz;rw [if_neg (by omega),if_neg (by omega),if_neg (by omega)]
 ·unfold dsz;rw [if_neg (by omega),if_neg (by omega),if_neg (by omega)]
structure ZE where
 J:List Nat
 bm:Nat→Nat
 g:Nat→Nat
 nums:List (Nat × Nat)
 n1:Nat
 n2:Nat
 t1:Int→Nat
 t2:Int→Nat
structure Yx (k:ZE) (fr:Bun):Prop where
 frs:∀ j,j∉k.J→fr j=ZT j
 k1:∀ n,-1≤n→n≤18→(k.t1 n=0∧Zp n∉k.J)∨(k.t1 n=k.bm (Zp n)+1∧Zp n∈k.J)
 k2:∀ n,-3≤n→n≤1000→(k.t2 n=0∧ZH n∉k.J∧ZH n+1∉k.J∧ZH n+2∉k.J)∨(∃ nb,k.t2 n=nb+1∧(nb,ZH n)∈k.nums)
abbrev Yr (k:ZE) (fr:Bun):Part:=Yn k.J k.bm k.g k.nums fr
def ZU (m1 m2:Nat) (k:ZE):Part:=⟨[m1,m2],fun w=>Yd w m1 k.n1 k.t1∧Yd w m2 k.n2 k.t2⟩
theorem Zer {w:World} {m1 m2:Nat} {k:ZE} (h1:Yd w m1 k.n1 k.t1) (h2:Yd w m2 k.n2 k.t2):(ZU m1 m2 k).ok w:=by
 refine ⟨⟨h1,h2⟩,?_,fun w' hs _=>⟨h1.keep (hs m1 (by simp [ZU])),h2.keep (hs m2 (by simp [ZU]))⟩⟩
 intro q hq
 obtain ⟨_,_,b1⟩:=h1.blk
 obtain ⟨_,_,b2⟩:=h2.blk
 simp only [ZU,List.mem_cons,List.not_mem_nil,or_false] at hq
 rcases hq with rfl|rfl
 ·exact Zh b1
 ·exact Zh b2
section
variable {w0 w w':World} {l:List Part} {p p' r:Part}
theorem Ses.swap (h:Ses w0 w (p :: l)) (hF:∀ q,q∈p'.F→q∈p.F) (hp:p'.ok w):Ses w0 w (p' :: l):=by
 refine ⟨⟨fun s hs=>?_,List.pairwise_cons.2 ⟨fun s hs q h1 h2=>?_,(List.pairwise_cons.1 h.sep.2).2⟩⟩,fun s hs q hq=>?_,h.bel⟩
 ·rcases List.mem_cons.1 hs with rfl | hs
  ·exact hp
  ·exact h.sep.1 s (by simp [hs])
 ·exact (List.pairwise_cons.1 h.sep.2).1 s hs q (hF q h1) h2
 ·rcases List.mem_cons.1 hs with rfl | hs
  ·exact h.base p (by simp) q (hF q hq)
  ·exact h.base s (by simp [hs]) q hq
theorem Ses.join (h:Ses w0 w (p :: r :: l)):Ses w0 w (p.and r :: l):=by
 refine ⟨h.sep.join,fun s hs q hq=>?_,h.bel⟩
 rcases List.mem_cons.1 hs with rfl | hs
 ·rcases List.mem_append.1 hq with hq | hq
  ·exact h.base p (by simp) q hq
  ·exact h.base r (by simp) q hq
 ·exact h.base s (by simp [hs]) q hq
theorem Ses.turn1 (h:Ses w0 w (p :: l)) (fr:Fr p.F w p'.F w') (hp:p'.ok w'):Ses w0 w' (p' :: l):=by
 have hb:∀ q,q∈p.F→w0.heap.size≤q:=h.base p (by simp)
 refine ⟨h.sep.step fr hp,fun s hs q hq=>?_,ZbU h.bel fr hb⟩
 rcases List.mem_cons.1 hs with rfl | hs
 ·exact fr.base h.bel.size hb q hq
 ·exact h.base s (by simp [hs]) q hq
theorem Ses.front2 (h:Ses w0 w (p :: r :: l)):Ses w0 w (r :: p :: l):=h.perm (List.Perm.swap _ _ _)
theorem Fr.of_grown {F:List Nat} {b:Nat} (hg:w.grownBy w' (some b)) (hb:b∈F):Fr F w F w':=
 ⟨hg.os,hg.tape,hg.output,hg.size,fun q hq hn=>hg.block q hq (fun e=>hn (by injection e with e;rw [e];exact hb)),fun q hq=>.inl hq⟩
end
def Q8 (f:Nat→Nat) (j v:Nat):Nat→Nat:=fun i=>if i=j then v else f i
theorem Qe (f:Nat→Nat) (j v:Nat):Q8 f j v j=v:=if_pos rfl
theorem YY {f:Nat→Nat} {i j v:Nat} (h:i≠j):Q8 f j v i=f i:=if_neg h
theorem KAt.add {w:World} {J:List Nat} {bm g:Nat→Nat} {nums:List (Nat × Nat)} {fr:Bun} {j b g':Nat} (h:KAt w J bm g nums fr) (hj:j∉J) (hm:MOk w b g' (fr j)) (hb:∀ i,i∈J→bm i≠b∧g i≠g'):KAt w (j :: J) (Q8 bm j b) (Q8 g j g') nums fr:=by
 have far:∀ i,i∈J→i≠j:=fun i hi e=>hj (e▸hi)
 refine ⟨fun i hi=>?_,fun i k hi hk hne=>?_,fun p hp=>?_⟩
 ·rcases List.mem_cons.1 hi with rfl | hi
  ·rw [Qe,Qe];exact hm
  ·rw [YY (far i hi),YY (far i hi)];exact h.mod i hi
 ·rcases List.mem_cons.1 hi with e | hi'
  ·rcases List.mem_cons.1 hk with e2 | hk'
   ·exact absurd (e.trans e2.symm) hne
   ·rw [e,Qe,Qe,YY (far k hk'),YY (far k hk')]
    exact ⟨fun e=>(hb k hk').1 e.symm,fun e=>(hb k hk').2 e.symm⟩
  ·rcases List.mem_cons.1 hk with e2 | hk'
   ·rw [e2,Qe,Qe,YY (far i hi'),YY (far i hi')]
    exact hb i hi'
   ·rw [YY (far i hi'),YY (far i hi'),YY (far k hk'),YY (far k hk')]
    exact h.apart i k hi' hk' hne
 ·obtain ⟨hn,h1,h2,h3⟩:=h.num p hp
  refine ⟨?_,List.mem_cons_of_mem _ h1,List.mem_cons_of_mem _ h2,List.mem_cons_of_mem _ h3⟩
  rw [YY (far _ h1),YY (far _ h2),YY (far _ h3)]
  exact hn
theorem Ses.addModel {w0 w:World} {l:List Part} {J:List Nat} {bm g:Nat→Nat} {nums:List (Nat × Nat)} {fr:Bun} {j b g':Nat} (h:Ses w0 w (Yc b g' (fr j) :: Yn J bm g nums fr :: l)) (hj:j∉J):Ses w0 w (Yn (j :: J) (Q8 bm j b) (Q8 g j g') nums fr :: l):=by
 have hm:MOk w b g' (fr j):=h.sep.head
 have hk:KAt w J bm g nums fr:=h.sep.tail.head
 have hap:=(List.pairwise_cons.1 h.sep.2).1 (Yn J bm g nums fr) (by simp)
 have far:∀ i,i∈J→i≠j:=fun i hi e=>hj (e▸hi)
 refine h.join.swap (fun q hq=>?_) (hk.add hj hm fun i hi=>⟨fun e=>?_,fun e=>?_⟩).part
 ·rcases YX.1 hq with ⟨i,hi,e⟩|⟨p,hp,rfl⟩
  ·rcases List.mem_cons.1 hi with rfl | hi
   ·rw [Qe,Qe] at e
    refine List.mem_append_left _ ?_
    rcases e with rfl|rfl<;>simp [Yc]
   ·rw [YY (far i hi),YY (far i hi)] at e
    exact List.mem_append_right _ (YX.2 (.inl ⟨i,hi,e⟩))
  ·exact List.mem_append_right _ (YX.2 (.inr ⟨p,hp,rfl⟩))
 ·exact hap b (by simp [Yc]) (YX.2 (.inl ⟨i,hi,.inl e.symm⟩))
 ·exact hap g' (by simp [Yc]) (YX.2 (.inl ⟨i,hi,.inr e.symm⟩))
end
end Go.Proofs.YtlgcfimhfmgkmaaGreatDoor
namespace Go.Proofs.YtlgcfimhfmgkmaaGreatDoor
open Go.RowKit
section
def Zb (g:Nat) (o:Obj):Part:=⟨[g],fun w=>w.heap[g]?=some o⟩
theorem Zb4 {w:World} {g:Nat} {o:Obj} (h:w.heap[g]?=some o):(Zb g o).ok w:=by
 refine ⟨h,fun q hq=>?_,fun w' hs _=>(hs g (by simp [Zb])).trans h⟩
 simp only [Zb,List.mem_cons,List.not_mem_nil,or_false] at hq
 rw [hq];exact Zh h
theorem Ses.allocObj {w0 w:World} {l:List Part} (h:Ses w0 w l) (o:Obj):Ses w0 (w.alloc o) (Zb w.heap.size o :: l):=
 h.new (Zg w o) (Zb4 (heap_alloc_new w o)) (fun q hq=>by simp only [Zb,List.mem_cons,List.not_mem_nil,or_false] at hq;omega)
theorem Ses.third {w0 w:World} {a b c:Part} {l:List Part} (h:Ses w0 w (a :: b :: c :: l)):Ses w0 w (b :: c :: a :: l):=h.perm (List.perm_middle (l₁:=[b,c])).symm
theorem Ses.third' {w0 w:World} {a b c:Part} {l:List Part} (h:Ses w0 w (a :: b :: c :: l)):Ses w0 w (c :: a :: b :: l):=h.perm (List.perm_middle (l₁:=[a,b]))
def ZJ (m1 m2:Nat):Obj:=.cells #[.map (some m1),.map (some m2)] 192 (0,0)
def ZE.sym (k:ZE) (n:Int) (b g':Nat):ZE:=⟨Zp n :: k.J,Q8 k.bm (Zp n) b,Q8 k.g (Zp n) g',k.nums,k.n1+1,k.n2,Jo k.t1 n (b+1),k.t2⟩
theorem Yx.sym {k:ZE} {fr:Bun} (h:Yx k fr) (n:Int) (b g':Nat) (h0:-1≤n) (h1:n≤18):Yx (k.sym n b g') fr:=by
 refine ⟨fun j hj=>h.frs j (fun e=>hj (List.mem_cons_of_mem _ e)),fun m m0 m1=>?_,fun m m0 m1=>?_⟩
 ·by_cases e:m=n
  ·subst e
   right
   refine ⟨?_,by simp [ZE.sym]⟩
   simp only [ZE.sym,Qe]
   unfold Jo;rw [if_pos rfl]
  ·have hne:Zp m≠Zp n:=by unfold Zp;omega
   simp only [ZE.sym,YY hne]
   rw [show Jo k.t1 n (b+1) m=k.t1 m from if_neg e]
   rcases h.k1 m m0 m1 with ⟨e1,e2⟩|⟨e1,e2⟩
   ·exact .inl ⟨e1,by simp [hne,e2]⟩
   ·exact .inr ⟨e1,List.mem_cons_of_mem _ e2⟩
 ·have a0:ZH m≠Zp n:=by unfold ZH Zp;omega
  have a1:ZH m+1≠Zp n:=by unfold ZH Zp;omega
  have a2:ZH m+2≠Zp n:=by unfold ZH Zp;omega
  rcases h.k2 m m0 m1 with ⟨e1,e2,e3,e4⟩|e
  ·exact .inl ⟨e1,by simp [ZE.sym,a0,e2],by simp [ZE.sym,a1,e3],by simp [ZE.sym,a2,e4]⟩
  ·exact .inr e
theorem ZgT (w:World):(zeroValue 195).run Tryz.prog w=.ok (.pointer none) w:=Tryz.zeroValue195 w
theorem Y9 {w:World} {g m1 m2:Nat} (h:w.heap[g]?=some (ZJ m1 m2)):w.cell? ⟨g,0,none⟩=some (.map (some m1))∧w.cell? ⟨g,1,none⟩=some (.map (some m2)):=⟨Za h 0 _ rfl,Za h 1 _ rfl⟩
theorem ZgU {w0 w:World} {a b:Part} {l:List Part} (m1 m2:Nat) (h:Ses w0 w (a :: b :: l)):∃ W g,W=w.alloc (.cells #[.map (some m1),.map (some m2)] 192 (0,0))∧g=w.heap.size∧(W.cell? ⟨g,0,none⟩=some (.map (some m1))∧W.cell? ⟨g,1,none⟩=some (.map (some m2)))∧Ses w0 W (a :: b :: Zb g (ZJ m1 m2) :: l):=
 ⟨_,_,rfl,rfl,Y9 (heap_alloc_new w _),(h.allocObj _).third⟩
theorem ZgV (n:Int) (s:Nat) (h0:-1≤n) (h1:n≤18) (m1 m2:Nat) (k:ZE) (fr:Bun) (w0 w2:World) (l:List Part) (b g':Nat) (hm:m1≠m2) (hn:k.n1≤1000000) (hr:Yx k fr) (hj:Zp n∉k.J) (hs:dsz (Zp n)=s) (h:Ses w0 w2 (Yc b g' (List.replicate s 1) :: Yr k fr :: ZU m1 m2 k :: l)) :
  ∃ w3,(Instr.mapUpdate 189 (.map (some m1)) (.int .i64 n) (.pointer (some ⟨b,0,none⟩))).run Tryz.prog w2=.ok () w3∧(Instr.lookup 189 (.map (some m1)) (.int .i64 n) false).run Tryz.prog w3=.ok (.pointer (some ⟨b,0,none⟩)) w3∧Ses w0 w3 (Yr (k.sym n b g') fr :: ZU m1 m2 (k.sym n b g') :: l):=by
 have hM:Yd w2 m1 k.n1 k.t1:=h.sep.tail.tail.head.1
 have hM2:Yd w2 m2 k.n2 k.t2:=h.sep.tail.tail.head.2
 obtain ⟨w3,hrun,hM3,hg⟩:=hM.put (T:=189) Tryz.underlying189 (by unfold maxLen;omega) n (by omega) (by omega) (b+1)
 have hl:=hM3.look (T:=189) Tryz.underlying189 (ZgT w3) n (by omega) (by omega)
 rw [show Jo k.t1 n (b+1) n=b+1 from if_pos rfl] at hl
 rw [show List.replicate s 1=fr (Zp n) from by rw [hr.frs _ hj];unfold ZT;rw [hs]] at h
 have h2:=(h.addModel hj).front2
 have hf:Fr [m1,m2] w2 [m1,m2] w3:=Fr.of_grown hg (by simp)
 obtain ⟨_,_,b2⟩:=hM2.blk
 have hM4:Yd w3 m2 k.n2 k.t2:=hM2.keep (hg.block m2 (Zh b2) (fun e=>by injection e with e;exact hm e.symm))
 exact ⟨w3,hrun,hl,(h2.turn1 (p':=ZU m1 m2 (k.sym n b g')) hf (Zer hM3 hM4)).front2⟩
theorem ZgW (n:Int) (h0:-1≤n) (h1:n≤18) (m1 m2:Nat) (hm:m1≠m2) (k:ZE) (fr:Bun) (w0 w:World) (l:List Part) (h:Ses w0 w (Yr k fr :: ZU m1 m2 k :: l)) (hr:Yx k fr) (hn:k.n1≤1000000) :
  Calls Tryz.prog 114 #[.agg #[.map (some m1),.map (some m2)],.int .i64 n] w fun e w'=>∃ k':ZE,e=.returned (.pointer (some ⟨k'.bm (Zp n),0,none⟩))∧(Zp n∈k'.J∧Yx k' fr∧k'.n1≤k.n1+1∧k'.n2=k.n2)∧Ses w0 w' (Yr k' fr :: ZU m1 m2 k' :: l):=by
 obtain ⟨w1,g,e1,eg,⟨c0,c1⟩,h1'⟩:=ZgU m1 m2 h
 have hM:Yd w1 m1 k.n1 k.t1:=h1'.sep.tail.head.1
 have hl:=hM.look (T:=189) Tryz.underlying189 (ZgT w1) n (by omega) (by omega)
 have H:=Qh (Qi h1' (Qi hr (Qi hm hn)))
 rcases hr.k1 n h0 h1 with ⟨e0,hj⟩|⟨e0,hj⟩
 ·rw [e0] at hl
  have HJ:=Qh hj
  unfold J9 at hl
  by_cases en:n=-1
  ·have F:=(h1'.drewN 1).model 4 (by decide) (by decide)
   have HN:=Qh en
   have en2:(n==-1)=true:=by rw [beq_iff_eq];exact en
   clear h h1' hM hr hm hn hj e0 en
   have hmx:Tryz.prog.follows .mixedOrders=true:=by kernel_rfl
   go_enter Tryz.func114,Tryz.ntmps114
   go_upto_region 1 with fail
   rw [←e1,←eg]
   clear e1 eg
   go_upto_region 5 with fail
   go_region_with (refine F.mono ?_;rintro r w2 ⟨bm0,g0,rfl,hs2⟩;have c56:w2.heap[g]?=some (ZJ m1 m2):=hs2.sep.tail.tail.tail.head;have c5:=(Y9 c56).1;have c6:=(Y9 c56).2;clear c56;obtain ⟨w3,hrun,hl3,HF⟩:=ZgV n 4 h0 h1 m1 m2 k fr w0 w2 (Zb g (ZJ m1 m2) :: l) bm0 g0 H.out.2.2.1 H.out.2.2.2 H.out.2.1 HJ.out (by rw [Zeq n h0 h1];first | exact if_pos HN.out | exact if_neg HN.out) hs2;have c34:w3.heap[g]?=some (ZJ m1 m2):=HF.sep.tail.tail.head;have c3:=(Y9 c34).1;have c4:=(Y9 c34).2;clear c34;have HF3:=Qh HF;clear hs2 HF)
   all_goals go_wp2_with fail
   all_goals go_ret
   all_goals exact ⟨k.sym n bm0 g0,(congrArg (fun b=>Ending.returned (.pointer (some ⟨b,0,none⟩))) (Qe k.bm (Zp n) bm0)).symm,⟨by simp [ZE.sym],H.out.2.1.sym n bm0 g0 h0 h1,Nat.le_refl _,rfl⟩,HF3.out.third'.tail⟩
  ·have F:=(h1'.drewN 1).model 3 (by decide) (by decide)
   have HN:=Qh en
   have en2:(n==-1)=false:=by rw [beq_eq_false_iff_ne];exact en
   clear h h1' hM hr hm hn hj e0 en
   have hmx:Tryz.prog.follows .mixedOrders=true:=by kernel_rfl
   go_enter Tryz.func114,Tryz.ntmps114
   go_upto_region 1 with fail
   rw [←e1,←eg]
   clear e1 eg
   go_upto_region 5 with fail
   go_region_with (refine F.mono ?_;rintro r w2 ⟨bm0,g0,rfl,hs2⟩;have c56:w2.heap[g]?=some (ZJ m1 m2):=hs2.sep.tail.tail.tail.head;have c5:=(Y9 c56).1;have c6:=(Y9 c56).2;clear c56;obtain ⟨w3,hrun,hl3,HF⟩:=ZgV n 3 h0 h1 m1 m2 k fr w0 w2 (Zb g (ZJ m1 m2) :: l) bm0 g0 H.out.2.2.1 H.out.2.2.2 H.out.2.1 HJ.out (by rw [Zeq n h0 h1];first | exact if_pos HN.out | exact if_neg HN.out) hs2;have c34:w3.heap[g]?=some (ZJ m1 m2):=HF.sep.tail.tail.head;have c3:=(Y9 c34).1;have c4:=(Y9 c34).2;clear c34;have HF3:=Qh HF;clear hs2 HF)
   all_goals go_wp2_with fail
   all_goals go_ret
   all_goals exact ⟨k.sym n bm0 g0,(congrArg (fun b=>Ending.returned (.pointer (some ⟨b,0,none⟩))) (Qe k.bm (Zp n) bm0)).symm,⟨by simp [ZE.sym],H.out.2.1.sym n bm0 g0 h0 h1,Nat.le_refl _,rfl⟩,HF3.out.third'.tail⟩
 ·rw [e0] at hl
  unfold J9 at hl
  have HJ:=Qh hj
  clear h h1' hM hr hm hn hj e0
  have hmx:Tryz.prog.follows .mixedOrders=true:=by kernel_rfl
  go_enter Tryz.func114,Tryz.ntmps114
  go_upto_region 1 with fail
  rw [←e1,←eg]
  clear e1 eg
  go_wp2_with fail
  go_ret
  exact ⟨k,rfl,⟨HJ.out,H.out.2.1,by omega,rfl⟩,H.out.1.third'.tail⟩
end
end Go.Proofs.YtlgcfimhfmgkmaaGreatDoor
