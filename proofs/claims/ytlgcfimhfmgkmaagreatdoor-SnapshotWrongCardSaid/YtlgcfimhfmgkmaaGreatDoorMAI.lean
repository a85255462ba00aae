/- Lemmas for the statement. -/
import Derived.Test.YtlgcfimhfmgkmaaGreatDoorMAH
set_option linter.unusedVariables false
set_option linter.unusedSimpArgs false
set_option maxRecDepth 100000
set_option maxHeartbeats 4000000
namespace Go.Proofs.YtlgcfimhfmgkmaaGreatDoor
open Go.RowKit
section
def Xd {α:Type} (p:α→Bool) (l:List α) (k:Int):Prop:=(∃ (j:Nat) (x:α),k=((j:Nat):Int)∧l[j]?=some x∧p x=true∧∀ (i:Nat) y,i<j→l[i]?=some y→p y=false)∨(k=-1∧∀ y,y∈l→p y=false)
theorem Xd.any {α:Type} {p:α→Bool} {l:List α} {k:Int} (h:Xd p l k):decide (0≤k)=l.any p:=by
 rcases h with ⟨j,x,rfl,hx,hp,-⟩|⟨rfl,h⟩
 ·rw [List.any_eq_true.2 ⟨x,List.mem_of_getElem? hx,hp⟩]
  exact decide_eq_true (by omega)
 ·rw [List.any_eq_false.2 (fun y hy=>by rw [h y hy];simp)]
  rfl
theorem Zmm (c:Cmp) (w:World) (hT:Tabs w) (hk:c.kind<256):Calls Tryz.prog 86 #[c.agg] w fun e w'=>e=.returned (.bool (!(YJ c)))∧Below w.heap.size w w':=by
 obtain ⟨R,eR⟩:∃ R,R=YJ c:=⟨_,rfl⟩
 obtain ⟨w1,e1⟩:∃ w1,w1=w.alloc (.cells #[.int .u8 (c.kind:Nat),.int .i64 c.v0,.int .i64 c.v1,.int .i64 c.v2,.int .i64 c.v3] 75 (0,0)):=⟨_,rfl⟩
 obtain ⟨g,eg⟩:∃ g,g=w.heap.size:=⟨_,rfl⟩
 have hb:Below w.heap.size w w1:=by rw [e1];exact (Below.refl _ w).alloc (Nat.le_refl _) _
 have hg:w1.heap[g]?=some (.cells #[.int .u8 (c.kind:Nat),.int .i64 c.v0,.int .i64 c.v1,.int .i64 c.v2,.int .i64 c.v3] 75 (0,0)):=by rw [e1,eg];exact heap_alloc_new w _
 obtain ⟨f0,f1,f2,f3,f4⟩:=QM hg
 have F:=Zl0 c w1 (hT.below hb) hk
 rw [←eR] at F ⊢
 have H:=Qh hb
 clear hT hk hb hg eR
 unfold Cmp.agg at F ⊢
 go_enter Tryz.func86,Tryz.ntmps86
 go_upto_region 1 with fail
 rw [←e1,←eg]
 clear e1 eg
 go_wp2_with (go_at_call 78;refine F.mono ?_;rintro e w2 ⟨rfl,hb2⟩;have H2:=Qh hb2;clear hb2)
 go_ret
 exact ⟨rfl,H.out.trans (H2.out.mono H.out.size)⟩
theorem Tq12 {p:Prop} (h:p:=by
 go_ret
 exact ⟨(j:Nat),rfl,Or.inl ⟨j,x,rfl,HX.out.1,HX.out.2.2.2.2.2.symm,HX.out.2.2.2.1⟩,HX.out.2.2.2.2.1.trans (H3.out.mono HX.out.2.2.2.2.1.size)⟩):p:=h
theorem Tq4 {p:Prop} (h:p:=by
 have i2:decide (j<n)=false:=decide_eq_false hlt
 have HX:=Qh (Qi hlt (Qi hall (Qi hW hg)))
 clear hlt hall hW hg h hlen hlim
 go_wp2_with fail
 go_ret
 refine ⟨-1,rfl,Or.inr ⟨rfl,fun y hy=>?_⟩,HX.out.2.2.1⟩
 obtain ⟨i,hi⟩:=List.getElem?_of_mem hy
 have hlt:=(List.getElem?_eq_some_iff.1 hi).1
 exact HX.out.2.1 i y (by have:=HX.out.1;have:=H.out.1.len;omega) hi):p:=h
theorem Tq3 {p:Prop} (h:p:=by
 go_roundg (n-(j+1))
 case measure=>have:=HX.out.2.1;have:=HX.out.2.2.1;omega
 case rel=>
  refine ⟨j+1,by have:=HX.out.2.1;omega,fun i y hi hy=>?_,by go_num,HX.out.2.2.2.2.1.trans (H3.out.mono HX.out.2.2.2.2.1.size)⟩
  by_cases hij:i<j
  ·exact HX.out.2.2.2.1 i y hij hy
  ·obtain rfl:i=j:=by omega
   rw [HX.out.1] at hy
   injection hy with hy
   rw [←hy];exact HX.out.2.2.2.2.2.symm):p:=h
theorem Zmn  (A:Option Addr) (n cap:Nat) (l:List Cmp) (w:World) (h:Zo w A n cap l) (hT:Tabs w) :
  Calls Tryz.prog 150 #[.slice A n cap,.func (.func 86) #[] #[]] w fun e w'=>∃ k:Int,e=.returned (.int .i64 k)∧Xd (fun c=>!(YJ c)) l k∧Below w.heap.size w w':=by
 have H:=Qh (Qi h hT)
 clear h hT
 go_enter Tryz.func150,Tryz.ntmps150
 go_wp2_with fail
 go_loopg [8] n (fun gh iv wr=>∃ j:Nat,gh+j=n∧(∀ (i:Nat) y,i<j→l[i]?=some y→(fun c=>!(YJ c)) y=false)∧iv=.int .i64 (j:Nat)∧Below w.heap.size w wr)
 case atStart=>exact ⟨0,rfl,fun i y h=>by omega,rfl,Below.refl _ _⟩
 case round=>
  obtain ⟨j,hg,hall,rfl,hW⟩:=hrel
  obtain ⟨W,eW⟩:∃ W,W=wr:=⟨_,rfl⟩
  rw [←eW] at hW ⊢
  clear eW
  have h:=H.out.1
  have hlen:=h.len
  have hlim:=h.lim
  by_cases hlt:j<n
  ·obtain ⟨x,hx⟩:∃ x,l[j]?=some x:=⟨_,List.getElem?_eq_getElem (by omega)⟩
   have i0:(0:Int)≤(j:Int):=by omega
   have i1:(j:Int)<(n:Int):=by omega
   have i2:decide (j<n)=true:=decide_eq_true hlt
   have w2:wrap64 ((j:Int)+1)=(j:Int)+1:=Zn _ (by omega) (by omega)
   obtain ⟨R,eR⟩:∃ R,R=(fun c=>!(YJ c)) x:=⟨_,rfl⟩
   obtain ⟨b,o,rfl,hc⟩:=h.at_ j x hx
   obtain ⟨c0,c1,c2,c3,c4⟩:=hc.step (hW.block b (Zc hc.c0))
   have hkx:=h.kind x (List.mem_of_getElem? hx)
   have F:Calls Tryz.prog 86 #[.agg #[.int .u8 (x.kind:Nat),.int .i64 x.v0,.int .i64 x.v1,.int .i64 x.v2,.int .i64 x.v3]] W fun e w'=>e=.returned (.bool R)∧Below W.heap.size W w':=by rw [eR];exact Zmm x W (H.out.2.below hW) hkx
   have HX:=Qh (Qi hx (Qi hlt (Qi hg (Qi hall (Qi hW eR)))))
   clear hx hlt hg hall hW eR h hlen hlim
   rcases R with _ | _
   ·go_wp2_with (go_at_call 86;refine F.mono ?_;rintro e w3 ⟨rfl,hb3⟩;have H3:=Qh hb3;clear hb3)
    exact Tq3
   ·go_wp2_with (go_at_call 86;refine F.mono ?_;rintro e w3 ⟨rfl,hb3⟩;have H3:=Qh hb3;clear hb3)
    exact Tq12
  ·exact Tq4
theorem Zmo  (A:Option Addr) (n cap:Nat) (l:List Cmp) (w:World) (h:Zo w A n cap l) (hT:Tabs w) :
  Calls Tryz.prog 85 #[.slice A n cap,.func (.func 86) #[] #[]] w fun e w'=>e=.returned (.bool (l.any (fun c=>!(YJ c))))∧Below w.heap.size w w':=by
 have I:=Zmn A n cap l w h hT
 obtain ⟨R,eR⟩:∃ R,R=l.any (fun c=>!(YJ c)):=⟨_,rfl⟩
 rw [←eR]
 have HR:=Qh eR
 clear eR h hT
 go_enter Tryz.func85,Tryz.ntmps85
 go_wp2_with (go_at_call 150;refine I.mono ?_;rintro e w2 ⟨k,rfl,hk,hb2⟩;have H2:=Qh (Qi hk hb2);clear hk hb2)
 go_ret
 exact ⟨by rw [HR.out,←H2.out.1.any];rfl,H2.out.2⟩
end
end Go.Proofs.YtlgcfimhfmgkmaaGreatDoor
namespace Go.Proofs.YtlgcfimhfmgkmaaGreatDoor
open Go.RowKit
section
def ZcY (l:List Cmp):List Int:=l.map fun c=>((c.kind:Nat):Int)
def Yv (e:Ent):Bool:=(decide (1≤e.id)&&decide (e.id≤65536))&&Xt (ZcY e.cs)&&!(e.cs.any fun c=>!(YJ c))
theorem Tq77 {p:Prop} (h:p:=by
 refine ⟨_,_,rfl,rfl,⟨(cell_of_block (heap_alloc_new w _) 0).trans rfl,(cell_of_block (heap_alloc_new w _) 1).trans rfl⟩,(Below.refl _ w).alloc (Nat.le_refl _) _⟩):p:=h
theorem Zaa (w:World) (id:Int) (A:Option Addr) (n c:Nat):∃ W g,W=w.alloc (.cells #[.int .i64 id,.slice A n c] 70 (0,0))∧g=w.heap.size∧(W.cell? ⟨g,0,none⟩=some (.int .i64 id)∧W.cell? ⟨g,1,none⟩=some (.slice A n c))∧Below w.heap.size w W:=by
 exact Tq77
theorem Tq91 {p:Prop} (h:p:=by
 go_upto_region 1 with fail
 rw [←e1,←eg]
 clear e1 eg
 go_wp2_with fail
 go_ret
 exact ⟨by rw [H.out.2.1,q1,q2];rfl,H.out.1⟩):p:=h
theorem Zmp (e:Ent) (A:Option Addr) (n c:Nat) (w:World) (hT:Tabs w) (h:Zo w A n c e.cs) :
  Calls Tryz.prog 36 #[.agg #[.int .i64 e.id,.slice A n c]] w fun r w'=>r=.returned (.bool (Yv e))∧Below w.heap.size w w':=by
 obtain ⟨id,cs⟩:=e
 obtain ⟨w1,g,e1,eg,⟨f0,f1⟩,hb⟩:=Zaa w id A n c
 show Calls Tryz.prog 36 #[.agg #[.int .i64 id,.slice A n c]] w _
 have h1:Zo w1 A n c cs:=Zo.below h hb
 have S1:=Zml A n c cs w1 h1
 have S2:=fun W (hW:Below w1.heap.size w1 W)=>Zmo A n c cs W (h1.below hW) ((hT.below hb).below hW)
 obtain ⟨R,eR⟩:∃ R,R=Yv ⟨id,cs⟩:=⟨_,rfl⟩
 have eR2:R=((decide (1≤id)&&decide (id≤65536))&&Xt (ZcY cs)&&!(cs.any fun c=>!(YJ c))):=by rw [eR];rfl
 obtain ⟨P1,eP1⟩:∃ P,P=Xt (ZcY cs):=⟨_,rfl⟩
 obtain ⟨P2,eP2⟩:∃ P,P=cs.any (fun c=>!(YJ c)):=⟨_,rfl⟩
 have S1:Calls Tryz.prog 84 #[.slice A n c,.func (.func 80) #[] #[]] w1 fun e w'=>e=.returned (.bool P1)∧Below w1.heap.size w1 w':=by rw [eP1];exact S1
 rw [←eP2] at S2
 rw [←eR]
 rw [←eP1,←eP2] at eR2
 have H:=Qh (Qi hb (Qi eR2 S2))
 clear hb h h1 hT eR eR2 S2 eP1 eP2
 rcases q1:decide (1≤id) with _ | _
 ·go_enter Tryz.func36,Tryz.ntmps36
  go_upto_region 1 with fail
  rw [←e1,←eg]
  clear e1 eg
  go_wp2_with fail
  go_ret
  exact ⟨by rw [H.out.2.1,q1];rfl,H.out.1⟩
 rcases q2:decide (id≤65536) with _ | _
 ·go_enter Tryz.func36,Tryz.ntmps36
  exact Tq91
 rcases P1 with _ | _
 ·go_enter Tryz.func36,Tryz.ntmps36
  go_upto_region 1 with fail
  rw [←e1,←eg]
  clear e1 eg
  go_wp2_with (go_at_call 84;refine S1.mono ?_;rintro e w2 ⟨rfl,hb2⟩;have H2:=Qh hb2;clear hb2)
  go_ret
  exact ⟨by rw [H.out.2.1,q1,q2];rfl,H.out.1.trans (H2.out.mono H.out.1.size)⟩
 ·go_enter Tryz.func36,Tryz.ntmps36
  go_upto_region 1 with fail
  rw [←e1,←eg]
  clear e1 eg
  go_wp2_with (first
   | (go_at_call 84;refine S1.mono ?_;rintro e w2 ⟨rfl,hb2⟩;have g1:=(hb2.cell (Zc f1)).trans f1;have S3:=H.out.2.2 w2 hb2;have H2:=Qh hb2;clear hb2 S1 f0 f1)
   | (go_at_call 85;refine S3.mono ?_;rintro e w3 ⟨rfl,hb3⟩;have H3:=Qh hb3;clear hb3 S3))
  go_ret
  exact ⟨by rw [H.out.2.1,q1,q2];rfl,H.out.1.trans ((H2.out.trans (H3.out.mono H2.out.size)).mono H.out.1.size)⟩
end
end Go.Proofs.YtlgcfimhfmgkmaaGreatDoor
