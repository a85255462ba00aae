/- Lemmas for the statement. -/
import Derived.Test.YtlgcfimhfmgkmaaGreatDoorMAS
set_option linter.unusedVariables false
set_option linter.unusedSimpArgs false
set_option maxRecDepth 100000
set_option maxHeartbeats 4000000
namespace Go.Proofs.YtlgcfimhfmgkmaaGreatDoor
open Go.RowKit
section
def QS (w:World) (g:Nat) (a b c d e:Value):World:=(JE w g a b c d).setCell ⟨g,4,none⟩ e
theorem Xn (w:World) (g:Nat) (a b c d e:Value) {q:Nat} (hq:q≠g):(QS w g a b c d e).heap[q]?=w.heap[q]?:=by
 unfold QS
 rw [Below.heap_setCell _ _ _ _ hq,ZgP _ _ _ _ _ _ hq]
theorem Yk {w:World} {g:Nat} {x y z u v:Value} {T:TypeId} (a b c d e:Value) (h:w.heap[g]?=some (.cells #[x,y,z,u,v] T (0,0))):(QS w g a b c d e).heap[g]?=some (.cells #[a,b,c,d,e] T (0,0)):=by
 unfold QS JE
 exact block_setCell (block_setCell (block_setCell (block_setCell (block_setCell h 0 _) 1 _) 2 _) 3 _) 4 _
theorem nm5 (w:World) (q:Nat) (a b c d e:Value):∃ V,V=((((w.setCell ⟨q,0,none⟩ a).setCell ⟨q,1,none⟩ b).setCell ⟨q,2,none⟩ c).setCell ⟨q,3,none⟩ d).setCell ⟨q,4,none⟩ e∧V=QS w q a b c d e:=⟨_,rfl,rfl⟩
theorem Yl {B:Nat} {w w':World} {g:Nat} (a b c d e:Value) (h:Below B w w') (hg:B≤g):Below B w (QS w' g a b c d e):=by
 unfold QS
 exact (Jp a b c d h hg).setCell (p:=⟨g,4,none⟩) hg _
theorem Zde {fn:Func} {p u:Tmp} (h:fn.results=#[.cell p 75,.tmp u]) (tmps:Array Value) (w:World) (g:Nat) (cs:Array Value) (hn:cs.size=5)
  (hp:tmps.getD p undef=.pointer (some ⟨g,0,none⟩)) (hg:w.heap[g]?=some (.cells cs 75 (0,0))) :
  (results fn tmps).run Tryz.prog w=.ok (.tuple #[.agg cs,tmps.getD u undef]) w:=by
 have hp':tmps[p]?.getD undef=.pointer (some ⟨g,0,none⟩):=by simpa using hp
 have hi:(Tryz.prog.info? 75).map (·.size)=some cs.size:=by rw [hn];kernel_rfl
 have hl:=run_loadVar_row (P:=Tryz.prog) w g 75 75 cs (0,0) _ hg Tryz.underlying75 rfl hi
 simp [results,h,hp',asAddr,hl]
theorem ZnH (x:Cmp) (k kb:Nat) (w:World) (hkb:w.cell? ⟨kb,0,none⟩=some (.int .u8 (k:Nat))) :
  Calls Tryz.prog 172 #[x.agg,.pointer (some ⟨kb,0,none⟩)] w fun e w'=>e=.returned (.bool (decide (x.kind=k)))∧Below w.heap.size w w':=by
 obtain ⟨w1,e1⟩:∃ w1,w1=w.alloc (.cells #[.int .u8 (x.kind:Nat),.int .i64 x.v0,.int .i64 x.v1,.int .i64 x.v2,.int .i64 x.v3] 75 (0,0)):=⟨_,rfl⟩
 obtain ⟨g,eg⟩:∃ g,g=w.heap.size:=⟨_,rfl⟩
 have hb:Below w.heap.size w w1:=by rw [e1];exact (Below.refl _ w).alloc (Nat.le_refl _) _
 have hg:w1.heap[g]?=some (.cells #[.int .u8 (x.kind:Nat),.int .i64 x.v0,.int .i64 x.v1,.int .i64 x.v2,.int .i64 x.v3] 75 (0,0)):=by rw [e1,eg];exact heap_alloc_new w _
 obtain ⟨f0,f1,f2,f3,f4⟩:=QM hg
 have hkb:=(hb.cell (Zc hkb)).trans hkb
 have hd:((x.kind:Int)==(k:Int))=decide (x.kind=k):=by rw [Bool.eq_iff_iff,beq_iff_eq,decide_eq_true_iff];omega
 obtain ⟨R,eR⟩:∃ R,R=decide (x.kind=k):=⟨_,rfl⟩
 rw [←eR] at hd ⊢
 have H:=Qh hb
 clear hb hg eR
 unfold Cmp.agg
 go_enter Tryz.func172,Tryz.ntmps172
 go_upto_region 1 with fail
 rw [←e1,←eg]
 clear e1 eg
 go_wp2_with fail
 go_ret
 exact ⟨rfl,H.out⟩
theorem ZnI (kd kb:Nat) (A:Option Addr) (n cap:Nat) (l:List Cmp) (w:World) (h:Zo w A n cap l) (hkb:w.cell? ⟨kb,0,none⟩=some (.int .u8 (kd:Nat))) :
  Calls Tryz.prog 150 #[.slice A n cap,.func (.func 172) #[] #[.pointer (some ⟨kb,0,none⟩)]] w fun e w'=>∃ k:Int,e=.returned (.int .i64 k)∧Xd (fun c=>decide (c.kind=kd)) l k∧Below w.heap.size w w':=by
 have H:=Qh (Qi h hkb)
 clear h hkb
 go_enter Tryz.func150,Tryz.ntmps150
 go_wp2_with fail
 go_loopg [8] n (fun gh iv wr=>∃ j:Nat,gh+j=n∧(∀ (i:Nat) y,i<j→l[i]?=some y→(fun c=>decide (c.kind=kd)) y=false)∧iv=.int .i64 (j:Nat)∧Below w.heap.size w wr)
 case atStart=>exact ⟨0,rfl,fun i y h=>by omega,rfl,Below.refl _ _⟩
 case round=>
  obtain ⟨j,hg,hall,rfl,hW⟩:=hrel
  obtain ⟨W,eW⟩:∃ W,W=wr:=⟨_,rfl⟩
  rw [←eW] at hW ⊢
  clear eW
  have h:=H.out.1
  have hlen:=h.len
  have hlim:=h.lim
  by_cases hlt:j<n
  ·obtain ⟨x,hx⟩:∃ x,l[j]?=some x:=⟨_,List.getElem?_eq_getElem (by omega)⟩
   have i0:(0:Int)≤(j:Int):=by omega
   have i1:(j:Int)<(n:Int):=by omega
   have i2:decide (j<n)=true:=decide_eq_true hlt
   have w2:wrap64 ((j:Int)+1)=(j:Int)+1:=Zn _ (by omega) (by omega)
   obtain ⟨R,eR⟩:∃ R,R=(fun c=>decide (c.kind=kd)) x:=⟨_,rfl⟩
   obtain ⟨b,o,rfl,hc⟩:=h.at_ j x hx
   obtain ⟨c0,c1,c2,c3,c4⟩:=hc.step (hW.block b (Zc hc.c0))
   have hkx:=h.kind x (List.mem_of_getElem? hx)
   have F:Calls Tryz.prog 172 #[.agg #[.int .u8 (x.kind:Nat),.int .i64 x.v0,.int .i64 x.v1,.int .i64 x.v2,.int .i64 x.v3],.pointer (some ⟨kb,0,none⟩)] W fun e w'=>e=.returned (.bool R)∧Below W.heap.size W w':=by rw [eR];exact ZnH x kd kb W ((Zm (hW.block kb (Zc H.out.2)) _).trans H.out.2)
   have HX:=Qh (Qi hx (Qi hlt (Qi hg (Qi hall (Qi hW eR)))))
   clear hx hlt hg hall hW eR h hlen hlim
   rcases R with _ | _
   ·go_wp2_with (go_at_call 172;refine F.mono ?_;rintro e w3 ⟨rfl,hb3⟩;have H3:=Qh hb3;clear hb3)
    exact Tq3
   ·go_wp2_with (go_at_call 172;refine F.mono ?_;rintro e w3 ⟨rfl,hb3⟩;have H3:=Qh hb3;clear hb3)
    exact Tq12
  ·exact Tq4
theorem ZnJ (id:Int) (A:Option Addr) (n c:Nat) (cs:List Cmp) (k:Nat) (w:World) (h:Zo w A n c cs) :
  Calls Tryz.prog 118 #[.agg #[.int .i64 id,.slice A n c],.int .u8 (k:Nat)] w fun r w'=>r=.returned (.tuple #[((ZC k cs).getD ⟨k,0,0,0,0⟩).agg,.bool (ZC k cs).isSome])∧Below w.heap.size w w':=by
 obtain ⟨w1,e1⟩:∃ W,W=((w.alloc (.cells #[.int .i64 id,.slice A n c] 70 (0,0))).alloc (.cells #[.int .u8 (k:Nat)] 5 (0,0))).alloc (.cells #[.int .u8 0,.int .i64 0,.int .i64 0,.int .i64 0,.int .i64 0] 75 (0,0)):=⟨_,rfl⟩
 obtain ⟨g,eg⟩:∃ g,g=w.heap.size:=⟨_,rfl⟩
 have hb:Below w.heap.size w w1:=by rw [e1];exact Zab w _ _ _
 have hg0:w1.heap[g]?=some (.cells #[.int .i64 id,.slice A n c] 70 (0,0)):=by rw [e1,eg];exact Zbp w _ _ _
 have hg1:w1.heap[g+1]?=some (.cells #[.int .u8 (k:Nat)] 5 (0,0)):=by rw [e1,eg];exact Zbq w _ _ _
 have hg2:w1.heap[g+1+1]?=some (.cells #[.int .u8 0,.int .i64 0,.int .i64 0,.int .i64 0,.int .i64 0] 75 (0,0)):=by rw [e1,eg];exact ZaQ w _ _ _
 obtain ⟨f0,f1⟩:=cs2 hg0
 have f2:w1.cell? ⟨g+1,0,none⟩=some (.int .u8 (k:Nat)):=Za hg1 0 _ rfl
 have h1:Zo w1 A n c cs:=h.below hb
 have F:=ZnI k (g+1) A n c cs w1 h1 f2
 obtain ⟨R,eR⟩:∃ R,R=ZC k cs:=⟨_,rfl⟩
 rw [←eR]
 have H:=Qh (Qi hb (Qi eR (Qi h1 hg2)))
 have HG:=Qh eg
 clear hb h h1 hg0 hg1 hg2 eR
 go_enter Tryz.func118,Tryz.ntmps118
 go_upto_region 1 with fail
 rw [←e1,←eg]
 clear e1 eg
 go_upto_region 2 with (go_at_call 150;refine F.mono ?_;rintro e w2 ⟨kk,rfl,hk,hb2⟩;have H2:=Qh (Qi hk hb2);clear hk hb2)
 have g1:=(H2.out.2.cell (Zc f1)).trans f1
 have hg2:=(H2.out.2.block _ (Zh H.out.2.2.2)).trans H.out.2.2.2
 obtain ⟨r0,r1,r2,r3,r4⟩:=QM hg2
 have s0:=Zd hg2 0
 have s1:=Zd hg2 1
 have s2:=Zd hg2 2
 have s3:=Zd hg2 3
 have s4:=Zd hg2 4
 have g2:=(H2.out.2.cell (Zc f2)).trans f2
 rcases Xd.find H2.out.1 with ⟨j,x,rfl,hx,hf⟩|⟨rfl,hf⟩
 ·have h:=H.out.2.2.1.below H2.out.2
  have hlen:=h.len
  have hlim:=h.lim
  obtain ⟨hj,-⟩:=List.getElem?_eq_some_iff.1 hx
  have i0:(0:Int)≤(j:Int):=by omega
  have i1:(j:Int)<(n:Int):=by omega
  have i3:decide ((j:Int)<0)=false:=decide_eq_false (by omega)
  have i4:((j:Int)).toNat=j:=rfl
  obtain ⟨b,o,rfl,hc⟩:=h.at_ j x hx
  obtain ⟨c0,c1,c2,c3,c4⟩:=hc
  have HR:R=some x:=H.out.2.1.trans hf
  subst HR
  have HX:=Qh (Qi h hg2)
  clear h hg2 hf hx hlen hlim
  go_wp2_with fail
  refine bodyPost_ret (Zde rfl _ _ (g+1+1) _ rfl rfl (Yk (.int .u8 (x.kind:Nat)) (.int .i64 x.v0) (.int .i64 x.v1) (.int .i64 x.v2) (.int .i64 x.v3) HX.out.2)) rfl ?_
  exact ⟨rfl,Yl _ _ _ _ _ (H.out.1.trans (H2.out.2.mono H.out.1.size)) (by have:=HG.out;omega)⟩
 ·have HR:R=none:=H.out.2.1.trans hf
  subst HR
  go_wp2_with fail
  refine bodyPost_ret (Zde rfl _ _ (g+1+1) _ rfl rfl (Yk (.int .u8 (k:Nat)) (.int .i64 0) (.int .i64 0) (.int .i64 0) (.int .i64 0) hg2)) rfl ?_
  exact ⟨rfl,Yl _ _ _ _ _ (H.out.1.trans (H2.out.2.mono H.out.1.size)) (by have:=HG.out;omega)⟩
end
end Go.Proofs.YtlgcfimhfmgkmaaGreatDoor
namespace Go.Proofs.YtlgcfimhfmgkmaaGreatDoor
open Go.RowKit
section
theorem ZhD (k:Nat) (i:Int) (hk:k<256) (hi:-1000000≤i∧i≤1000000) (w:World) :
  Calls Tryz.prog 119 #[.int .u8 (k:Nat),.int .i64 i] w fun r w'=>r=.returned (.int .i64 (4*(k:Int)+i))∧w'=w:=by
 have u2:wrap64 (4*(k:Int)+i)=4*(k:Int)+i:=Zn _ (by omega) (by omega)
 have u0:wrap64 (k:Int)=(k:Int):=Zn _ (by omega) (by omega)
 have u1:wrap64 (4*(k:Int))=4*(k:Int):=Zn _ (by omega) (by omega)
 have HU:=Qh (Qi u0 (Qi u1 u2))
 clear hk hi u0 u1 u2
 go_enter Tryz.func119,Tryz.ntmps119
 go_wp2_with fail
 go_ret
 obtain ⟨u0,u1,u2⟩:=HU.out
 refine ⟨?_,rfl⟩
 show Ending.returned (.int .i64 (wrap64 (wrap64 (4*wrap64 (k:Int))+i)))=_
 rw [u0,u1,u2]
end
end Go.Proofs.YtlgcfimhfmgkmaaGreatDoor
namespace Go.Proofs.YtlgcfimhfmgkmaaGreatDoor
open Go.RowKit
section
open Go.RowKit Go.Shelf
open M (blen zig zag)
def szK:Nat→Nat
 | 1=>2 | 2=>2 | 3=>4 | 4=>1 | 5=>1 | 6=>1 | 7=>4 | 8=>2 | 9=>4 | 10=>4 | _=>0
def Cmp.v (c:Cmp):Nat→Int
 | 0=>c.v0 | 1=>c.v1 | 2=>c.v2 | _=>c.v3
def ZL (k:Nat) (cs:List Cmp):Cmp:=(ZC k cs).getD ⟨k,0,0,0,0⟩
def YM (k:Nat) (cs:List Cmp):Bool:=(ZC k cs).isSome
def Xf (p:Ent × Ent):Nat:=if p.2.id=0 then 1 else if p.1.id=0 then 2 else 3
def Zak (k:Nat) (x y:Cmp) (i:Nat):List Op:=Yh (4*(k:Int)+(i:Int)) (y.v i-x.v i)
def Qm (k:Nat) (x y:Cmp) (m:Nat):List Op:=(List.range m).flatMap (Zak k x y)
def XQ (was now:List Cmp) (k:Nat):List Op:=
 if YM k was=YM k now∧ZL k was=ZL k now then [(Zp k,0)]
 else if YM k now=false then [(Zp k,1)]
 else (Zp k,2) :: Qm k (ZL k was) (ZL k now) (szK k)
def YC (was now:List Cmp) (m:Nat):List Op:=(List.range m).flatMap fun j=>XQ was now (j+1)
def Xu (p:Ent × Ent) (last:Int):List Op:=(Zp (-1),Xf p) :: (Yh (-3) (Zr p-last)++if p.2.id=0 then [] else YC p.1.cs p.2.cs 10)
def Zal:Int→List (Ent × Ent)→Int
 | a,[]=>a
 | _,p :: l=>Zal (Zr p) l
def Qn (l:List (Ent × Ent)):Int:=Zal 0 l
def Ye:Int→List (Ent × Ent)→List Op
 | _,[]=>[]
 | last,p :: l=>Xu p last++Ye (Zr p) l
def X3 (s t:Int) (ds:List (Ent × Ent)):List Op:=Yh (-2) (t-s)++(Ye 0 ds++[(Zp (-1),0)])
theorem ZnK (l:List (Ent × Ent)):∀ (a:Int) (p:Ent × Ent),Zal a (l++[p])=Zr p:=by
 induction l with
 | nil=>intro a p;rfl
 | cons q l ih=>intro a p;exact ih _ _
theorem ZhE (l:List (Ent × Ent)) (p:Ent × Ent):Qn (l++[p])=Zr p:=ZnK l 0 p
theorem ZnL (l:List (Ent × Ent)):∀ (a:Int) (p:Ent × Ent),Ye a (l++[p])=Ye a l++Xu p (Zal a l):=by
 induction l with
 | nil=>intro a p;simp [Ye,Zal]
 | cons q l ih=>
  intro a p
  show Xu q a++Ye (Zr q) (l++[p])=(Xu q a++Ye (Zr q) l)++Xu p (Zal (Zr q) l)
  rw [ih,List.append_assoc]
theorem ZnM (l:List (Ent × Ent)) (p:Ent × Ent):Ye 0 (l++[p])=Ye 0 l++Xu p (Qn l):=ZnL l 0 p
theorem ZhF (k:Nat) (x y:Cmp) (m:Nat):Qm k x y (m+1)=Qm k x y m++Zak k x y m:=by unfold Qm;rw [List.range_succ,List.flatMap_append];simp
theorem ZeQ (was now:List Cmp) (m:Nat):YC was now (m+1)=YC was now m++XQ was now (m+1):=by unfold YC;rw [List.range_succ,List.flatMap_append];simp
theorem ZnN (n v:Int) (h0:-8589934592≤v) (h1:v≤8589934592):(Yh n v).length≤36:=by
 have hz:zig (XM v)<2 ^ 35:=by
  unfold zig XM
  split<;>omega
 have:=M.blen_le hz
 unfold Yh Xl
 rw [List.length_cons,ZgB]
 omega
def InV (c:Cmp):Prop:=∀ i,-4294967296≤c.v i∧c.v i≤4294967296
theorem ZnO {k:Nat} {x y:Cmp} (hx:InV x) (hy:InV y) (i:Nat):(Zak k x y i).length≤36:=by
 have:=hx i
 have:=hy i
 exact ZnN _ _ (by omega) (by omega)
theorem ZhG {k:Nat} {x y:Cmp} (hx:InV x) (hy:InV y) (m:Nat):(Qm k x y m).length≤36*m:=by
 induction m with
 | zero=>simp [Qm]
 | succ m ih=>rw [ZhF,List.length_append];have:=ZnO (k:=k) hx hy m;omega
theorem ZhH (k:Nat):szK k≤4:=by unfold szK;split<;>omega
def Xg (cs:List Cmp):Prop:=∀ c,c∈cs→InV c
theorem JL {k:Nat} {cs:List Cmp} (h:Xg cs):InV (ZL k cs):=by
 unfold ZL
 rcases hf:ZC k cs with _ | c
 ·intro i;simp only [Option.getD_none];unfold Cmp.v;split<;>simp
 ·exact h c (List.mem_of_find?_eq_some hf)
theorem Ju {was now:List Cmp} (h:Xg was) (h':Xg now) (k:Nat):(XQ was now k).length≤1+36*szK k:=by
 unfold XQ
 split
 ·simp
 ·split
  ·simp
  ·rw [List.length_cons];have:=ZhG (k:=k) (JL (k:=k) h) (JL (k:=k) h') (szK k);omega
theorem ZhI {was now:List Cmp} (h:Xg was) (h':Xg now):(YC was now 10).length≤910:=by
 have k1:=Ju h h' 1
 have k2:=Ju h h' 2
 have k3:=Ju h h' 3
 have k4:=Ju h h' 4
 have k5:=Ju h h' 5
 have k6:=Ju h h' 6
 have k7:=Ju h h' 7
 have k8:=Ju h h' 8
 have k9:=Ju h h' 9
 have k10:=Ju h h' 10
 simp only [szK] at k1 k2 k3 k4 k5 k6 k7 k8 k9 k10
 simp only [ZeQ,List.length_append,Nat.zero_add,Nat.reduceAdd]
 simp only [YC,List.range_zero,List.flatMap_nil,List.length_nil]
 omega
theorem ZhJ {p:Ent × Ent} (h:Xg p.1.cs) (h':Xg p.2.cs) (last:Int):(Xu p last).length≤976:=by
 unfold Xu
 rw [List.length_cons,List.length_append]
 have h1:=(QN (-3) (Zr p-last)).2.1
 have h2:=ZhI h h'
 split
 ·simp only [List.length_nil];omega
 ·omega
theorem ZeR (l:List (Ent × Ent)) (h:∀ p,p∈l→Xg p.1.cs∧Xg p.2.cs):∀ a,(Ye a l).length≤976*l.length:=by
 induction l with
 | nil=>intro a;simp [Ye]
 | cons p l ih=>
  intro a
  show (Xu p a++Ye (Zr p) l).length≤_
  rw [List.length_append,List.length_cons]
  have h1:=ZhJ (h p (by simp)).1 (h p (by simp)).2 a
  have h2:=ih (fun q hq=>h q (by simp [hq])) (Zr p)
  omega
theorem ZnP {c:Cmp} (h:YJ c=true):InV c:=by
 unfold YJ at h
 simp only [Bool.and_eq_true,decide_eq_true_eq] at h
 obtain ⟨⟨hk,⟨⟨⟨h0,h1⟩,h2⟩,h3⟩⟩,-⟩:=h
 have key:∀ i v,inR c.kind i v=true→-4294967296≤v∧v≤4294967296:=by
  intro i v hv
  unfold inR at hv
  simp only [Bool.and_eq_true,Bool.not_eq_true',decide_eq_false_iff_not] at hv
  have hl:∀ k i,-4294967296≤rgL k i:=by intro k i;unfold rgL;split<;>(try split)<;>omega
  have hh:∀ k i,rgH k i≤4294967296:=by intro k i;unfold rgH;split<;>(try split)<;>omega
  have:=hl c.kind i
  have:=hh c.kind i
  omega
 intro i
 unfold Cmp.v
 split
 ·exact key 0 _ h0
 ·exact key 1 _ h1
 ·exact key 2 _ h2
 ·exact key 3 _ h3
theorem Zam {e:Ent} (h:Yv e=true):Xg e.cs:=by
 intro c hc
 unfold Yv at h
 simp only [Bool.and_eq_true,Bool.not_eq_true',List.any_eq_false] at h
 have:=h.2 c hc
 exact ZnP (by simpa using this)
end
end Go.Proofs.YtlgcfimhfmgkmaaGreatDoor
namespace Go.Proofs.YtlgcfimhfmgkmaaGreatDoor
open Go.RowKit
section
open Go.RowKit Go.Shelf
section
variable {w0 W W':World} {X:EX} {c:St × Bun} {F F':List Nat}
theorem ES.lt (h:ES w0 W X c F):∀ q,q∈F→q<W.heap.size:=by
 obtain ⟨⟨Fe,k,eF,hS,hR,hn1,hn2⟩,hne,hsh⟩:=h
 intro q hq
 rw [eF] at hq
 obtain ⟨p,hp,hq⟩:=Qf.1 hq
 exact (hS.sep.1 p hp).lt q hq
theorem ES.bel (h:ES w0 W X c F):Below w0.heap.size w0 W:=by
 obtain ⟨⟨Fe,k,eF,hS,hR,hn1,hn2⟩,hne,hsh⟩:=h
 exact hS.bel
theorem ES.keep (h:ES w0 W X c F) (hs:∀ q,q∈F→W'.heap[q]?=W.heap[q]?) (hb:Below w0.heap.size w0 W') (hz:W.heap.size≤W'.heap.size):ES w0 W' X c F:=by
 obtain ⟨⟨Fe,k,eF,hS,hR,hn1,hn2⟩,hne,hsh⟩:=h
 refine ⟨⟨Fe,k,eF,⟨⟨fun p hp=>?_,hS.sep.2⟩,hS.base,hb⟩,hR,hn1,hn2⟩,hne,hsh⟩
 exact (hS.sep.1 p hp).keep (fun q hq=>hs q (by rw [eF];exact Qf.2 ⟨p,hp,hq⟩)) hz
theorem ES.below (h:ES w0 W X c F) (hb:Below W.heap.size W W'):ES w0 W' X c F:=
 h.keep (fun q hq=>hb.block q (h.lt q hq)) (h.bel.trans (hb.mono h.bel.size)) hb.size
theorem ES.cells (h:ES w0 W X c F):∀ q,q∈F→q=X.m1∨q=X.m2∨∃ o:Obj,W.heap[q]?=some o∧o.isCells=true:=by
 obtain ⟨⟨Fe,k,eF,hS,hR,hn1,hn2⟩,hne,hsh⟩:=h
 intro q hq
 rw [eF] at hq
 obtain ⟨p,hp,hq⟩:=Qf.1 hq
 simp only [Xm,List.mem_cons,List.not_mem_nil,or_false] at hp
 rcases hp with rfl|rfl|rfl|rfl|rfl
 ·have he:EOk (Xc w0.heap.size X.eb) W Fe c.1:=hS.sep.head
  obtain ⟨cs,t,h1,h2⟩:=he.c.types hq
  exact .inr (.inr ⟨_,h1,rfl⟩)
 ·have hk:KAt W k.J k.bm k.g k.nums c.2:=hS.sep.tail.head
  rcases YX.1 hq with ⟨j,hj,rfl|rfl⟩|⟨p,hp,rfl⟩
  ·exact .inr (.inr ⟨_,(hk.mod j hj).blk,rfl⟩)
  ·exact .inr (.inr ⟨_,(hk.mod j hj).row,rfl⟩)
  ·exact .inr (.inr ⟨_,(hk.num p hp).1,rfl⟩)
 ·simp only [ZU,List.mem_cons,List.not_mem_nil,or_false] at hq
  rcases hq with hq | hq
  ·exact .inl hq
  ·exact .inr (.inl hq)
 ·simp only [Zb,List.mem_cons,List.not_mem_nil,or_false] at hq
  have hb:W.heap[X.mb]?=some (ZJ X.m1 X.m2):=hS.sep.tail.tail.tail.head
  exact .inr (.inr ⟨_,by rw [hq];exact hb,rfl⟩)
 ·simp only [Zb,List.mem_cons,List.not_mem_nil,or_false] at hq
  have hb:W.heap[X.bb]?=some ZI:=hS.sep.tail.tail.tail.tail.head
  exact .inr (.inr ⟨_,by rw [hq];exact hb,rfl⟩)
theorem ES.froms (h:ES w0 W X c F) (fr:Fr F W F' W') {B:Nat} (h1:X.m1<B) (h2:X.m2<B):KeepsFrom B W W':=by
 refine ⟨fr.size,fun k o hk ho hc=>(fr.block k (Zh ho) (fun e=>?_)).trans ho⟩
 rcases h.cells k e with e | e|⟨o',h3,h4⟩
 ·omega
 ·omega
 ·rw [ho] at h3;injection h3 with h3;rw [h3,h4] at hc;cases hc
def Zdf (W:World) (F:List Nat) (cs:List (Nat × Obj)):Prop:=∀ p,p∈cs→W.heap[p.1]?=some p.2∧p.1∉F
theorem Zdf.fr {cs:List (Nat × Obj)} (h:Zdf W F cs) (fr:Fr F W F' W'):Zdf W' F' cs:=by
 intro p hp
 obtain ⟨h1,h2⟩:=h p hp
 have hlt:=Zh h1
 refine ⟨(fr.block _ hlt h2).trans h1,fun e=>?_⟩
 rcases fr.own _ e with e | e
 ·exact h2 e
 ·omega
structure EB (w0 W:World) (X:EX) (c:St × Bun) (F:List Nat) (cs:List (Nat × Obj)):Prop where
 es:ES w0 W X c F
 kp:Zdf W F cs
variable {cs:List (Nat × Obj)}
theorem EB.below (h:EB w0 W X c F cs) (hb:Below W.heap.size W W'):EB w0 W' X c F cs:=
 ⟨h.es.below hb,fun p hp=>⟨(hb.block _ (Zh (h.kp p hp).1)).trans (h.kp p hp).1,(h.kp p hp).2⟩⟩
theorem EB.call {c':St × Bun} (h:EB w0 W X c F cs) (hes:ES w0 W' X c' F') (fr:Fr F W F' W'):EB w0 W' X c' F' cs:=⟨hes,h.kp.fr fr⟩
theorem EB.alloc (h:EB w0 W X c F cs) (o:Obj):EB w0 (W.alloc o) X c F ((W.heap.size,o) :: cs):=by
 refine ⟨h.es.below (Zg W o),fun p hp=>?_⟩
 rcases List.mem_cons.1 hp with rfl | hp
 ·exact ⟨heap_alloc_new W o,fun e=>by have:=h.es.lt _ e;omega⟩
 ·exact (h.below (Zg W o)).kp p hp
theorem EB.sub {ds:List (Nat × Obj)} (h:EB w0 W X c F cs) (hs:∀ p,p∈ds→p∈cs):EB w0 W X c F ds:=⟨h.es,fun p hp=>h.kp p (hs p hp)⟩
theorem EB.at (h:EB w0 W X c F cs) {q:Nat} {o:Obj} (hq:(q,o)∈cs):W.heap[q]?=some o:=(h.kp _ hq).1
theorem JM (W:World) (q:Nat) (i:Nat) (v:Value) {k:Nat} (h:k≠q):(W.setCell ⟨q,i,none⟩ v).heap[k]?=W.heap[k]?:=Below.heap_setCell _ _ _ _ h
theorem size_setCell (W:World) (a:Addr) (v:Value):(W.setCell a v).heap.size=W.heap.size:=by simp [World.setCell]
theorem EB.set {q:Nat} {v v':Value} {T:TypeId} (h:EB w0 W X c F ((q,.cells #[v] T (0,0)) :: cs)) (hlo:w0.heap.size≤q) (hne:∀ p,p∈cs→p.1≠q):EB w0 (W.setCell ⟨q,0,none⟩ v') X c F ((q,.cells #[v'] T (0,0)) :: cs):=by
 obtain ⟨hq,hn⟩:=h.kp _ (List.mem_cons_self)
 refine ⟨h.es.keep (fun k hk=>JM W q 0 v' (fun e=>hn (by rw [←e];exact hk))) ?_ (by rw [size_setCell];exact Nat.le_refl _),fun p hp=>?_⟩
 ·exact h.es.bel.setCell (p:=⟨q,0,none⟩) hlo v'
 ·rcases List.mem_cons.1 hp with rfl | hp
  ·exact ⟨block_setCell hq 0 v',hn⟩
  ·exact ⟨(JM W q 0 v' (hne p hp)).trans (h.kp p (List.mem_cons_of_mem _ hp)).1,(h.kp p (List.mem_cons_of_mem _ hp)).2⟩
theorem EB.own {B:Nat} {row:Option Nat} (h:EB w0 W X c F cs) (hg:W.grownBy W' row) (hr:∀ r,row=some r→B≤r∧∃ o:Obj,W.heap[r]?=some o∧o.isCells=false) (h1:X.m1<B) (h2:X.m2<B) (hB:w0.heap.size≤B) (hc:∀ p,p∈cs→p.2.isCells=true):EB w0 W' X c F cs:=by
 have far:∀ q,q<W.heap.size→(q=X.m1∨q=X.m2∨∃ o:Obj,W.heap[q]?=some o∧o.isCells=true)→W'.heap[q]?=W.heap[q]?:=fun q hq hx=>hg.block q hq (fun e=>by
  obtain ⟨hBr,o,h3,h4⟩:=hr q e.symm
  rcases hx with e | e|⟨o',h5,h6⟩
  ·omega
  ·omega
  ·rw [h3] at h5;injection h5 with h5;rw [h5,h6] at h4;cases h4)
 refine ⟨h.es.keep (fun q hq=>far q (h.es.lt q hq) (h.es.cells q hq)) ?_ hg.size,fun p hp=>⟨?_,(h.kp p hp).2⟩⟩
 ·exact h.es.bel.grown hg h.es.bel.size (fun k e=>Nat.le_trans hB (hr k e).1)
 ·have h3:=(h.kp p hp).1
  exact (far p.1 (Zh h3) (.inr (.inr ⟨_,h3,hc p hp⟩))).trans h3
end
end
end Go.Proofs.YtlgcfimhfmgkmaaGreatDoor
namespace Go.Proofs.YtlgcfimhfmgkmaaGreatDoor
open Go.RowKit
section
def wO (t:Int) (v:Value):Obj:=.cells #[.int .i64 t,v] 24 (0,0)
theorem YK.ne {w:World} {b n g:Nat} {t:Int→Int} {cs:Array Value} {T:TypeId} {z:Nat × Nat} (h:YK w b n t) (hg:w.heap[g]?=some (.cells cs T z)):g≠b:=by
 rintro rfl
 obtain ⟨D,⟨es,ck,hb,r⟩,h2⟩:=h
 rw [hg] at hb
 cases hb
theorem YK.own {w:World} {b n B e s k:Nat} {t:Int→Int} {v:Value} {xs:List Value} (h:YK w b n t) (ho:w.ownsRow B e s v k xs):v.ownBlock≠some b:=by
 rcases ho.2 with ⟨rfl,_⟩|⟨g,cap,cur,rfl,hB,hh,r⟩
 ·intro e;cases e
 ·intro e
  have e:some g=some b:=e
  injection e with e
  exact h.ne hh e
structure MP (w W:World) (g m k:Nat) (tbl:Int→Int) (s t:Int) (va vb:Value):Prop where
 out:Below w.heap.size w W
 b0:W.heap[g]?=some (wO s va)
 b1:W.heap[g+1]?=some (wO t vb)
 b2:W.heap[g+1+1]?=some (wO 0 (.slice none 0 0))
 mp:YK W m k tbl
 lo:w.heap.size≤m
section
variable {w W W':World} {g m k:Nat} {tbl:Int→Int} {s t:Int} {va vb:Value}
theorem MP.keep (h:MP w W g m k tbl s t va vb) (hb:Below w.heap.size w W') (hk:∀ q,q=g∨q=g+1∨q=g+1+1∨q=m→W'.heap[q]?=W.heap[q]?):MP w W' g m k tbl s t va vb:=
 ⟨hb,(hk _ (.inl rfl)).trans h.b0,(hk _ (.inr (.inl rfl))).trans h.b1,(hk _ (.inr (.inr (.inl rfl)))).trans h.b2,h.mp.keep (hk _ (.inr (.inr (.inr rfl)))),h.lo⟩
theorem MP.lt (h:MP w W g m k tbl s t va vb):∀ q,q=g∨q=g+1∨q=g+1+1∨q=m→q<W.heap.size:=by
 rintro q (rfl|rfl|rfl|rfl)
 ·exact Zh h.b0
 ·exact Zh h.b1
 ·exact Zh h.b2
 ·exact h.mp.lt
theorem MP.below (h:MP w W g m k tbl s t va vb) (hb:Below W.heap.size W W'):MP w W' g m k tbl s t va vb:=
 h.keep (h.out.trans (hb.mono h.out.size)) (fun q hq=>hb.block q (h.lt q hq))
theorem MP.put {T:TypeId} (h:MP w W g m k tbl s t va vb) (ht:Tryz.prog.underlying T=some (.map 3 3)) (hn:k<maxLen) (x:Int) (h0:-9223372036854775808≤x) (h1:x≤9223372036854775807) (v:Int) (v0:-9223372036854775808≤v) (v1:v≤9223372036854775807) :
  ∃ W',(Instr.mapUpdate T (.map (some m)) (.int .i64 x) (.int .i64 v)).run Tryz.prog W=.ok () W'∧MP w W' g m (k+1) (Qc tbl x v) s t va vb:=by
 obtain ⟨W',hrun,hmp,hg⟩:=h.mp.put ht hn x h0 h1 v v0 v1
 have keep:∀ (q:Nat) (cs:Array Value) (T:TypeId),W.heap[q]?=some (.cells cs T (0,0))→W'.heap[q]?=W.heap[q]?:=fun q cs T hq=>
  hg.block q (Zh hq) (fun e=>by injection e with e;exact h.mp.ne hq e)
 exact ⟨W',hrun,h.out.grown hg h.out.size (fun q e=>by injection e with e;have:=h.lo;omega),(keep _ _ _ h.b0).trans h.b0,(keep _ _ _ h.b1).trans h.b1,(keep _ _ _ h.b2).trans h.b2,hmp,h.lo⟩
structure MG (w W:World) (g m k:Nat) (tbl:Int→Int) (s t:Int) (va vb:Value) (ob:Nat) (ov:Value) (rs:List ER):Prop where
 mp:MP w W g m k tbl s t va vb
 fe:FE w W ov rs
 bo:W.heap[ob]?=some (wO t ov)
 lo:w.heap.size≤ob
 gt:g+1+1<ob
 fo:∀ r,r∈rs→r.e.cs≠[]→∀ b o q,r.A=some ⟨b,o,q⟩→ob<b
variable {ob:Nat} {ov:Value} {rs:List ER}
theorem MG.below (h:MG w W g m k tbl s t va vb ob ov rs) (hb:Below W.heap.size W W'):MG w W' g m k tbl s t va vb ob ov rs:=
 ⟨h.mp.below hb,h.fe.below hb,(hb.block _ (Zh h.bo)).trans h.bo,h.lo,h.gt,h.fo⟩
theorem MG.new (h:MP w W g m k tbl s t va vb) (hlt:g+1+1<W.heap.size):MG w (W.alloc (wO t (.slice none 0 0))) g m k tbl s t va vb W.heap.size (.slice none 0 0) []:=by
 have hb:=Zg W (wO t (.slice none 0 0))
 exact ⟨h.below hb,⟨⟨rfl,Or.inl ⟨rfl,rfl⟩⟩,by simp,by simp,by simp,h.out.trans (hb.mono h.out.size)⟩,heap_alloc_new W _,h.out.size,hlt,by simp⟩
theorem MG.push {W5:World} {v5:Value} {x:ER} (O:Obj) (h:MG w W g m k tbl s t va vb ob ov rs) (ht:Zo W x.A x.n x.c x.e.cs) (htf:∀ b o q,x.A=some ⟨b,o,q⟩→ob<b∧ov.ownBlock≠some b)
  (hg5:(W.alloc O).grownBy W5 ov.ownBlock) (hown:W5.ownsRow w.heap.size 70 2 v5 (rs.length+1) (ers rs++x.cells)) (hblk:v5.ownBlock=ov.ownBlock∨v5.ownBlock=some (W.heap.size+1)) :
  MG w (W5.setCell ⟨ob,1,none⟩ v5) g m k tbl s t va vb ob v5 (rs++[x]):=by
 have fe5:FE w W5 v5 (rs++[x]):=h.fe.push O ht (fun _ b o q e=>(htf b o q e).2) (fun b o q e=>by have:=(htf b o q e).1;have:=h.lo;omega) hg5 hown hblk
 have keep:∀ q,q<W.heap.size→ov.ownBlock≠some q→W5.heap[q]?=W.heap[q]?:=fun q hq hne=>(hg5.block q (by simp;omega) (by intro e;exact hne e.symm)).trans (Below.heap_alloc _ _ _ hq)
 have neT:(24:TypeId)≠70:=by decide
 have keepW:∀ (q:Nat) (tt:Int) (vv:Value),W.heap[q]?=some (wO tt vv)→W5.heap[q]?=W.heap[q]?:=fun q tt vv hq=>keep q (Zh hq) (Q6 h.fe.own hq neT)
 have bo5:W5.heap[ob]?=some (wO t ov):=(keepW _ _ _ h.bo).trans h.bo
 have mp5:MP w W5 g m k tbl s t va vb:=⟨fe5.out,(keepW _ _ _ h.mp.b0).trans h.mp.b0,(keepW _ _ _ h.mp.b1).trans h.mp.b1,(keepW _ _ _ h.mp.b2).trans h.mp.b2,h.mp.mp.keep (keep _ h.mp.mp.lt (h.mp.mp.own h.fe.own)),h.mp.lo⟩
 have far:∀ q,q≠ob→(W5.setCell ⟨ob,1,none⟩ v5).heap[q]?=W5.heap[q]?:=fun q hq=>JM W5 ob 1 v5 hq
 have hgt:=h.gt
 have hmo:m≠ob:=fun e=>mp5.mp.ne bo5 e.symm
 have hout:Below w.heap.size w (W5.setCell ⟨ob,1,none⟩ v5):=fe5.out.setCell (p:=⟨ob,1,none⟩) h.lo v5
 refine ⟨mp5.keep hout (fun q hq=>far q (by rcases hq with rfl|rfl|rfl|rfl<;>first | exact hmo | omega)),?_,block_setCell bo5 1 v5,h.lo,hgt,?_⟩
 ·refine ⟨XW fe5.own (fun q hq=>far q (fun e=>Q6 fe5.own bo5 neT (by rw [hq,e]))),fun r hr=>(fe5.row r hr).stepN (fun hne b o q hA hl=>far b ?_),fe5.dis,fe5.low,hout⟩
  rcases List.mem_append.1 hr with hr | hr
  ·have:=h.fo r hr hne b o q hA
   omega
  ·rw [List.mem_singleton.1 hr] at hA
   have:=(htf b o q hA).1
   omega
 ·intro r hr hne b o q hA
  rcases List.mem_append.1 hr with hr | hr
  ·exact h.fo r hr hne b o q hA
  ·rw [List.mem_singleton.1 hr] at hA
   have:=(htf b o q hA).1
   omega
end
end
end Go.Proofs.YtlgcfimhfmgkmaaGreatDoor
