/- Lemmas for the statement. -/
import Derived.Test.YtlgcfimhfmgkmaaGreatDoorMBE
import Derived.Laws.AppendOwnNone
import Derived.Lib.AppendZerosOnto
set_option linter.unusedVariables false
set_option linter.unusedSimpArgs false
set_option maxRecDepth 100000
set_option maxHeartbeats 4000000
namespace Go.Proofs.YtlgcfimhfmgkmaaGreatDoor
open Go.RowKit
section
theorem ZiL {P:Program} (w:World) {ops:Array Oper} {rest:List Oper} {o:Oper} {a:Act} {Q:Exit→Act→World→Prop} (hgd:o.guard=none) (s x:Operand) (t tn:TypeId)
  (ho:o.op=.call { callee:=.builtin .append,args:=#[s,x],argTypes:=#[t,tn] }) (v u:Value) (hs:a.eval s=v) (hx:a.eval x=u) {v':Value} {w':World}
  (hr:(Builtin.append_ #[t,tn] o.type #[v,u]).run P w=.ok v' w') (h:wpList P ops Q rest (a.put o.dst v') w'):wpList P ops Q (o :: rest) a w:=by
 refine wpList_plain hgd fun K hK=>?_
 unfold Oper.wp
 simp [execOp,ho,resolve,invoke,builtin,hs,hx,hr,Result.andThen]
 exact hK _ _ h
theorem infoByte:(Tryz.prog.info? 5).map (fun i=>(i.zero,i.size,i.bytes))=some (some (.int .u8 0),1,1):=by kernel_rfl
structure Src where
 A:Option Addr
 n:Nat
 c:Nat
 xs:List Value
structure X6 (w:World) (s:Src):Prop where
 len:s.xs.length=s.n
 nil:s.A=none→s.n=0∧s.c=0
 at_:∀ ad,s.A=some ad→∀ j u,s.xs[j]?=some u→w.cell? (ad.add j)=some u
 one:∀ u,u∈s.xs→u.oneCell'=true
theorem X6.below {w w':World} {s:Src} (h:X6 w s) (hb:Below w.heap.size w w'):X6 w' s:=by
 refine ⟨h.len,h.nil,fun ad e j u hu=>?_,h.one⟩
 have:=h.at_ ad e j u hu
 obtain ⟨b,o,p⟩:=ad
 have hlt:((⟨b,o,p⟩:Addr).add j).block<w.heap.size:=World.block_lt_of_cell? w _ this
 have hs:=hb.block _ hlt
 unfold World.cell? at this ⊢
 rw [hs]
 exact this
def Yf (l:List Src):Nat:=(l.map Src.n).sum
def QH (l:List Src):List Value:=l.flatMap Src.xs
theorem ZdF (l:List Src) (j:Nat) (s:Src) (h:l[j]?=some s):Yf (l.take (j+1))=Yf (l.take j)+s.n:=by
 rw [List.take_add_one,h];unfold Yf;simp
theorem ZiM (l:List Src) (j:Nat) (s:Src) (h:l[j]?=some s):QH (l.take (j+1))=QH (l.take j)++s.xs:=by
 rw [List.take_add_one,h];unfold QH;simp
theorem ZdG (l:List Src) (j:Nat):Yf (l.take j)≤Yf l:=by
 have h:Yf l=Yf (l.take j)+Yf (l.drop j):=by
  unfold Yf
  rw [←List.sum_append,←List.map_append,List.take_append_drop]
 omega
theorem Tq67 {p:Prop} (h:p:=by
 rw [←eC] at h1 h2
 refine ⟨?_,h2⟩
 rw [ecs,Array.size_append,Array.size_append,size_zeroCells,size_zeroCells]
 simp only [Value.cells,List.size_toArray,List.length_nil,List.length_singleton]
 omega):p:=h
theorem Tq60 {p:Prop} (h:p:=by
 go_ret
 refine ⟨_,rfl,⟨rfl,Or.inr ⟨w.heap.size,C,cs,rfl,Nat.le_refl _,heap_alloc_new w.drew _,Nat.zero_le _,HR.out.2.2,by rw [HR.out.2.1];omega,rfl⟩⟩,?_⟩
 exact ((Below.refl _ w).drew).trans (Zg w.drew _)):p:=h
theorem ZpD (k:Nat) (hk:k≤1000000) (w:World) :
  Calls Tryz.prog 110 #[.slice none 0 0,.int .i64 (k:Nat)] w fun e w'=>∃ v,e=.returned v∧w'.ownsRow w.heap.size 3 1 v 0 []∧Below w.heap.size w w':=by
 obtain ⟨i0,hi,hz0,hz1,hz2⟩:=info_parts ZaX
 rcases Nat.eq_zero_or_pos k with rfl | hk0
 ·clear hi hz0 hz1 hz2
  go_enter Tryz.func110,Tryz.ntmps110
  exact Tq59
 ·have ht:Tryz.prog.underlying 48=some (.slice 3):=Tryz.underlying48
  have htn:Tryz.prog.underlying 3=some (.int .i64):=Tryz.underlying3
  have hfit:Builtin.nextslicecap (0+k) 0*i0.bytes≤281474976710656:=by
   rw [hz2]
   unfold Builtin.nextslicecap
   simp only [Nat.zero_add,Nat.mul_zero,Nat.add_zero]
   rw [if_pos (by omega)]
   omega
  have hold:(Builtin.firstCells i0.size 0 (.slice none 0 0)).run Tryz.prog w.drew=.ok ([]:List Value).toArray w.drew:=rfl
  have hrun:=fun ty=>Lib.run_append_grow_zeros (P:=Tryz.prog) w 48 3 ty 3 i0 (Value.int .i64 0) .i64 .i64 ht htn hi hz0 none 0 0 [] hold k hk0 (by rw [hz1];decide) (by omega) (by omega) (by rw [hz2];omega) hfit
  obtain ⟨C,eC⟩:∃ C,C=grownCap w (0+k) 0 3:=⟨_,rfl⟩
  rw [←eC] at hrun
  obtain ⟨cs,ecs⟩:∃ cs,cs=(([]:List Value).toArray++Builtin.zeroCells (Value.int .i64 0).cells k++Builtin.zeroCells (Value.int .i64 0).cells (C-(0+k))):=⟨_,rfl⟩
  rw [←ecs] at hrun
  have hC:cs.size=C∧C≤maxLen:=by
   have h1:=grownCap_ge w (0+k) 0 3
   have h2:=grownCap_le_maxLen w (0+k) 0 3 (by unfold maxLen;omega)
   exact Tq67
  have u0:wrap64 ((k:Int)-0)=(k:Int):=by rw [Zn _ (by omega) (by omega)];omega
  have u1:decide ((0:Int)<(k:Int))=true:=decide_eq_true (by omega)
  have u2:decide ((k:Int)<0)=false:=decide_eq_false (by omega)
  have u3:wrap64 (k:Int)=(k:Int):=Zn _ (by omega) (by omega)
  have HR:=Qh (Qi hrun hC)
  clear hrun hC hold hfit ht htn hi hz0 hz1 hz2 eC ecs
  go_enter Tryz.func110,Tryz.ntmps110
  go_wp2_with (at_builtin;refine ZiL _ rfl (.tmp 20) (.tmp 21) 48 3 rfl _ _ rfl rfl (HR.out.1 _) ?_)
  exact Tq60
theorem Tq71 {p:Prop} (h:p:=by
 go_roundg (m-(j2+1))
 case measure=>have:=HX.out.1;omega
 case rel=>exact ⟨j2+1,by have:=HX.out.1;omega,by go_num,by rw [HX.out.2.2.2.1,HX.out.2.2.2.2.1];exact HV.out.1,HV.out.2⟩):p:=h
theorem Tq68 {p:Prop} (h:p:=by
 go_roundg (m-(j2+1))
 case measure=>have:=HX.out.1;omega
 case rel=>exact ⟨j2+1,by have:=HX.out.1;omega,by go_num,by rw [HX.out.2.2.2.1,HX.out.2.2.2.2];exact HX.out.2.1,HX.out.2.2.1⟩):p:=h
theorem Tq49 {p:Prop} (h:p:=by
 have i2:decide (j2<m)=false:=decide_eq_false hlt
 have ht:l.take j2=l:=List.take_of_length_le (by omega)
 rw [ht] at hown eS2
 subst eS2
 have HX:=Qh (Qi hown hb)
 clear hlt hg hm hs hc hsum hm4 ht hown hb
 go_wp2_with fail
 go_ret
 exact ⟨_,rfl,HX.out.1,HX.out.2⟩):p:=h
theorem Tq13 {p:Prop} (h:p:=by
 obtain ⟨s,hx⟩:∃ s,l[j]?=some s:=⟨_,List.getElem?_eq_getElem (by omega)⟩
 have c0:=hc j s hx
 have hmore:=ZdF l j s hx
 have hle:=ZdG l (j+1)
 obtain ⟨S,eS⟩:∃ S,S=Yf (l.take j):=⟨_,rfl⟩
 rw [←eS] at hmore ⊢
 have i0:(0:Int)≤(j:Int):=by omega
 have i1:(j:Int)<(m:Int):=by omega
 have i2:decide (j<m)=true:=decide_eq_true hlt
 obtain ⟨T1,eT1⟩:∃ T1,T1=Yf (l.take (j+1)):=⟨_,rfl⟩
 rw [←eT1] at hmore hle
 have u4:decide ((T1:Int)<0)=false:=decide_eq_false (by omega)
 have hcast:(S:Int)+(s.n:Int)=(T1:Int):=by rw [hmore];exact (Int.natCast_add S s.n).symm
 have hb1:-9223372036854775808≤(T1:Int)∧(T1:Int)≤9223372036854775807:=by omega
 have u2:wrap64 ((j:Int)+1)=(j:Int)+1:=Zn _ (by omega) (by omega)
 have u3:wrap64 ((S:Int)+(s.n:Int))=(T1:Int):=by rw [hcast];exact Zn _ hb1.1 hb1.2
 have HX:=Qh (Qi hlt (Qi hg eT1))
 clear hlt hg hmore hle eS hx hm hs hc hsum hm4 hcast hb1 eT1
 go_wp2_with fail
 go_roundg (m-(j+1))
 case measure=>have:=HX.out.1;have:=HX.out.2.1;omega
 case rel=>exact ⟨j+1,by have:=HX.out.1;omega,by go_num,by rw [u3,HX.out.2.2],rfl⟩):p:=h
theorem Zfo (sb m:Nat) (l:List Src) (w:World) (hm:m=l.length) (hs:∀ s,s∈l→X6 w s) (hc:∀ (i:Nat) s,l[i]?=some s→w.cell? ⟨sb,i,none⟩=some (.slice s.A s.n s.c)) (hsum:Yf l≤1000000) (hm4:m≤1000) :
  Calls Tryz.prog 51 #[.slice (some ⟨sb,0,none⟩) m m] w fun e w'=>∃ v,e=.returned v∧w'.ownsRow w.heap.size 3 1 v (Yf l) (QH l)∧Below w.heap.size w w':=by
 obtain ⟨iz,hi,hz0,hz1,hz2⟩:=info_parts ZaX
 have HI:=Qh (Qi hi (Qi hz0 (Qi hz1 hz2)))
 have H:=Qh (Qi hm (Qi hs (Qi hc (Qi hsum hm4))))
 clear hm hs hc hsum hm4 hi hz0 hz1 hz2
 go_enter Tryz.func51,Tryz.ntmps51
 go_wp2_with fail
 go_loopg [3,11] m (fun gh sv iv wr=>∃ j:Nat,gh+j=m∧iv=.int .i64 (j:Nat)∧sv=.int .i64 (Yf (l.take j):Nat)∧wr=w)
 case atStart=>exact ⟨0,rfl,rfl,rfl,rfl⟩
 case round=>
  obtain ⟨j,hg,rfl,rfl,ew⟩:=hrel
  rw [ew]
  clear ew
  obtain ⟨hm,hs,hc,hsum,hm4⟩:=H.out
  by_cases hlt:j<m
  ·exact Tq13
  ·have i2:decide (j<m)=false:=decide_eq_false hlt
   have ht:l.take j=l:=List.take_of_length_le (by omega)
   rw [ht]
   have FG:=ZpD (Yf l) hsum w
   clear hlt hg hm hs hc hsum hm4 ht
   go_wp2_with (go_at_call 110;refine FG.mono ?_;rintro e w2 ⟨v,rfl,hown,hb⟩;have HG:=Qh (Qi hown hb);clear hown hb FG)
   go_loopg [6,27] m (fun gh v iv wr2=>∃ j:Nat,gh+j=m∧iv=.int .i64 (j:Nat)∧wr2.ownsRow w.heap.size 3 1 v (Yf (l.take j)) (QH (l.take j))∧Below w.heap.size w wr2)
   case atStart=>exact ⟨0,rfl,rfl,HG.out.1,HG.out.2⟩
   case round=>
    obtain ⟨j2,hg,rfl,hown,hb⟩:=hrel
    obtain ⟨W,eW⟩:∃ V,V=wr:=⟨_,rfl⟩
    rw [←eW] at hown hb ⊢
    clear eW
    obtain ⟨VA,vc,ev⟩:=YF hown
    subst ev
    obtain ⟨hm,hs,hc,hsum,hm4⟩:=H.out
    obtain ⟨S2,eS2⟩:∃ S2,S2=Yf (l.take j2):=⟨_,rfl⟩
    rw [←eS2] at hown ⊢
    by_cases hlt:j2<m
    ·obtain ⟨s,hx⟩:∃ s,l[j2]?=some s:=⟨_,List.getElem?_eq_getElem (by omega)⟩
     have c0:=(hb.cell (Zc (hc j2 s hx))).trans (hc j2 s hx)
     have hok:=(hs s (List.mem_of_getElem? hx)).below hb
     have hmore:=ZdF l j2 s hx
     have hmx:=ZiM l j2 s hx
     have hle:=ZdG l (j2+1)
     have i0:(0:Int)≤(j2:Int):=by omega
     have i1:(j2:Int)<(m:Int):=by omega
     have i2:decide (j2<m)=true:=decide_eq_true hlt
     have u2:wrap64 ((j2:Int)+1)=(j2:Int)+1:=Zn _ (by omega) (by omega)
     rw [←eS2] at hmore
     have hM:S2+s.n≤maxLen∧(S2+s.n)*8≤140737488355328:=by unfold maxLen;omega
     clear eS2
     obtain ⟨sA,sn,sc,sxs⟩:=s
     rcases sA with _ | ad
     ·obtain ⟨h1,h2⟩:=hok.nil rfl
      simp only [] at h1 h2
      subst h1 h2
      have hx0:sxs=[]:=List.eq_nil_of_length_eq_zero hok.len
      subst hx0
      simp only [Nat.add_zero,List.append_nil] at hmore hmx
      have HX:=Qh (Qi (Qi hlt hg) (Qi hown (Qi hb (Qi hmore hmx))))
      clear hlt hg hmore hmx hle hx hm hs hc hsum hm4 hok hown hb hM
      go_wp2_with (at_builtin;refine Go.wpList_append_own_none rfl (.tmp 31) (.tmp 32) 48 rfl w.heap.size 3 iz 1 Tryz.underlying48 HI.out.1 _ _ _ rfl HX.out.2.1 rfl ?_)
      exact Tq68
     ·have hat:=hok.at_ ad rfl
      have hone:=hok.one
      have hln:=hok.len
      simp only [] at hat hone hln c0 hmore hmx hM
      have HX:=Qh (Qi (Qi hlt hg) (Qi hown (Qi hb (Qi hmore (Qi hmx (Qi hat (Qi hone (Qi hln hM))))))))
      clear hlt hg hmore hmx hle hx hm hs hc hsum hm4 hok hown hb hM hat hone hln
      go_wp2_with (at_builtin;refine wpList_append_own_at _ rfl (.tmp 31) (.tmp 32) 48 rfl w.heap.size 3 iz _ 1 8 Tryz.underlying48 HI.out.1 HI.out.2.1 HI.out.2.2.1 HI.out.2.2.2 rfl (by decide) _ _ _ rfl HX.out.2.1 ad sn sc sxs rfl (by rw [HX.out.2.2.2.2.2.2.2.1,Nat.mul_one]) HX.out.2.2.2.2.2.1 HX.out.2.2.2.2.2.2.1 HX.out.2.2.2.2.2.2.2.2.1 HX.out.2.2.2.2.2.2.2.2.2 HX.out.2.2.1.size ?_;intro v5 w5 hown5 hg5 _ hblk;have HV:=Qh (Qi hown5 (HX.out.2.2.1.grown hg5 HX.out.2.2.1.size (fun q e=>(Yg HX.out.2.1 e).2)));clear hown5 hg5 hblk)
      exact Tq71
    ·exact Tq49
theorem ZpE (k:Nat) (hk:k≤1000000) (w:World) :
  Calls Tryz.prog 122 #[.slice none 0 0,.int .i64 (k:Nat)] w fun e w'=>∃ v,e=.returned v∧w'.ownsRow w.heap.size 5 1 v 0 []∧Below w.heap.size w w':=by
 obtain ⟨i0,hi,hz0,hz1,hz2⟩:=info_parts infoByte
 rcases Nat.eq_zero_or_pos k with rfl | hk0
 ·clear hi hz0 hz1 hz2
  go_enter Tryz.func122,Tryz.ntmps122
  exact Tq59
 ·have ht:Tryz.prog.underlying 41=some (.slice 5):=Tryz.underlying41
  have htn:Tryz.prog.underlying 3=some (.int .i64):=Tryz.underlying3
  have hfit:Builtin.nextslicecap (0+k) 0*i0.bytes≤281474976710656:=by
   rw [hz2]
   unfold Builtin.nextslicecap
   simp only [Nat.zero_add,Nat.mul_zero,Nat.add_zero]
   rw [if_pos (by omega)]
   omega
  have hold:(Builtin.firstCells i0.size 0 (.slice none 0 0)).run Tryz.prog w.drew=.ok ([]:List Value).toArray w.drew:=rfl
  have hrun:=fun ty=>Lib.run_append_grow_zeros (P:=Tryz.prog) w 41 3 ty 5 i0 (Value.int .u8 0) .i64 .i64 ht htn hi hz0 none 0 0 [] hold k hk0 (by rw [hz1];decide) (by omega) (by omega) (by rw [hz2];omega) hfit
  obtain ⟨C,eC⟩:∃ C,C=grownCap w (0+k) 0 5:=⟨_,rfl⟩
  rw [←eC] at hrun
  obtain ⟨cs,ecs⟩:∃ cs,cs=(([]:List Value).toArray++Builtin.zeroCells (Value.int .u8 0).cells k++Builtin.zeroCells (Value.int .u8 0).cells (C-(0+k))):=⟨_,rfl⟩
  rw [←ecs] at hrun
  have hC:cs.size=C∧C≤maxLen:=by
   have h1:=grownCap_ge w (0+k) 0 5
   have h2:=grownCap_le_maxLen w (0+k) 0 5 (by unfold maxLen;omega)
   exact Tq67
  have u0:wrap64 ((k:Int)-0)=(k:Int):=by rw [Zn _ (by omega) (by omega)];omega
  have u1:decide ((0:Int)<(k:Int))=true:=decide_eq_true (by omega)
  have u2:decide ((k:Int)<0)=false:=decide_eq_false (by omega)
  have u3:wrap64 (k:Int)=(k:Int):=Zn _ (by omega) (by omega)
  have HR:=Qh (Qi hrun hC)
  clear hrun hC hold hfit ht htn hi hz0 hz1 hz2 eC ecs
  go_enter Tryz.func122,Tryz.ntmps122
  go_wp2_with (at_builtin;refine ZiL _ rfl (.tmp 20) (.tmp 21) 41 3 rfl _ _ rfl rfl (HR.out.1 _) ?_)
  exact Tq60
theorem ZiN (sb m:Nat) (l:List Src) (w:World) (hm:m=l.length) (hs:∀ s,s∈l→X6 w s) (hc:∀ (i:Nat) s,l[i]?=some s→w.cell? ⟨sb,i,none⟩=some (.slice s.A s.n s.c)) (hsum:Yf l≤1000000) (hm4:m≤1000) :
  Calls Tryz.prog 55 #[.slice (some ⟨sb,0,none⟩) m m] w fun e w'=>∃ v,e=.returned v∧w'.ownsRow w.heap.size 5 1 v (Yf l) (QH l)∧Below w.heap.size w w':=by
 obtain ⟨iz,hi,hz0,hz1,hz2⟩:=info_parts infoByte
 have HI:=Qh (Qi hi (Qi hz0 (Qi hz1 hz2)))
 have H:=Qh (Qi hm (Qi hs (Qi hc (Qi hsum hm4))))
 clear hm hs hc hsum hm4 hi hz0 hz1 hz2
 go_enter Tryz.func55,Tryz.ntmps55
 go_wp2_with fail
 go_loopg [3,11] m (fun gh sv iv wr=>∃ j:Nat,gh+j=m∧iv=.int .i64 (j:Nat)∧sv=.int .i64 (Yf (l.take j):Nat)∧wr=w)
 case atStart=>exact ⟨0,rfl,rfl,rfl,rfl⟩
 case round=>
  obtain ⟨j,hg,rfl,rfl,ew⟩:=hrel
  rw [ew]
  clear ew
  obtain ⟨hm,hs,hc,hsum,hm4⟩:=H.out
  by_cases hlt:j<m
  ·exact Tq13
  ·have i2:decide (j<m)=false:=decide_eq_false hlt
   have ht:l.take j=l:=List.take_of_length_le (by omega)
   rw [ht]
   have FG:=ZpE (Yf l) hsum w
   clear hlt hg hm hs hc hsum hm4 ht
   go_wp2_with (go_at_call 122;refine FG.mono ?_;rintro e w2 ⟨v,rfl,hown,hb⟩;have HG:=Qh (Qi hown hb);clear hown hb FG)
   go_loopg [6,27] m (fun gh v iv wr2=>∃ j:Nat,gh+j=m∧iv=.int .i64 (j:Nat)∧wr2.ownsRow w.heap.size 5 1 v (Yf (l.take j)) (QH (l.take j))∧Below w.heap.size w wr2)
   case atStart=>exact ⟨0,rfl,rfl,HG.out.1,HG.out.2⟩
   case round=>
    obtain ⟨j2,hg,rfl,hown,hb⟩:=hrel
    obtain ⟨W,eW⟩:∃ V,V=wr:=⟨_,rfl⟩
    rw [←eW] at hown hb ⊢
    clear eW
    obtain ⟨VA,vc,ev⟩:=YF hown
    subst ev
    obtain ⟨hm,hs,hc,hsum,hm4⟩:=H.out
    obtain ⟨S2,eS2⟩:∃ S2,S2=Yf (l.take j2):=⟨_,rfl⟩
    rw [←eS2] at hown ⊢
    by_cases hlt:j2<m
    ·obtain ⟨s,hx⟩:∃ s,l[j2]?=some s:=⟨_,List.getElem?_eq_getElem (by omega)⟩
     have c0:=(hb.cell (Zc (hc j2 s hx))).trans (hc j2 s hx)
     have hok:=(hs s (List.mem_of_getElem? hx)).below hb
     have hmore:=ZdF l j2 s hx
     have hmx:=ZiM l j2 s hx
     have hle:=ZdG l (j2+1)
     have i0:(0:Int)≤(j2:Int):=by omega
     have i1:(j2:Int)<(m:Int):=by omega
     have i2:decide (j2<m)=true:=decide_eq_true hlt
     have u2:wrap64 ((j2:Int)+1)=(j2:Int)+1:=Zn _ (by omega) (by omega)
     rw [←eS2] at hmore
     have hM:S2+s.n≤maxLen∧(S2+s.n)*1≤140737488355328:=by unfold maxLen;omega
     clear eS2
     obtain ⟨sA,sn,sc,sxs⟩:=s
     rcases sA with _ | ad
     ·obtain ⟨h1,h2⟩:=hok.nil rfl
      simp only [] at h1 h2
      subst h1 h2
      have hx0:sxs=[]:=List.eq_nil_of_length_eq_zero hok.len
      subst hx0
      simp only [Nat.add_zero,List.append_nil] at hmore hmx
      have HX:=Qh (Qi (Qi hlt hg) (Qi hown (Qi hb (Qi hmore hmx))))
      clear hlt hg hmore hmx hle hx hm hs hc hsum hm4 hok hown hb hM
      go_wp2_with (at_builtin;refine Go.wpList_append_own_none rfl (.tmp 31) (.tmp 32) 41 rfl w.heap.size 5 iz 1 Tryz.underlying41 HI.out.1 _ _ _ rfl HX.out.2.1 rfl ?_)
      exact Tq68
     ·have hat:=hok.at_ ad rfl
      have hone:=hok.one
      have hln:=hok.len
      simp only [] at hat hone hln c0 hmore hmx hM
      have HX:=Qh (Qi (Qi hlt hg) (Qi hown (Qi hb (Qi hmore (Qi hmx (Qi hat (Qi hone (Qi hln hM))))))))
      clear hlt hg hmore hmx hle hx hm hs hc hsum hm4 hok hown hb hM hat hone hln
      go_wp2_with (at_builtin;refine wpList_append_own_at _ rfl (.tmp 31) (.tmp 32) 41 rfl w.heap.size 5 iz _ 1 1 Tryz.underlying41 HI.out.1 HI.out.2.1 HI.out.2.2.1 HI.out.2.2.2 rfl (by decide) _ _ _ rfl HX.out.2.1 ad sn sc sxs rfl (by rw [HX.out.2.2.2.2.2.2.2.1,Nat.mul_one]) HX.out.2.2.2.2.2.1 HX.out.2.2.2.2.2.2.1 HX.out.2.2.2.2.2.2.2.2.1 HX.out.2.2.2.2.2.2.2.2.2 HX.out.2.2.1.size ?_;intro v5 w5 hown5 hg5 _ hblk;have HV:=Qh (Qi hown5 (HX.out.2.2.1.grown hg5 HX.out.2.2.1.size (fun q e=>(Yg HX.out.2.1 e).2)));clear hown5 hg5 hblk)
      exact Tq71
    ·exact Tq49
end
end Go.Proofs.YtlgcfimhfmgkmaaGreatDoor
