/- Lemmas for the statement. -/
import Derived.Test.YtlgcfimhfmgkmaaGreatDoorMBC
set_option linter.unusedVariables false
set_option linter.unusedSimpArgs false
set_option maxRecDepth 100000
set_option maxHeartbeats 8000000
namespace Go.Proofs.YtlgcfimhfmgkmaaGreatDoor
open Go.RowKit
section
theorem ZdC (l:List LR):∀ j,(lrs l).drop (j*4)=lrs (l.drop j):=by
 induction l with
 | nil=>intro j;simp [lrs]
 | cons x l ih=>
  intro j
  rcases j with _ | j
  ·simp
  ·have e:lrs (x :: l)=x.cells++lrs l:=rfl
   rw [e,List.drop_succ_cons,←ih j,show (j+1)*4=x.cells.length+j*4 from by rw [QW];omega,List.drop_append,List.drop_eq_nil_of_le (by omega),Nat.add_sub_cancel_left,List.nil_append]
theorem Zfl (l:List LR):∀ j,(lrs l).take (j*4)=lrs (l.take j):=by
 induction l with
 | nil=>intro j;simp [lrs]
 | cons x l ih=>
  intro j
  rcases j with _ | j
  ·simp [lrs]
  ·have e:lrs (x :: l)=x.cells++lrs l:=rfl
   have e2:lrs ((x :: l).take (j+1))=x.cells++lrs (l.take j):=rfl
   rw [e,e2,←ih j,show (j+1)*4=x.cells.length+j*4 from by rw [QW];omega,List.take_append,List.take_of_length_le (by omega),Nat.add_sub_cancel_left]
structure QX (xs:List Value) (ls K:List LR) (i j:Nat):Prop where
 ki:K.length=i
 lt:i<j
 take:xs.take (i*4)=lrs K
 drop:xs.drop (j*4)=lrs (ls.drop j)
theorem QX.skip {xs:List Value} {ls K:List LR} {i j:Nat} {x:LR} (h:QX xs ls K i j) (hx:ls[j]?=some x):QX xs ls K i (j+1):=by
 refine ⟨h.ki,by have:=h.lt;omega,h.take,?_⟩
 have e:(xs.drop (j*4)).drop 4=(lrs (ls.drop j)).drop (1*4):=by rw [h.drop]
 rw [List.drop_drop,ZdC,List.drop_drop] at e
 rw [show (j+1)*4=j*4+4 from by omega,e]
theorem QX.move {xs:List Value} {ls K:List LR} {i j:Nat} {x:LR} (h:QX xs ls K i j) (hx:ls[j]?=some x) (hl:xs.length=ls.length*4):QX (Y2 xs (i*4) x.cells) ls (K++[x]) (i+1) (j+1):=by
 have hs:=h.skip hx
 have hlt:=h.lt
 obtain ⟨hj,-⟩:=List.getElem?_eq_some_iff.1 hx
 have e0:(xs.take (i*4)).length=i*4:=by rw [List.length_take,hl];omega
 refine ⟨by rw [List.length_append,h.ki];rfl,by omega,?_,?_⟩
 ·rw [Y2,List.take_left' (by rw [List.length_append,e0,QW];omega),h.take,Zcg]
 ·rw [Y2,QW,List.drop_append,List.drop_eq_nil_of_le (by rw [List.length_append,e0,QW];omega),List.nil_append,List.drop_drop,List.length_append,e0,QW,←hs.drop]
  congr 1;omega
theorem QX.at_ {xs:List Value} {ls K:List LR} {i j:Nat} {x:LR} (h:QX xs ls K i j) (hx:ls[j]?=some x) (k:Nat) (u:Value) (hk:x.cells[k]?=some u):xs[j*4+k]?=some u:=by
 have e:(xs.drop (j*4))[k]?=(lrs (ls.drop j))[k]?:=by rw [h.drop]
 obtain ⟨hj,e1⟩:=List.getElem?_eq_some_iff.1 hx
 obtain ⟨hk',-⟩:=List.getElem?_eq_some_iff.1 hk
 rw [List.getElem?_drop] at e
 rw [e,List.drop_eq_getElem_cons hj,e1]
 show (x.cells++lrs (ls.drop (j+1)))[k]?=some u
 rw [List.getElem?_append_left hk',hk]
theorem ZbI (p:LR→Bool) (ls:List LR) (j:Nat) (x:LR) (hx:ls[j]?=some x):(ls.take (j+1)).filter p=(ls.take j).filter p++(if p x then [x] else []):=by
 rw [List.take_add_one,hx,List.filter_append]
 rcases hp:p x<;>simp [hp]
theorem ZiA (x:Rec) (CA:Option Addr) (cn cc:Nat) (k:Int) (kb:Nat) (w:World) (hkb:w.cell? ⟨kb,0,none⟩=some (.int .i64 k)) :
  Calls Tryz.prog 69 #[.agg #[.int .i64 x.num,.int .i64 x.base,.int .i64 x.tick,.slice CA cn cc],.pointer (some ⟨kb,0,none⟩)] w fun e w'=>e=.returned (.bool (decide (x.num<k)))∧Below w.heap.size w w':=by
 obtain ⟨w1,e1⟩:∃ w1,w1=w.alloc (.cells #[.int .i64 x.num,.int .i64 x.base,.int .i64 x.tick,.slice CA cn cc] 45 (0,0)):=⟨_,rfl⟩
 obtain ⟨g,eg⟩:∃ g,g=w.heap.size:=⟨_,rfl⟩
 have hb:Below w.heap.size w w1:=by rw [e1];exact Zg w _
 have hg:w1.heap[g]?=some (.cells #[.int .i64 x.num,.int .i64 x.base,.int .i64 x.tick,.slice CA cn cc] 45 (0,0)):=by rw [e1,eg];exact heap_alloc_new w _
 have f0:w1.cell? ⟨g,0,none⟩=some (.int .i64 x.num):=Za hg 0 _ rfl
 have hkb:=(hb.cell (Zc hkb)).trans hkb
 have H:=Qh hb
 clear hb hg
 go_enter Tryz.func69,Tryz.ntmps69
 go_upto_region 1 with fail
 rw [←e1,←eg]
 clear e1 eg
 go_wp2_with fail
 go_ret
 exact ⟨rfl,H.out⟩
theorem Y3 {w w':World} {B e s n:Nat} {v:Value} {xs:List Value} (h:w.ownsRow B e s v n xs) (hb:Below w.heap.size w w'):w'.ownsRow B e s v n xs:=by
 refine ⟨h.1,?_⟩
 rcases h.2 with h'|⟨g,cap,cur,h',hB,hg,r⟩
 ·exact .inl h'
 ·exact .inr ⟨g,cap,cur,h',hB,(hb.block _ (lt_of_block hg)).trans hg,r⟩
theorem Zav {w w':World} (hb:Below w.heap.size w w'):w.grownBy w' none:=⟨hb.os,hb.tape,hb.output,hb.size,fun k hk _=>hb.block k hk⟩
theorem Zps (kd:Int) (kb:Nat) (A:Option Addr) (n cap:Nat) (l:List Rec) (w:World) (h:Zy w A n cap l) (hkb:w.cell? ⟨kb,0,none⟩=some (.int .i64 kd)) :
  Calls Tryz.prog 133 #[.slice A n cap,.func (.func 69) #[] #[.pointer (some ⟨kb,0,none⟩)]] w fun e w'=>∃ k:Int,e=.returned (.int .i64 k)∧Xd (fun r=>decide (r.num<kd)) l k∧Below w.heap.size w w':=by
 have H:=Qh (Qi h hkb)
 clear h hkb
 go_enter Tryz.func133,Tryz.ntmps133
 go_wp2_with fail
 go_loopg [8] n (fun gh iv wr=>∃ j:Nat,gh+j=n∧(∀ (i:Nat) y,i<j→l[i]?=some y→(fun r=>decide (r.num<kd)) y=false)∧iv=.int .i64 (j:Nat)∧Below w.heap.size w wr)
 case atStart=>exact ⟨0,rfl,fun i y h=>by omega,rfl,Below.refl _ _⟩
 case round=>
  obtain ⟨j,hg,hall,rfl,hW⟩:=hrel
  obtain ⟨W,eW⟩:∃ W,W=wr:=⟨_,rfl⟩
  rw [←eW] at hW ⊢
  clear eW
  have h:=H.out.1
  have hlen:=h.len
  have hlim:=h.lim
  by_cases hlt:j<n
  ·obtain ⟨x,hx⟩:∃ x,l[j]?=some x:=⟨_,List.getElem?_eq_getElem (by omega)⟩
   have i0:(0:Int)≤(j:Int):=by omega
   have i1:(j:Int)<(n:Int):=by omega
   have i2:decide (j<n)=true:=decide_eq_true hlt
   have w2:wrap64 ((j:Int)+1)=(j:Int)+1:=Zn _ (by omega) (by omega)
   obtain ⟨R,eR⟩:∃ R,R=(fun r=>decide (r.num<kd)) x:=⟨_,rfl⟩
   obtain ⟨b,o,CA,cn,cc,rfl,⟨c0,c1,c2,c3⟩,hr⟩:=h.at_ j x hx
   have hbk:=hW.block b (Zc c0)
   have c0:=(Zm hbk _).trans c0
   have c1:=(Zm hbk _).trans c1
   have c2:=(Zm hbk _).trans c2
   have c3:=(Zm hbk _).trans c3
   clear hbk
   have F:Calls Tryz.prog 69 #[.agg #[.int .i64 x.num,.int .i64 x.base,.int .i64 x.tick,.slice CA cn cc],.pointer (some ⟨kb,0,none⟩)] W fun e w'=>e=.returned (.bool R)∧Below W.heap.size W w':=by rw [eR];exact ZiA x CA cn cc kd kb W ((Zm (hW.block kb (Zc H.out.2)) _).trans H.out.2)
   have HX:=Qh (Qi hx (Qi hlt (Qi hg (Qi hall (Qi hW eR)))))
   clear hx hlt hg hall hW eR h hlen hlim
   rcases R with _ | _
   ·go_wp2_with (go_at_call 69;refine F.mono ?_;rintro e w3 ⟨rfl,hb3⟩;have H3:=Qh hb3;clear hb3)
    exact Tq3
   ·go_wp2_with (go_at_call 69;refine F.mono ?_;rintro e w3 ⟨rfl,hb3⟩;have H3:=Qh hb3;clear hb3)
    exact Tq12
  ·exact Tq4
theorem Tq44 {p:Prop} (h:p:=by
 rw [ZbI _ ls i0 x hx,hp]
 simp only [Bool.not_true,Bool.false_eq_true,if_false,List.append_nil]
 refine List.filter_eq_self.2 (fun z hz=>?_)
 obtain ⟨i,hi⟩:=List.getElem?_of_mem hz
 rw [List.getElem?_take] at hi
 split at hi
 ·rw [hno i z.r (by assumption) (by rw [List.getElem?_map,hi];rfl)];rfl
 ·cases hi):p:=h
theorem Tq40 {p:Prop} (h:p:=by
 have hK:ls.filter (fun x=>!P x.r)=ls:=by
  refine List.filter_eq_self.2 (fun z hz=>?_)
  rw [hno z.r (List.mem_map.2 ⟨z,hz,rfl⟩)];rfl
 have HS:=Qh (Qi hK (Qi hg2 ho2))
 clear hK hg2 ho2 hno F H2
 go_wp2_with fail
 go_ret
 exact ⟨n,rfl,by rw [HS.out.1];exact H.out.1.2.1,by rw [HS.out.1];exact HS.out.2.2,HS.out.2.1⟩):p:=h
theorem Tq35 {p:Prop} (h:p:=by
 go_roundg (n-(j+1))
 case measure=>have:=HX.out.1.2.1;have:=HX.out.1.2.2.1;omega
 case rel=>
  refine ⟨i,j+1,xs,by have:=HX.out.1.2.1;omega,by go_num,by go_num,?_,Y3 HX.out.2.2.1 H3.out,HX.out.2.2.2.1.trans ((Zav H3.out).but _)⟩
  rw [ZbI _ ls j x HX.out.1.1,←HX.out.1.2.2.2]
  simp only [Bool.not_true,Bool.false_eq_true,if_false,List.append_nil]
  exact HX.out.2.1.skip HX.out.1.1):p:=h
theorem Tq10 {p:Prop} (h:p:=by
 have hjn:j=n:=by omega
 have i2:decide (j<n)=false:=decide_eq_false hlt
 have hin:i<n:=by omega
 have hci:¬ cap=i:=by omega
 have hic:i≤cap:=by omega
 obtain ⟨zs,ezs⟩:∃ zs,zs=(Builtin.zeroCells (Value.agg #[.int .i64 0,.int .i64 0,.int .i64 0,.slice none 0 0]).cells (n-i)).toList:=⟨_,rfl⟩
 have hzs:zs.length=(n-i)*4:=by rw [ezs];exact (Zdz _ _).1
 have hcl:∀ ty,(Builtin.clear_ #[30] ty #[.slice (some ⟨g,i*4,none⟩) (n-i) (cap-i)]).run Tryz.prog W=.ok (.tuple #[]) (W.setCells g (i*4) zs):=fun ty=>by
  rw [ezs]
  refine Zfj W 30 45 ty (.agg #[.int .i64 0,.int .i64 0,.int .i64 0,.slice none 0 0]) Tryz.underlying30 Zfk (by decide) g (i*4) (n-i) (cap-i) (by omega) (fun t ht=>?_) (fun t ht=>hO.frozenAt _)
  have ht:t<(n-i)*4:=ht
  rw [hO.cellAt (i*4+t) (by omega),List.getElem?_eq_getElem (by omega)];rfl
 obtain ⟨hO4,hG4⟩:=Za4 zs (i*4) xs W hO (by omega)
 have hO5:=Zfi hO4 (n':=i) (by omega)
 have e5:(Y2 xs (i*4) zs).take (i*4)=lrs (ls.filter fun x=>!P x.r):=by
  have e0:(xs.take (i*4)).length=i*4:=by rw [List.length_take,hln];omega
  rw [Y2,List.append_assoc,List.take_left' e0,hI.take,hjn,hen,List.take_length]
 rw [e5] at hO5
 have hki:i=(ls.filter fun x=>!P x.r).length:=by
  have:=hI.ki
  rw [hjn,hen,List.take_length] at this
  exact this.symm
 have i3:(0:Int)≤(i:Int):=by omega
 have i4:(i:Int)≤(n:Int):=by omega
 have HY:=Qh (Qi hki (Qi hO5 (hG.trans hG4)))
 clear hki hO5 hO4 hG4 hO hG e5 ezs hzs hI hjn hln hen hgl hgh hlt hn
 go_wp2_with fail
 go_ret
 exact ⟨i,rfl,HY.out.1,HY.out.2.1,HY.out.2.2⟩):p:=h
theorem Tq9 {p:Prop} (h:p:=by
 have Zfm:=(Zci HX.out.2.2.1).2.2.2
 have hb0:=lt_of_block HX.out.2.2.2.2.1
 have hO3:=Y3 HX.out.2.2.1 H3.out
 have hG3:w.grownBy w3 (some g):=HX.out.2.2.2.1.trans ((Zav H3.out).but _)
 have d0:=(H3.out.cell (p:=⟨gb,0,none⟩) hb0).trans d0
 have d1:=(H3.out.cell (p:=⟨gb,1,none⟩) hb0).trans d1
 have d2:=(H3.out.cell (p:=⟨gb,2,none⟩) hb0).trans d2
 have d3:=(H3.out.cell (p:=⟨gb,3,none⟩) hb0).trans d3
 have hil:i*4+4≤xs.length:=by have:=HX.out.1.2.1;have:=HX.out.2.1.lt;have:=HX.out.2.2.2.2.2.1;omega
 have some_:=fun k (hk:k<4)=>show (w3.cell? ⟨g,i*4+k,none⟩).isSome=true by rw [hO3.cellAt (i*4+k) (by have:=HX.out.2.2.2.2.2.1;omega),List.getElem?_eq_getElem (by omega)];rfl
 obtain ⟨v0,s0⟩:=Option.isSome_iff_exists.1 (some_ 0 (by omega))
 obtain ⟨v1,s1⟩:=Option.isSome_iff_exists.1 (some_ 1 (by omega))
 obtain ⟨v2,s2⟩:=Option.isSome_iff_exists.1 (some_ 2 (by omega))
 obtain ⟨v3,s3⟩:=Option.isSome_iff_exists.1 (some_ 3 (by omega))
 rw [Nat.add_zero] at s0
 have z0:=hO3.frozenAt (i*4)
 have z1:=hO3.frozenAt (i*4+1)
 have z2:=hO3.frozenAt (i*4+2)
 have z3:=hO3.frozenAt (i*4+3)
 obtain ⟨hO4,hG4⟩:=Za4 x.cells (i*4) xs w3 hO3 (by rw [QW];omega)
 have hI4:=HX.out.2.1.move HX.out.1.1 (by rw [HX.out.2.2.2.2.2.1,HX.out.2.2.2.2.2.2])
 obtain ⟨W4,e4⟩:∃ W4,W4=w3.setCells g (i*4) x.cells:=⟨_,rfl⟩
 rw [←e4] at hO4 hG4
 have e6:W4=(((w3.setCell ⟨g,i*4,none⟩ (.int .i64 x.r.num)).setCell ⟨g,i*4+1,none⟩ (.int .i64 x.r.base)).setCell ⟨g,i*4+2,none⟩ (.int .i64 x.r.tick)).setCell ⟨g,i*4+3,none⟩ (.slice x.A x.n x.c):=e4
 clear e4
 have HY:=Qh (Qi hI4 (Qi hO4 (hG3.trans hG4)))
 clear hO3 hG3 hO4 hG4 hI4 some_ hil hb0 Zfm
 go_upto_region 10 with fail
 rw [←e6]
 clear e6 s0 s1 s2 s3 z0 z1 z2 z3 d0 d1 d2 d3
 go_wp2_with fail
 go_roundg (n-(j+1))
 case measure=>have:=HX.out.1.2.1;have:=HX.out.1.2.2.1;omega
 case rel=>
  refine ⟨i+1,j+1,_,by have:=HX.out.1.2.1;omega,by go_num,by go_num,?_,HY.out.2.1,HY.out.2.2⟩
  rw [ZbI _ ls j x HX.out.1.1,←HX.out.1.2.2.2]
  exact HY.out.1):p:=h
theorem Zpt (kd:Int) (kb:Nat) (B g cap:Nat) (ls:List LR) (w:World) (h:w.ownsRow B 45 4 (.slice (some ⟨g,0,none⟩) ls.length cap) ls.length (lrs ls)) (hn:ls.length≤1000) (hr:∀ x,x∈ls→Zj w x.A x.n x.c x.r.es) (hkb:w.cell? ⟨kb,0,none⟩=some (.int .i64 kd)) (hne:kb≠g) :
  Calls Tryz.prog 64 #[.slice (some ⟨g,0,none⟩) ls.length cap,.func (.func 69) #[] #[.pointer (some ⟨kb,0,none⟩)]] w fun e w'=>∃ m,e=.returned (.slice (some ⟨g,0,none⟩) m cap)∧m=(ls.filter fun x=>!(fun r=>decide (r.num<kd)) x.r).length∧w'.ownsRow B 45 4 (.slice (some ⟨g,0,none⟩) m cap) m (lrs (ls.filter fun x=>!(fun r=>decide (r.num<kd)) x.r))∧w.grownBy w' (some g):=by
 obtain ⟨P,eP⟩:∃ P:Rec→Bool,P=(fun r=>decide (r.num<kd)):=⟨_,rfl⟩
 rw [←eP]
 obtain ⟨n,en⟩:∃ n,n=ls.length:=⟨_,rfl⟩
 obtain ⟨hnc,hcm,hB,hgl⟩:=Zci h
 have hm:maxLen≤9223372036854775807:=by unfold maxLen;omega
 obtain ⟨A',c',e',hL⟩:=Zch h (by omega) hr
 injection e' with e1 _ e2
 subst e1 e2
 have F:=Zps kd kb (some ⟨g,0,none⟩) ls.length cap (ls.map LR.r) w hL hkb
 rw [←eP] at F
 rw [←en] at h hn hnc F ⊢
 have H:=Qh (Qi (Qi h (Qi en (Qi hne eP))) (Qi hkb (Qi hnc (Qi hcm (Qi hgl hn)))))
 clear h hL hr hne hnc hcm hB hgl eP en hn hm hkb
 go_enter Tryz.func64,Tryz.ntmps64
 go_upto_region 2 with (go_at_call 133;refine F.mono ?_;rintro e w2 ⟨kk,rfl,hk,hb2⟩;have H2:=Qh (Qi hk hb2);clear hk hb2)
 have hg2:w.grownBy w2 (some g):=(Zav H2.out.2).but _
 have ho2:=Y3 H.out.1.1 H2.out.2
 rcases H2.out.1 with ⟨i0,y,rfl,hy,hp,hno⟩|⟨rfl,hno⟩
 ·rw [List.getElem?_map] at hy
  rcases hx:ls[i0]? with _ | x
  ·rw [hx] at hy;cases hy
  rw [hx] at hy
  injection hy with hy
  subst hy
  obtain ⟨hi0,-⟩:=List.getElem?_eq_some_iff.1 hx
  have hK:(ls.take (i0+1)).filter (fun x=>!P x.r)=ls.take i0:=by
   exact Tq44
  have hI0:QX (lrs ls) ls (ls.take i0) i0 (i0+1):=⟨by rw [List.length_take];omega,by omega,Zfl ls i0,ZdC ls (i0+1)⟩
  have b1:((i0:Int)==-1)=false:=by simp
  have b2:wrap64 ((i0:Int)+1)=(i0:Int)+1:=Zn _ (by omega) (by have:=H.out.1.2.1;have:=H.out.2.2.2.2.2;omega)
  have HS:=Qh (Qi (Qi hI0 hK) (Qi hg2 (Qi ho2 hi0)))
  have HB:=Qh b2
  clear b2
  clear hI0 hK hg2 ho2 hi0 hp hno hx F H2
  go_wp2_with fail
  go_loopg [5,6] (n-(i0+1)) (fun gh iv jv wr=>∃ (i j:Nat) (xs:List Value),gh+j=n∧iv=.int .i64 (i:Nat)∧jv=.int .i64 (j:Nat)∧QX xs ls ((ls.take j).filter fun x=>!P x.r) i j∧wr.ownsRow B 45 4 (.slice (some ⟨g,0,none⟩) n cap) n xs∧w.grownBy wr (some g))
  case atStart=>exact ⟨i0,i0+1,lrs ls,by have:=HS.out.2.2.2;have:=H.out.1.2.1;omega,rfl,by rw [HB.out];go_num,by rw [HS.out.1.2];exact HS.out.1.1,HS.out.2.2.1,HS.out.2.1⟩
  case round=>
   obtain ⟨i,j,xs,hgh,rfl,rfl,hI,hO,hG⟩:=hrel
   obtain ⟨W,eW⟩:∃ W,W=wr:=⟨_,rfl⟩
   rw [←eW] at hO hG ⊢
   clear eW HS
   have hln:=hO.1
   have hen:=H.out.1.2.1
   have hij:=hI.lt
   have hnc:=H.out.2.2.1
   have hn:=H.out.2.2.2.2.2
   have hgl:=Nat.lt_of_lt_of_le H.out.2.2.2.2.1 hG.size
   by_cases hlt:j<n
   ·obtain ⟨x,hx⟩:∃ x,ls[j]?=some x:=⟨_,List.getElem?_eq_getElem (by omega)⟩
    have at_:=fun k u (hk:k<4) (hu:x.cells[k]?=some u)=>(hO.cellAt (j*4+k) (by omega)).trans (hI.at_ hx k u hu)
    have c0:W.cell? ⟨g,j*4,none⟩=some (.int .i64 x.r.num):=at_ 0 _ (by omega) rfl
    have c1:W.cell? ⟨g,j*4+1,none⟩=some (.int .i64 x.r.base):=at_ 1 _ (by omega) rfl
    have c2:W.cell? ⟨g,j*4+2,none⟩=some (.int .i64 x.r.tick):=at_ 2 _ (by omega) rfl
    have c3:W.cell? ⟨g,j*4+3,none⟩=some (.slice x.A x.n x.c):=at_ 3 _ (by omega) rfl
    clear at_
    have i0:(0:Int)≤(j:Int):=by omega
    have i1:(j:Int)<(n:Int):=by omega
    have i2:decide (j<n)=true:=decide_eq_true hlt
    have i3:(0:Int)≤(i:Int):=by omega
    have i4:(i:Int)<(n:Int):=by omega
    have b2:wrap64 ((j:Int)+1)=(j:Int)+1:=Zn _ (by omega) (by omega)
    have b3:wrap64 ((i:Int)+1)=(i:Int)+1:=Zn _ (by omega) (by omega)
    obtain ⟨W1,e1⟩:∃ W1,W1=W.alloc (.cells #[.int .i64 x.r.num,.int .i64 x.r.base,.int .i64 x.r.tick,.slice x.A x.n x.c] 45 (0,0)):=⟨_,rfl⟩
    obtain ⟨gb,eb⟩:∃ gb,gb=W.heap.size:=⟨_,rfl⟩
    have hb1:Below W.heap.size W W1:=by rw [e1];exact Zg W _
    have hbx:W1.heap[gb]?=some (.cells #[.int .i64 x.r.num,.int .i64 x.r.base,.int .i64 x.r.tick,.slice x.A x.n x.c] 45 (0,0)):=by rw [e1,eb];exact heap_alloc_new W _
    obtain ⟨d0,d1,d2,d3⟩:=cs4 hbx
    have hO1:=Y3 hO hb1
    have hG1:w.grownBy W1 (some g):=hG.trans ((Zav hb1).but _)
    obtain ⟨R,eR⟩:∃ R,R=P x.r:=⟨_,rfl⟩
    have hkb:=hG1.cell H.out.2.1 (fun e=>H.out.1.2.2.1 (by injection e))
    have F:Calls Tryz.prog 69 #[.agg #[.int .i64 x.r.num,.int .i64 x.r.base,.int .i64 x.r.tick,.slice x.A x.n x.c],.pointer (some ⟨kb,0,none⟩)] W1 fun e w'=>e=.returned (.bool R)∧Below W1.heap.size W1 w':=by rw [eR,H.out.1.2.2.2];exact ZiA x.r x.A x.n x.c kd kb W1 hkb
    have HX:=Qh (Qi (Qi hx (Qi hlt (Qi hgh eR))) (Qi hI (Qi hO1 (Qi hG1 (Qi hbx (Qi hln hen))))))
    clear hx hlt hgh eR hI hO hO1 hG hG1 hbx hb1 hln hen hij hnc hgl hn
    go_upto_region 8 with fail
    rw [←e1,←eb]
    clear e1 eb
    rcases R with _ | _
    ·go_upto_region 9 with (go_at_call 69;refine F.mono ?_;rintro e w3 ⟨rfl,hb3⟩;have H3:=Qh hb3;clear hb3)
     exact Tq9
    ·go_wp2_with (go_at_call 69;refine F.mono ?_;rintro e w3 ⟨rfl,hb3⟩;have H3:=Qh hb3;clear hb3)
     exact Tq35
   ·exact Tq10
 ·exact Tq40
end
end Go.Proofs.YtlgcfimhfmgkmaaGreatDoor
namespace Go.Proofs.YtlgcfimhfmgkmaaGreatDoor
open Go.RowKit
section
def It.cells (x:It):List Value:=[.int .i64 x.i,.int .i64 x.w,.int .i64 x.s]
def ZM (l:List It):List Value:=l.flatMap It.cells
theorem it_len (x:It):x.cells.length=3:=rfl
theorem Zpu (l:List It):∀ u∈ZM l,u.oneCell'=true:=by
 intro u hu
 unfold ZM at hu
 obtain ⟨x,_,hx⟩:=List.mem_flatMap.1 hu
 simp only [It.cells,List.mem_cons,List.not_mem_nil,or_false] at hx
 rcases hx with rfl|rfl|rfl<;>rfl
theorem Zpv:(Tryz.prog.info? 134).map (fun i=>(i.zero,i.size,i.bytes))=some (some (.agg #[.int .i64 0,.int .i64 0,.int .i64 0]),3,24):=by kernel_rfl
theorem ZG.cells {w:World} {ad:Addr} {n:Nat} {l:List It} (h:ZG 3 It.ints w (some ad) n l):∀ j u,(ZM l)[j]?=some u→w.cell? (ad.add j)=some u:=by
 intro j u hj
 have hlt:j<(ZM l).length:=(List.getElem?_eq_some_iff.1 hj).1
 unfold ZM at hlt hj
 rw [Qb _ 3 it_len] at hlt
 obtain ⟨x,hx⟩:∃ x,l[j / 3]?=some x:=⟨_,List.getElem?_eq_getElem (by omega)⟩
 obtain ⟨b,o,e,hc⟩:=h.at_ _ x hx
 injection e with e
 subst e
 have ej:j=j / 3*3+j % 3:=by omega
 rw [ej,XX It.cells 3 it_len l (j / 3) x (j % 3) hx (by omega)] at hj
 have ea:(⟨b,o,none⟩:Addr).add j=⟨b,o+j,none⟩:=by
  rcases j with _ | j
  ·rfl
  ·simp [Addr.add]
 rw [ea]
 have e2:o+j=o+j / 3*3+j % 3:=by omega
 rw [e2]
 have hr:j % 3=0∨j % 3=1∨j % 3=2:=by omega
 rcases hr with hr | hr | hr<;>rw [hr] at hj ⊢<;>(simp only [It.cells,List.getElem?_cons_zero,List.getElem?_cons_succ,Option.some.injEq] at hj;subst hj)
 ·exact hc 0 _ rfl
 ·exact hc 1 _ rfl
 ·exact hc 2 _ rfl
theorem Tq25 {p:Prop} (h:p:=by
 rcases l with _|⟨x,l⟩
 ·obtain ⟨A,c,e⟩:=YF h
  exact ⟨A,c,e,rfl,fun j x hj=>by simp at hj,by simp⟩
 ·obtain ⟨b,cp,rfl,hb,hcell⟩:=Q7 h (by rw [ZM,Qb _ 3 it_len];simp)
  refine ⟨_,cp,rfl,rfl,fun j s hj=>⟨b,0,rfl,fun r u hu=>?_⟩,by omega⟩
  have hr:r<3:=(List.getElem?_eq_some_iff.1 hu).1
  rw [Nat.zero_add]
  refine hcell _ _ ((XX _ 3 it_len _ j s r hj hr).trans ?_)
  have:s.cells=s.ints.map (Value.int .i64):=rfl
  rw [this,List.getElem?_map,hu]
  rfl):p:=h
theorem Zpw {w:World} {B:Nat} {v:Value} {l:List It} (h:w.ownsRow B 134 3 v l.length (ZM l)) (hl:l.length≤1000000):∃ A c,v=.slice A l.length c∧ZG 3 It.ints w A l.length l:=by
 exact Tq25
theorem Zpx (A:Option Addr) (n cap:Nat) (l:List It) (w:World) (h:ZG 3 It.ints w A n l) (hn:n≤1000000∧(A=none→n=0∧cap=0)) :
  Calls Tryz.prog 121 #[.slice A n cap] w fun e w'=>∃ v,e=.returned v∧w'.ownsRow w.heap.size 134 3 v l.length (ZM l)∧Below w.heap.size w w':=by
 rcases A with _ | ad
 ·obtain ⟨rfl,rfl⟩:=hn.2 rfl
  have hl:l=[]:=List.eq_nil_of_length_eq_zero h.len.symm
  subst hl
  have hq:=fun w:World=>Go.Lib.run_eql_slice_nil_nil (P:=Tryz.prog) w 0 0 Tryz.underlying31
  go_enter Tryz.func121,Tryz.ntmps121
  exact Tq59
 ·obtain ⟨i9,hi9,hz0,hz1,hz2⟩:=info_parts Zpv
  have hln:=h.len
  have hown:(w.alloc (.cells #[] 134)).ownsRow w.heap.size 134 3 (.slice (some ⟨w.heap.size,0,none⟩) 0 0) 0 []:=
   ⟨rfl,Or.inr ⟨_,0,#[],rfl,Nat.le_refl _,heap_alloc_new w _,Nat.le_refl _,Nat.zero_le _,rfl,rfl⟩⟩
  have hb1:Below w.heap.size w (w.alloc (.cells #[] 134)):=(Below.refl _ _).alloc (Nat.le_refl _) _
  have hcl:∀ j u,(ZM l)[j]?=some u→(w.alloc (.cells #[] 134)).cell? (ad.add j)=some u:=(h.below hb1).cells
  have hone:=Zpu l
  have hC:(ZM l).length=n*3:=by rw [ZM,Qb _ 3 it_len,hln]
  have hM:0+n≤maxLen∧(0+n)*24≤140737488355328:=by unfold maxLen;omega
  have H:=Qh (Qi hi9 (Qi hz0 (Qi hz1 hz2)))
  have H1:=Qh (Qi hown (Qi hcl (Qi hC (Qi hone (Qi hM (Qi hb1 hln))))))
  clear h hi9 hz0 hz1 hz2 hown hb1 hcl hone hln hC hM hn
  have hq:=fun w:World=>Go.Lib.run_eql_slice_some_nil (P:=Tryz.prog) w ad n cap Tryz.underlying31
  go_enter Tryz.func121,Tryz.ntmps121
  go_wp2_with (at_builtin;refine wpList_append_own_at _ rfl (.tmp 5) (.tmp 6) 31 rfl w.heap.size 134 i9 _ 3 24 Tryz.underlying31 H.out.1 H.out.2.1 H.out.2.2.1 H.out.2.2.2 rfl (by decide) _ 0 [] rfl H1.out.1 ad n cap (ZM l) rfl H1.out.2.2.1 H1.out.2.1 H1.out.2.2.2.1 H1.out.2.2.2.2.1.1 H1.out.2.2.2.2.1.2 H1.out.2.2.2.2.2.1.size ?_)
  exact Tq38
theorem Zpy {fn:Func} {p:Tmp} (h:fn.results=#[.cell p 33]) (tmps:Array Value) (w:World) (g:Nat) (cs:Array Value) (hn:cs.size=5)
  (hp:tmps.getD p undef=.pointer (some ⟨g,0,none⟩)) (hg:w.heap[g]?=some (.cells cs 33 (0,0))) :
  (results fn tmps).run Tryz.prog w=.ok (.agg cs) w:=by
 have hp':tmps[p]?.getD undef=.pointer (some ⟨g,0,none⟩):=by simpa using hp
 have hi:(Tryz.prog.info? 33).map (·.size)=some cs.size:=by rw [hn];kernel_rfl
 have hl:=run_loadVar_row (P:=Tryz.prog) w g 33 33 cs (0,0) _ hg Tryz.underlying33 rfl hi
 simp [results,h,hp',asAddr,hl]
theorem Ses.under {w0 w w':World} {l m:List Part} (h:Ses w0 w l) (h':Ses w w' m):Ses w0 w' (m++l):=by
 refine ⟨⟨fun p hp=>?_,List.pairwise_append.2 ⟨h'.sep.2,h.sep.2,fun p hp r hr q hq hqr=>?_⟩⟩,fun p hp q hq=>?_,Ze h.bel h'.bel⟩
 ·rcases List.mem_append.1 hp with hp | hp
  ·exact h'.sep.1 p hp
  ·exact (h.sep.1 p hp).keep (fun q hq=>h'.bel.block q ((h.sep.1 p hp).lt q hq)) h'.bel.size
 ·have:=h'.base p hp q hq
  have:=(h.sep.1 r hr).lt q hqr
  omega
 ·rcases List.mem_append.1 hp with hp | hp
  ·exact Nat.le_trans h.bel.size (h'.base p hp q hq)
  ·exact h.base p hp q hq
def ZR:Obj:=.cells #[.int .i64 0,.int .i64 0,.int .i64 0,.slice none 0 0,.slice none 0 0] 33 (0,0)
theorem ZiB (cl next acked:Int) (log:List Rec) (items:List It) (LA IA:Option Addr) (ln lc iN ic:Nat) (w:World) (hL:Zy w LA ln lc log) (hI:ZG 3 It.ints w IA iN items) (hn:ln≤1000) (hes:∀ r,r∈log→r.es.length≤1000) (hi:iN≤1000000∧(IA=none→iN=0∧ic=0)) :
  Calls Tryz.prog 53 #[.agg #[.int .i64 cl,.int .i64 next,.int .i64 acked,.slice LA ln lc,.slice IA iN ic]] w fun e w'=>∃ (B B':Nat) (OA QA:Option Addr) (oc qc:Nat) (ls:List LR),e=.returned (.agg #[.int .i64 cl,.int .i64 next,.int .i64 acked,.slice OA ls.length oc,.slice QA items.length qc])∧ls.map LR.r=log ∧
   Ses w w' (rowP B 45 4 ls.length (.slice OA ls.length oc) (lrs ls) :: (ls.map lrP++[rowP B' 134 3 items.length (.slice QA items.length qc) (ZM items)])):=by
 have hmx:Tryz.prog.follows .mixedOrders=true:=by kernel_rfl
 obtain ⟨w1,g,e1,eg,hS1⟩:∃ W q,W=(w.alloc (.cells #[.int .i64 cl,.int .i64 next,.int .i64 acked,.slice LA ln lc,.slice IA iN ic] 33 (0,0))).alloc ZR∧q=w.heap.size∧Ses w W [Zb (q+1) ZR,Zb q (.cells #[.int .i64 cl,.int .i64 next,.int .i64 acked,.slice LA ln lc,.slice IA iN ic] 33 (0,0))]:=by
  refine ⟨_,_,rfl,rfl,?_⟩
  have h:=((Ses.start w).allocObj (.cells #[.int .i64 cl,.int .i64 next,.int .i64 acked,.slice LA ln lc,.slice IA iN ic] 33 (0,0))).allocObj ZR
  rw [World.size_alloc] at h
  exact h
 obtain ⟨wd,ed⟩:∃ W,W=w1.drew:=⟨_,rfl⟩
 have hSd:Ses w wd [Zb (g+1) ZR,Zb g (.cells #[.int .i64 cl,.int .i64 next,.int .i64 acked,.slice LA ln lc,.slice IA iN ic] 33 (0,0))]:=by rw [ed];exact hS1.below (Below.refl _ _).drew
 have hgd:wd.heap[g]?=some (.cells #[.int .i64 cl,.int .i64 next,.int .i64 acked,.slice LA ln lc,.slice IA iN ic] 33 (0,0)):=hSd.part (p:=Zb g (.cells #[.int .i64 cl,.int .i64 next,.int .i64 acked,.slice LA ln lc,.slice IA iN ic] 33 (0,0))) (by simp)
 have HC:wd.cell? ⟨g,3,none⟩=some (.slice LA ln lc)∧wd.cell? ⟨g,4,none⟩=some (.slice IA iN ic):=⟨Za hgd 3 _ rfl,Za hgd 4 _ rfl⟩
 have HSd:=Qh (Qi hSd (Qi (hL.below hSd.bel) (Qi (hI.below hSd.bel) (Qi hn hes))))
 have HI:=Qh hi
 have HD:=Qh ed
 clear hS1 hSd hgd hL hI hn hes hi ed
 unfold ZR at e1
 go_enter Tryz.func53,Tryz.ntmps53
 go_upto_region 1 with fail
 rw [←e1,←eg]
 clear e1 eg
 refine Yy (fun W=>W.cell? ⟨g,3,none⟩=some (.slice LA ln lc)∧W.cell? ⟨g,4,none⟩=some (.slice IA iN ic)) 5 hmx ?_
 change Zz _ _ _ _ _ _ _ _ _ (World.drew _)
 rw [←HD.out]
 refine tkp 0 rfl (Or.inr HC) ?_
 refine tkp 3 rfl (Or.inr HC) ?_
 refine tkl 1 rfl HC (by intro W ⟨hC0,hC1⟩;go_simp;try with_reducible rfl) ?_
 refine tkl 4 rfl HC (by intro W ⟨hC0,hC1⟩;go_simp;try with_reducible rfl) ?_
 refine Zi 2 rfl (fun K hK=>?_)
 go_simp
 refine (Zdy LA ln lc log wd HSd.out.2.1 HSd.out.2.2.2.1 HSd.out.2.2.2.2).mono ?_
 rintro e W2 ⟨v,ls,rfl,hls,hS2⟩
 have hb2:=hS2.bel
 have hA:=HSd.out.1.under hS2
 have HC:=cr2 hb2 HC
 have HS2:=Qh (Qi hls (Qi hA (HSd.out.2.2.1.below hb2)))
 clear hb2 hA hls hS2
 refine hK _ _ ?_;clear hK K
 refine ⟨Or.inr HC,?_⟩
 refine tkp 6 rfl (Or.inr HC) ?_
 refine Zi 5 rfl (fun K hK=>?_)
 go_simp
 refine (Zpx IA iN ic items W2 HS2.out.2.2 HI.out).mono ?_
 rintro e W3 ⟨vi,rfl,hown,hb3⟩
 have hS3:=HS2.out.2.1.new hb3 (Za3 hown) (fun q hq=>(Yg hown (by simpa [rowP] using hq)).2)
 obtain ⟨OA,oc,eo⟩:=YF (HS2.out.2.1.part (p:=rowP wd.heap.size 45 4 ls.length v (lrs ls)) (by simp))
 subst eo
 obtain ⟨QA,qc,eq⟩:=YF hown
 subst eq
 have hg3:W3.heap[g]?=some (.cells #[.int .i64 cl,.int .i64 next,.int .i64 acked,.slice LA ln lc,.slice IA iN ic] 33 (0,0)):=hS3.part (p:=Zb g (.cells #[.int .i64 cl,.int .i64 next,.int .i64 acked,.slice LA ln lc,.slice IA iN ic] 33 (0,0))) (by simp)
 have y3:W3.cell? ⟨g,3,none⟩=some (.slice LA ln lc):=Za hg3 3 _ rfl
 have y4:W3.cell? ⟨g,4,none⟩=some (.slice IA iN ic):=Za hg3 4 _ rfl
 have y5:=Zd hg3 3
 have y6:=Zd hg3 4
 have HS3:=Qh hS3
 clear hown hb3 hS3 hg3
 refine hK _ _ ?_;clear hK K
 refine ⟨Or.inl (by kernel_rfl),?_⟩
 refine Zi 7 rfl (fun K hK=>?_)
 go_simp
 refine hK _ _ ?_;clear hK K
 refine ⟨Or.inl (by kernel_rfl),?_⟩
 refine tkq 8 rfl ?_
 refine Zi 9 rfl (fun K hK=>?_)
 go_simp
 refine hK _ _ ?_;clear hK K
 refine ⟨Or.inl (by kernel_rfl),?_⟩
 refine ZX (by kernel_rfl) ?_ _
 clear HC
 obtain ⟨W5,e5,hS5⟩:∃ V,V=(W3.setCell ⟨g,3,none⟩ (.slice OA ls.length oc)).setCell ⟨g,4,none⟩ (.slice QA items.length qc)∧Ses w V (Zb g (.cells #[.int .i64 cl,.int .i64 next,.int .i64 acked,.slice OA ls.length oc,.slice QA items.length qc] 33 (0,0)) :: Zb (g+1) ZR :: rowP W2.heap.size 134 3 items.length (.slice QA items.length qc) (ZM items) :: rowP wd.heap.size 45 4 ls.length (.slice OA ls.length oc) (lrs ls) :: ls.map lrP):=by
  have hq:Ses w W3 (Zb g (.cells #[.int .i64 cl,.int .i64 next,.int .i64 acked,.slice LA ln lc,.slice IA iN ic] 33 (0,0)) :: Zb (g+1) ZR :: rowP W2.heap.size 134 3 items.length (.slice QA items.length qc) (ZM items) :: rowP wd.heap.size 45 4 ls.length (.slice OA ls.length oc) (lrs ls) :: ls.map lrP):=by
   refine HS3.out.perm ?_
   refine (List.perm_append_comm (l₁:=rowP W2.heap.size 134 3 items.length (.slice QA items.length qc) (ZM items) :: rowP wd.heap.size 45 4 ls.length (.slice OA ls.length oc) (lrs ls) :: ls.map lrP) (l₂:=[Zb (g+1) ZR,Zb g (.cells #[.int .i64 cl,.int .i64 next,.int .i64 acked,.slice LA ln lc,.slice IA iN ic] 33 (0,0))])).trans ?_
   exact List.Perm.swap _ _ _
  exact ⟨_,rfl,Ses.objSet (i:=4) (.slice QA items.length qc) (Ses.objSet (i:=3) (.slice OA ls.length oc) hq)⟩
 rw [←e5]
 have hg5:W5.heap[g]?=_:=hS5.sep.head
 have hz5:W5.heap[g+1]?=some ZR:=hS5.sep.tail.head
 obtain ⟨f0,f1,f2,f3,f4⟩:=ce5 hg5
 obtain ⟨z0,z1,z2,z3,z4⟩:=ce5 hz5
 have hfz:=fun i=>Zd hz5 i
 have H5:=Qh (Qi hS5 hz5)
 clear e5 hS5 hg5 hz5 y3 y4 y5 y6
 go_wp2_with fail
 refine bodyPost_ret (Zpy rfl _ _ (g+1) _ rfl rfl (Yk (.int .i64 cl) (.int .i64 next) (.int .i64 acked) (.slice OA ls.length oc) (.slice QA items.length qc) H5.out.2)) rfl ?_
 refine ⟨wd.heap.size,W2.heap.size,OA,QA,oc,qc,ls,rfl,HS2.out.1,?_⟩
 have h6:=H5.out.1.tail
 have h7:=Ses.objSet (i:=4) (.slice QA items.length qc) (Ses.objSet (i:=3) (.slice OA ls.length oc) (Ses.objSet (i:=2) (.int .i64 acked) (Ses.objSet (i:=1) (.int .i64 next) (Ses.objSet (i:=0) (.int .i64 cl) h6))))
 exact h7.tail.perm (List.perm_append_comm (l₁:=[rowP W2.heap.size 134 3 items.length (.slice QA items.length qc) (ZM items)]))
end
end Go.Proofs.YtlgcfimhfmgkmaaGreatDoor
namespace Go.Proofs.YtlgcfimhfmgkmaaGreatDoor
open Go.RowKit
section
theorem Tq53 {p:Prop} (h:p:=by
 go_wp2_with fail
 go_ret
 refine ⟨?_,HX.out.2.2.2⟩
 rw [H.out.2.1,H.out.2.2,HX.out.2.2.1];rfl):p:=h
theorem ZiC (A:Option Addr) (n cap:Nat) (l:List Rec) (lo hi:Int) (h0:-9223372036854775808≤lo∧lo≤9223372036854775807) (w:World) (hT:Tabs w) (h:Zy w A n cap l) :
  Calls Tryz.prog 73 #[.slice A n cap,.int .i64 lo,.int .i64 hi] w fun e w'=>e=.returned (.bool (QF l lo hi))∧Below w.heap.size w w':=by
 by_cases hn:n≤33
 case neg=>
  have hR:QF l lo hi=false:=by unfold QF;rw [decide_eq_false (by rw [←h.len];exact hn)];rfl
  rw [hR]
  have d1:decide (33<n)=true:=decide_eq_true (by omega)
  have d2:decide ((33:Int)<(n:Int))=true:=decide_eq_true (by omega)
  clear hR h hn hT
  go_enter Tryz.func73,Tryz.ntmps73
  go_wp2_with fail
  go_ret
  exact ⟨rfl,Below.refl _ _⟩
 obtain ⟨R,eR⟩:∃ R,R=QF l lo hi:=⟨_,rfl⟩
 rw [←eR]
 obtain ⟨top,ZdD⟩:∃ top:Int,top=min hi 1073741824:=⟨_,rfl⟩
 obtain ⟨mx,emx⟩:∃ mx:Int,mx=max lo 1:=⟨_,rfl⟩
 have hmin:(if (1073741824:Int)<hi then (1073741824:Int) else hi)=top:=by rw [ZdD];split<;>omega
 have hmax:(if lo<1 then (1:Int) else lo)=mx:=by rw [emx];split<;>omega
 have hmin2:min hi 1073741824=top:=ZdD.symm
 have Zpz:max lo 1=mx:=emx.symm
 have um:wrap64 (mx-1)=mx-1:=Zn _ (by omega) (by omega)
 have hRl:R=rlB top (mx-1) l:=by rw [eR,ZdD,emx];unfold QF;rw [decide_eq_true (by rw [←h.len];exact hn)];rfl
 have d1:decide (33<n)=false:=decide_eq_false (by omega)
 have d2:decide ((33:Int)<(n:Int))=false:=decide_eq_false (by omega)
 obtain ⟨R0,eR0⟩:∃ R0,R0=rlB top (mx-1) l:=⟨_,rfl⟩
 have H:=Qh (Qi h (Qi (hRl.trans eR0.symm) eR0))
 have HT:=Qh hT
 clear h hT hn eR hRl eR0 ZdD emx h0
 go_enter Tryz.func73,Tryz.ntmps73
 go_wp2_with fail
 rw [um]
 clear hmax Zpz um
 go_loopg [7,18] n (fun gh la iv wr=>∃ (j:Nat) (last:Int),gh+j=n∧iv=.int .i64 (j:Nat)∧la=.int .i64 last∧rlB top (mx-1) l=rlB top last (l.drop j)∧Below w.heap.size w wr)
 case atStart=>exact ⟨0,mx-1,rfl,rfl,rfl,rfl,Below.refl _ _⟩
 case round=>
  obtain ⟨j,last,hg,rfl,rfl,hS,hW⟩:=hrel
  obtain ⟨W,eW⟩:∃ W,W=wr:=⟨_,rfl⟩
  rw [←eW] at hW ⊢
  clear eW d1 d2
  have h:=H.out.1
  have hlen:=h.len
  have hlim:=h.lim
  by_cases hlt:j<n
  ·obtain ⟨x,hx⟩:∃ x,l[j]?=some x:=⟨_,List.getElem?_eq_getElem (by omega)⟩
   have i2:decide (j<n)=true:=decide_eq_true hlt
   obtain ⟨b,o,CA,cn,cc,rfl,⟨c0,c1,c2,c3⟩,hE⟩:=h.at_ j x hx
   have c0:=(hW.cell (Zc c0)).trans c0
   have c1:=(hW.cell (Zc c1)).trans c1
   have c2:=(hW.cell (Zc c2)).trans c2
   have c3:=(hW.cell (Zc c3)).trans c3
   have i0:(0:Int)≤(j:Int):=by omega
   have i1:(j:Int)<(n:Int):=by omega
   have u2:wrap64 ((j:Int)+1)=(j:Int)+1:=Zn _ (by omega) (by omega)
   obtain ⟨W1,e1⟩:∃ V,V=W.alloc (.cells #[.int .i64 x.num,.int .i64 x.base,.int .i64 x.tick,.slice CA cn cc] 45 (0,0)):=⟨_,rfl⟩
   obtain ⟨g1,eg⟩:∃ g,g=W.heap.size:=⟨_,rfl⟩
   have hg1:W1.heap[g1]?=some (.cells #[.int .i64 x.num,.int .i64 x.base,.int .i64 x.tick,.slice CA cn cc] 45 (0,0)):=by rw [e1,eg];exact heap_alloc_new W _
   have hb1:Below W.heap.size W W1:=by rw [e1];exact Zg W _
   obtain ⟨y0,y1,y2,y3⟩:=cs4 hg1
   have hw1:Below w.heap.size w W1:=hW.trans (hb1.mono hW.size)
   have FV:=Qd x.tick CA cn cc x.es W1 (HT.out.below hw1) (hE.below hw1)
   rw [Zpf top last l j x hx] at hS
   obtain ⟨OK,eOK⟩:∃ OK,OK=okR last top x:=⟨_,rfl⟩
   rw [←eOK] at hS
   have HX:=Qh (Qi hlt (Qi hg (Qi hS hw1)))
   clear hlt hg hS hW hb1 hg1 h hlen hlim hx hw1 hE
   go_upto_region 7 with fail
   rw [←e1,←eg]
   clear e1 eg
   unfold okR at eOK
   by_cases t1:x.num≤last
   ·have d1:decide (x.num≤last)=true:=decide_eq_true t1
    have hok:OK=false:=by rw [eOK,d1];rfl
    clear eOK
    subst hok
    clear t1
    exact Tq53
   have d1:decide (x.num≤last)=false:=decide_eq_false t1
   by_cases t2:top<x.num
   ·have d2:decide (top<x.num)=true:=decide_eq_true t2
    have hok:OK=false:=by rw [eOK,d1,d2];rfl
    clear eOK
    subst hok
    clear t1 t2
    exact Tq53
   have d2:decide (top<x.num)=false:=decide_eq_false t2
   by_cases t3:x.base<0
   ·have d3:decide (x.base<0)=true:=decide_eq_true t3
    have hok:OK=false:=by rw [eOK,d1,d2,d3];rfl
    clear eOK
    subst hok
    clear t1 t2 t3
    exact Tq53
   have d3:decide (x.base<0)=false:=decide_eq_false t3
   by_cases t4:x.num≤x.base
   ·have d4:decide (x.num≤x.base)=true:=decide_eq_true t4
    have hok:OK=false:=by rw [eOK,d1,d2,d3,d4];rfl
    clear eOK
    subst hok
    clear t1 t2 t3 t4
    exact Tq53
   have d4:decide (x.num≤x.base)=false:=decide_eq_false t4
   obtain ⟨V,eV⟩:∃ V,V=Zl x.tick x.es:=⟨_,rfl⟩
   rw [←eV] at FV eOK
   clear t1 t2 t3 t4
   rcases V with _ | _
   ·have hok:OK=false:=by rw [eOK,d1,d2,d3,d4];rfl
    clear eOK eV
    subst hok
    go_wp2_with (go_at_call 9;refine FV.mono ?_;rintro e W2 ⟨rfl,hb2⟩;have y0:=(hb2.cell (Zc y0)).trans y0;have HB:=Qh hb2;clear hb2 FV)
    go_ret
    refine ⟨?_,HX.out.2.2.2.trans (HB.out.mono HX.out.2.2.2.size)⟩
    rw [H.out.2.1,H.out.2.2,HX.out.2.2.1];rfl
   ·have hok:OK=true:=by rw [eOK,d1,d2,d3,d4];rfl
    clear eOK eV
    subst hok
    go_wp2_with (go_at_call 9;refine FV.mono ?_;rintro e W2 ⟨rfl,hb2⟩;have y0:=(hb2.cell (Zc y0)).trans y0;have HB:=Qh hb2;clear hb2 FV)
    go_roundg (n-(j+1))
    case measure=>have:=HX.out.1;have:=HX.out.2.1;omega
    case rel=>exact ⟨j+1,x.num,by have:=HX.out.1;omega,by go_num,rfl,HX.out.2.2.1,HX.out.2.2.2.trans (HB.out.mono HX.out.2.2.2.size)⟩
  ·have i2:decide (j<n)=false:=decide_eq_false hlt
   have ht:l.drop j=[]:=List.drop_eq_nil_of_le (by omega)
   rw [ht] at hS
   have HX:=Qh (Qi hS hW)
   clear hlt hg hS hW h hlen hlim ht
   go_wp2_with fail
   go_ret
   refine ⟨?_,HX.out.2⟩
   rw [H.out.2.1,H.out.2.2,HX.out.1]
   rfl
end
end Go.Proofs.YtlgcfimhfmgkmaaGreatDoor
