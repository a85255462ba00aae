/- Lemmas for the statement. -/
import Derived.Test.YtlgcfimhfmgkmaaGreatDoorMBY
import Derived.Test.YtlgcfimhfmgkmaaGreatDoorMBW
set_option linter.unusedVariables false
set_option linter.unusedSimpArgs false
namespace Go.Proofs.YtlgcfimhfmgkmaaGreatDoor
open Go.RowKit
section
theorem Uh {w:World} {s:Snd} {a b c:Int} {LA IA:Option Addr} {ln lc iN ic:Nat} (h:ZA w s (.agg #[.int .i64 a,.int .i64 b,.int .i64 c,.slice LA ln lc,.slice IA iN ic])):Zy w LA ln lc s.log∧ZG 3 It.ints w IA iN s.items∧(IA=none→iN=0∧ic=0):=by
 obtain ⟨_,_,_,_,_,_,e,h1,h2,h3⟩:=h
 injection e with e
 simp only [Array.mk.injEq,List.cons.injEq,Value.slice.injEq] at e
 obtain ⟨-,-,-,⟨rfl,rfl,rfl⟩,⟨rfl,rfl,rfl⟩,-⟩:=e
 exact ⟨h1,h2,h3⟩
theorem UB (w:World):ZA w ⟨2,1073741825,0,[],[]⟩ (.agg #[.int .i64 2,.int .i64 1073741825,.int .i64 0,.slice none 0 0,.slice none 0 0]):=
 ⟨none,none,0,0,0,0,rfl,Zy.nilS w,⟨rfl,fun j x hj=>by simp at hj,Nat.zero_le _⟩,fun _=>⟨rfl,rfl⟩⟩
theorem UA (w:World) (a b c d e:Obj):let W:=((((w.alloc a).alloc b).alloc c).alloc d).alloc e
  W.heap[w.heap.size]?=some a∧W.heap[w.heap.size+1]?=some b∧W.heap[w.heap.size+1+1]?=some c∧W.heap[w.heap.size+1+1+1]?=some d∧W.heap[w.heap.size+1+1+1+1]?=some e∧Below w.heap.size w W:=by
 refine ⟨?_,?_,?_,?_,?_,?_⟩
 ·exact (Below.heap_alloc _ _ _ (by simp<;>omega)).trans (Zqm w a b c d)
 ·exact (Below.heap_alloc _ _ _ (by simp<;>omega)).trans (Zqn w a b c d)
 ·exact (Below.heap_alloc _ _ _ (by simp<;>omega)).trans (Zqo w a b c d)
 ·exact (Below.heap_alloc _ _ _ (by simp)).trans (Zqp w a b c d)
 ·have:=heap_alloc_new ((((w.alloc a).alloc b).alloc c).alloc d) e
  rwa [show ((((w.alloc a).alloc b).alloc c).alloc d).heap.size=w.heap.size+1+1+1+1 from by simp] at this
 ·exact Ze (Ze (Ze (Ze (Zg w a) (Zg _ b)) (Zg _ c)) (Zg _ d)) (Zg _ e)
theorem Ud {B:Nat} {W V:World} {q:Nat} {LA IA:Option Addr} {ln lc iN ic:Nat} (hq:W.heap[q]?=some (Y4 wS2.cl wS2.next wS2.acked (.slice LA ln lc) (.slice IA iN ic))) (hS:Xy B W wS2 (.agg #[.int .i64 wS2.cl,.int .i64 wS2.next,.int .i64 wS2.acked,.slice LA ln lc,.slice IA iN ic])) (cl nx ak:Int)
  (hk:∀ b,b<W.heap.size→b≠q→V.heap[b]?=W.heap[b]?) (hak:ak≤9223372036854775807) (Uz:YU ⟨cl,nx,ak,wS2.log,wS2.items⟩=false):BadS V ⟨cl,nx,ak,wS2.log,wS2.items⟩ (.agg #[.int .i64 cl,.int .i64 nx,.int .i64 ak,.slice LA ln lc,.slice IA iN ic]):=by
 have h1:ZA V wS2 (.agg #[.int .i64 wS2.cl,.int .i64 wS2.next,.int .i64 wS2.acked,.slice LA ln lc,.slice IA iN ic]):=ZA.boxed (s:=wS2) (x:=.slice none 0 0) (y:=.slice none 0 0) hS.toV ww_box22 hq hk
 obtain ⟨hL,hI,hn⟩:=Uh h1
 exact ⟨⟨LA,IA,ln,lc,iN,ic,rfl,hL,hI,hn⟩,Uz,hak,all12 ww_sm2,by rw [show (⟨cl,nx,ak,wS2.log,wS2.items⟩:Snd).log.length=2 from ww_len.1];decide,ww_len.2.1⟩
theorem Uf {W V:World} {A:Option Addr} {n c:Nat} (hL:Zy W A n c wR.log) (hb:Below W.heap.size W V) (b l:Int) (Uz:XI ⟨b,l,wR.log⟩=false):BadR V ⟨b,l,wR.log⟩ (.agg #[.int .i64 b,.int .i64 l,.slice A n c]):=
 ⟨⟨A,n,c,rfl,hL.below hb⟩,Uz,ww_smr⟩
theorem Uu (V:World) (b l:Int) (Uz:XI ⟨b,l,[]⟩=false):BadR V ⟨b,l,[]⟩ (.agg #[.int .i64 b,.int .i64 l,.slice none 0 0]):=
 ⟨⟨none,0,0,rfl,Zy.nilS V⟩,Uz,rfl⟩
theorem Ui {W:World} {b:Nat} {l:List Nat} {cs:Array Value} {T:TypeId} (h:W.heap[b]?=some (.cells cs T (0,0))) (hc:cs.toList=l.map ZfI):Z8 W (some ⟨b,0,none⟩) l.length (fun i=>l.getD i 0):=by
 intro i hi
 refine ⟨⟨b,0,none⟩,rfl,?_⟩
 have hg:cs[i]?=some (ZfI (l.getD i 0)):=by
  rw [←Array.getElem?_toList,hc,List.getElem?_map,List.getElem?_eq_getElem hi]
  simp [List.getD,List.getElem?_eq_getElem hi]
 rw [show ((⟨b,0,none⟩:Addr).add i)=⟨b,i,none⟩ from by rcases i with _ | i<;>simp [Addr.add]]
 exact Za h i _ hg
theorem UF {W:World} {b:Nat} {l:List Nat} {cs:Array Value} {T:TypeId} (h:W.heap[b]?=some (.cells cs T (0,0))) (hc:cs.toList=l.map ZfI) (hl:l.length=9∧(∀ x,x∈l→x<256)) (h4:n4 (fun i=>l.getD i 0) 0<1∨1073741824<n4 (fun i=>l.getD i 0) 0∨n4 (fun i=>l.getD i 0) 0≤n4 (fun i=>l.getD i 0) 4):Pay261 W (some ⟨b,0,none⟩) 9 9:=by
 have hb:=Ui h hc
 rw [hl.1] at hb
 refine .inr ⟨b,0,fun i=>l.getD i 0,rfl,hb,⟨by decide,by decide,by decide⟩,fun i=>?_,h4⟩
 by_cases hi:i<l.length
 ·show l.getD i 0<256
  rw [show l.getD i 0=l[i] from by simp [List.getD,List.getElem?_eq_getElem hi]]
  exact hl.2 _ (List.getElem_mem hi)
 ·show l.getD i 0<256
  rw [show l.getD i 0=0 from by simp [List.getD,List.getElem?_eq_none (by omega:l.length≤i)]]
  decide
theorem UH {W:World} {q b0 b1 b2 b3 g1 c1:Nat} {T:TypeId} (h0:W.heap[b0]?=some (.cells #[.int .u8 0,.int .u8 0,.int .u8 0,.int .u8 0,.int .u8 0,.int .u8 0,.int .u8 0,.int .u8 0,.int .u8 1] 5 (0,0))) (h1:W.heap[b1]?=some (.cells #[.int .u8 0,.int .u8 0,.int .u8 0,.int .u8 5,.int .u8 0,.int .u8 0,.int .u8 0,.int .u8 5,.int .u8 1] 5 (0,0)))
  (h2:W.heap[b2]?=some (.cells #[.int .u8 64,.int .u8 0,.int .u8 0,.int .u8 1,.int .u8 0,.int .u8 0,.int .u8 0,.int .u8 0,.int .u8 1] 5 (0,0))) (h3:W.heap[b3]?=some (.cells #[.int .u8 255,.int .u8 255,.int .u8 255,.int .u8 255,.int .u8 0,.int .u8 0,.int .u8 0,.int .u8 0,.int .u8 1] 5 (0,0)))
  (hq:W.heap[q]?=some (.cells #[.slice none 0 0,.slice (some ⟨g1,0,none⟩) 7 c1,.slice (some ⟨b0,0,none⟩) 9 9,.slice (some ⟨b1,0,none⟩) 9 9,.slice (some ⟨b2,0,none⟩) 9 9,.slice (some ⟨b3,0,none⟩) 9 9] T (0,0))):∀ j,j<6→∃ A n c,W.cell? ⟨q,j,none⟩=some (.slice A n c)∧Pay261 W A n c:=by
 intro j hj
 rcases j with _ | _ | _ | _ | _ | _ | j
 ·exact ⟨_,_,_,Za hq 0 _ rfl,.inl (by decide)⟩
 ·exact ⟨_,_,_,Za hq 1 _ rfl,.inl (by decide)⟩
 ·exact ⟨_,_,_,Za hq 2 _ rfl,UF (l:=[0,0,0,0,0,0,0,0,1]) h0 rfl ⟨rfl,by decide⟩ (by decide)⟩
 ·exact ⟨_,_,_,Za hq 3 _ rfl,UF (l:=[0,0,0,5,0,0,0,5,1]) h1 rfl ⟨rfl,by decide⟩ (by decide)⟩
 ·exact ⟨_,_,_,Za hq 4 _ rfl,UF (l:=[64,0,0,1,0,0,0,0,1]) h2 rfl ⟨rfl,by decide⟩ (by decide)⟩
 ·exact ⟨_,_,_,Za hq 5 _ rfl,UF (l:=[255,255,255,255,0,0,0,0,1]) h3 rfl ⟨rfl,by decide⟩ (by decide)⟩
 ·omega
theorem Xy.open2 {B:Nat} {W:World} {LA IA:Option Addr} {ln lc iN ic:Nat} (h:Xy B W wS2 (.agg #[.int .i64 wS2.cl,.int .i64 wS2.next,.int .i64 wS2.acked,.slice LA ln lc,.slice IA iN ic])) :
  ∃ g x0 x1,LA=some ⟨g,0,none⟩∧ln=2∧[x0,x1].map LR.r=wS2.log∧W.ownsRow B 45 4 (.slice (some ⟨g,0,none⟩) 2 lc) 2 (lrs [x0,x1])∧(∀ j u,x0.cells[j]?=some u→W.cell? ⟨g,j,none⟩=some u)∧(IA=none→iN=0∧ic=0) ∧
   ∀ W':World,W.heap.size≤W'.heap.size→(∀ b,b<W.heap.size→b≠g→W'.heap[b]?=W.heap[b]?)→(∀ x,x∈[x0,x1]→Zj W' x.A x.n x.c x.r.es)∧ZG 3 It.ints W' IA iN wS2.items:=by
 obtain ⟨LA',IA',ln',lc',iN',ic',e,g,LS,e2,hO,⟨hn,_,_⟩,hm,hi,hc⟩:=h
 injection e with e
 simp only [Array.mk.injEq,List.cons.injEq,Value.slice.injEq] at e
 obtain ⟨-,-,-,⟨rfl,rfl,rfl⟩,⟨rfl,rfl,rfl⟩,-⟩:=e
 have hl:LS.length=2:=by rw [←ww_len.1,←hm,List.length_map]
 rcases LS with _|⟨x0,_|⟨x1,_|⟨x2,LS⟩⟩⟩
 ·cases hl
 ·cases hl
 ·subst e2
  have hn2:ln=2:=hn
  subst hn2
  obtain ⟨b,cp,e3,_,hcell⟩:=Q7 hO (by simp [lrs,LR.cells])
  injection e3 with e3 _ _
  injection e3 with e3
  injection e3 with e3
  subst e3
  refine ⟨g,x0,x1,rfl,rfl,hm,hO,fun j u hu=>hcell j u ?_,hi,hc⟩
  show (x0.cells++(x1.cells++[]))[j]?=some u
  rw [List.getElem?_append_left (List.getElem?_eq_some_iff.1 hu).1]
  exact hu
 ·simp at hl
theorem Ug {W:World} {b:Nat} {cs:Array Value} {T:TypeId} {l:List Value} (h:W.heap[b]?=some (.cells cs T (0,0))) (hl:cs.toList=l):∀ j u,l[j]?=some u→W.cell? ((⟨b,0,none⟩:Addr).add j)=some u:=by
 intro j u hu
 rw [show ((⟨b,0,none⟩:Addr).add j)=⟨b,j,none⟩ from by rcases j with _ | j<;>simp [Addr.add]]
 subst hl
 exact Za h j u (by simpa using hu)
theorem Us {B B':Nat} {W N V:World} {q g g5 c5 lc:Nat} {IA:Option Addr} {iN ic:Nat} {x0 x1:LR} (hq:N.heap[q]?=some (Y4 wS2.cl wS2.next wS2.acked (.slice (some ⟨g,0,none⟩) 2 lc) (.slice IA iN ic))) (Zft:[x0,x1].map LR.r=wS2.log) (hown:N.ownsRow B' 45 4 (.slice (some ⟨g5,0,none⟩) (2+1) c5) (2+1) (lrs [x0,x1]++x0.cells)) (hin:IA=none→iN=0∧ic=0)
  (hcl:(∀ x,x∈[x0,x1]→Zj N x.A x.n x.c x.r.es)∧ZG 3 It.ints N IA iN wS2.items) (hk:∀ b,b<N.heap.size→b≠q→V.heap[b]?=N.heap[b]?) :
  BadS V ⟨wS2.cl,wS2.next,wS2.acked,wS2.log++wS2.log.take 1,wS2.items⟩ (.agg #[.int .i64 wS2.cl,.int .i64 wS2.next,.int .i64 wS2.acked,.slice (some ⟨g5,0,none⟩) 3 c5,.slice IA iN ic]):=by
 have e1:lrs [x0,x1]++x0.cells=lrs [x0,x1,x0]:=by simp [lrs]
 rw [e1] at hown
 have hL:Zy N (some ⟨g5,0,none⟩) 3 c5 ([x0,x1,x0].map LR.r):=ZiI (l:=[x0,x1,x0]) hown (show 3≤1000000 by decide) (fun x hx=>hcl.1 x (by simp only [List.mem_cons,List.not_mem_nil,or_false] at hx ⊢;rcases hx with rfl|rfl|rfl<;>simp))
 have e2:[x0,x1,x0].map LR.r=wS2.log++wS2.log.take 1:=by rw [←Zft];rfl
 rw [e2] at hL
 have h1:ZA N ⟨wS2.cl,wS2.next,wS2.acked,wS2.log++wS2.log.take 1,wS2.items⟩ (.agg #[.int .i64 wS2.cl,.int .i64 wS2.next,.int .i64 wS2.acked,.slice (some ⟨g5,0,none⟩) 3 c5,.slice IA iN ic]):=⟨_,_,_,_,_,_,rfl,hL,hcl.2,hin⟩
 refine ⟨ZA.boxed (s:=wS2) (x:=.slice none 0 0) (y:=.slice none 0 0) h1 ww_box4 hq hk,bad4,(by rw [show (⟨wS2.cl,wS2.next,wS2.acked,wS2.log++wS2.log.take 1,wS2.items⟩:Snd).acked=0 from ww_num.2.1.2.2];decide),all12 bad4s,?_,ww_len.2.1⟩
 show (wS2.log++wS2.log.take 1).length≤1000
 rw [List.length_append,List.length_take,ww_len.1]
 decide
theorem Ur {W:World} {q g B m n c:Nat} {cs:Array Value} {xs:List Value} (hq:W.heap[q]?=some (.cells cs 33 (0,0))) (h:W.ownsRow B 45 4 (.slice (some ⟨g,0,none⟩) m c) n xs):q≠g:=by
 rintro rfl
 rcases h.2 with ⟨h',_⟩|⟨g',cap,cur,e',_,hg,_⟩
 ·cases h'
 ·injection e' with e' _ _
  injection e' with e'
  injection e' with e'
  subst e'
  rw [hq] at hg
  injection hg with hg
  injection hg with _ hg
  exact absurd hg (by decide)
theorem Ua {P:Program} {w:World} {ops:Array Oper} {o:Oper} {a:Act} {K:Act→World→Prop} {Q:Exit→Act→World→Prop} {E:Prop}
  (hg:o.guard=none) (s x:Operand) (t:TypeId) (hop:o.op=Op.call { callee:=Callee.builtin Builtin.append,args:=#[s,x],argTypes:=#[t,t] })
  (e:TypeId) (i:TypeInfo) (z:Value) (size bytes:Nat) (h1:P.underlying t=some (.slice e)) (h2:P.info? e=some i) (h3:i.zero=some z) (h4:i.size=size) (h5:i.bytes=bytes) (h6:z.cells.size=size) (h7:0<size)
  (b:Addr) (cap:Nat) (hs:a.eval s=.slice (some b) 0 cap) (ad:Addr) (m c:Nat) (news:List Value) (hx:a.eval x=.slice (some ad) m c) (hn:news.length=m*size)
  (hc:∀ j u,news[j]?=some u→w.cell? (ad.add j)=some u) (hfull:cap<0+m) (b1:0+m≤maxLen) (b2:(0+m)*bytes≤140737488355328)
  (hK:∀ v' w',w'.ownsRow w.heap.size e size v' (0+m) ([]++news)→w.grownBy w' none→K (a.put o.dst v') w') :
  if Region.wanted o (yielded ops a.tmps)=true then Oper.wp P o a w K Q else E:=by
 have hw:Region.wanted o (yielded ops a.tmps)=true:=by simp [Region.wanted,hg]
 rw [if_pos hw]
 obtain ⟨v',w',hr,r1,r2⟩:=run_append_arg_grows (P:=P) w t o.type e i z size bytes h1 h2 h3 h4 h5 h6 h7 b 0 cap [] (by simp) (fun j u hu=>by simp at hu) ad m c news hn hc hfull b1 b2
 unfold Oper.wp execOp
 simp only [hop,resolve,invoke,builtin,Sem.run_bind,Sem.run_pure,Result.andThen_ok,List.map_toArray,List.map_cons,List.map_nil,hs,hx,hr]
 exact hK v' w' r1 r2
theorem Zy.open1 {W:World} {A:Option Addr} {n c:Nat} (h:Zy W A n c wR.log):∃ b o,∃ x:LR,A=some ⟨b,o,none⟩∧n=1∧wR.log=[x.r]∧(∀ j u,x.cells[j]?=some u→W.cell? ((⟨b,o,none⟩:Addr).add j)=some u)∧Zj W x.A x.n x.c x.r.es∧1≤c:=by
 have hl:=ww_len.2.2
 have hn:=h.len
 have hc:=h.le
 rcases hw:wR.log with _|⟨r,_|⟨r2,l⟩⟩
 ·rw [hw] at hl;cases hl
 ·rw [hw] at h
  obtain ⟨b,o,CA,cn,cc,e,⟨c0,c1,c2,c3⟩,hE⟩:=h.at_ 0 r rfl
  rw [hw] at hn
  have hn1:n=1:=hn
  refine ⟨b,o,⟨r,[],CA,cn,cc⟩,e,hn1,rfl,fun j u hu=>?_,hE,by omega⟩
  rw [Addr.add_lit]
  rcases j with _ | _ | _ | _ | j
  ·injection hu with hu;rw [←hu];exact c0
  ·injection hu with hu;rw [←hu];exact c1
  ·injection hu with hu;rw [←hu];exact c2
  ·injection hu with hu;rw [←hu];exact c3
  ·simp [LR.cells] at hu
 ·rw [hw] at hl;simp at hl
theorem Um {B:Nat} {V:World} {g c:Nat} {x:LR} (Zft:wR.log=[x.r]) (hown:V.ownsRow B 45 4 (.slice (some ⟨g,0,none⟩) (0+1+1) c) (0+1+1) (([]++x.cells)++(⟨⟨3,0,0,[]⟩,[],none,0,0⟩:LR).cells)) (hE:Zj V x.A x.n x.c x.r.es) :
  BadR V ⟨wR.base,wR.last,wR.log++[⟨3,0,0,[]⟩]⟩ (.agg #[.int .i64 wR.base,.int .i64 wR.last,.slice (some ⟨g,0,none⟩) 2 c]):=by
 have e1:([]++x.cells)++(⟨⟨3,0,0,[]⟩,[],none,0,0⟩:LR).cells=lrs [x,⟨⟨3,0,0,[]⟩,[],none,0,0⟩]:=by simp [lrs]
 rw [e1] at hown
 have hL:Zy V (some ⟨g,0,none⟩) 2 c ([x,(⟨⟨3,0,0,[]⟩,[],none,0,0⟩:LR)].map LR.r):=ZiI (l:=[x,⟨⟨3,0,0,[]⟩,[],none,0,0⟩]) hown (show 2≤1000000 by decide) (fun y hy=>by
  simp only [List.mem_cons,List.not_mem_nil,or_false] at hy
  rcases hy with rfl|rfl
  ·exact hE
  ·exact Zj.nilS V)
 have e2:[x,(⟨⟨3,0,0,[]⟩,[],none,0,0⟩:LR)].map LR.r=wR.log++[⟨3,0,0,[]⟩]:=by rw [Zft];rfl
 rw [e2] at hL
 exact ⟨⟨_,_,_,rfl,hL⟩,bad10,bad10s⟩
def cP:List Bool→Code→Code
 | [],c=>c
 | true :: p,.seq _ b=>cP p b
 | false :: p,.seq a _=>cP p a
 | _ :: _,c=>c
noncomputable def wB:Code:=(Tryz.f5).body.getD .skip
set_option maxRecDepth 100000 in
set_option maxHeartbeats 16000000 in
theorem Un (a:Nat) (n:Int) (w wc:World) (q1 q32 g1 c1 n1 B1 m:Nat) (Qw:Exit→Act→World→Prop) (hQw:Qw=(bodyPost Tryz.prog Tryz.f5 (fun e w'=>e=.returned (.bool true)∧Below w.heap.size w w'))) {z04 z06 z07 z08 z09 z0a z0c z0d z0e z0f z0g z0h z0j z0k z0l z0m z0o z0p z0q z0r z0s z0t z0u z0v z0x z0z z10 z11 z12 z13 z14 z15 z16 z17 z18 z19 z1a z1b z1c z1d z1e z1f z1g z1h z1i z1j z1k z1l z1m z1n z1o z1p z1q z1r z1s z1t z1u z1v z1w z1x z1y z1z z20 z21 z22 z23 z24 z25 z26 z27 z28 z29 z2a z2b z2c z2d z2e z2f z2g z2h z2i z2j z2k z2l z2m z2n z2o z2p z2q z2r z2s z2t z2u z2v z2w z2x z2y z2z z30 z31 z32 z33 z34 z35 z36 z37 z38 z39 z3a z3b z3c z3d z3e z3f z3g z3h z3i z3j z3k z3l z3m z3n z3o z3p z3q z3r z3s z3t z3u z3v z3w z3x z3y z3z z40 z41 z42 z43 z44 z45 z46 z47 z48 z49 z4a z4b z4c z4d z4e z4f z4g z4h z4i z4j z4k z4l z4m z4n z4o z4p z4q z4r z4s z4t z4u z4v z4w z4x z4y z4z z50 z51 z52 z53 z54 z55 z56 z57 z58 z59 z5a z5b z5c z5d z5e z5f z5g z5h z5i z5j z5k z5l z5m z5n z5o z5p z5q z5r z5s z5t z5u z5v z5w z5x z5y z5z z60 z61 z62 z63 z64 z65 z66 z67 z68 z69 z6a z6b z6c z6d z6e z6f z6g z6h z6i z6j z6k z6l z6m z6n z6o z6p z6q z6r z6s z6t z6u z6v z6w z6x z6y z6z z70 z71 z72 z73 z74 z75 z76 z77 z78 z79 z7a z7b z7c z7d z7e z7f z7g z7h z7i z7j z7k z7l z7m z7n:Value} (hT:Tabs w) (hA0:a<256) (hM:m<12∧m=a % 12) (hcut:(m<6∧∃ (s:Snd) (xa xb xc:Int) (LA:Option Addr) (ln lc:Nat) (IA:Option Addr) (iN ic:Nat),wc.heap[q1]?=some (Y4 xa xb xc (.slice LA ln lc) (.slice IA iN ic))∧BadS wc s (.agg #[.int .i64 xa,.int .i64 xb,.int .i64 xc,.slice LA ln lc,.slice IA iN ic])∧Below w.heap.size w wc)∨(6≤m∧∃ (r:Rcv) (xa xb:Int) (A:Option Addr) (k c:Nat),wc.heap[q32]?=some (.cells #[.int .i64 xa,.int .i64 xb,.slice A k c] 38 (0,0))∧BadR wc r (.agg #[.int .i64 xa,.int .i64 xb,.slice A k c])∧wc.ownsRow B1 5 1 (.slice (some ⟨g1,0,none⟩) n1 c1) (aN aS0 1 0) (X7 (aX aS0 1 0) (aK aS0 0))∧Below w.heap.size w wc)) :
  Code.wp Tryz.prog (cP [true,true,true,true,true,true,true,true,true,true,true,true,true,true] wB) Qw ⟨#[.int .u8 (a:Nat),.int .i64 n,undef,undef,z04,.pointer (some ⟨q1,0,none⟩),z06,z07,z08,z09,z0a,.slice (some ⟨g1,0,none⟩) n1 c1,z0c,z0d,z0e,z0f,z0g,z0h,undef,z0j,z0k,z0l,z0m,undef,z0o,z0p,z0q,z0r,z0s,z0t,z0u,z0v,.pointer (some ⟨q32,0,none⟩),z0x,undef,z0z,z10,z11,z12,z13,z14,z15,z16,z17,z18,z19,z1a,z1b,z1c,z1d,z1e,z1f,z1g,z1h,z1i,z1j,z1k,z1l,z1m,z1n,z1o,z1p,z1q,z1r,z1s,z1t,z1u,z1v,z1w,z1x,z1y,z1z,z20,z21,z22,z23,z24,z25,z26,z27,z28,z29,z2a,z2b,z2c,z2d,z2e,z2f,z2g,z2h,z2i,z2j,z2k,z2l,z2m,z2n,z2o,z2p,z2q,z2r,z2s,z2t,z2u,z2v,z2w,z2x,z2y,z2z,z30,z31,z32,z33,z34,z35,z36,z37,z38,z39,z3a,z3b,z3c,z3d,z3e,z3f,z3g,z3h,z3i,z3j,z3k,z3l,z3m,z3n,z3o,z3p,z3q,z3r,z3s,z3t,z3u,z3v,z3w,z3x,z3y,z3z,z40,z41,z42,z43,z44,z45,z46,z47,z48,z49,z4a,z4b,z4c,z4d,z4e,z4f,z4g,z4h,z4i,z4j,z4k,z4l,z4m,z4n,z4o,z4p,z4q,z4r,z4s,z4t,z4u,z4v,z4w,z4x,z4y,z4z,z50,z51,z52,z53,z54,z55,z56,z57,z58,z59,z5a,z5b,z5c,z5d,z5e,z5f,z5g,z5h,z5i,z5j,z5k,z5l,z5m,z5n,z5o,z5p,z5q,z5r,z5s,z5t,z5u,z5v,z5w,z5x,z5y,z5z,z60,z61,z62,z63,z64,z65,z66,z67,z68,z69,z6a,z6b,z6c,z6d,z6e,z6f,z6g,z6h,z6i,z6j,z6k,z6l,z6m,z6n,z6o,z6p,z6q,z6r,z6s,z6t,z6u,z6v,z6w,z6x,z6y,z6z,z70,z71,z72,z73,z74,z75,z76,z77,z78,z79,z7a,z7b,z7c,z7d,z7e,z7f,z7g,z7h,z7i,z7j,z7k,z7l,z7m,z7n],[]⟩ wc:=by
 have hmx:Tryz.prog.follows .mixedOrders=true:=by kernel_rfl
 have HT:=Qh hT
 have HA0:=Qh hA0
 have HM:=Qh hM
 clear hT hA0 hM
 unfold wB
 dsimp only [cP,Option.getD,Tryz.f5]
 subst hQw
 obtain ⟨w18,eW⟩:∃ V,V=wc:=⟨_,rfl⟩
 rw [←eW] at hcut ⊢
 clear eW
 have a0:(0:Int)≤(a:Int):=by omega
 have a1:(a:Int)<256:=by have:=HA0.out;omega
 rcases hcut with ⟨hm,s,xa,xb,xc,LA,ln,lc,IA,iN,ic,hq,hS,hW⟩|⟨hm,r,xa,xb,RA8,rn8,rc8,hq,hR,hP,hW⟩
 ·have a2:(a:Int) % 12<6:=by have:=HM.out.2;omega
  have a3:decide ((a:Int) % 12<6)=true:=decide_eq_true a2
  have HQ18:=Qh hq
  have Uv:=Qh hS
  have Uk:=Qh hW
  clear hm hq hS hW
  go_upto_region 54 with fail
  clear a0 a1 a2 a3
  go_cut [6] (fun x6 wx=>x6=.int .i64 2∧Below w18.heap.size w18 wx)
  case first=>
   obtain ⟨wde,ed⟩:∃ W,W=w18.drew:=⟨_,rfl⟩
   have hbd:Below w18.heap.size w18 wde:=by rw [ed];exact (Below.refl _ _).drew
   have HC:wde.cell? ⟨q1,0,none⟩=some (.int .i64 xa)∧wde.cell? ⟨q1,1,none⟩=some (.int .i64 xb)∧wde.cell? ⟨q1,2,none⟩=some (.int .i64 xc)∧wde.cell? ⟨q1,3,none⟩=some (.slice LA ln lc)∧wde.cell? ⟨q1,4,none⟩=some (.slice IA iN ic):=⟨Za ((hbd.block _ (lt_of_block HQ18.out)).trans HQ18.out) 0 _ rfl,Za ((hbd.block _ (lt_of_block HQ18.out)).trans HQ18.out) 1 _ rfl,Za ((hbd.block _ (lt_of_block HQ18.out)).trans HQ18.out) 2 _ rfl,Za ((hbd.block _ (lt_of_block HQ18.out)).trans HQ18.out) 3 _ rfl,Za ((hbd.block _ (lt_of_block HQ18.out)).trans HQ18.out) 4 _ rfl⟩
   have HB:=Qh hbd
   have HD:=Qh ed
   clear hbd ed
   refine Yy (fun W=>W.cell? ⟨q1,0,none⟩=some (.int .i64 xa)∧W.cell? ⟨q1,1,none⟩=some (.int .i64 xb)∧W.cell? ⟨q1,2,none⟩=some (.int .i64 xc)∧W.cell? ⟨q1,3,none⟩=some (.slice LA ln lc)∧W.cell? ⟨q1,4,none⟩=some (.slice IA iN ic)) 2 hmx ?_
   change Zz _ _ _ _ _ _ _ _ _ (World.drew _)
   rw [←HD.out]
   try go_simp
   refine tkl 0 rfl HC (by intro W ⟨hC0,hC1,hC2,hC3,hC4⟩;go_simp;try with_reducible rfl) ?_
   try go_simp
   refine Zi 1 rfl (fun K hK=>?_)
   go_simp
   refine (ZbP 3 0 wde).mono ?_
   rintro e ve1 ⟨sb,rfl,hA,hbN⟩
   have HA:=Qh hA
   have HC:=cr5 hbN HC
   have HB:=Qh (Ze HB.out hbN)
   clear hA hbN
   refine hK _ _ ?_;clear hK K
   refine ⟨Or.inr HC,?_⟩
   try go_simp
   refine Zi 2 rfl (fun K hK=>?_)
   go_simp
   refine (bad_sends (size:=500) (HT.out.below (Ze Uk.out HB.out)) (Uv.out.below HB.out) HA.out).mono ?_
   rintro e ve2 ⟨rfl,hbN⟩
   have HB:=Qh (Ze HB.out hbN)
   clear hbN
   refine hK _ _ ?_;clear hK K
   refine ⟨Or.inl (by kernel_rfl),?_⟩
   try go_simp
   refine tkq 3 rfl ?_
   try go_simp
   refine tkq 4 rfl ?_
   try go_simp
   refine tkq 5 rfl ?_
   try go_simp
   refine tkq 6 rfl ?_
   try go_simp
   refine tkq 7 rfl ?_
   try go_simp
   refine ZX (by kernel_rfl) ?_ _
   try clear HC
   go_wp2_with fail
   go_meet
   exact ⟨rfl,HB.out⟩
  case rest=>
  obtain ⟨rfl,hbx⟩:=hcut
  obtain ⟨w19,eW⟩:∃ V,V=wc:=⟨_,rfl⟩
  rw [←eW] at hbx ⊢
  clear eW
  have UE:=Qh hbx
  have hq:=(hbx.block _ (lt_of_block HQ18.out)).trans HQ18.out
  have e0:w19.cell? ⟨q1,0,none⟩=some (.int .i64 xa):=Za hq 0 _ rfl
  have e1:w19.cell? ⟨q1,1,none⟩=some (.int .i64 xb):=Za hq 1 _ rfl
  have e2:w19.cell? ⟨q1,2,none⟩=some (.int .i64 xc):=Za hq 2 _ rfl
  have e3:w19.cell? ⟨q1,3,none⟩=some (.slice LA ln lc):=Za hq 3 _ rfl
  have e4:w19.cell? ⟨q1,4,none⟩=some (.slice IA iN ic):=Za hq 4 _ rfl
  have FA:=bad_acks (k:=1) (HT.out.below (Ze Uk.out hbx)) (Uv.out.below hbx)
  have FR:∀ W,Below w18.heap.size w18 W→_:=fun W hb=>bad_right (HT.out.below (Ze Uk.out hb)) (Uv.out.below hb)
  have FW:∀ W,Below w18.heap.size w18 W→_:=fun W hb=>ZrN W (HT.out.below (Ze Uk.out hb))
  have HF:=Qh (Qi FR FW)
  clear hbx hq FR FW
  go_upto_region 56 with (go_at_call 17;refine FA.mono ?_;rintro e w20 ⟨rfl,hb20⟩;have H20:=Qh hb20;clear hb20 FA e0 e1 e2 e3 e4)
  have hq:=((Ze UE.out H20.out).block _ (lt_of_block HQ18.out)).trans HQ18.out
  have e0:w20.cell? ⟨q1,0,none⟩=some (.int .i64 xa):=Za hq 0 _ rfl
  have e1:w20.cell? ⟨q1,1,none⟩=some (.int .i64 xb):=Za hq 1 _ rfl
  have e2:w20.cell? ⟨q1,2,none⟩=some (.int .i64 xc):=Za hq 2 _ rfl
  have e3:w20.cell? ⟨q1,3,none⟩=some (.slice LA ln lc):=Za hq 3 _ rfl
  have e4:w20.cell? ⟨q1,4,none⟩=some (.slice IA iN ic):=Za hq 4 _ rfl
  have FR:=HF.out.1 w20 (Ze UE.out H20.out)
  clear hq
  go_wp2_with (first | (go_at_call 21;refine FR.mono ?_;rintro e w21 ⟨rfl,Zic⟩;have H21:=Qh Zic;clear Zic FR e0 e1 e2 e3 e4;have FW:=HF.out.2 w21 (Ze UE.out (Ze H20.out H21.out))) | (go_at_call 10;refine FW.mono ?_;rintro e w22 ⟨rfl,hb22⟩;have H22:=Qh hb22;clear hb22 FW))
  go_ret
  exact ⟨rfl,Ze Uk.out (Ze UE.out (Ze H20.out (Ze H21.out H22.out)))⟩
 ·have a2:¬ (a:Int) % 12<6:=by have:=HM.out.2;omega
  have a3:decide ((a:Int) % 12<6)=false:=decide_eq_false a2
  have HQ18:=Qh hq
  have Uv:=Qh hR
  have Uk:=Qh hW
  have FA:=bad_receives (HT.out.below hW) hR hP
  clear hm hq hR hW hP
  have e0:w18.cell? ⟨q32,0,none⟩=some (.int .i64 xa):=Za HQ18.out 0 _ rfl
  have e1:w18.cell? ⟨q32,1,none⟩=some (.int .i64 xb):=Za HQ18.out 1 _ rfl
  have e2:w18.cell? ⟨q32,2,none⟩=some (.slice RA8 rn8 rc8):=Za HQ18.out 2 _ rfl
  go_upto_region 58 with (go_at_call 14;refine FA.mono ?_;rintro e w19 ⟨rfl,Za8⟩;have H19:=Qh Za8;clear Za8 FA e0 e1 e2)
  clear a0 a1 a2 a3
  have hq:=(H19.out.block _ (lt_of_block HQ18.out)).trans HQ18.out
  have e0:w19.cell? ⟨q32,0,none⟩=some (.int .i64 xa):=Za hq 0 _ rfl
  have e1:w19.cell? ⟨q32,1,none⟩=some (.int .i64 xb):=Za hq 1 _ rfl
  have e2:w19.cell? ⟨q32,2,none⟩=some (.slice RA8 rn8 rc8):=Za hq 2 _ rfl
  have FL:=bad_latest (HT.out.below (Ze Uk.out H19.out)) (Uv.out.below H19.out)
  have FR:∀ W,Below w18.heap.size w18 W→_:=fun W hb=>bad_valid (HT.out.below (Ze Uk.out hb)) (Uv.out.below hb)
  have FW:∀ W,Below w18.heap.size w18 W→_:=fun W hb=>ZrN W (HT.out.below (Ze Uk.out hb))
  have HF:=Qh (Qi FR FW)
  clear hq FR FW
  go_upto_region 59 with (go_at_call 22;refine FL.mono ?_;rintro e w20 ⟨rfl,hb20⟩;have H20:=Qh hb20;clear hb20 FL e0 e1 e2)
  obtain ⟨w21,q33,ex,eq,hbx,hq⟩:=nm1 w20 (.cells #[.int .i64 0,.int .i64 0,.int .i64 0,.slice none 0 0] 45 (0,0))
  rw [←ex,←eq]
  have UD:=Qh (Ze H19.out (Ze H20.out hbx))
  clear ex eq hbx hq
  have hq:=(UD.out.block _ (lt_of_block HQ18.out)).trans HQ18.out
  have e0:w21.cell? ⟨q32,0,none⟩=some (.int .i64 xa):=Za hq 0 _ rfl
  have e1:w21.cell? ⟨q32,1,none⟩=some (.int .i64 xb):=Za hq 1 _ rfl
  have e2:w21.cell? ⟨q32,2,none⟩=some (.slice RA8 rn8 rc8):=Za hq 2 _ rfl
  have FR:=HF.out.1 w21 UD.out
  clear hq
  go_wp2_with (first | (go_at_call 23;refine FR.mono ?_;rintro e w22 ⟨rfl,hb22⟩;have H22:=Qh hb22;clear hb22 FR e0 e1 e2;have FW:=HF.out.2 w22 (Ze UD.out H22.out)) | (go_at_call 10;refine FW.mono ?_;rintro e w23 ⟨rfl,ZK⟩;have H23:=Qh ZK;clear ZK FW))
  go_ret
  exact ⟨rfl,Ze Uk.out (Ze UD.out (Ze H22.out H23.out))⟩
end
end Go.Proofs.YtlgcfimhfmgkmaaGreatDoor
