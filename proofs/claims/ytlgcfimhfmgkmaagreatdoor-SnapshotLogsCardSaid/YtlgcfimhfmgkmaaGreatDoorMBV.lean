/- Lemmas for the statement. -/
import Derived.Test.YtlgcfimhfmgkmaaGreatDoorMBU
set_option linter.unusedVariables false
set_option linter.unusedSimpArgs false
namespace Go.Proofs.YtlgcfimhfmgkmaaGreatDoor
open Go.RowKit
section
theorem ZfQ {w:World} {s:Snd} {a b c:Int} {LA IA:Option Addr} {ln lc iN ic:Nat} (h:ZA w s (.agg #[.int .i64 a,.int .i64 b,.int .i64 c,.slice LA ln lc,.slice IA iN ic])):Zy w LA ln lc s.log∧ZG 3 It.ints w IA iN s.items∧(IA=none→iN=0∧ic=0):=by
 obtain ⟨_,_,_,_,_,_,e,h1,h2,h3⟩:=h
 injection e with e
 simp only [Array.mk.injEq,List.cons.injEq,Value.slice.injEq] at e
 obtain ⟨-,-,-,⟨rfl,rfl,rfl⟩,⟨rfl,rfl,rfl⟩,-⟩:=e
 exact ⟨h1,h2,h3⟩
def Q3 (l:List Rec) (k:Int) (j:Nat):Bool:=(l.take j).any (fun r=>decide (r.num=k))
theorem ZrE (l:List Rec) (k:Int):Q3 l k 0=false:=by simp [Q3]
theorem ZrF {l:List Rec} {k:Int} {j:Nat} {x:Rec} (h:l[j]?=some x):Q3 l k (j+1)=(Q3 l k j || decide (x.num=k)):=by
 unfold Q3
 rw [List.take_add_one,h]
 simp [List.any_append]
theorem ZjR {l:List Rec} {k:Int} (hk:k≠0):(Z6 l k).isSome=Q3 l k l.length:=by
 unfold Z6 Q3
 rw [if_neg hk,List.take_length,Bool.eq_iff_iff,List.find?_isSome,List.any_eq_true]
theorem ZP.it_len {m:Nat} {s:Snd} (h:ZP m s):s.items.length≤1000:=by
 rcases h.it with e | e<;>rw [e]<;>decide
theorem Za6.bel {w w':World} {s:Snd} {v:Value} (h:Za6 w w' s v):Below w.heap.size w w':=by
 obtain ⟨B,B2,OA,QA,oc,qc,ls,_,_,hS⟩:=h
 exact hS.bel
theorem ZrG {m n iN:Nat} {s:Snd} {v:Value} {k nx ak:Int} {w:World} (hx:s.next=nx) (ha:s.acked=ak) (hT:Tabs w) (hS:ZA w s v) (h:ZP m s) (hk:k≤s.acked) (hn:n=s.log.length) (hi:iN=s.items.length) :
  Calls Tryz.prog 17 #[v,.int .i64 k] w fun e w'=>∃ (LA IA:Option Addr) (lc ic:Nat),e=.returned (.tuple #[.agg #[.int .i64 2,.int .i64 nx,.int .i64 ak,.slice LA n lc,.slice IA iN ic],.int .i64 0])∧(Zy w' LA n lc s.log∧ZG 3 It.ints w' IA iN s.items)∧Below w.heap.size w w':=by
 have hf:=h.full
 have hnx:=h.nx
 have hcl:=h.cl
 have hln:=hf.ln
 have hak:=hf.acked_lt
 have hnn:=hf.nx
 refine (ZdV s k v w hT hS (by omega) (by omega) h.small (by have:=h.it_len;omega)).mono ?_
 rintro e w' ⟨u,rfl,h1⟩
 rcases h1 with ⟨e1,_⟩|⟨_,_,x,rfl,hR⟩|⟨_,e1,_⟩|⟨_,e1,_⟩
 ·rw [QJ.2 hf] at e1;cases e1
 ·obtain ⟨LA,IA,ln,lc,iN',ic,rfl,hL,hI,_⟩:=hR.toV (by omega) h.it_len
  have e1:ln=n:=by rw [hn];exact hL.len
  have e2:iN'=iN:=by rw [hi];exact hI.len
  subst e1 e2
  refine ⟨LA,IA,lc,ic,?_,⟨hL,hI⟩,hR.bel⟩
  rw [hx,hcl,ha]
 ·omega
 ·omega
theorem ZrH {m:Nat} {s:Snd} {v:Value} {k:Int} {w:World} (hT:Tabs w) (hS:ZA w s v) (h:ZP m s) (hk:s.acked<k) (hK:Q3 s.log k s.log.length=false) :
  Calls Tryz.prog 17 #[v,.int .i64 k] w fun e w'=>e=.returned (.tuple #[.agg #[.int .i64 0,.int .i64 0,.int .i64 0,.slice none 0 0,.slice none 0 0],.int .i64 6])∧Below w.heap.size w w':=by
 have hf:=h.full
 have hln:=hf.ln
 have hak:=hf.acked_lt
 have hnn:=hf.nx
 have ha0:=hf.ak
 refine (ZdV s k v w hT hS (by omega) (by omega) h.small (by have:=h.it_len;omega)).mono ?_
 rintro e w' ⟨u,rfl,h1⟩
 rcases h1 with ⟨e1,_⟩|⟨_,e1,_⟩|⟨_,_,_,rfl,hb⟩|⟨_,_,⟨r,hr⟩,_⟩
 ·rw [QJ.2 hf] at e1;cases e1
 ·omega
 ·exact ⟨rfl,hb⟩
 ·rw [←ZjR (by omega),hr] at hK;cases hK
theorem ZrI {m:Nat} {s:Snd} {v:Value} {k nx:Int} {w:World} (hx:s.next=nx) (hT:Tabs w) (hS:ZA w s v) (h:ZP m s) (hk:s.acked<k) (hK:Q3 s.log k s.log.length=true) :
  Calls Tryz.prog 17 #[v,.int .i64 k] w fun e w'=>∃ (b o:Nat) (IA:Option Addr) (ln lc iN ic:Nat),e=.returned (.tuple #[.agg #[.int .i64 2,.int .i64 nx,.int .i64 k,.slice (some ⟨b,o,none⟩) ln lc,.slice IA iN ic],.int .i64 0])∧(w'.cell? ⟨b,o,none⟩=some (.int .i64 k)∧0<ln)∧ZA w' (QG s k) (.agg #[.int .i64 2,.int .i64 nx,.int .i64 k,.slice (some ⟨b,o,none⟩) ln lc,.slice IA iN ic])∧ZP m (QG s k)∧Below w.heap.size w w':=by
 have hf:=h.full
 have hnx:=h.nx
 have hcl:=h.cl
 have hln:=hf.ln
 have hak:=hf.acked_lt
 have hnn:=hf.nx
 have ha0:=hf.ak
 refine (ZdV s k v w hT hS (by omega) (by omega) h.small (by have:=h.it_len;omega)).mono ?_
 rintro e w' ⟨u,rfl,h1⟩
 rcases h1 with ⟨e1,_⟩|⟨_,e1,_⟩|⟨_,_,e1,_⟩|⟨_,_,⟨r,hr⟩,x,rfl,hR⟩
 ·rw [QJ.2 hf] at e1;cases e1
 ·omega
 ·rw [←ZjR (by omega),e1] at hK;cases hK
 ·have h':=h.ack hk hr
  have hV:=hR.toV (by have:=h'.full.ln;omega) h'.it_len
  have hV2:=hV
  obtain ⟨LA,IA,ln,lc,iN,ic,rfl,hL,hI,_⟩:=hV
  have e1:(QG s k).cl=2:=h'.cl
  have e2:(QG s k).next=nx:=hx
  have e3:(QG s k).acked=k:=rfl
  rw [e1,e2,e3] at hV2 ⊢
  have hr:=QJ.2 h'.full
  unfold YU at hr
  rw [e3,if_neg (by omega),Bool.and_eq_true] at hr
  have hh:=hr.2
  rcases hl:(QG s k).log with _|⟨y,l⟩
  ·rw [hl] at hh;cases hh
  rw [hl] at hh
  have hy:y.num=k:=of_decide_eq_true hh
  obtain ⟨b,o,CA,cn,cc,rfl,⟨c0,_⟩,_⟩:=hL.at_ 0 y (by rw [hl];rfl)
  rw [hy] at c0
  refine ⟨b,o,IA,ln,lc,iN,ic,rfl,⟨c0,?_⟩,hV2,h',hR.bel⟩
  rw [hL.len,hl]
  exact Nat.zero_lt_succ _
theorem ZrJ {m n iN lc ic:Nat} {s:Snd} {nx ak:Int} {LA IA:Option Addr} {w:World} (h:ZP m s) (hL:Zy w LA n lc s.log) (hI:ZG 3 It.ints w IA iN s.items) :
  Calls Tryz.prog 20 #[.agg #[.int .i64 2,.int .i64 nx,.int .i64 ak,.slice LA n lc,.slice IA iN ic]] w fun e w'=>∃ (OA QA:Option Addr) (oc qc:Nat),e=.returned (.agg #[.int .i64 2,.int .i64 nx,.int .i64 ak,.slice OA n oc,.slice QA iN qc])∧(Zy w' OA n oc s.log∧ZG 3 It.ints w' QA iN s.items)∧Below w.heap.size w w':=by
 have h1:=hL.len
 have h2:=hI.len
 have h3:=h.full.ln
 refine (ZrB 2 nx ak s.log s.items LA IA n lc iN ic w hL hI (by omega) h.lsmall (by have:=h.it_len;omega)).mono ?_
 rintro e w' ⟨OA,QA,oc,qc,rfl,hO,hQ,hb⟩
 rw [←h1] at hO ⊢
 rw [←h2] at hQ ⊢
 exact ⟨OA,QA,oc,qc,rfl,⟨hO,hQ⟩,hb⟩
theorem ZP.inBox {i m:Nat} {s s':Snd} {v:Value} {W W':World} {q:Nat} {nx ak:Int} {LA IA:Option Addr} {ln lc iN ic:Nat} (h:ZP i s) (h':ZP m s') (hm:s'.next≤s.next+1) (hx:s.next=nx) (ha:s.acked=ak) (hS:ZA W s' v) (hq:W.heap[q]?=some (Y4 2 nx ak (.slice LA ln lc) (.slice IA iN ic))) (hk:∀ b,b<W.heap.size→b≠q→W'.heap[b]?=W.heap[b]?):ZA W' s' v:=by
 have hq':W.heap[q]?=some (Y4 s.cl s.next s.acked (.slice LA ln lc) (.slice IA iN ic)):=by rw [h.cl,hx,ha];exact hq
 exact ZA.boxed (x:=.slice none 0 0) (y:=.slice none 0 0) hS (h'.box hm) hq' hk
end
end Go.Proofs.YtlgcfimhfmgkmaaGreatDoor
