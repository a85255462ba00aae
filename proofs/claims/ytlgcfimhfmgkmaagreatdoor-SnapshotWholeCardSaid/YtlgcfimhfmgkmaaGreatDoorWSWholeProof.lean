/- The statement: whatever the three worlds, the client and the size, SnapshotWhole returns true; the two listed tables are tied to the program's text. -/
import Derived.Test.YtlgcfimhfmgkmaaGreatDoorRows
import Derived.Test.YtlgcfimhfmgkmaaGreatDoorCards
import Derived.Test.YtlgcfimhfmgkmaaGreatDoorTie
import Derived.Test.YtlgcfimhfmgkmaaGreatDoorMAA
import Derived.WalkKit
import Derived.ProofKit
import Derived.LaidMore
import Derived.OpenShut
import Derived.Stop.Joined
import Derived.SevenTiedAt
import Derived.Test.YtlgcfimhfmgkmaaGreatDoorMAG
import Derived.Test.YtlgcfimhfmgkmaaGreatDoorMCA
import Derived.Test.YtlgcfimhfmgkmaaGreatDoorMCB
namespace Go.Proofs.YtlgcfimhfmgkmaaGreatDoor.snapshotWhole
open Go.ChangeShapes Go.WideShapes Go.ChangeAt Go.RowKit Go.Deep Go.Joins
set_option linter.unusedVariables false
set_option linter.unusedSimpArgs false
theorem own:ownKnob Tryz.prog.godebug=none:=by kernel_rfl
theorem laidOut:laidOutB Tryz.prog=true:=by kernel_rfl
theorem walk (tt:Nat→Int) (AA:Nat→Option Addr) (nn cc:Nat→Nat) (kk:Nat→Nat→Nat) (a1 a2:Int) (w:World) (hT:Tabs w) (hH:∀ j,j<3→EHead w (AA j) (nn j) (kk j)) (hE:∀ j,j<3→fewB (nn j) (kk j)=true→∃ es,Zj w (AA j) (nn j) (cc j) es) (w1:(Lit.int .u8 a1).wf=true) (w2:(Lit.int .u16 a2).wf=true) :
  Calls Tryz.prog 3 #[.agg #[.int .i64 (tt 0),.slice (AA 0) (nn 0) (cc 0),.int .i64 (tt 1),.slice (AA 1) (nn 1) (cc 1),.int .i64 (tt 2),.slice (AA 2) (nn 2) (cc 2)],.int .u8 a1,.int .u16 a2] w fun e w'=>e=.returned (.bool true)∧Below w.heap.size w w':=by
 have h1:=bounds_u8 w1
 have h2:=bounds_u16 w2
 obtain ⟨m,rfl⟩:∃ m:Nat,a1=(m:Nat):=⟨a1.toNat,by omega⟩
 obtain ⟨k,rfl⟩:∃ k:Nat,a2=(k:Nat):=⟨a2.toNat,by omega⟩
 exact swhole_ok tt AA nn cc kk m k w hT hH hE (by omega) (by omega)
theorem door_met (os:Os) (args:Array Value):laidMetH Tryz.prog Rows.snapshotWholeRow.laid ((World.doorLaid Tryz.prog 109 os).forCall (fun _ _=>0) ⟨#[],args,[]⟩).memory:=
 laidMetH_of_parts3 (fuel:=8) (laidMet_of_run' 8 (by kernel_rfl) (by kernel_rfl)) (by kernel_rfl) (by kernel_rfl)
set_option maxRecDepth 100000 in
theorem lifted (os:Os) (started:os.Started) (H:Type) (enc:TypeId × Value→H) :
  ReturnsInHanded {} Tryz.checked os 3 .any (fun w args=>(Rows.snapshotWholeSpec.pre enc Tryz.prog Tryz.f3 [] false w args∧laidMetH Tryz.prog Rows.snapshotWholeRow.laid w)∧sizedMet enc Tryz.prog Tryz.f3 (OpenSpec.ofChange Rows.snapshotWholeSpec) false w args)
   (Rows.snapshotWholeSpec.post enc Tryz.prog Tryz.f3 false true false false):=by
 refine returnsInHanded_of_change_and (C:=Tryz.checked) (X:=fun w _=>laidMetH Tryz.prog Rows.snapshotWholeRow.laid w) (fun _ _ _ hh h=>h.of_heap hh) own started (by kernel_rfl) Tryz.func3
  (ChangeSpec.witness_shaped (enc:=enc) (C:=Tryz.checked) (os:=os) (X:=fun w _=>laidMetH Tryz.prog Rows.snapshotWholeRow.laid w) false (World.doorLaid Tryz.prog 109 os) #[.agg #[.int .i64 0,.slice none 0 0,.int .i64 0,.slice none 0 0,.int .i64 0,.slice none 0 0],.int .u8 0,.int .u16 0] 8 rfl (World.shaped_of_RefB (by kernel_rfl) (by kernel_rfl)) (by kernel_rfl) (by kernel_rfl) (by kernel_rfl) (door_met os _)) ?_
 intro W base args ds gs before hval0 hW hc1 hc2 hc3 hc4
 have hT:Tabs W:=by first | exact of_laid hc2 | exact of_laid hc3 | exact of_laid hc4 | exact of_laid hc1
 have hval:∀ (j:Nat) t v,Tryz.f3.params[j]?=some t→args[j]?=some v→Value.okWide Tryz.prog W .any base t v:=hval0
 have hW':=hW
 obtain ⟨p,q,hA0,hV,rfl,hfz,hnd⟩:=hW
 have hA:DataW.TrodAll enc Tryz.prog W 0 (fun _=>true) true Tryz.f3.params.toList args.toList ds p:=hA0
 rw [Tryz.params3] at hA hval
 obtain ⟨v0,vs0,d0,ds0,p0,q0,hargs,rfl,rfl,h0,r0⟩:=trodAll_cons hA
 obtain ⟨v1,vs1,d1,ds1,p1,q1,rfl,rfl,rfl,h1,r1⟩:=trodAll_cons r0
 obtain ⟨v2,vs2,d2,ds2,p2,q2,rfl,rfl,rfl,h2,r2⟩:=trodAll_cons r1
 obtain ⟨rfl,rfl,rfl⟩:=trodAll_nil r2
 obtain rfl:args=#[v0,v1,v2]:=by cases args;simp_all
 obtain ⟨rfl,rfl⟩:=trodVars_none hV
 have k0:=h0
 have lt0:∀ x∈p0,x.block<W.heap.size:=by obtain ⟨m,hm⟩:=k0;exact DataW.trod_lt m _ _ _ hm
 obtain ⟨tt,AA,nn,cc,kk,rfl,hH,hE⟩:=open_wldsA (hval 0 25 v0 rfl rfl) h0
 obtain ⟨a1,rfl,rfl,rfl,w1⟩:=open_int Tryz.underlying5 (hval 1 5 v1 rfl rfl) h1
 obtain ⟨a2,rfl,rfl,rfl,w2⟩:=open_int Tryz.underlying26 (hval 2 26 v2 rfl rfl) h2
 clear hA0 hval0
 simp only [List.append_nil] at hW'
 refine (walk tt AA nn cc kk a1 a2 W hT hH hE w1 w2).mono fun e W' ⟨he,bel⟩=>?_
 subst he
 exact ⟨_,rfl,_,_,_,[],_,[],hW',trodAll_mk1 (shut_bool Tryz.underlying4 _),(trodAll_cons_mk (Below.trod laidOut (by kernel_rfl) (of_decide_eq_true (by kernel_rfl)) k0 bel lt0) (trodAll_cons_mk (shut_int Tryz.underlying5 w1) (trodAll_cons_mk (shut_int Tryz.underlying26 w2) trodAll_mk0))),rfl,bel.frame _,fun h=>by cases h⟩
theorem over:Rows.SnapshotWholeSaid:=
 OpenClaim.holds_of_wide 3 Tryz.f3 rfl rfl rfl rfl rfl rfl rfl ⟨rfl,rfl,rfl,rfl,rfl⟩ rfl rfl rfl rfl rfl (by kernel_rfl) Tryz.func3 (by kernel_rfl)
  (of_decide_eq_true (by kernel_rfl)) (by unfold Func.isWrapper;first | (rw [if_pos (by decide +kernel)];kernel_rfl) | (rw [if_neg (by decide +kernel)];exact ⟨rfl,rfl⟩))
  (fun os started H enc _=>lifted os started H enc)
theorem proved:Rows.SnapshotWholeCardSaid:=
 Claim7.holds_tied_plain_at .later [] [.data, .data] true (true, "6f425d9ead7659f3e233f35b97fe2744831e7894f187731f28d3de192de1b11f") false
  over (fun _ h=>by cases h) (by kernel_rfl) (fun _ h=>by cases h) snapshotWhole_row_tie rfl ⟨rfl,rfl⟩ (by kernel_rfl) rfl
  (fun f fn hf hfn=>by
   obtain rfl : f = 3 := Option.some.inj ((show Tryz.prog.funcNamed "marches/marcheslaw26.SnapshotWhole" = some 3 by kernel_rfl).symm.trans hf) |>.symm
   obtain rfl:fn=Tryz.f3:=(Option.some.inj (Tryz.func3.symm.trans hfn)).symm
   exact ⟨by kernel_rfl,fun j t ht=>by
    rw [Tryz.params3] at ht
    have hm:t∈[25,5,26]:=by simpa using Array.mem_of_getElem? ht
    have hall:([25,5,26].all fun u=>!Tryz.prog.wantsStandIn u)=true:=by kernel_rfl
    exact (show Tryz.prog.wantsStandIn t=false by simpa using List.all_eq_true.1 hall t hm)⟩)
  (by kernel_rfl)
#print axioms proved
end Go.Proofs.YtlgcfimhfmgkmaaGreatDoor.snapshotWhole
