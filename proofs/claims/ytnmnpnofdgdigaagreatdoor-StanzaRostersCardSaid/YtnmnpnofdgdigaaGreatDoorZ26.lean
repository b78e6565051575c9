/- The call of the law StanzaRosters returns true at every roster, whether told as gone or not, and at every version; the arguments read behind the call as they read before. Conditions: five tables of the library read as its text lays them. -/
import Derived.Test.YtnmnpnofdgdigaaGreatDoorZ01
import Derived.Test.YtnmnpnofdgdigaaGreatDoorZ25
import Derived.Stop.LaidErr
import Derived.Lib.LaidTab
import Derived.Lib.TrailingZeros
import Derived.WalkKit
import Derived.ProofKit
import Derived.OpenShut
import Derived.ShutString
import Derived.ChangeOld
import Derived.Below
import Derived.Deep.DeepHandedRow
import Derived.Deep.DeepWitnessRowRef
import Derived.SizedLaws
import Derived.Shelf.LaysM
import Derived.Lib.LaidIn
import Derived.Lib.LaidU8
import Derived.Lib.DecodeN
import Derived.JoinedCond
import Derived.Test.YtnmnpnofdgdigaaGreatDoorCards
import Derived.Test.YtnmnpnofdgdigaaGreatDoorTie
import Derived.SevenTiedAt
set_option linter.all false
section
namespace Go.Proofs.YtnmnpnofdgdigaaGreatDoor.stanzaRostersDone
open Go.ChangeShapes Go.WideShapes Go.ChangeAt Go.RowKit Go.Lib
open Go.ChangeMaps (open_string shut_string)
set_option linter.unusedVariables false
noncomputable def laidWorld (os:Os):World:=
 let w0:=World.holding Tryz.prog os ⟨#[],#[],[]⟩
 let put (h:Array Obj) (g:Nat) (cs:Array Value):Array Obj:=h.modify g fun
  | .cells _ t frozen=>.cells cs t frozen
  | o=>o
 let h1:=put w0.heap 0 (Lib.firstTab.map fun z=>Value.int .u8 z).toArray
 let h2:=put h1 1 ((List.range 16).flatMap fun i=>[Value.int .u8 (Lib.accLo i),Value.int .u8 (Lib.accHi i)]).toArray
 let h3:=put h2 3 (Lib.pow10Tab.map fun z=>Value.int .u64 z).toArray
 let h4:=put h3 4 (Lib.deBruijn32tab.map fun z=>Value.int .u8 (Int.ofNat z)).toArray
 let h5:=put h4 5 (Lib.deBruijn64tab.map fun z=>Value.int .u8 (Int.ofNat z)).toArray
 { w0 with heap:=h5}
theorem laid_met (os:Os) (args:Array Value):laidMet Tryz.prog Rows.stanzaRostersRow.laid ((laidWorld os).forCall (fun _ _=>0) ⟨#[],args,[]⟩).memory:=
 (LaidIn.of_run [4,5,3,1,0] 8 (by kernel_rfl) (by kernel_rfl) (by kernel_rfl) (by kernel_rfl):LaidIn Tryz.prog ((laidWorld os).forCall (fun _ _=>0) ⟨#[],args,[]⟩).memory Rows.stanzaRostersRow.laid [4,5,3,1,0]).met
theorem witness_row (os:Os) {H:Type} (enc:TypeId×Value→H) :
  (OpenSpec.ofChange Rows.stanzaRostersSpec).preRow enc Tryz.prog Tryz.f5 Rows.stanzaRostersRow.domain false Rows.stanzaRostersRow.laid ((laidWorld os).forCall (fun _ _=>0) ⟨#[],#[.agg #[.slice none 0 0,.int .i64 0],.bool false,.int .i64 0],[]⟩).memory #[.agg #[.slice none 0 0,.int .i64 0],.bool false,.int .i64 0]:=by
 have hw:(DataW.whole enc Tryz.prog ((laidWorld os).forCall (fun _ _=>0) ⟨#[],#[.agg #[.slice none 0 0,.int .i64 0],.bool false,.int .i64 0],[]⟩).memory Tryz.f5.params.toList (OpenSpec.ofChange Rows.stanzaRostersSpec).vars false #[Value.agg #[.slice none 0 0,.int .i64 0],Value.bool false,Value.int .i64 0].toList 8).map (fun x=>(x.1,x.2.1)) =
   some ([.agg [.nil,.lit (.int .i64 0)],.lit (.bool false),.lit (.int .i64 0)],[]):=by kernel_rfl
 obtain⟨⟨x1,x2,x3⟩,hx,hx1⟩:=Option.map_eq_some_iff.1 hw
 simp only [Prod.mk.injEq] at hx1
 obtain⟨rfl,rfl⟩:=hx1
 exact OpenSpec.preRow_of_cond 8 hx (by kernel_rfl) (fun k hk=>by cases hk) (by kernel_rfl) (laid_met os _)
theorem glb_of {W:World} (h:W.ShapedOpen Tryz.prog):Glb W:=
 Go.Proofs.cell_of_shapedOpen_int (zero:=#[.int .i64 0]) (t:=3) h (of_decide_eq_true (by kernel_rfl)) (by kernel_rfl) rfl (by kernel_rfl) (by kernel_rfl) Tryz.underlying3
theorem pow_of {W:World} (h:laidMetH Tryz.prog Rows.stanzaRostersRow.laid W):Pow W:=by
 have h1:laidMet Tryz.prog Rows.stanzaRostersRow.laid W:=h
 exact tabIs_of_head (g:=3) (by kernel_rfl) (by kernel_rfl) Tryz.underlying241 Tryz.underlying230 (by kernel_rfl) (by kernel_rfl) h1.tail.tail
set_option maxRecDepth 100000 in
set_option maxHeartbeats 2000000 in
theorem lifted (os:Os) (started:os.Started) (H:Type) (enc:TypeId×Value→H) (F:Stop.Interp) :
  ReturnsInHanded {} Tryz.checked os 5 .any ((OpenSpec.ofChange Rows.stanzaRostersSpec).preRow enc Tryz.prog Tryz.f5 Rows.stanzaRostersRow.domain false Rows.stanzaRostersRow.laid) (((OpenSpec.ofChange Rows.stanzaRostersSpec).at F).post enc Tryz.prog Tryz.f5 false true false false):=by
 refine returnsInHanded_of_row (C:=Tryz.checked) (s:=OpenSpec.ofChange Rows.stanzaRostersSpec) own started (by kernel_rfl) Tryz.func5
  (witness_row_atRef (enc:=enc) (C:=Tryz.checked) false (laidWorld os) #[.agg #[.slice none 0 0,.int .i64 0],.bool false,.int .i64 0] rfl (by kernel_rfl) (by kernel_rfl) (by kernel_rfl) (witness_row os enc)) ?_
 intro W base args ds gs before hval0 hW _ _ _ hlaid hsh _
 have hval:∀(j:Nat) t v,Tryz.f5.params[j]? = some t→args[j]? = some v→Value.okWide Tryz.prog W .any base t v:=hval0
 have hW':=hW
 obtain⟨p,q,hA0,hV,rfl,hfz,hnd⟩:=hW
 have hA:DataW.TrodAll enc Tryz.prog W 0 (fun _=>true) true Tryz.f5.params.toList args.toList ds p:=hA0
 rw [Tryz.params5] at hA hval
 obtain⟨v0,vs0,d0,ds0,p0,q0,hargs,rfl,rfl,h0,r0⟩:=trodAll_cons hA
 obtain⟨v1,vs1,d1,ds1,p1,q1,rfl,rfl,rfl,h1,r1⟩:=trodAll_cons r0
 obtain⟨v2,vs2,d2,ds2,p2,q2,rfl,rfl,rfl,h2,r2⟩:=trodAll_cons r1
 obtain⟨rfl,rfl,rfl⟩:=trodAll_nil r2
 obtain rfl:args=#[v0,v1,v2]:=by cases args;simp_all
 obtain⟨rfl,rfl⟩:=trodVars_none hV
 have k0:=h0
 have lt0:∀x∈p0,x.block < W.heap.size:=by obtain⟨m,hm⟩:=k0;exact DataW.trod_lt m _ _ _ hm
 obtain⟨A,l,c,rv,rfl,hc,hr⟩:=open_roster (hval 0 67 v0 rfl rfl) h0
 obtain⟨gn,rfl,rfl,rfl⟩:=open_bool Tryz.underlying4 (hval 1 4 v1 rfl rfl) h1
 obtain⟨ver,rfl,rfl,rfl,hver⟩:=open_int Tryz.underlying3 (hval 2 3 v2 rfl rfl) h2
 have hp:Pow W:=pow_of hlaid
 clear hA0 hval0
 refine(stanzarosters_walk l rv gn ver A c W hr hc (glb_of hsh) hp).mono fun e W' ⟨he,bel⟩=>?_
 subst he
 exact⟨_,rfl,_,_,_,[],_,[],hW',trodAll_mk1 (shut_bool Tryz.underlying4 _),(trodAll_cons_mk (Below.trod laidOut (by kernel_rfl) (of_decide_eq_true (by kernel_rfl)) k0 bel lt0) (trodAll_cons_mk (shut_bool Tryz.underlying4 _) (trodAll_cons_mk (shut_int Tryz.underlying3 hver) trodAll_mk0))),rfl,bel.frame _,fun h=>by cases h⟩
end Go.Proofs.YtnmnpnofdgdigaaGreatDoor.stanzaRostersDone
end
section
namespace Go.Proofs.YtnmnpnofdgdigaaGreatDoor.stanzaRostersDone
open Go.ChangeShapes Go.WideShapes Go.ChangeAt Go.RowKit Go.Lib
set_option linter.unusedVariables false
theorem closed:joinedFacts Tryz.prog 5 Tryz.f5 (OpenSpec.ofChange Rows.stanzaRostersSpec).bare Rows.stanzaRostersRow=true:=by
 delta joinedFacts
 rewrite [may_enter,lifts_final,make_cut,laidOut,maps_rowed,stops_heard,stops_none,stopKnobs_none]
 kernel_rfl
theorem inst:Tryz.f5.isInstance Tryz.prog Rows.stanzaRostersRow.origin Rows.stanzaRostersRow.targs:=of_decide_eq_true (by kernel_rfl)
theorem wrap:Tryz.f5.isWrapper Tryz.prog Rows.stanzaRostersRow.wrapper Rows.stanzaRostersRow.mainSum:=by unfold Func.isWrapper;first|(rw [if_pos (by decide +kernel)];kernel_rfl)|(rw [if_neg (by decide +kernel)];exact⟨rfl,rfl⟩)
set_option maxRecDepth 100000 in
theorem over:Rows.stanzaRostersRow.holds Tryz.pinned (OpenSpec.ofChange Rows.stanzaRostersSpec):=
 OpenClaim.holds_of_cond 5 Tryz.f5 rfl rfl rfl rfl rfl rfl rfl ⟨rfl,rfl,rfl,rfl,rfl⟩ rfl rfl rfl rfl rfl (by kernel_rfl) Tryz.func5 closed inst wrap
  (fun os started H enc _ F0=>by rw [OpenClaim.pre_eq_preRow];exact lifted os started H enc F0)
theorem proved:Rows.StanzaRostersCardSaid:=
 Claim7.holds_tied_plain_at .later [] [.data,.data,.data,.data,.pinned] true (true,"89ded513e3b69e433ca6889fb9ec701f12fd24858b342dc03a31828d4c60f8aa") false
  over (fun _ h=>by cases h) (by kernel_rfl) (fun _ h=>by cases h) stanzaRosters_row_tie rfl ⟨rfl,rfl⟩ (by kernel_rfl) rfl
  (fun f fn hf hfn=>by
   obtain rfl:f=5:=Option.some.inj ((show Tryz.prog.funcNamed "tidewaiter/tidewaiterlaw22.StanzaRosters"=some 5 by kernel_rfl).symm.trans hf) |>.symm
   obtain rfl:fn=Tryz.f5:=(Option.some.inj (Tryz.func5.symm.trans hfn)).symm
   exact⟨by kernel_rfl,fun j t ht=>by
    rw [Tryz.params5] at ht
    have h3:t=67∨t=4∨t=3:=by
     rcases j with _|_|_|j
     ·exact .inl (by simpa using ht.symm)
     ·exact .inr (.inl (by simpa using ht.symm))
     ·exact .inr (.inr (by simpa using ht.symm))
     ·simp at ht
    rcases h3 with rfl|rfl|rfl
    ·exact(show Tryz.prog.wantsStandIn 67=false by kernel_rfl)
    ·exact(show Tryz.prog.wantsStandIn 4=false by kernel_rfl)
    ·exact(show Tryz.prog.wantsStandIn 3=false by kernel_rfl)⟩)
  (by kernel_rfl)
#print axioms proved
end Go.Proofs.YtnmnpnofdgdigaaGreatDoor.stanzaRostersDone
end
