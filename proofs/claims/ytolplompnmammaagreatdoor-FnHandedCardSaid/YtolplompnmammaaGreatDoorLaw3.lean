/- The law FnHanded holds: whatever its arguments, the call returns true and leaves them as they were. The variables of Go's library that it reads are tied to the program's text. No further condition. -/
import Derived.Test.YtolplompnmammaaGreatDoorVf
import Derived.Test.YtolplompnmammaaGreatDoorLaa
import Derived.Test.YtolplompnmammaaGreatDoorBel
import Derived.Test.YtolplompnmammaaGreatDoorDra
import Derived.Test.YtolplompnmammaaGreatDoorLab
import Derived.Test.YtolplompnmammaaGreatDoorLac
import Derived.Test.YtolplompnmammaaGreatDoorLad
import Derived.LaidLaws
import Derived.LaidHandle
import Derived.Test.YtolplompnmammaaGreatDoorIs
import Derived.Test.YtolplompnmammaaGreatDoorOrder
import Derived.Test.YtolplompnmammaaGreatDoorRows
import Derived.Test.YtolplompnmammaaGreatDoorCards
import Derived.Test.YtolplompnmammaaGreatDoorTie
import Derived.ProofKit
import Derived.LaidMore
import Derived.OpenShut
import Derived.SevenTiedAt
import Derived.Stop.Joined
set_option linter.unusedVariables false
set_option linter.unusedSimpArgs false
set_option linter.unusedSectionVars false
namespace Go.Vs
open Go.IntWalk
theorem Gf (a:List Int):rZ G.real TE.real a=decide (4096<a.length):=by
 have h:rZ G.real TE.real a=decide ((4096:Int)<(a.length:Int)):=by
  unfold rZ
  simp only[CX,eh]
 rw[h,decide_eq_decide]
 omega
end Go.Vs
namespace Go.Vs
open Go.IntWalk
theorem zq (c:Cur) (h:bf c):Ok (fun r=>r.1.tot≤1048576∧r.2.1.length≤1000∧bf r.2.2.2) (kJ G.real TE.real c):=by
 unfold kJ
 refine Ok.cl (zY c h 6 (by decide) (by decide)) fun x1 h1=>Ok.cl (zK _ h1.2 h1.1.1) fun x2 h2=>?_
 have ht:=qZ h1.1.1
 rw[show Network.mk x1.1.Legs x1.1.Off x1.1.Change=x1.1 from rfl,FG ht _ (Nat.le_trans h2.1 (by decide)),ag,eG,cM rfl rfl,eh]
 generalize uD x1.1 x2.1 1=z
 refine Ok.br (fun hz=>Ok.cl (cI _ h2.2 4) fun x4 h4=>Ok.br (fun _=>?_) (fun _=>?_)) (fun _=>?_)
 ·exact Ok.cl (yP _ h4) fun x5 h5=>Ok.ret ⟨ht,h2.1,h5.2⟩
 ·have hz:=of_decide_eq_true hz
  refine Ok.cl (aF _ h4 _) fun x6 h6=>Ok.gd ⟨h6.1,h6.2.1 hz⟩ ?_
  refine Ok.gti h6.1 (h6.2.1 hz) fun x7 _=>Ok.lP (Ok.cl (f9 _ h6.2.2 _ (by simp)) fun x8 h8=>Ok.lP (Ok.ret ⟨ht,h2.1,h8.2⟩))
 ·exact Ok.cl (yP _ h2.2) fun x5 h5=>Ok.ret ⟨ht,h2.1,h5.2⟩
theorem rU (a:List Int) (h:a.length≤4096):Ok (fun r=>r.1.tot≤1048576∧r.2.1.length≤1000) (eO G.real TE.real a):=by
 unfold eO
 exact Ok.lP (Ok.cl (zq _ (BW a h)) fun x2 h2=>Ok.cl (aF _ h2.2.2 2) fun x3 _=>Ok.ret ⟨h2.1,h2.2.1⟩)
theorem vG (s:ByteArray):∀(l:List ByteArray) (v:Int),s∈l→0≤v→v+l.length≤4194304→∃k,fH G.real TE.real s l v=.ret k∧0≤k
 |[],v,h,_,_=>by cases h
 |z::l,v,h,h0,h1=>by
  simp only[List.length_cons] at h1
  rw[fH,fk,ao]
  split
  ·exact⟨v,rfl,h0⟩
  ·rename_i hne
   rcases List.mem_cons.1 h with rfl|h
   ·exact absurd rfl hne
   ·rw[bB,w64 (by omega) (by omega)]
    exact vG s l (v+1) h (by omega) (by omega)
theorem t8 {s:ByteArray} {l:List ByteArray} (h:s∈l) (hl:l.length≤4000000):0≤m7 G.real TE.real l s:=by
 obtain⟨k,h1,h2⟩:=vG s l 0 h (by omega) (by omega)
 unfold m7
 rw[bd,h1];exact h2
theorem xV (n:Network) (l:List Scan) (x a:Int):meB n l x x a=(beB n l x a).Places:=by
 unfold meB beB
 dsimp only
 exact List.filter_congr fun p _=>by rw[Bool.and_self]
theorem sj (q:Network×(List Scan)×Int×Int) (ht:q.1.tot≤1048576) (hl:q.2.1.length≤1000):∀l:List ByteArray,(∀p∈l,p∈(beB q.1 q.2.1 q.2.2.1 q.2.2.2).Places)→cZ G.real TE.real q l=some (.out ())
 |[],_=>by rw[cZ]
 |p::l,h=>by
  have hl2:=Nat.le_trans hl (show 1000≤1048576 by decide)
  have hp:=h p (by simp)
  have htot:=xT ht q.2.1 q.2.2.1 q.2.2.2
  unfold Belief.tot at htot
  rw[cZ,show Network.mk q.1.Legs q.1.Off q.1.Change=q.1 from rfl,Fl ht _ hl2,ag,Fa ht _ hl2,ag,xV,bd]
  have hm:mbB q.1 q.2.1 q.2.2.1 q.2.2.2 p=true:=by
   unfold beB at hp
   exact(List.mem_filter.1 hp).2
  have hi:=t8 hp (by omega)
  rw[hm,cP,eh,ao,if_neg (by omega)]
  exact sj q ht hl l fun z hz=>h z (by simp[hz])
theorem ya {n:Network} {l:List Scan} {x a:Int} (h:(laB n l x a).2=false∨(laB n l x a).1.Kind=4):beB n l x a=⟨[],[]⟩:=by
 have h1:∀p,mbB n l x a p=false:=fun p=>by
  unfold mbB
  rw[show mbC n (laB n l x a) (nxB n l x a) a p=false by unfold mbC;rcases h with h|h<;>simp[h],Bool.and_false]
 have h2:∀t,mrB n l x a t=false:=fun t=>by
  unfold mrB
  rw[show mrC n (laB n l x a) (nxB n l x a) a t=false by unfold mrC;rcases h with h|h<;>simp[h],Bool.and_false]
 have h3:∀(d:Int) (ls:List Leg) (k:Int),rdL n l x a d ls k=[]:=fun d ls=>by
  induction ls with
  |nil=>intro k;rfl
  |cons z ls ih=>intro k;rw[rdL,h2,if_neg (by simp),ih]
 have h4:∀(m:Nat) (d:Int),rdD n l x a m d=[]:=fun m=>by
  induction m with
  |zero=>intro d;rfl
  |succ m ih=>intro d;rw[rdD,h3,ih];rfl
 unfold beB
 rw[h4,List.filter_eq_nil_iff.2 fun p _=>by rw[h1];simp]
 rfl
theorem DA:dU G.real TE.real ⟨[],[]⟩=some ib:=rfl
theorem Ak (a:List Int) (_:a.length≤9223372036854775807∧∀x∈a,0≤x∧x≤255):iz G.real TE.real a=some true:=by
 unfold iz
 rw[bd,Gf,ao]
 split
 ·rfl
 ·obtain⟨q,e,ht,hl⟩:=rU a (by omega)
  have hl2:=Nat.le_trans hl (show 1000≤1048576 by decide)
  rw[e,ag,show Network.mk q.1.Legs q.1.Off q.1.Change=q.1 from rfl,Fs ht _ hl2,ag,E2 ht _ hl2,ag]
  have none_:beB q.1 q.2.1 q.2.2.1 q.2.2.2=⟨[],[]⟩→(lP (lE G.real TE.real (beB q.1 q.2.1 q.2.2.1 q.2.2.2)) fun x5=>br (G.real.eq x5 0) (cl (dU G.real TE.real (beB q.1 q.2.1 q.2.2.1 q.2.2.2)) fun x6=>some (G.real.seq x6 ib)) (some false))=some true:=fun h=>by
   rw[h,DA,bd,show lE G.real TE.real ⟨[],[]⟩=0 from rfl,eu,decide_eq_true rfl,cP,ag,fk,decide_eq_true rfl]
  cases hb:(laB q.1 q.2.1 q.2.2.1 q.2.2.2).2 with
  |false=>rw[jX];exact none_ (ya (.inl hb))
  |true=>
   rw[cP,eu,ao]
   by_cases hk:(laB q.1 q.2.1 q.2.2.1 q.2.2.2).1.Kind=4
   ·rw[if_pos hk];exact none_ (ya (.inr hk))
   ·rw[if_neg hk,sj q ht hl _ (fun _ h=>h),ag,uf,Fa ht _ hl2,ag,xV,eu,decide_eq_true rfl]
end Go.Vs
namespace Go.Vs
theorem law3 (a:List Int) (h:a.length≤9223372036854775807∧∀x∈a,0≤x∧x≤255):iz G.real TE.real a=some true:=Ak a h
end Go.Vs
namespace Go.Vs
open Go.Lib
theorem oP {P:Program} {W:World} {name:String} {k:IntKind} {zs:List Int} {g:Nat} {t e:TypeId} {n:Nat}
 (hg:P.globalNamed name=some g) (hty:(P.globals[g]?).map (·.type)=some t) (ht:P.underlying t=some (.array n e)) (he:P.underlying e=some (.int k)) (hce:P.cellsOf e=1) (hct:P.cellsOf t=n):
 ∀(l:List (String×DataW Unit)) (ps:List MemPlace),DataW.LaidVars P W l ps→(name,tabData k zs)∈l→TabIs P W name k zs
 |[],_,_,h=>by cases h
 |(m,d)::l,ps,h,hm=>by
  obtain⟨g',t',cs,fuel,p,q,hg',ht',hvar,hd,hr,_⟩:=h
  rcases List.mem_cons.1 hm with e1|hm
  ·cases e1
   obtain rfl:=Option.some.inj (hg.symm.trans hg')
   obtain rfl:=Option.some.inj (hty.symm.trans ht')
   unfold TabIs
   rw[hvar,←cells_of_tab ht he hce hct hd]
  ·exact oP hg hty ht he hce hct l q hr hm
end Go.Vs
namespace Go.Proofs.YtolplompnmammaaGreatDoor.fnHanded
open Go.Vs Go.RowKit Go.WideShapes Go.ChangeShapes
set_option linter.unusedVariables false
set_option maxRecDepth 100000
theorem FC (as0:List A) (h:uc Tryz.prog 8 Tryz.f3.params.toList as0):Go.Vs.Fn Tryz.prog 3 as0 (.c (.r (.v (.bool true)))):=by
 rw[Tryz.params3] at h
 obtain⟨x0,xs0,rfl,⟨ts0,t0,q0⟩,h⟩:=h
 rw[show mN Tryz.prog 8 22=some [.sl [.int .u8]] from by kernel_rfl] at t0
 cases t0
 rw[show y5 Tryz.prog 22=false from by kernel_rfl] at q0
 obtain⟨r0,rfl,q0⟩:=q0
 obtain⟨_,_,e0,q0,e0_⟩:=yx q0
 cases e0
 obtain⟨b0,rfl,l0,q0⟩:=FE q0
 obtain⟨a0,rfl,p0⟩:=xS Ge b0 q0
 rw[List.length_map] at l0
 have h:=h
 subst h
 exact uj rfl rfl (law3 _ ⟨l0,p0⟩)
abbrev re:List (String×DataW Unit):=[("math/bits.deBruijn32tab",Rows.laid_math_bits_deBruijn32tab),("math/bits.deBruijn64tab",Rows.laid_math_bits_deBruijn64tab),("internal/strconv.uint64pow10",Rows.laid_internal_strconv_uint64pow10)]
theorem gPow:Tryz.prog.globalNamed "internal/strconv.uint64pow10" =some 1:=by kernel_rfl
theorem dPow:(Rows.laid_internal_strconv_uint64pow10:DataW Unit)=Go.Lib.tabData .u64 Go.Lib.pow10Tab:=by kernel_rfl
theorem Di {W:World} (h:laidMetH Tryz.prog re W):Laid Tryz.prog W:=by
 rw[MakeChecks.laidMetH_plain _ _ _ (by kernel_rfl)] at h
 obtain⟨ps,h,_⟩:=h
 refine⟨fun t ht _=>?_,fun t ht=>by cases ht⟩
 simp only[tabs,List.mem_singleton] at ht
 subst ht
 exact oP (g:=1) (t:=178) (e:=136) (n:=20) gPow (by kernel_rfl) (by kernel_rfl) (by kernel_rfl) (by kernel_rfl) (by kernel_rfl) re ps h (by rw[←dPow];simp[re])
theorem own:ownKnob Tryz.prog.godebug=none:=by kernel_rfl
theorem met (os:Os) (args:Array Value):laidMetH Tryz.prog re ((World.doorLaid Tryz.prog 400 os).forCall (fun _ _=>0) ⟨#[],args,[]⟩).memory:=
 laidMetH_of_parts3 (fuel:=8) (laidMet_of_run' 8 (by kernel_rfl) (by kernel_rfl)) (by kernel_rfl) (by kernel_rfl)
theorem lifted (os:Os) (started:os.Started) (H:Type) (enc:TypeId×Value→H):
 ReturnsInHanded {} Tryz.checked os 3 .any (fun w args=>(Rows.fnHandedSpec.pre enc Tryz.prog Tryz.f3 [] false w args∧laidMetH Tryz.prog re w)∧sizedMet enc Tryz.prog Tryz.f3 (OpenSpec.ofChange Rows.fnHandedSpec) false w args)
  (Rows.fnHandedSpec.post enc Tryz.prog Tryz.f3 false true false false):=by
 refine returnsInHanded_of_change_and (C:=Tryz.checked) (X:=fun w _=>laidMetH Tryz.prog re w) (fun _ _ _ hh h=>h.of_heap hh) own started (by kernel_rfl) Tryz.func3
  (ChangeSpec.witness_shaped (enc:=enc) (C:=Tryz.checked) (os:=os) (X:=fun w _=>laidMetH Tryz.prog re w) false (World.doorLaid Tryz.prog 400 os) #[.slice none 0 0] 8 rfl (World.shaped_of_RefB (by kernel_rfl) (by kernel_rfl)) (by kernel_rfl) (by kernel_rfl) (by kernel_rfl) (met os _)) ?_
 intro W base args ds gs before hval hW _ _ hL _
 refine tN (n:=8) (tb:=4) rfl rfl Tryz.underlying4 (by kernel_rfl) (by kernel_rfl) (fun ds hl=>?_) FC W (Di hL) base args ds gs before hval hW
 rw[Tryz.params3] at hl
 match ds,hl with
 |[d0],_=>exact⟨rfl,rfl,rfl⟩
theorem FL:joinedFacts Tryz.prog 3 Tryz.f3 Rows.fnHandedSpec Rows.fnHandedRow=true:=by
 unfold joinedFacts
 exact(dg (dg (dg (dg (dg (dg (dg (dg (dg (dg (dg (dg (dg (dg (dg (dg (dg (dg (dg (dg (dg (dg (dg (dg (dg (dg (dg (dg (dg (dg (dg (by kernel_rfl) De) Dr) (by kernel_rfl)) (by kernel_rfl)) (by kernel_rfl)) (by kernel_rfl)) (by kernel_rfl)) (by kernel_rfl)) (by kernel_rfl)) (by kernel_rfl)) (by kernel_rfl)) (by kernel_rfl)) (by kernel_rfl)) (by kernel_rfl)) (by kernel_rfl)) (by kernel_rfl)) (by kernel_rfl)) (by kernel_rfl)) (by kernel_rfl)) (by kernel_rfl)) (by kernel_rfl)) (by kernel_rfl)) (by kernel_rfl)) Cm) Ck) (by rw[AN];rfl)) (by rw[CL];rfl)) (by kernel_rfl)) (by kernel_rfl)) (by kernel_rfl)) (by kernel_rfl))
theorem CC:Rows.FnHandedSaid:=
 OpenClaim.holds_of_wide 3 Tryz.f3 rfl rfl rfl rfl rfl rfl rfl ⟨rfl,rfl,rfl,rfl,rfl⟩ rfl rfl rfl rfl rfl (by kernel_rfl) Tryz.func3 FL
  (of_decide_eq_true (by kernel_rfl)) (by unfold Func.isWrapper;first|(rw[if_pos (by decide+kernel)];kernel_rfl)|(rw[if_neg (by decide+kernel)];exact⟨rfl,rfl⟩))
  (fun os started H enc _=>lifted os started H enc)
theorem holds:Rows.FnHandedCardSaid:=
 Claim7.holds_tied_plain_at .later [] [.data,.data,.data] true (true,"672d5c14b68f22abb691a24e5162aa7e147fe12375a5d854ea8e7e15461ae949") false
  CC (fun _ h=>by cases h) (by kernel_rfl) (fun _ h=>by cases h) fnHanded_row_tie rfl ⟨rfl,rfl⟩ (by kernel_rfl) rfl
  (fun f fn hf hfn=>by
   obtain rfl:f=3:=Option.some.inj ((show Tryz.prog.funcNamed "loop.example/g03014/laws.FnHanded" =some 3 by kernel_rfl).symm.trans hf) |>.symm
   obtain rfl:fn=Tryz.f3:=(Option.some.inj (Tryz.func3.symm.trans hfn)).symm
   exact⟨by kernel_rfl,fun j t ht=>by
    rw[Tryz.params3] at ht
    have hm:t∈[22]:=by simpa using Array.mem_of_getElem? ht
    have hall:([22].all fun u=> !Tryz.prog.wantsStandIn u)=true:=by kernel_rfl
    exact(show Tryz.prog.wantsStandIn t=false by simpa using List.all_eq_true.1 hall t hm)⟩)
  (by kernel_rfl)
end Go.Proofs.YtolplompnmammaaGreatDoor.fnHanded
