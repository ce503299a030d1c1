/- The law FnScanRead holds: whatever its arguments, the call returns true and leaves them as they were. The variables of Go's library that it reads are tied to the program's text. No further condition. -/
import Derived.Test.YtdgkokanccedkaaGreatDoorVf
import Derived.Test.YtdgkokanccedkaaGreatDoorLac
import Derived.Test.YtdgkokanccedkaaGreatDoorDra
import Derived.Test.YtdgkokanccedkaaGreatDoorPar
import Derived.Test.YtdgkokanccedkaaGreatDoorIs
import Derived.Test.YtdgkokanccedkaaGreatDoorOrder
import Derived.Test.YtdgkokanccedkaaGreatDoorRows
import Derived.Test.YtdgkokanccedkaaGreatDoorCards
import Derived.Test.YtdgkokanccedkaaGreatDoorTie
import Derived.Test.YtdgkokanccedkaaGreatDoorWr
import Derived.Lay
import Derived.ProofKit
import Derived.LaidMore
import Derived.OpenShut
import Derived.SevenTiedAt
import Derived.Stop.Joined
set_option linter.unusedVariables false
set_option linter.unusedSimpArgs false
set_option linter.unusedSectionVars false
namespace Go.Vs
open Go.IntWalk
theorem Bi (a:List Int):qj G.real TE.real a=decide (4096<a.length):=by
 have h:qj G.real TE.real a=decide ((4096:Int)<(a.length:Int)):=by
  unfold qj
  simp only[zp,eK]
 rw[h,decide_eq_decide]
 omega
end Go.Vs
namespace Go.Vs
open Go.IntWalk Go.Lib
theorem sT (s:ByteArray):∀(l:List ByteArray) (v:Int),s∈l→0≤v→v+l.length≤4194304→∃k,d6 G.real TE.real s l v=.ret k∧0≤k
 |[],v,h,_,_=>by cases h
 |z::l,v,h,h0,h1=>by
  simp only[List.length_cons] at h1
  rw[d6,bL,al]
  split
  ·exact⟨v,rfl,h0⟩
  ·rename_i hne
   rcases List.mem_cons.1 h with rfl|h
   ·exact absurd rfl hne
   ·rw[bU,w64 (by omega) (by omega)]
    exact sT s l (v+1) h (by omega) (by omega)
theorem qs {s:ByteArray} {l:List ByteArray} (h:s∈l) (hl:l.length≤4000000):0≤jo G.real TE.real l s:=by
 obtain⟨k,h1,h2⟩:=sT s l 0 h (by omega) (by omega)
 unfold jo
 rw[bc,h1];exact h2
theorem rO (a:List Int) (_:a.length≤9223372036854775807∧∀x∈a,0≤x∧x≤255):eC G.real TE.real a=some true:=by
 unfold eC
 rw[bc,Bi,al]
 split
 ·rfl
 ·obtain⟨⟨n,s⟩,e,ht⟩:=oZ a (by omega)
  replace ht:n.tot≤1048576:=ht
  rw[e,ah]
  dsimp only
  rw[show(Scan.mk s.Thing s.At s.Kind s.Place (Trip.mk s.Trip.Leg s.Trip.Day))=s from rfl,show(Network.mk n.Legs n.Off n.Change)=n from rfl,zn ht,ah]
  have hsz:(fsB n s).size≤1048576:=by
   unfold fsB
   split
   ·rename_i hb
    have hk:=fv hb
    have h1:=qW hk.time
    have h2:=cY (x:=s.Thing) ⟨by have:=hk.thing;omega,by have:=hk.thing;omega⟩
    have h3:=qB s.Kind
    have h4:(whr s).length≤43:=by
     by_cases k:s.Kind=3∨s.Kind=2
     ·have hl:=je ht hk k
      have h4:=cY (x:=s.Trip.Leg) ⟨by omega,by omega⟩
      have h5:=cY (x:=s.Trip.Day) ⟨by omega,by omega⟩
      rw[om k]
      simp only[List.length_append,List.length_cons];omega
     ·rw[re k,dH]
      have:=(lC (fu ht hk.net) (hk.at_ (by have:=hk.kind;omega)).1).1
      omega
    rw[am]
    unfold scT
    simp only[List.length_append,List.length_cons]
    omega
   ·rw[am];decide
  obtain⟨r,r1,r2⟩:=Br ht hsz
  rw[r1,ah,xC ht,BK ht,ah,ah]
  cases hb:scB n s with
  |false=>
   rw[mM,mM,ah,mM,bL]
   have e0:fsB n s=str_k0:=by unfold fsB;rw[hb];rfl
   have er:r.2=false:=by
    cases hr:r.2 with
    |false=>rfl
    |true=>
     obtain⟨q1,q2⟩:=r2.yes hr
     unfold fsB at q2
     rw[if_pos q1,hb,if_neg (by simp)] at q2
     have:=qr q2
     unfold scT at this
     simp at this
   rw[e0,decide_eq_true rfl,cK,er,mM,AT ht,ah]
   unfold plB
   rw[hb,if_neg (by simp),bL,decide_eq_true rfl]
  |true=>
   have hk:=fv hb
   have hn:=fu ht hk.net
   have er:=r2.all s hb (by unfold fsB;rw[if_pos hb])
   subst er
   dsimp only
   rw[cK,cK,ah,cK,bh_i ht,bf_i ht,ah,ah,cK]
   rw[show(G.real.all [G.real.eq s.Thing s.Thing,G.real.eq s.At s.At,G.real.eq s.Kind s.Kind,G.real.seq s.Place s.Place,G.real.eq s.Trip.Leg s.Trip.Leg,G.real.eq s.Trip.Day s.Trip.Day])=true by simp only[dO,bL,decide_true,wT];rfl]
   have hl:=li ht
   rw[cK,xU hl,AT ht,ah,ah,bc]
   have hp:plB n s∈plc n∧(bfB n s).At≤(bhB n s).At:=by
    unfold bfB bhB plB
    rw[if_pos hb,if_pos hb,if_pos hb]
    by_cases k3:s.Kind=3
    ·obtain⟨_,_,q1,q2,q3,q4⟩:=gu ht hk (.inl k3)
     have hr:=lz hn q1 q2 q3 q4
     rw[if_pos k3,if_pos k3,if_pos (Or.inl k3)]
     refine⟨(k9 _ _).2 ⟨_,qx q1 q2,.inl rfl⟩,?_⟩
     show stN n s.Trip.Leg s.Trip.Day≤enN n s.Trip.Leg s.Trip.Day
     omega
    ·rw[if_neg k3,if_neg k3]
     by_cases k2:s.Kind=2
     ·obtain⟨_,_,q1,q2,q3,q4⟩:=gu ht hk (.inr k2)
      have hr:=lz hn q1 q2 q3 q4
      have:=(hk.drop k2).2.2
      rw[if_pos k2,if_pos (Or.inr k2)]
      refine⟨(k9 _ _).2 ⟨_,qx q1 q2,.inr rfl⟩,?_⟩
      show stN n s.Trip.Leg s.Trip.Day≤s.At
      omega
     ·rw[if_neg k2,if_neg (fun h=>h.elim k3 k2)]
      exact⟨(hk.at_ (by have:=hk.kind;omega)).1,Int.le_refl _⟩
   have hpl:=mT n
   have hi:=qs hp.1 (by omega)
   rw[qT,al,if_pos hi,qT,decide_eq_true hp.2]
end Go.Vs
namespace Go.Vs
theorem law3 (a:List Int) (h:a.length≤9223372036854775807∧∀x∈a,0≤x∧x≤255):eC G.real TE.real a=some true:=rO a h
end Go.Vs
namespace Go.Proofs.YtdgkokanccedkaaGreatDoor.fnScanRead
open Go.Vs Go.RowKit Go.WideShapes Go.ChangeShapes
set_option linter.unusedVariables false
set_option maxRecDepth 100000
theorem wu (as0:List A) (h:nt Tryz.prog 8 Tryz.f3.params.toList as0):Go.Vs.Fn Tryz.prog 3 as0 (.c (.r (.v (.bool true)))):=by
 rw[Tryz.params3] at h
 obtain⟨x0,xs0,rfl,⟨ts0,t0,q0⟩,h⟩:=h
 rw[show i5 Tryz.prog 8 22=some [.sl [.int .u8]] from by kernel_rfl] at t0
 cases t0
 rw[show sh Tryz.prog 22=false from by kernel_rfl] at q0
 obtain⟨r0,rfl,q0⟩:=q0
 obtain⟨_,_,e0,q0,e0_⟩:=dL q0
 cases e0
 obtain⟨b0,rfl,l0,q0⟩:=yo q0
 obtain⟨a0,rfl,p0⟩:=nf Bh b0 q0
 rw[List.length_map] at l0
 have h:=h
 subst h
 exact oP rfl rfl (law3 _ ⟨l0,p0⟩)
abbrev dj:List (String×DataW Unit):=[("math/bits.deBruijn32tab",Rows.laid_math_bits_deBruijn32tab),("math/bits.deBruijn64tab",Rows.laid_math_bits_deBruijn64tab),("internal/strconv.uint64pow10",Rows.laid_internal_strconv_uint64pow10),("unicode/utf8.acceptRanges",Rows.laid_unicode_utf8_acceptRanges),("strconv.ErrRange",Rows.laid_strconv_ErrRange),("strconv.ErrSyntax",Rows.laid_strconv_ErrSyntax),("unicode/utf8.first",Rows.laid_unicode_utf8_first)]
theorem Ay:Tryz.prog.globalNamed "internal/strconv.uint64pow10" =some 3:=by kernel_rfl
theorem AX:(Rows.laid_internal_strconv_uint64pow10:DataW Unit)=Go.Lib.tabData .u64 Go.Lib.pow10Tab:=by kernel_rfl
theorem xN: "*" ++ "errors.errorString" = "*errors.errorString" :=by decide
theorem xL (u:TypeId) (h:Tryz.prog.typeName? 3 u=some "*errors.errorString"):u=177:=
 typeName_ptr_named (nm:= "errors.errorString") (by rw[xN];kernel_rfl) (by kernel_rfl) (by decide) u (by rw[xN];exact h)
theorem tE:Tryz.prog.globalNamed "strconv.ErrSyntax" =some 1:=by kernel_rfl
theorem tt {W:World} (h:laidMet Tryz.prog dj W):∃te pe,W.cell? ⟨1,0,none⟩=some (.iface te pe):=by
 obtain⟨a,s,hv,_⟩:=laid_sentinel h.tail.tail.tail.tail.tail tE (show(Tryz.prog.globals[1]?).map (·.type)=some 86 by kernel_rfl) Tryz.underlying86 xL Tryz.underlying177 Tryz.underlying179 rfl rfl Tryz.underlying9 (show Tryz.prog.cellsOf 179=1 by kernel_rfl) (show Tryz.prog.cellsOf 9=1 by kernel_rfl)
 exact⟨_,_,by simpa using World.var?_cell tE hv 0⟩
theorem tk:Tryz.prog.globalNamed "strconv.ErrRange" =some 2:=by kernel_rfl
theorem tM {W:World} (h:laidMet Tryz.prog dj W):∃te pe,W.cell? ⟨2,0,none⟩=some (.iface te pe):=by
 obtain⟨a,s,hv,_⟩:=laid_sentinel h.tail.tail.tail.tail tk (show(Tryz.prog.globals[2]?).map (·.type)=some 86 by kernel_rfl) Tryz.underlying86 xL Tryz.underlying177 Tryz.underlying179 rfl rfl Tryz.underlying9 (show Tryz.prog.cellsOf 179=1 by kernel_rfl) (show Tryz.prog.cellsOf 9=1 by kernel_rfl)
 exact⟨_,_,by simpa using World.var?_cell tk hv 0⟩
theorem qN {W:World} (hs:W.ShapedOpen Tryz.prog) (h:laidMetH Tryz.prog dj W):Laid Tryz.prog W:=by
 rw[MakeChecks.laidMetH_plain _ _ _ (by kernel_rfl)] at h
 have h1:=tt h
 have h2:=tM h
 obtain⟨ps,h,_⟩:=h
 refine⟨fun t ht _=>?_,fun t ht g hg=>?_⟩
 ·simp only[tabs,List.mem_singleton] at ht
  subst ht
  exact iH (g:=3) (t:=165) (e:=133) (n:=20) Ay (by kernel_rfl) (by kernel_rfl) (by kernel_rfl) (by kernel_rfl) (by kernel_rfl) dj ps h (by rw[←AX];simp[dj])
 ·simp only[celv,List.mem_cons,List.not_mem_nil,or_false] at ht
  rcases ht with rfl|rfl|rfl
  ·obtain rfl:=Option.some.inj (Tryz.laysM145.m1.symm.trans hg)
   obtain⟨m,hm⟩:=Tryz.laysM145.s1_3 W hs
   exact⟨_,hm,m,rfl⟩
  ·obtain rfl:=Option.some.inj (tE.symm.trans hg)
   obtain⟨te,pe,hv⟩:=h1
   exact⟨_,hv,te,pe,rfl⟩
  ·obtain rfl:=Option.some.inj (tk.symm.trans hg)
   obtain⟨te,pe,hv⟩:=h2
   exact⟨_,hv,te,pe,rfl⟩
theorem own:ownKnob Tryz.prog.godebug=none:=by kernel_rfl
theorem met (os:Os) (args:Array Value):laidMetH Tryz.prog dj ((World.laidAll Tryz.prog os dj).forCall (fun _ _=>0) ⟨#[],args,[]⟩).memory:=by
 rw[MakeChecks.laidMetH_plain _ _ _ (by kernel_rfl)]
 exact laidMet_laidAll _ (by kernel_rfl) (by kernel_rfl)
theorem lifted (os:Os) (started:os.Started) (H:Type) (enc:TypeId×Value→H):
 ReturnsInHanded {} Tryz.checked os 3 .any (fun w args=>(Rows.fnScanReadSpec.pre enc Tryz.prog Tryz.f3 [] false w args∧laidMetH Tryz.prog dj w)∧sizedMet enc Tryz.prog Tryz.f3 (OpenSpec.ofChange Rows.fnScanReadSpec) false w args)
  (Rows.fnScanReadSpec.post enc Tryz.prog Tryz.f3 false true false false):=by
 refine gr (C:=Tryz.checked) (X:=fun w _=>laidMetH Tryz.prog dj w) (fun _ _ _ hh h=>h.of_heap hh) own started (by kernel_rfl) Tryz.func3
  (ChangeSpec.witness_shaped (enc:=enc) (C:=Tryz.checked) (os:=os) (X:=fun w _=>laidMetH Tryz.prog dj w) false (World.laidAll Tryz.prog os dj) #[.slice none 0 0] 8 (World.laidAll_os _ _ _) (World.shaped_of_ZipB (by kernel_rfl) (by kernel_rfl)) (by kernel_rfl) (by kernel_rfl) (by kernel_rfl) (met os _)) ?_
 intro W base args ds gs before hval hW hs hL
 refine kz (n:=8) (tb:=4) rfl rfl Tryz.underlying4 (by kernel_rfl) (by kernel_rfl) (fun ds hl=>?_) wu W (qN hs hL) base args ds gs before hval hW
 rw[Tryz.params3] at hl
 match ds,hl with
 |[d0],_=>exact⟨rfl,rfl,rfl⟩
theorem xA:joinedFacts Tryz.prog 3 Tryz.f3 Rows.fnScanReadSpec Rows.fnScanReadRow=true:=by
 unfold joinedFacts
 exact(aE (aE (aE (aE (aE (aE (aE (aE (aE (aE (aE (aE (aE (aE (aE (aE (aE (aE (aE (aE (aE (aE (aE (aE (aE (aE (aE (aE (aE (aE (aE (by kernel_rfl) uz) uq) (by kernel_rfl)) (by kernel_rfl)) (by kernel_rfl)) (by kernel_rfl)) (by kernel_rfl)) (by kernel_rfl)) (by kernel_rfl)) (by kernel_rfl)) (by kernel_rfl)) (by kernel_rfl)) (by kernel_rfl)) (by kernel_rfl)) (by kernel_rfl)) (by kernel_rfl)) (by kernel_rfl)) (by kernel_rfl)) (by kernel_rfl)) (by kernel_rfl)) (by kernel_rfl)) (by kernel_rfl)) (by kernel_rfl)) sP) sB) (by rw[rU];rfl)) (by rw[uJ];rfl)) (by kernel_rfl)) (by kernel_rfl)) (by kernel_rfl)) (by kernel_rfl))
theorem nC:Rows.FnScanReadSaid:=
 OpenClaim.holds_of_wide 3 Tryz.f3 rfl rfl rfl rfl rfl rfl rfl ⟨rfl,rfl,rfl,rfl,rfl⟩ rfl rfl rfl rfl rfl (by kernel_rfl) Tryz.func3 xA
  (of_decide_eq_true (by kernel_rfl)) (by unfold Func.isWrapper;first|(rw[if_pos (by decide+kernel)];kernel_rfl)|(rw[if_neg (by decide+kernel)];exact⟨rfl,rfl⟩))
  (fun os started H enc _=>lifted os started H enc)
theorem holds:Rows.FnScanReadCardSaid:=
 Claim7.holds_tied_plain_at .later [] [.data,.data,.data,.data,.sentinel,.sentinel,.pinned] true (true,"25f93814be5e43bb1e2b917c9f366d1e9cf27697260c6270b908a07dabc9932e") true
  nC (fun _ h=>by cases h) (by kernel_rfl) (fun _ h=>by cases h) fnScanRead_row_tie rfl ⟨rfl,rfl⟩ (by kernel_rfl) rfl
  (fun f fn hf hfn=>by
   obtain rfl:f=3:=Option.some.inj ((show Tryz.prog.funcNamed "loop.example/g03014/laws.FnScanRead" =some 3 by kernel_rfl).symm.trans hf) |>.symm
   obtain rfl:fn=Tryz.f3:=(Option.some.inj (Tryz.func3.symm.trans hfn)).symm
   exact⟨by kernel_rfl,fun j t ht=>by
    rw[Tryz.params3] at ht
    have hm:t∈[22]:=by simpa using Array.mem_of_getElem? ht
    have hall:([22].all fun u=> !Tryz.prog.wantsStandIn u)=true:=by kernel_rfl
    exact(show Tryz.prog.wantsStandIn t=false by simpa using List.all_eq_true.1 hall t hm)⟩)
  (by kernel_rfl)
end Go.Proofs.YtdgkokanccedkaaGreatDoor.fnScanRead
