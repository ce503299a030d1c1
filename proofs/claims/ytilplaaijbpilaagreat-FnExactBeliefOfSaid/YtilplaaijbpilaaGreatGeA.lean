/- What is believed of a thing, whether it is sure, who met: both texts agree. -/
import Derived.Test.YtilplaaijbpilaaGreatGdA
import Derived.Test.YtilplaaijbpilaaGreatLad
import Derived.Test.YtilplaaijbpilaaGreatLac
import Derived.Test.YtilplaaijbpilaaGreatLae
import Derived.Test.YtilplaaijbpilaaGreatHa
set_option linter.unusedVariables false
set_option linter.unusedSimpArgs false
set_option linter.unusedSectionVars false
namespace Go.Vs
open Go.IntWalk
def rdL (n:Network) (l:List Scan) (x a d:Int):List Leg→Int→List Trip
 |[],_=>[]
 |_::ls,k=>if mrB n l x a ⟨k,d⟩=true then⟨k,d⟩::rdL n l x a d ls (k+1) else rdL n l x a d ls (k+1)
def rdD (n:Network) (l:List Scan) (x a:Int):Nat→Int→List Trip
 |0,_=>[]
 |m+1,d=>rdL n l x a d n.Legs 0++rdD n l x a m (d+1)
def beB (n:Network) (l:List Scan) (x a:Int):Belief:=⟨(plc n).filter (mbB n l x a),(rdD n l x a 61 0).take 60⟩
theorem jr {α:Type} {w m:List α} {k:Nat} (h:w.length=k):(w++m).take k=w:=by rw[←h,List.take_left]
theorem yK {n:Network} (ht:n.tot≤1048576) (l:List Scan) (hl:l.length≤1048576) (x a d:Int):∀(ls:List Leg) (k:Int) (w:List Trip),0≤k→k+ls.length≤4194304→w.length≤60→
 cJ G.real TE.real n l x a d ls k w=some ((w++rdL n l x a d ls k).take 60)
 |[],k,w,_,_,h=>by rw[cJ,rdL,List.append_nil,List.take_of_length_le h]
 |z::ls,k,w,h0,h1,h=>by
  simp only[List.length_cons] at h1
  rw[cJ,rdL]
  simp only[jC,bY,bB,az,bc,am,mr_s ht l hl,af]
  by_cases hw:w.length<60
  ·rw[if_pos (by omega),w64 (by omega) (by omega)]
   cases hb:mrB n l x a ⟨k,d⟩ with
   |true=>
    rw[bd,ag (by simp;omega),yK ht l hl x a d ls _ _ (by omega) (by omega) (by simp;omega),if_pos rfl];simp
   |false=>
    rw[gX,yK ht l hl x a d ls _ _ (by omega) (by omega) h,if_neg (by simp)]
  ·rw[if_neg (by omega),jr (by omega)]
theorem Dp {n:Network} (ht:n.tot≤1048576) (l:List Scan) (hl:l.length≤1048576) (x a:Int):∀(m:Nat) (d:Int) (w:List Trip),0≤d→d+m≤4194304→w.length≤60→
 dp G.real TE.real n l x a m d w=some ((w++rdD n l x a m d).take 60)
 |0,d,w,_,_,h=>by rw[dp,rdD,List.append_nil,List.take_of_length_le h]
 |m+1,d,w,h0,h1,h=>by
  have:=de ht
  rw[dp,rdD]
  simp only[jC,bY,bB,bc,am]
  by_cases hw:w.length<60
  ·rw[if_pos (by omega),yK ht l hl x a d _ _ _ (by omega) (by omega) h,af,w64 (by omega) (by omega),Dp ht l hl x a m _ _ (by omega) (by omega) (by simp;omega)]
   congr 1
   rw[←List.append_assoc]
   generalize w++rdL n l x a d n.Legs 0=u
   by_cases hu:u.length≤60
   ·rw[List.take_of_length_le hu]
   ·rw[jr (by simp;omega),List.take_append_of_le_length (by omega)]
  ·rw[if_neg (by omega),jr (by omega)]
theorem yM {n:Network} (ht:n.tot≤1048576) (l:List Scan) (hl:l.length≤1048576) (x a:Int) (p:List ByteArray) (hp:p.length≤4194304):∀(m k:Nat) (w:List ByteArray),k+m=p.length→w.length≤k→
 cN G.real TE.real n l x a p m (k:Int) w=some (w++(p.drop k).filter (mbB n l x a))
 |0,k,w,h,_=>by rw[cN,List.drop_of_length_le (by omega)];simp
 |m+1,k,w,h,hw=>by
  have hk:k<p.length:=by omega
  rw[cN]
  simp only[aQ,Int.toNat_natCast,bc,az,GX ht l hl,af]
  rw[ar (List.getElem?_eq_getElem hk),w64 (by omega) (by omega),show(k:Int)+1=((k+1:Nat):Int) from by omega,List.drop_eq_getElem_cons hk,List.filter_cons]
  cases hb:mbB n l x a p[k] with
  |true=>rw[bd,ag (by simp;omega),yM ht l hl x a p hp m (k+1) _ (by omega) (by simp;omega),if_pos rfl];simp
  |false=>rw[gX,yM ht l hl x a p hp m (k+1) _ (by omega) (by omega),if_neg (by simp)]
theorem be_s {n:Network} (ht:n.tot≤1048576) (l:List Scan) (hl:l.length≤1048576) (x a:Int):jN G.real TE.real n l x a=some (beB n l x a):=by
 have hp:=sA ht
 unfold jN
 rw[sB (de ht),af]
 simp only[fQ,bY]
 have hc:aq 0 ((plc n).length:Int)=(plc n).length:=by unfold aq;omega
 rw[ag (by omega),hc,show(0:Int)=((0:Nat):Int) from rfl,yM ht l hl x a _ hp _ 0 [] (by omega) (by simp),af,show e9 ((0:Nat):Int) 60=61 from rfl,Dp ht l hl x a 61 _ [] (by omega) (by omega) (by simp),af,List.nil_append,List.nil_append,List.drop_zero]
 rfl
theorem sw {n:Network} (ht:n.tot≤1048576) (hb:netB n=true) (l:List Scan) (x a d:Int):∀(ls:List Leg) (k:Int) (w:List Trip),0≤k→k+ls.length≤4194304→w.length≤60→
 bK G.real TE.real n d (knB n (laB n l x a) (nxB n l x a) a) ls k w=some ((w++rdL n l x a d ls k).take 60)
 |[],k,w,_,_,h=>by rw[bK,rdL,List.append_nil,List.take_of_length_le h]
 |z::ls,k,w,h0,h1,h=>by
  simp only[List.length_cons] at h1
  rw[bK,rdL]
  simp only[jC,bY,bB,az,bc,am,yk (de ht),af]
  have hm:∀(h:runsB n k d=true),(ay G.real TE.real (Know.mk (Network.mk (knB n (laB n l x a) (nxB n l x a) a).n.Legs (knB n (laB n l x a) (nxB n l x a) a).n.Off (knB n (laB n l x a) (nxB n l x a) a).n.Change) (knB n (laB n l x a) (nxB n l x a) a).at_ (knB n (laB n l x a) (nxB n l x a) a).known (knB n (laB n l x a) (nxB n l x a) a).place (Trip.mk (knB n (laB n l x a) (nxB n l x a) a).ride.Leg (knB n (laB n l x a) (nxB n l x a) a).ride.Day) (knB n (laB n l x a) (nxB n l x a) a).rides (knB n (laB n l x a) (nxB n l x a) a).free (Spot.mk (knB n (laB n l x a) (nxB n l x a) a).from_.Place (knB n (laB n l x a) (nxB n l x a) a).from_.At) (Spot.mk (knB n (laB n l x a) (nxB n l x a) a).to.Place (knB n (laB n l x a) (nxB n l x a) a).to.At) (knB n (laB n l x a) (nxB n l x a) a).more) ⟨k,d⟩)=some (mrB n l x a ⟨k,d⟩):=fun h=>by
   have hT:jY n ⟨k,d⟩=true:=by unfold jY;rw[hb,h];rfl
   have:=By ht (A:=laB n l x a) (B:=nxB n l x a) nz a hT
   unfold mrB
   rw[hT,Bool.true_and]
   exact this
  by_cases hw:w.length<60
  ·rw[if_pos (by omega),w64 (by omega) (by omega)]
   cases hr:runsB n k d with
   |true=>
    rw[bd,hm hr,af]
    cases hc:mrB n l x a ⟨k,d⟩ with
    |true=>rw[bd,ag (by simp;omega),sw ht hb l x a d ls _ _ (by omega) (by omega) (by simp;omega),if_pos rfl];simp
    |false=>rw[gX,sw ht hb l x a d ls _ _ (by omega) (by omega) h,if_neg (by simp)]
   |false=>
    have hc:mrB n l x a ⟨k,d⟩=false:=by unfold mrB jY;rw[hr];simp
    rw[gX,sw ht hb l x a d ls _ _ (by omega) (by omega) h,if_neg (by simp[hc])]
  ·rw[if_neg (by omega),w64 (by omega) (by omega),sw ht hb l x a d ls _ _ (by omega) (by omega) h,jr (by omega),jr (by omega)]
theorem Cg {n:Network} (ht:n.tot≤1048576) (hb:netB n=true) (l:List Scan) (x a:Int):∀(m:Nat) (d:Int) (w:List Trip),0≤d→d+m≤4194304→w.length≤60→
 dz G.real TE.real n (knB n (laB n l x a) (nxB n l x a) a) m d w=some ((w++rdD n l x a m d).take 60)
 |0,d,w,_,_,h=>by rw[dz,rdD,List.append_nil,List.take_of_length_le h]
 |m+1,d,w,h0,h1,h=>by
  have:=de ht
  rw[dz,rdD,sw ht hb l x a d _ _ _ (by omega) (by omega) h,af,bc,w64 (by omega) (by omega),Cg ht hb l x a m _ _ (by omega) (by omega) (by simp;omega)]
  congr 1
  rw[←List.append_assoc]
  generalize w++rdL n l x a d n.Legs 0=u
  by_cases hu:u.length≤60
  ·rw[List.take_of_length_le hu]
  ·rw[jr (by simp;omega),List.take_append_of_le_length (by omega)]
theorem ya {n:Network} (ht:n.tot≤1048576) (l:List Scan) (x a:Int) (p:List ByteArray) (hp:p.length≤4194304) (hs:∀z∈p,z∈plc n):∀(m k:Nat) (w:List ByteArray),k+m=p.length→w.length≤k→
 cM G.real TE.real (knB n (laB n l x a) (nxB n l x a) a) p m (k:Int) w=some (w++(p.drop k).filter (mbB n l x a))
 |0,k,w,h,_=>by rw[cM,List.drop_of_length_le (by omega)];simp
 |m+1,k,w,h,hw=>by
  have hk:k<p.length:=by omega
  rw[cM]
  have hm:(av G.real TE.real (Know.mk (Network.mk (knB n (laB n l x a) (nxB n l x a) a).n.Legs (knB n (laB n l x a) (nxB n l x a) a).n.Off (knB n (laB n l x a) (nxB n l x a) a).n.Change) (knB n (laB n l x a) (nxB n l x a) a).at_ (knB n (laB n l x a) (nxB n l x a) a).known (knB n (laB n l x a) (nxB n l x a) a).place (Trip.mk (knB n (laB n l x a) (nxB n l x a) a).ride.Leg (knB n (laB n l x a) (nxB n l x a) a).ride.Day) (knB n (laB n l x a) (nxB n l x a) a).rides (knB n (laB n l x a) (nxB n l x a) a).free (Spot.mk (knB n (laB n l x a) (nxB n l x a) a).from_.Place (knB n (laB n l x a) (nxB n l x a) a).from_.At) (Spot.mk (knB n (laB n l x a) (nxB n l x a) a).to.Place (knB n (laB n l x a) (nxB n l x a) a).to.At) (knB n (laB n l x a) (nxB n l x a) a).more) p[k])=some (mbB n l x a p[k]):=by
   have:=Aj ht (A:=laB n l x a) (B:=nxB n l x a) nz a p[k]
   unfold mbB
   rw[decide_eq_true (hs _ (List.getElem_mem hk)),Bool.true_and]
   exact this
  simp only[aQ,Int.toNat_natCast,bc,az]
  rw[ar (List.getElem?_eq_getElem hk),hm,af,w64 (by omega) (by omega),show(k:Int)+1=((k+1:Nat):Int) from by omega,List.drop_eq_getElem_cons hk,List.filter_cons]
  cases hb:mbB n l x a p[k] with
  |true=>rw[bd,ag (by simp;omega),ya ht l x a p hp hs m (k+1) _ (by omega) (by simp;omega),if_pos rfl];simp
  |false=>rw[gX,ya ht l x a p hp hs m (k+1) _ (by omega) (by omega),if_neg (by simp)]
theorem CB {n:Network} {l:List Scan} {x a d:Int} (h:netB n=false):∀(ls:List Leg) (k:Int),rdL n l x a d ls k=[]
 |[],_=>rfl
 |z::ls,k=>by
  rw[rdL,if_neg (by unfold mrB jY;rw[h];simp),CB h ls]
theorem Cy {n:Network} {l:List Scan} {x a:Int} (h:netB n=false):∀(m:Nat) (d:Int),rdD n l x a m d=[]
 |0,_=>rfl
 |m+1,d=>by rw[rdD,CB h,Cy h m];rfl
theorem Cr {n:Network} {l:List Scan} {x a:Int} (h:netB n=false):beB n l x a=⟨[],[]⟩:=by
 unfold beB
 rw[Cy h,show(plc n).filter (mbB n l x a)=[] from by
  rw[List.filter_eq_nil_iff]
  intro p _
  unfold mbB
  rw[zc (yL h)];simp]
 rfl
theorem Gr {n:Network} (ht:n.tot≤1048576) (l:List Scan) (hl:l.length≤1048576) (x a:Int):go G.real TE.real n l x a=some (beB n l x a):=by
 have hp:=sA ht
 unfold go
 rw[tC ht,af]
 cases hb:netB n with
 |false=>rw[gX,Cr hb]
 |true=>
  rw[bd,Ht ht l hl,af,wq (de ht),af]
  simp only[fQ,bY]
  have hc:aq 0 ((plc n).length:Int)=(plc n).length:=by unfold aq;omega
  rw[ag (by omega),hc,show(0:Int)=((0:Nat):Int) from rfl,ya ht l x a _ hp (fun _ h=>h) _ 0 [] (by omega) (by simp),af,show e9 ((0:Nat):Int) 60=61 from rfl,Cg ht hb l x a 61 _ [] (by omega) (by omega) (by simp),af,List.nil_append,List.nil_append,List.drop_zero]
  rfl
theorem sV {α:Type} (f:α→Nat) (c:Nat):∀(l:List α),(∀y∈l,f y≤c)→dL f l≤c*l.length
 |[],_=>Nat.zero_le _
 |y::l,h=>by
  have h1:=sV f c l fun z hz=>h z (List.mem_cons_of_mem _ hz)
  have h2:=h y (List.mem_cons_self ..)
  unfold dL at h1 ⊢
  rw[List.map_cons,List.sum_cons,List.length_cons,Nat.mul_add]
  omega
theorem Ao {n:Network} (ht:n.tot≤1048576) (hb:netB n=true):(plc n).length≤40∧∀p∈plc n,p.size≤3:=by
 have hn:=lu ht hb
 have:=fX n
 have:=hn.len
 refine⟨by omega,fun p hp=>?_⟩
 obtain⟨z,hz,h⟩:=(lH n p).1 hp
 have hk:=hn.legs z hz
 rcases h with rfl|rfl
 ·exact Nat.le_of_eq hk.from3
 ·exact Nat.le_of_eq hk.to3
theorem Ab {n:Network} (ht:n.tot≤1048576) (hb:netB n=true) {w:List ByteArray} (h:w.Sublist (plc n)):w.length+dL (fun y=>y.size) w≤160:=by
 obtain⟨h1,h2⟩:=Ao ht hb
 have h3:=h.length_le
 have h4:=sV (fun y:ByteArray=>y.size) 3 w fun y hy=>h2 y (h.subset hy)
 omega
theorem zh {n:Network} (ht:n.tot≤1048576) (l:List Scan) (x a:Int):(beB n l x a).tot≤1048576:=by
 cases hb:netB n with
 |false=>rw[Cr hb];exact Nat.zero_le _
 |true=>
  have h1:=Ab ht hb (List.filter_sublist (p:=mbB n l x a) (l:=plc n))
  have h2:((rdD n l x a 61 0).take 60).length≤60:=by simp;omega
  unfold Belief.tot beB
  dsimp only
  omega
def meB (n:Network) (l:List Scan) (x y a:Int):List ByteArray:=(plc n).filter fun p=>mbB n l y a p&&mbB n l x a p
theorem vo {n:Network} (ht:n.tot≤1048576) (l:List Scan) (hl:l.length≤1048576) (x y a:Int) (p:List ByteArray) (hp:p.length≤4194304):∀(m k:Nat) (w:List ByteArray),k+m=p.length→w.length≤k→
 ei G.real TE.real n l x y a p m (k:Int) w=some (w++(p.drop k).filter fun p=>mbB n l y a p&&mbB n l x a p)
 |0,k,w,h,_=>by rw[ei,List.drop_of_length_le (by omega)];simp
 |m+1,k,w,h,hw=>by
  have hk:k<p.length:=by omega
  rw[ei]
  simp only[aQ,Int.toNat_natCast,bc,az,GX ht l hl,af]
  rw[ar (List.getElem?_eq_getElem hk),w64 (by omega) (by omega),show(k:Int)+1=((k+1:Nat):Int) from by omega,List.drop_eq_getElem_cons hk,List.filter_cons]
  cases hb:mbB n l x a p[k] with
  |true=>
   rw[bd]
   cases hc:mbB n l y a p[k] with
   |true=>rw[bd,ag (by simp;omega),vo ht l hl x y a p hp m (k+1) _ (by omega) (by simp;omega),if_pos (show(true&&true)=true from rfl)];simp
   |false=>rw[gX,vo ht l hl x y a p hp m (k+1) _ (by omega) (by omega),if_neg (by simp)]
  |false=>rw[gX,vo ht l hl x y a p hp m (k+1) _ (by omega) (by omega),if_neg (by simp)]
theorem me_s {n:Network} (ht:n.tot≤1048576) (l:List Scan) (hl:l.length≤1048576) (x y a:Int):o9 G.real TE.real n l x y a=some (meB n l x y a):=by
 have hp:=sA ht
 unfold o9
 simp only[az,sB (de ht),af,fQ,bY]
 have hc:aq 0 ((plc n).length:Int)=(plc n).length:=by unfold aq;omega
 rw[ag (by omega),hc,show(0:Int)=((0:Nat):Int) from rfl,vo ht l hl x y a _ hp _ 0 [] (by omega) (by simp),af,List.nil_append,List.drop_zero]
 rfl
theorem yX {n:Network} (ht:n.tot≤1048576) (l:List Scan) (hl:l.length≤1048576) (y a:Int) (b:Belief) (hp:b.Places.length≤4194304):∀(m k:Nat) (w:List ByteArray),k+m=b.Places.length→w.length≤k→
 eW G.real TE.real n l y a b m (k:Int) w=some (w++(b.Places.drop k).filter (mbB n l y a))
 |0,k,w,h,_=>by rw[eW,List.drop_of_length_le (by omega)];simp
 |m+1,k,w,h,hw=>by
  have hk:k<b.Places.length:=by omega
  rw[eW]
  simp only[aQ,Int.toNat_natCast,bc,az,mb_i ht l hl,af]
  rw[ar (List.getElem?_eq_getElem hk),w64 (by omega) (by omega),show(k:Int)+1=((k+1:Nat):Int) from by omega,List.drop_eq_getElem_cons hk,List.filter_cons]
  cases hb:mbB n l y a b.Places[k] with
  |true=>rw[bd,ag (by simp;omega),yX ht l hl y a b hp m (k+1) _ (by omega) (by simp;omega),if_pos rfl];simp
  |false=>rw[gX,yX ht l hl y a b hp m (k+1) _ (by omega) (by omega),if_neg (by simp)]
theorem me_i {n:Network} (ht:n.tot≤1048576) (l:List Scan) (hl:l.length≤1048576) (x y a:Int):mT G.real TE.real n l x y a=some (meB n l x y a):=by
 have hp:(beB n l x a).Places.length≤4194304:=by
  have:=zh ht l x a
  unfold Belief.tot at this
  omega
 unfold mT
 simp only[az,Gr ht l hl,af,fQ,bY]
 have hc:aq 0 ((beB n l x a).Places.length:Int)=(beB n l x a).Places.length:=by unfold aq;omega
 rw[ag (by omega),hc,show(0:Int)=((0:Nat):Int) from rfl,yX ht l hl y a _ hp _ 0 [] (by omega) (by simp),af,List.nil_append,List.drop_zero]
 congr 1
 unfold beB meB
 dsimp only
 rw[List.filter_filter]
theorem DT {n:Network} (ht:n.tot≤1048576) (l:List Scan) (x y a:Int):(meB n l x y a).length+dL (fun y=>y.size) (meB n l x y a)≤1048576:=by
 cases hb:netB n with
 |false=>
  rw[show meB n l x y a=[] from by
   unfold meB
   rw[List.filter_eq_nil_iff]
   intro p _
   unfold mbB
   rw[zc (yL hb)];simp]
  exact Nat.zero_le _
 |true=>
  have:=Ab ht hb (List.filter_sublist (p:=fun p=>mbB n l y a p&&mbB n l x a p) (l:=plc n))
  unfold meB
  omega
end Go.Vs
