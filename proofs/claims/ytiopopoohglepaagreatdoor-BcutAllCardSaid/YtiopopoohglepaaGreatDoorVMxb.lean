/- A part. -/
import Derived.Test.YtiopopoohglepaaGreatDoorVMxa
import Derived.RegionTactic
set_option linter.all false
set_option maxRecDepth 100000
set_option maxHeartbeats 4000000
namespace Go.Proofs.YtiopopoohglepaaGreatDoor
open Go.Proofs.Tryz
open Go.RowKit Go.Shelf
section
variable {A W W' w:World} {Az off c:Nat} {zs0:List Nat}
def Yau{P}(h:P:=by
 have ar:I <d :=by omega
 clear ai ao
 have U:wr.drewN nq=W1.drewN (n2+nq):=by rw [aa.out,World.drewN_drewN]
 clear J
 generalize wr.drewN nq=V at U ⊢
 have ah: ∀t,t<n->V.cell? ⟨Az,off+t,none⟩=some (.int .u64 (G t:Nat)):=λt O=>by rw [U];exact ae t O
 have am: ∀t,t<n->V.frozen? ⟨Az,off+t,none⟩=false:=λt O=>by rw [U];exact af t O
 have ag:Hid (V=W1.drewN (n2+nq)):=Zh U
 clear U aa
 obtain⟨v3,an⟩:=cell?_setCell_some (w:=V) (p:=⟨Az,off+I,none⟩) (x:= .int .u64 (G d :Nat)) (q:=⟨Az,off+d,none⟩) (ah d (by omega))
 go_wp2
 go_region
 all_goals go_wp2
 all_goals go_roundw
 case rel=>exact⟨I +1,d -1,by go_num,by go_num,by omega,by omega,by omega,Zh (by rw [ag.out];have Z:=ab.out (n2+nq+1) I d (by omega) (by omega);exact Z)⟩
 case measure=>simp [intOf];omega):=h
def Yax{P}(h:P:=by
 go_wp2_with fail
 go_big_quiet (first|(go_at_call 183;refine Calls.quiet_of_same ((Bf _ _ _).mono λ_ _ h=>⟨h.1,h.2.symm⟩)))
 have U:wr.drewN nq=W1.drewN (n2+nq):=by rw [aa.out,World.drewN_drewN]
 clear J;generalize wr.drewN nq=V at U ⊢;have ah: ∀t,t<n->V.cell? ⟨Az,off+t,none⟩=some (.int .u64 (G t:Nat)):=λt d=>by rw [U];exact ae t d
 have am: ∀t,t<n->V.frozen? ⟨Az,off+t,none⟩=false:=λt d=>by rw [U];exact af t d
 have ag:Hid (V=W1.drewN (n2+nq)):=Zh U;clear U aa;go_wp2;go_ret;exact⟨I,rfl,⟨by omega,by omega⟩,by rw [ag.out];exact aq.drewN _⟩):=h
def Ybo{P}(h:P:=by
 have I:=al;go_roundw
 case rel=>exact⟨d -1,n2+nq,by go_num,by omega,by omega,by rw [aa.out,World.drewN_drewN]⟩
 case measure=>simp [intOf];omega):=h
def Ybv{P}(h:P:=by
 go_roundw
 case rel=>exact⟨I +1,n1+nq,by go_num,by omega,by omega,by rw [ac.out,World.drewN_drewN]⟩
 case measure=>simp [intOf];omega):=h
def Yht{P}(h:P:=by
 have J: ∀t,t<n->wr.cell? ⟨Az,off+t,none⟩=some (.int .u64 (G t:Nat)):=λt d=>by rw [aj];exact ae t d
 exact J):=h
def Yhu{P}(h:P:=by
 have J: ∀t,t<n->wr.cell? ⟨Az,off+t,none⟩=some (.int .u64 (G t:Nat)):=λt d=>by rw [O];exact ae t d
 exact J):=h
def Ymh{P}(h:P:=by
 have O:wr.drewN nq=W1.drewN (n1+nq):=by rw [ac.out,World.drewN_drewN]
 exact O):=h
def Vx{P}(h:P:=by
 have J:=Yhu;have aa:Hid (wr=W1.drewN n2):=Zh O;exact And.intro J aa):=h
def Yqv{P}(h:P:=by
 have J:=Yht;have ac:Hid (wr=W1.drewN n1):=Zh aj;exact And.intro J ac):=h
theorem XJ(h:AZ A W Az zs0)(aA:off=0)(a b pivot:Nat)(aO:a<=pivot)(aP:pivot<b)(aF:b<=zs0.length)(aG:zs0.length<4611686018427387904):
 Calls prog 184 #[.slice (some ⟨Az,off,none⟩) zs0.length c, .int .i64 a, .int .i64 b, .int .i64 pivot] W λe w' => ∃x:Nat,e= .returned (.int .i64 x)/\(a<x/\x<=b)/\AZ A w' Az zs0:=by
 obtain⟨n,ax⟩:=Zx zs0.length;rw [<-ax] at aF aG ⊢;have aB:=Zh aA;have aC:=Zh ax;have ay:a<n:=by omega
 have az:pivot<n:=by omega
 obtain⟨G,J,aw,ab⟩:=h.open off aB.out;rw [<-aC.out] at J aw ab;have ca:=J a ay;have aH:=aw a ay;have aD:=J pivot az;have aI:=aw pivot az;obtain⟨v',aJ⟩:=cell?_setCell_some (w:=W) (p:=⟨Az,off+a,none⟩) (x:= .int .u64 (G pivot:Nat)) (q:=⟨Az,off+pivot,none⟩) aD;clear J aw h aA ax;go_enter func184,ntmps184;go_wp2
 go_region
 go_wp2
 go_loopw [9,10] (λvi au wr=> ∃i j:Nat,vi= .int .i64 i/\au= .int .i64 j/\a<i/\i<=j+1/\j<b/\Hid (AZ A wr Az zs0)) (λvi au _=>(intOf au).toNat+1-(intOf vi).toNat)
 case atStart=>exact⟨a+1,b-1,by go_num,by go_num,by omega,by omega,by omega,Zh (ab 1 a pivot ay az)⟩
 case round=>
  obtain⟨i,j,rfl,rfl,aQ,aK,aR,aq⟩:=hrel;clear ca aH aD aI aJ v' ab
  rename World=>W1
  obtain⟨G,ae,af,ab⟩:=aq.open off aB.out;rw [<-aC.out] at ae af ab;go_wp2
  go_loopw [9] (λvi w1=> ∃(I n1:Nat),vi= .int .i64 I /\i<=I /\I <=j+1/\w1=W1.drewN n1) (λvi _=>j+1-(intOf vi).toNat)
  case atStart=>exact⟨i,0,rfl,Nat.le_refl _,aK,rfl⟩
  case round=>
   obtain⟨I,n1,rfl,aS,aE,aj⟩:=hrel;obtain⟨J,ac⟩:=Yqv;clear aj;by_cases hle:I <=j
   . go_wp2_with fail
     go_big_quiet (first|(go_at_call 183;refine Calls.quiet_of_same ((Bf _ _ _).mono λ_ _ h=>⟨h.1,h.2.symm⟩)))
     go_wp2
     . exact Ybv
     . have aL:Hid (G a<G I):=Zh (by
        first
         |assumption
         |(have Z:(!decide (G a<G I))=false:=by assumption
           simpa using Z))
       have O:wr.drewN nq=W1.drewN (n1+nq):=(by rw [ac.out,World.drewN_drewN]);clear J ac
       go_loopw [10] (λau w2=> ∃(d n2:Nat),au= .int .i64 d /\d <=j/\I <=d +1/\w2=W1.drewN n2) (λau _=>(intOf au).toNat)
       case atStart=>exact⟨j,n1+nq,rfl,Nat.le_refl _,aE,O⟩
       case round=>
        clear O;obtain⟨d,n2,rfl,aM,aN,O⟩:=hrel;obtain⟨J,aa⟩:=Vx;clear O;by_cases al:I <=d
        . go_wp2_with fail
          go_big_quiet (first|(go_at_call 183;refine Calls.quiet_of_same ((Bf _ _ _).mono λ_ _ h=>⟨h.1,h.2.symm⟩)))
          go_wp2
          . exact Ybo
          . have ai: ¬G a<G d :=by
             first
              |assumption
              |(have Z:decide (G a<G d)=false:=by assumption
                simpa using Z)
            have ao:I ≠d :=by
             rintro rfl;exact ai aL.out
            exact Yau
        . exact Yax
   . go_wp2_with fail
     go_big_quiet (first|(go_at_call 183;refine Calls.quiet_of_same ((Bf _ _ _).mono λ_ _ h=>⟨h.1,h.2.symm⟩)))
     go_wp2;have O:=Ymh;clear J ac
     go_loopw [10] (λau w2=> ∃(d n2:Nat),au= .int .i64 d /\d <=j/\I <=d +1/\w2=W1.drewN n2) (λau _=>(intOf au).toNat)
     case atStart=>exact⟨j,n1+nq,rfl,Nat.le_refl _,aE,O⟩
     case round=>
      clear O;obtain⟨d,n2,rfl,aM,aN,O⟩:=hrel;obtain⟨J,aa⟩:=Vx;clear O;by_cases al:I <=d
      . exfalso;omega
      . exact Yax
def Yap{P}(h:P:=by
 go_wp2_with fail
 go_big_quiet (first|(go_at_call 183;refine Calls.quiet_of_same ((Bf _ _ _).mono λ_ _ h=>⟨h.1,h.2.symm⟩)))
 have U:wr.drewN nq=W1.drewN (n2+nq):=by rw [aa.out,World.drewN_drewN]
 clear J;generalize wr.drewN nq=V at U ⊢;have ah: ∀t,t<n->V.cell? ⟨Az,off+t,none⟩=some (.int .u64 (G t:Nat)):=λt I=>by rw [U];exact ae t I
 have am: ∀t,t<n->V.frozen? ⟨Az,off+t,none⟩=false:=λt I=>by rw [U];exact af t I
 have ag:Hid (V=W1.drewN (n2+nq)):=Zh U;clear U aa;obtain⟨v3,an⟩:=cell?_setCell_some (w:=V) (p:=⟨Az,off+d,none⟩) (x:= .int .u64 (G a:Nat)) (q:=⟨Az,off+a,none⟩) (ah a (by omega));have O:d <n:=by omega
 go_wp2
 go_region
 all_goals go_wp2
 all_goals go_ret2
 exact⟨d,false,rfl,⟨by omega,by omega⟩,by rw [ag.out];have Z:=ab.out (n2+nq+1) d a (by omega) (by omega);exact Z⟩):=h
def Yaq{P}(h:P:=by
 go_wp2_with fail
 go_big_quiet (first|(go_at_call 183;refine Calls.quiet_of_same ((Bf _ _ _).mono λ_ _ h=>⟨h.1,h.2.symm⟩)))
 have U:wr.drewN nq=W1.drewN (n2+nq):=by rw [aa.out,World.drewN_drewN]
 clear J;generalize wr.drewN nq=V at U ⊢;have ah: ∀t,t<n->V.cell? ⟨Az,off+t,none⟩=some (.int .u64 (G t:Nat)):=λt I=>by rw [U];exact ae t I
 have am: ∀t,t<n->V.frozen? ⟨Az,off+t,none⟩=false:=λt I=>by rw [U];exact af t I
 have ag:Hid (V=W1.drewN (n2+nq)):=Zh U;clear U aa;obtain⟨v3,an⟩:=cell?_setCell_some (w:=V) (p:=⟨Az,off+d,none⟩) (x:= .int .u64 (G a:Nat)) (q:=⟨Az,off+a,none⟩) (ah a (by omega));have O:d <n:=by omega
 go_wp2
 go_region
 all_goals go_wp2
 all_goals go_ret2
 exact⟨d,true,rfl,⟨by omega,by omega⟩,by rw [ag.out];have Z:=ab.out (n2+nq+1) d a (by omega) (by omega);exact Z⟩):=h
theorem Ue(h:AZ A W Az zs0)(aI:off=0)(a b pivot:Nat)(aX:a<=pivot)(aY:pivot<b)(aP:b<=zs0.length)(aQ:zs0.length<4611686018427387904):
 Calls prog 185 #[.slice (some ⟨Az,off,none⟩) zs0.length c, .int .i64 a, .int .i64 b, .int .i64 pivot] W λe w' => ∃(x:Nat) (t:Bool),e= .returned (.tuple #[.int .i64 x, .bool t])/\(a<=x/\x<b)/\AZ A w' Az zs0:=by
 obtain⟨n,az⟩:=Zx zs0.length;rw [<-az] at aP aQ ⊢;have aA:=Zh aI;have aB:=Zh az;have aC:a<n:=by omega
 have aD:pivot<n:=by omega
 obtain⟨G,J,ax,ab⟩:=h.open off aA.out;rw [<-aB.out] at J ax ab;have ca:=J a aC;have aR:=ax a aC;have aJ:=J pivot aD;have aS:=ax pivot aD;obtain⟨v',aT⟩:=cell?_setCell_some (w:=W) (p:=⟨Az,off+a,none⟩) (x:= .int .u64 (G pivot:Nat)) (q:=⟨Az,off+pivot,none⟩) aJ;clear J ax h aI az;have aK:=Zh (ab 1 a pivot aC aD);go_enter func185,ntmps185;go_wp2
 go_region
 go_wp2;have au:=aK.out;clear aK ca aR aJ aS aT v' ab;have aL:((W.setCell ⟨Az,off+a,none⟩ (.int .u64 (G pivot:Nat))).setCell ⟨Az,off+pivot,none⟩ (.int .u64 (G a:Nat))).drew=(((W.drewN 1).setCell ⟨Az,off+a,none⟩ (.int .u64 (G pivot:Nat))).setCell ⟨Az,off+pivot,none⟩ (.int .u64 (G a:Nat))):=rfl;rw [<-aL] at au;clear aL;generalize ((W.setCell ⟨Az,off+a,none⟩ (.int .u64 (G pivot:Nat))).setCell ⟨Az,off+pivot,none⟩ (.int .u64 (G a:Nat))).drew=W1 at au ⊢;have au:=Zh au;obtain⟨G,ae,af,ab⟩:=au.open off aA.out;rw [<-aB.out] at ae af ab;have aM:((a:Int)+1)=((a+1:Nat):Int):=by omega
 have aN:((b:Int)-1)=((b-1:Nat):Int):=by omega
 rw [aM,aN];clear aM aN;obtain⟨i,hi⟩:=Zx (a+1);obtain⟨j,aO⟩:=Zx (b-1);rw [<-hi,<-aO];have aU:a<i:=by omega
 have aE:i<=j+1:=by omega
 have aV:j<b:=by omega
 clear hi aO
 go_loopw [10] (λvi w1=> ∃(I n1:Nat),vi= .int .i64 I /\i<=I /\I <=j+1/\w1=W1.drewN n1) (λvi _=>j+1-(intOf vi).toNat)
 case atStart=>exact⟨i,0,rfl,Nat.le_refl _,aE,rfl⟩
 case round=>
  obtain⟨I,n1,rfl,aW,aw,aj⟩:=hrel;obtain⟨J,ac⟩:=Yqv;clear aj;by_cases hle:I <=j
  . go_wp2_with fail
    go_big_quiet (first|(go_at_call 183;refine Calls.quiet_of_same ((Bf _ _ _).mono λ_ _ h=>⟨h.1,h.2.symm⟩)))
    go_wp2
    . exact Ybv
    . have ay:Hid (¬G I <G a):=Zh (by
       first
        |assumption
        |(have Z:decide (G I <G a)=false:=by assumption
          simpa using Z))
      have O:wr.drewN nq=W1.drewN (n1+nq):=(by rw [ac.out,World.drewN_drewN]);clear J ac
      go_loopw [11] (λaq w2=> ∃(d n2:Nat),aq= .int .i64 d /\d <=j/\I <=d +1/\w2=W1.drewN n2) (λaq _=>(intOf aq).toNat)
      case atStart=>exact⟨j,n1+nq,rfl,Nat.le_refl _,aw,O⟩
      case round=>
       clear O;obtain⟨d,n2,rfl,aF,aG,O⟩:=hrel;obtain⟨J,aa⟩:=Vx;clear O;by_cases al:I <=d
       . go_wp2_with fail
         go_big_quiet (first|(go_at_call 183;refine Calls.quiet_of_same ((Bf _ _ _).mono λ_ _ h=>⟨h.1,h.2.symm⟩)))
         go_wp2
         . exact Ybo
         . have ai:G d <G a:=by
            first
             |assumption
             |(have Z:(!decide (G d <G a))=false:=by assumption
               simpa using Z)
           have ao:I ≠d :=by
            rintro rfl;exact ay.out ai
           have ar:I <d :=(by omega);clear ai ao;have U:wr.drewN nq=W1.drewN (n2+nq):=(by rw [aa.out,World.drewN_drewN]);clear J;generalize wr.drewN nq=V at U ⊢;have ah: ∀t,t<n->V.cell? ⟨Az,off+t,none⟩=some (.int .u64 (G t:Nat)):=(λt aH=>by rw [U];exact ae t aH);have am: ∀t,t<n->V.frozen? ⟨Az,off+t,none⟩=false:=(λt aH=>by rw [U];exact af t aH);have ag:Hid (V=W1.drewN (n2+nq)):=Zh U;clear U aa;obtain⟨v3,an⟩:=cell?_setCell_some (w:=V) (p:=⟨Az,off+I,none⟩) (x:= .int .u64 (G d :Nat)) (q:=⟨Az,off+d,none⟩) (ah d (by omega));go_wp2
           go_region
           all_goals go_wp2
           go_loopw [10,11] (λvi aq wr=> ∃i j:Nat,vi= .int .i64 i/\aq= .int .i64 j/\a<i/\i<=j+1/\j<b/\Hid (AZ A wr Az zs0)) (λvi aq _=>(intOf aq).toNat+1-(intOf vi).toNat)
           case atStart=>exact⟨I +1,d -1,by go_num,by go_num,by omega,by omega,by omega,Zh (by rw [ag.out];have Z:=ab.out (n2+nq+1) I d (by omega) (by omega);exact Z)⟩
           case round=>
            obtain⟨i,j,rfl,rfl,aU,aE,aV,au⟩:=hrel;clear ae af ab ah am an ag ay
            rename World=>W1
            obtain⟨G,ae,af,ab⟩:=au.open off aA.out;rw [<-aB.out] at ae af ab;go_wp2
            go_loopw [10] (λvi w1=> ∃(I n1:Nat),vi= .int .i64 I /\i<=I /\I <=j+1/\w1=W1.drewN n1) (λvi _=>j+1-(intOf vi).toNat)
            case atStart=>exact⟨i,0,rfl,Nat.le_refl _,aE,rfl⟩
            case round=>
             obtain⟨I,n1,rfl,aW,aw,aj⟩:=hrel;obtain⟨J,ac⟩:=Yqv;clear aj;by_cases hle:I <=j
             . go_wp2_with fail
               go_big_quiet (first|(go_at_call 183;refine Calls.quiet_of_same ((Bf _ _ _).mono λ_ _ h=>⟨h.1,h.2.symm⟩)))
               go_wp2
               . exact Ybv
               . have ay:Hid (¬G I <G a):=Zh (by
                  first
                   |assumption
                   |(have Z:decide (G I <G a)=false:=by assumption
                     simpa using Z))
                 have O:wr.drewN nq=W1.drewN (n1+nq):=(by rw [ac.out,World.drewN_drewN]);clear J ac
                 go_loopw [11] (λaq w2=> ∃(d n2:Nat),aq= .int .i64 d /\d <=j/\I <=d +1/\w2=W1.drewN n2) (λaq _=>(intOf aq).toNat)
                 case atStart=>exact⟨j,n1+nq,rfl,Nat.le_refl _,aw,O⟩
                 case round=>
                  clear O;obtain⟨d,n2,rfl,aF,aG,O⟩:=hrel;obtain⟨J,aa⟩:=Vx;clear O;by_cases al:I <=d
                  . go_wp2_with fail
                    go_big_quiet (first|(go_at_call 183;refine Calls.quiet_of_same ((Bf _ _ _).mono λ_ _ h=>⟨h.1,h.2.symm⟩)))
                    go_wp2
                    . exact Ybo
                    . have ai:G d <G a:=by
                       first
                        |assumption
                        |(have Z:(!decide (G d <G a))=false:=by assumption
                          simpa using Z)
                      have ao:I ≠d :=by
                       rintro rfl;exact ay.out ai
                      exact Yau
                  . exact Yap
             . go_wp2_with fail
               go_big_quiet (first|(go_at_call 183;refine Calls.quiet_of_same ((Bf _ _ _).mono λ_ _ h=>⟨h.1,h.2.symm⟩)))
               go_wp2;have O:=Ymh;clear J ac
               go_loopw [11] (λaq w2=> ∃(d n2:Nat),aq= .int .i64 d /\d <=j/\I <=d +1/\w2=W1.drewN n2) (λaq _=>(intOf aq).toNat)
               case atStart=>exact⟨j,n1+nq,rfl,Nat.le_refl _,aw,O⟩
               case round=>
                clear O;obtain⟨d,n2,rfl,aF,aG,O⟩:=hrel;obtain⟨J,aa⟩:=Vx;clear O;by_cases al:I <=d
                . exfalso;omega
                . exact Yap
       . exact Yaq
  . go_wp2_with fail
    go_big_quiet (first|(go_at_call 183;refine Calls.quiet_of_same ((Bf _ _ _).mono λ_ _ h=>⟨h.1,h.2.symm⟩)))
    go_wp2;have O:=Ymh;clear J ac
    go_loopw [11] (λaq w2=> ∃(d n2:Nat),aq= .int .i64 d /\d <=j/\I <=d +1/\w2=W1.drewN n2) (λaq _=>(intOf aq).toNat)
    case atStart=>exact⟨j,n1+nq,rfl,Nat.le_refl _,aw,O⟩
    case round=>
     clear O;obtain⟨d,n2,rfl,aF,aG,O⟩:=hrel;obtain⟨J,aa⟩:=Vx;clear O;by_cases al:I <=d
     . exfalso;omega
     . exact Yaq
end
