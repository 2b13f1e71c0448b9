/- A part. -/
import Derived.Test.YtiopopoohglepaaGreatDoorPMxa
import Derived.RegionTactic
set_option linter.all false
set_option maxRecDepth 100000
set_option maxHeartbeats 4000000
namespace Go.Proofs.YtiopopoohglepaaGreatDoor
open Go.Proofs.Tryz
open Go.RowKit Go.Shelf
section
variable {A W W' w:World} {Az off c:Nat} {zs0:List Nat}
def Yas{P}(h:P:=by
 have au:J <I :=by omega
 clear aj aq
 have V:wr.drewN nq=W1.drewN (n2+nq):=by rw [ab.out,World.drewN_drewN]
 clear O
 generalize wr.drewN nq=Z at V ⊢
 have ai: ∀t,t<n->Z.cell? ⟨Az,off+t,none⟩=some (.int .u64 (G t:Nat)):=λt U=>by rw [V];exact af t U
 have an: ∀t,t<n->Z.frozen? ⟨Az,off+t,none⟩=false:=λt U=>by rw [V];exact ag t U
 have ah:Hid (Z=W1.drewN (n2+nq)):=Zh V
 clear V ab
 obtain⟨v3,ao⟩:=cell?_setCell_some (w:=Z) (p:=⟨Az,off+J,none⟩) (x:= .int .u64 (G I :Nat)) (q:=⟨Az,off+I,none⟩) (ai I (by omega))
 go_wp2
 go_region
 all_goals go_wp2
 all_goals go_roundw
 case rel=>exact⟨J +1,I -1,by go_num,by go_num,by omega,by omega,by omega,Zh (by rw [ah.out];have aa:=ac.out (n2+nq+1) J I (by omega) (by omega);exact aa)⟩
 case measure=>simp [intOf];omega):=h
def Yat{P}(h:P:=by
 go_wp2_with fail
 go_big_quiet (first|(go_at_call 183;refine Calls.quiet_of_same ((Bh _ _ _).mono λ_ _ h=>⟨h.1,h.2.symm⟩)))
 have V:wr.drewN nq=W1.drewN (n2+nq):=by rw [ab.out,World.drewN_drewN]
 clear O;generalize wr.drewN nq=Z at V ⊢;have ai: ∀t,t<n->Z.cell? ⟨Az,off+t,none⟩=some (.int .u64 (G t:Nat)):=λt I=>by rw [V];exact af t I
 have an: ∀t,t<n->Z.frozen? ⟨Az,off+t,none⟩=false:=λt I=>by rw [V];exact ag t I
 have ah:Hid (Z=W1.drewN (n2+nq)):=Zh V;clear V ab;go_wp2;go_ret;exact⟨J,rfl,⟨by omega,by omega⟩,by rw [ah.out];exact ar.drewN _⟩):=h
def Ybn{P}(h:P:=by
 have J:=am;go_roundw
 case rel=>exact⟨I -1,n2+nq,by go_num,by omega,by omega,by rw [ab.out,World.drewN_drewN]⟩
 case measure=>simp [intOf];omega):=h
def Ybt{P}(h:P:=by
 go_roundw
 case rel=>exact⟨J +1,n1+nq,by go_num,by omega,by omega,by rw [ae.out,World.drewN_drewN]⟩
 case measure=>simp [intOf];omega):=h
def Yhu{P}(h:P:=by
 have O: ∀t,t<n->wr.cell? ⟨Az,off+t,none⟩=some (.int .u64 (G t:Nat)):=λt I=>by rw [al];exact af t I
 exact O):=h
def Yhv{P}(h:P:=by
 have O: ∀t,t<n->wr.cell? ⟨Az,off+t,none⟩=some (.int .u64 (G t:Nat)):=λt I=>by rw [U];exact af t I
 exact O):=h
def Ymu{P}(h:P:=by
 have U:wr.drewN nq=W1.drewN (n1+nq):=by rw [ae.out,World.drewN_drewN]
 exact U):=h
def Xu{P}(h:P:=by
 have O:=Yhv;have ab:Hid (wr=W1.drewN n2):=Zh U;exact And.intro O ab):=h
def Yrp{P}(h:P:=by
 have O:=Yhu;have ae:Hid (wr=W1.drewN n1):=Zh al;exact And.intro O ae):=h
theorem Ye(h:A1 A W Az zs0)(aB:off=0)(a b pivot:Nat)(aP:a<=pivot)(aQ:pivot<b)(aG:b<=zs0.length)(aH:zs0.length<4611686018427387904):
 Calls prog 184 #[.slice (some ⟨Az,off,none⟩) zs0.length c, .int .i64 a, .int .i64 b, .int .i64 pivot] W λe w' => ∃x:Nat,e= .returned (.int .i64 x)/\(a<x/\x<=b)/\A1 A w' Az zs0:=by
 obtain⟨n,ay⟩:=Zx zs0.length;rw [<-ay] at aG aH ⊢;have aC:=Zh aB;have aD:=Zh ay;have az:a<n:=by omega
 have aA:pivot<n:=by omega
 obtain⟨G,O,ax,ac⟩:=h.open off aC.out;rw [<-aD.out] at O ax ac;have ca:=O a az;have aI:=ax a az;have aE:=O pivot aA;have aJ:=ax pivot aA;obtain⟨v',aK⟩:=cell?_setCell_some (w:=W) (p:=⟨Az,off+a,none⟩) (x:= .int .u64 (G pivot:Nat)) (q:=⟨Az,off+pivot,none⟩) aE;clear O ax h aB ay;go_enter func184,ntmps184;go_wp2
 go_region
 go_wp2
 go_loopw [9,10] (λvi aw wr=> ∃i j:Nat,vi= .int .i64 i/\aw= .int .i64 j/\a<i/\i<=j+1/\j<b/\Hid (A1 A wr Az zs0)) (λvi aw _=>(intOf aw).toNat+1-(intOf vi).toNat)
 case atStart=>exact⟨a+1,b-1,by go_num,by go_num,by omega,by omega,by omega,Zh (ac 1 a pivot az aA)⟩
 case round=>
  obtain⟨i,j,rfl,rfl,aR,aL,aS,ar⟩:=hrel;clear ca aI aE aJ aK v' ac
  rename World=>W1
  obtain⟨G,af,ag,ac⟩:=ar.open off aC.out;rw [<-aD.out] at af ag ac;go_wp2
  go_loopw [9] (λvi w1=> ∃(J n1:Nat),vi= .int .i64 J /\i<=J /\J <=j+1/\w1=W1.drewN n1) (λvi _=>j+1-(intOf vi).toNat)
  case atStart=>exact⟨i,0,rfl,Nat.le_refl _,aL,rfl⟩
  case round=>
   obtain⟨J,n1,rfl,aT,aF,al⟩:=hrel;obtain⟨O,ae⟩:=Yrp;clear al;by_cases hle:J <=j
   . go_wp2_with fail
     go_big_quiet (first|(go_at_call 183;refine Calls.quiet_of_same ((Bh _ _ _).mono λ_ _ h=>⟨h.1,h.2.symm⟩)))
     go_wp2
     . exact Ybt
     . have aM:Hid (G a<G J):=Zh (by
        first
         |assumption
         |(have aa:(!decide (G a<G J))=false:=by assumption
           simpa using aa))
       have U:wr.drewN nq=W1.drewN (n1+nq):=(by rw [ae.out,World.drewN_drewN]);clear O ae
       go_loopw [10] (λaw w2=> ∃(I n2:Nat),aw= .int .i64 I /\I <=j/\J <=I +1/\w2=W1.drewN n2) (λaw _=>(intOf aw).toNat)
       case atStart=>exact⟨j,n1+nq,rfl,Nat.le_refl _,aF,U⟩
       case round=>
        clear U;obtain⟨I,n2,rfl,aN,aO,U⟩:=hrel;obtain⟨O,ab⟩:=Xu;clear U;by_cases am:J <=I
        . go_wp2_with fail
          go_big_quiet (first|(go_at_call 183;refine Calls.quiet_of_same ((Bh _ _ _).mono λ_ _ h=>⟨h.1,h.2.symm⟩)))
          go_wp2
          . exact Ybn
          . have aj: ¬G a<G I :=by
             first
              |assumption
              |(have aa:decide (G a<G I)=false:=by assumption
                simpa using aa)
            have aq:J ≠I :=by
             rintro rfl;exact aj aM.out
            exact Yas
        . exact Yat
   . go_wp2_with fail
     go_big_quiet (first|(go_at_call 183;refine Calls.quiet_of_same ((Bh _ _ _).mono λ_ _ h=>⟨h.1,h.2.symm⟩)))
     go_wp2;have U:=Ymu;clear O ae
     go_loopw [10] (λaw w2=> ∃(I n2:Nat),aw= .int .i64 I /\I <=j/\J <=I +1/\w2=W1.drewN n2) (λaw _=>(intOf aw).toNat)
     case atStart=>exact⟨j,n1+nq,rfl,Nat.le_refl _,aF,U⟩
     case round=>
      clear U;obtain⟨I,n2,rfl,aN,aO,U⟩:=hrel;obtain⟨O,ab⟩:=Xu;clear U;by_cases am:J <=I
      . exfalso;omega
      . exact Yat
def Yan{P}(h:P:=by
 go_wp2_with fail
 go_big_quiet (first|(go_at_call 183;refine Calls.quiet_of_same ((Bh _ _ _).mono λ_ _ h=>⟨h.1,h.2.symm⟩)))
 have V:wr.drewN nq=W1.drewN (n2+nq):=by rw [ab.out,World.drewN_drewN]
 clear O;generalize wr.drewN nq=Z at V ⊢;have ai: ∀t,t<n->Z.cell? ⟨Az,off+t,none⟩=some (.int .u64 (G t:Nat)):=λt J=>by rw [V];exact af t J
 have an: ∀t,t<n->Z.frozen? ⟨Az,off+t,none⟩=false:=λt J=>by rw [V];exact ag t J
 have ah:Hid (Z=W1.drewN (n2+nq)):=Zh V;clear V ab;obtain⟨v3,ao⟩:=cell?_setCell_some (w:=Z) (p:=⟨Az,off+I,none⟩) (x:= .int .u64 (G a:Nat)) (q:=⟨Az,off+a,none⟩) (ai a (by omega));have U:I <n:=by omega
 go_wp2
 go_region
 all_goals go_wp2
 all_goals go_ret2
 exact⟨I,false,rfl,⟨by omega,by omega⟩,by rw [ah.out];have aa:=ac.out (n2+nq+1) I a (by omega) (by omega);exact aa⟩):=h
def Yao{P}(h:P:=by
 go_wp2_with fail
 go_big_quiet (first|(go_at_call 183;refine Calls.quiet_of_same ((Bh _ _ _).mono λ_ _ h=>⟨h.1,h.2.symm⟩)))
 have V:wr.drewN nq=W1.drewN (n2+nq):=by rw [ab.out,World.drewN_drewN]
 clear O;generalize wr.drewN nq=Z at V ⊢;have ai: ∀t,t<n->Z.cell? ⟨Az,off+t,none⟩=some (.int .u64 (G t:Nat)):=λt J=>by rw [V];exact af t J
 have an: ∀t,t<n->Z.frozen? ⟨Az,off+t,none⟩=false:=λt J=>by rw [V];exact ag t J
 have ah:Hid (Z=W1.drewN (n2+nq)):=Zh V;clear V ab;obtain⟨v3,ao⟩:=cell?_setCell_some (w:=Z) (p:=⟨Az,off+I,none⟩) (x:= .int .u64 (G a:Nat)) (q:=⟨Az,off+a,none⟩) (ai a (by omega));have U:I <n:=by omega
 go_wp2
 go_region
 all_goals go_wp2
 all_goals go_ret2
 exact⟨I,true,rfl,⟨by omega,by omega⟩,by rw [ah.out];have aa:=ac.out (n2+nq+1) I a (by omega) (by omega);exact aa⟩):=h
theorem Uz(h:A1 A W Az zs0)(aJ:off=0)(a b pivot:Nat)(aY:a<=pivot)(aZ:pivot<b)(aQ:b<=zs0.length)(aR:zs0.length<4611686018427387904):
 Calls prog 185 #[.slice (some ⟨Az,off,none⟩) zs0.length c, .int .i64 a, .int .i64 b, .int .i64 pivot] W λe w' => ∃(x:Nat) (t:Bool),e= .returned (.tuple #[.int .i64 x, .bool t])/\(a<=x/\x<b)/\A1 A w' Az zs0:=by
 obtain⟨n,aA⟩:=Zx zs0.length;rw [<-aA] at aQ aR ⊢;have aB:=Zh aJ;have aC:=Zh aA;have aD:a<n:=by omega
 have aE:pivot<n:=by omega
 obtain⟨G,O,ay,ac⟩:=h.open off aB.out;rw [<-aC.out] at O ay ac;have ca:=O a aD;have aS:=ay a aD;have aK:=O pivot aE;have aT:=ay pivot aE;obtain⟨v',aU⟩:=cell?_setCell_some (w:=W) (p:=⟨Az,off+a,none⟩) (x:= .int .u64 (G pivot:Nat)) (q:=⟨Az,off+pivot,none⟩) aK;clear O ay h aJ aA;have aL:=Zh (ac 1 a pivot aD aE);go_enter func185,ntmps185;go_wp2
 go_region
 go_wp2;have aw:=aL.out;clear aL ca aS aK aT aU v' ac;have aM:((W.setCell ⟨Az,off+a,none⟩ (.int .u64 (G pivot:Nat))).setCell ⟨Az,off+pivot,none⟩ (.int .u64 (G a:Nat))).drew=(((W.drewN 1).setCell ⟨Az,off+a,none⟩ (.int .u64 (G pivot:Nat))).setCell ⟨Az,off+pivot,none⟩ (.int .u64 (G a:Nat))):=rfl;rw [<-aM] at aw;clear aM;generalize ((W.setCell ⟨Az,off+a,none⟩ (.int .u64 (G pivot:Nat))).setCell ⟨Az,off+pivot,none⟩ (.int .u64 (G a:Nat))).drew=W1 at aw ⊢;have aw:=Zh aw;obtain⟨G,af,ag,ac⟩:=aw.open off aB.out;rw [<-aC.out] at af ag ac;have aN:((a:Int)+1)=((a+1:Nat):Int):=by omega
 have aO:((b:Int)-1)=((b-1:Nat):Int):=by omega
 rw [aN,aO];clear aN aO;obtain⟨i,hi⟩:=Zx (a+1);obtain⟨j,aP⟩:=Zx (b-1);rw [<-hi,<-aP];have aV:a<i:=by omega
 have aF:i<=j+1:=by omega
 have aW:j<b:=by omega
 clear hi aP
 go_loopw [10] (λvi w1=> ∃(J n1:Nat),vi= .int .i64 J /\i<=J /\J <=j+1/\w1=W1.drewN n1) (λvi _=>j+1-(intOf vi).toNat)
 case atStart=>exact⟨i,0,rfl,Nat.le_refl _,aF,rfl⟩
 case round=>
  obtain⟨J,n1,rfl,aX,ax,al⟩:=hrel;obtain⟨O,ae⟩:=Yrp;clear al;by_cases hle:J <=j
  . go_wp2_with fail
    go_big_quiet (first|(go_at_call 183;refine Calls.quiet_of_same ((Bh _ _ _).mono λ_ _ h=>⟨h.1,h.2.symm⟩)))
    go_wp2
    . exact Ybt
    . have az:Hid (¬G J <G a):=Zh (by
       first
        |assumption
        |(have aa:decide (G J <G a)=false:=by assumption
          simpa using aa))
      have U:wr.drewN nq=W1.drewN (n1+nq):=(by rw [ae.out,World.drewN_drewN]);clear O ae
      go_loopw [11] (λar w2=> ∃(I n2:Nat),ar= .int .i64 I /\I <=j/\J <=I +1/\w2=W1.drewN n2) (λar _=>(intOf ar).toNat)
      case atStart=>exact⟨j,n1+nq,rfl,Nat.le_refl _,ax,U⟩
      case round=>
       clear U;obtain⟨I,n2,rfl,aG,aH,U⟩:=hrel;obtain⟨O,ab⟩:=Xu;clear U;by_cases am:J <=I
       . go_wp2_with fail
         go_big_quiet (first|(go_at_call 183;refine Calls.quiet_of_same ((Bh _ _ _).mono λ_ _ h=>⟨h.1,h.2.symm⟩)))
         go_wp2
         . exact Ybn
         . have aj:G I <G a:=by
            first
             |assumption
             |(have aa:(!decide (G I <G a))=false:=by assumption
               simpa using aa)
           have aq:J ≠I :=by
            rintro rfl;exact az.out aj
           have au:J <I :=(by omega);clear aj aq;have V:wr.drewN nq=W1.drewN (n2+nq):=(by rw [ab.out,World.drewN_drewN]);clear O;generalize wr.drewN nq=Z at V ⊢;have ai: ∀t,t<n->Z.cell? ⟨Az,off+t,none⟩=some (.int .u64 (G t:Nat)):=(λt aI=>by rw [V];exact af t aI);have an: ∀t,t<n->Z.frozen? ⟨Az,off+t,none⟩=false:=(λt aI=>by rw [V];exact ag t aI);have ah:Hid (Z=W1.drewN (n2+nq)):=Zh V;clear V ab;obtain⟨v3,ao⟩:=cell?_setCell_some (w:=Z) (p:=⟨Az,off+J,none⟩) (x:= .int .u64 (G I :Nat)) (q:=⟨Az,off+I,none⟩) (ai I (by omega));go_wp2
           go_region
           all_goals go_wp2
           go_loopw [10,11] (λvi ar wr=> ∃i j:Nat,vi= .int .i64 i/\ar= .int .i64 j/\a<i/\i<=j+1/\j<b/\Hid (A1 A wr Az zs0)) (λvi ar _=>(intOf ar).toNat+1-(intOf vi).toNat)
           case atStart=>exact⟨J +1,I -1,by go_num,by go_num,by omega,by omega,by omega,Zh (by rw [ah.out];have aa:=ac.out (n2+nq+1) J I (by omega) (by omega);exact aa)⟩
           case round=>
            obtain⟨i,j,rfl,rfl,aV,aF,aW,aw⟩:=hrel;clear af ag ac ai an ao ah az
            rename World=>W1
            obtain⟨G,af,ag,ac⟩:=aw.open off aB.out;rw [<-aC.out] at af ag ac;go_wp2
            go_loopw [10] (λvi w1=> ∃(J n1:Nat),vi= .int .i64 J /\i<=J /\J <=j+1/\w1=W1.drewN n1) (λvi _=>j+1-(intOf vi).toNat)
            case atStart=>exact⟨i,0,rfl,Nat.le_refl _,aF,rfl⟩
            case round=>
             obtain⟨J,n1,rfl,aX,ax,al⟩:=hrel;obtain⟨O,ae⟩:=Yrp;clear al;by_cases hle:J <=j
             . go_wp2_with fail
               go_big_quiet (first|(go_at_call 183;refine Calls.quiet_of_same ((Bh _ _ _).mono λ_ _ h=>⟨h.1,h.2.symm⟩)))
               go_wp2
               . exact Ybt
               . have az:Hid (¬G J <G a):=Zh (by
                  first
                   |assumption
                   |(have aa:decide (G J <G a)=false:=by assumption
                     simpa using aa))
                 have U:wr.drewN nq=W1.drewN (n1+nq):=(by rw [ae.out,World.drewN_drewN]);clear O ae
                 go_loopw [11] (λar w2=> ∃(I n2:Nat),ar= .int .i64 I /\I <=j/\J <=I +1/\w2=W1.drewN n2) (λar _=>(intOf ar).toNat)
                 case atStart=>exact⟨j,n1+nq,rfl,Nat.le_refl _,ax,U⟩
                 case round=>
                  clear U;obtain⟨I,n2,rfl,aG,aH,U⟩:=hrel;obtain⟨O,ab⟩:=Xu;clear U;by_cases am:J <=I
                  . go_wp2_with fail
                    go_big_quiet (first|(go_at_call 183;refine Calls.quiet_of_same ((Bh _ _ _).mono λ_ _ h=>⟨h.1,h.2.symm⟩)))
                    go_wp2
                    . exact Ybn
                    . have aj:G I <G a:=by
                       first
                        |assumption
                        |(have aa:(!decide (G I <G a))=false:=by assumption
                          simpa using aa)
                      have aq:J ≠I :=by
                       rintro rfl;exact az.out aj
                      exact Yas
                  . exact Yan
             . go_wp2_with fail
               go_big_quiet (first|(go_at_call 183;refine Calls.quiet_of_same ((Bh _ _ _).mono λ_ _ h=>⟨h.1,h.2.symm⟩)))
               go_wp2;have U:=Ymu;clear O ae
               go_loopw [11] (λar w2=> ∃(I n2:Nat),ar= .int .i64 I /\I <=j/\J <=I +1/\w2=W1.drewN n2) (λar _=>(intOf ar).toNat)
               case atStart=>exact⟨j,n1+nq,rfl,Nat.le_refl _,ax,U⟩
               case round=>
                clear U;obtain⟨I,n2,rfl,aG,aH,U⟩:=hrel;obtain⟨O,ab⟩:=Xu;clear U;by_cases am:J <=I
                . exfalso;omega
                . exact Yan
       . exact Yao
  . go_wp2_with fail
    go_big_quiet (first|(go_at_call 183;refine Calls.quiet_of_same ((Bh _ _ _).mono λ_ _ h=>⟨h.1,h.2.symm⟩)))
    go_wp2;have U:=Ymu;clear O ae
    go_loopw [11] (λar w2=> ∃(I n2:Nat),ar= .int .i64 I /\I <=j/\J <=I +1/\w2=W1.drewN n2) (λar _=>(intOf ar).toNat)
    case atStart=>exact⟨j,n1+nq,rfl,Nat.le_refl _,ax,U⟩
    case round=>
     clear U;obtain⟨I,n2,rfl,aG,aH,U⟩:=hrel;obtain⟨O,ab⟩:=Xu;clear U;by_cases am:J <=I
     . exfalso;omega
     . exact Yao
end
