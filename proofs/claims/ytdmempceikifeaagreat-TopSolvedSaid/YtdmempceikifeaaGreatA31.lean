import Derived.Test.YtdmempceikifeaaGreatA02
import Derived.Deep.Fields
set_option maxRecDepth 100000
set_option maxHeartbeats 16000000
set_option linter.all false
namespace Go.Proofs.YtdmempceikifeaaGreat
open Go.RowKit Tryz
section
open Go.ChangeAt Go.ChangeShapes Go.Deep Go.WideShapes
section
variable{H:Type}{enc:TypeId×Value->H}{P:Program}{W:World}
theorem RR{t e E za aa O x}(ab:P.underlying t=some (.slice e))(ac:P.underlying e=some (.struct E))
 (ad:oneCellFields P E=true)(ae:P.cellsOf e=E.size)(af:DataW.trod enc P W za (λ_=>true) true aa t O=some x):
 O=[.slice none 0 0]\/∃a len zh,O=[.slice (some a) len zh]/\len<=zh/\zh<=maxLen/\∀i,i<len->∃(vs:List Aw)(n:Nat),vs.length=E.size/\
  (∀j u,vs[j]? =some u->W.cell? (a.add (i*E.size+j))=some u)/\
  ∀(j:Nat)(f),E[j]? =some f->∃u y,vs[j]? =some u/\DataW.trod enc P W za (λ_=>true) true n f.type [u]=some y:=by
 rcases open_slice ab af with⟨ag,_⟩|⟨a,len,zh,m,n,D,ax,ah,_,aj,ak,al,_,hi⟩
 exact .inl ag
 refine .inr ⟨a,len,zh,ah,aj,ak,λi ay=>?_⟩
 simp only[if_true]at al
 obtain⟨vs,U,am⟩:=hi i Ad
 rw[ae]at U
 obtain⟨an,n',_,_,az,_,ao⟩:=DataW.trod_struct ac am
 obtain⟨_,V,aq⟩:=World.cells?_some U
 refine⟨vs,n',V,λj u J=>?_,λj f J=>?_⟩
 have Z:j<E.size:=by rw[<-V];exact(zl.1 J).1
 rw[<-Go.Deep.add_add,aq j Z,J]
 obtain⟨au,av⟩:=hone_of ad j f J
 have Z:=(z6.1 J).1
 have T:=ao j f J
 rw[au,av]at T
 have aw:(vs.drop j).take 1=[vs[j]'Ad]:=by rw[y8 Ad];rfl
 rw[aw]at T
 exact⟨vs[j]'Ad,an[j]'Ad,zr Ad,T.trans (zr Ad)⟩
end
end
