/- Part 2 of what the proofs of these rest on: Pages, None, Open. -/
import Derived.Test.YtihpkgmfkbkffaaGreatZA
import Derived.RecoverIn
import Derived.MapKept
import Derived.Shelf.SlIterI.Sorted
set_option linter.unusedVariables false
set_option linter.unusedSimpArgs false
set_option linter.unusedSectionVars false
section
namespace Go.Sx
open Go
section
variable{X:Cx}{k:dx}{R:ee}{hs:List Chunk}{ops:Array Oper}{l:List Oper}{T:aE}{d ty':Nat}{pos:String}{after:Array Edge}{gd:Option (Nat×Bool)}
 {α:Type}{enc:α->List Value}{sz e t:Nat}
theorem yK(xs:List α)(h:∀x∈xs,(enc x).length=sz){i:Nat}{x x':α}(hx:xs[i]? =some x)(h':(enc x').length=sz):
 (xs.set i x').flatMap enc=splice (xs.flatMap enc) (i*sz) (enc x'):=by
 have hi:i<xs.length:=(List.getElem?_eq_some_iff.1 hx).1
 unfold splice
 rw[h',eS h,show i*sz+sz=(i+1)*sz by rw[Nat.succ_mul],d_ h,List.set_eq_take_append_cons_drop,if_pos hi]
 simp only[List.flatMap_append,List.flatMap_cons,List.append_assoc]
theorem tN{cs A:List Value}{o j n:Nat}{vals:List Value}(hA:(cs.drop o).take n=A)(hl:o+n<=cs.length)(hj:j+vals.length<=n):splice cs o (splice A j vals)=splice cs (o+j) vals:=by
 have XE:A.length=n:=by rw[<-hA,List.length_take,List.length_drop];omega
 unfold splice
 have e1:(A.take j++vals++A.drop (j+vals.length)).length=n:=by simp only[List.length_append,List.length_take,List.length_drop];omega
 rw[e1]
 have e2:cs.take (o+j)=cs.take o++A.take j:=by
  rw[List.take_add,<-hA,List.take_take,Nat.min_eq_left (by omega)]
 have e3:cs.drop (o+j+vals.length)=A.drop (j+vals.length)++cs.drop (o+n):=by
  have h1:cs.drop o=A++cs.drop (o+n):=by rw[<-hA,<-List.drop_drop,List.take_append_drop]
  rw[show o+j+vals.length=o+(j+vals.length) by omega,<-List.drop_drop,h1,List.drop_append_of_le_length (by omega)]
 rw[e2,e3]
 simp only[List.append_assoc]
theorem Own.spot{v:Value}{xs:List α}{H:Chunk}(h:Own enc sz e v xs H){i:Nat}{x:α}(hx:xs[i]? =some x):
 ∃b o cap cs fr,v= .slice (some ⟨b,o,none⟩) xs.length cap/\H=[(b,blk cs e fr)]/\fy cs fr/\o+i*sz+sz<=cs.length/\(cs.drop (o+i*sz)).take sz=enc x/\
  (∀{a j:Nat} {u:Value},a=o+i*sz+j->(enc x)[j]? =some u->cs[a]? =some u)/\
  (∀{a j:Nat} {vals:List Value} {x':α},a=o+i*sz+j->j+vals.length<=sz->splice (enc x) j vals=enc x'->Own enc sz e v (xs.set i x') [(b,blk (splice cs a vals) e fr)]):=by
 have hi:i<xs.length:=(List.getElem?_eq_some_iff.1 hx).1
 obtain⟨hl,⟨_,rfl,_⟩|⟨b,cap,pre,sp,fr,rfl,rfl,hc,hs,ht⟩⟩:=h
 . cases hx
 . have hfl:=aH hl
   have GP:=hl x (List.mem_of_getElem? hx)
   have Wq:i*sz+sz<=xs.length*sz:=by rw[<-Nat.succ_mul];exact Nat.mul_le_mul_right _ hi
   have hat:((pre++xs.flatMap enc++sp).drop (pre.length+i*sz)).take sz=enc x:=by
    rw[List.append_assoc,<-List.drop_drop,List.drop_left,List.drop_append_of_le_length (by omega),List.take_append_of_le_length (by rw[List.length_drop];omega),d_ hl]
    rw[List.drop_eq_getElem_cons hi,List.flatMap_cons]
    rw[List.getElem?_eq_getElem hi]at hx
    rw[Option.some.inj hx,<-GP,List.take_left]
   have hle:pre.length+i*sz+sz<=(pre++xs.flatMap enc++sp).length:=by simp only[List.length_append];omega
   refine⟨b,pre.length,cap,_,fr,rfl,rfl,ht,hle,hat,?_,?_⟩
   . intro a j u ha hj
     subst ha
     rw[<-hat,List.getElem?_take]at hj
     split at hj
     . rw[List.getElem?_drop]at hj;exact hj
     . cases hj
   . intro a j vals x' ha hj he
     subst ha
     have Ks:(enc x').length=sz:=by rw[<-he,gy (by omega)];exact GP
     have e1:splice (pre++xs.flatMap enc++sp) (pre.length+i*sz+j) vals=pre++(xs.set i x').flatMap enc++sp:=by
      rw[<-tN hat hle hj,he,yK xs hl hx Ks]
      unfold splice
      rw[Ks,List.append_assoc pre,List.take_length_add_append,List.take_append_of_le_length (by omega)]
      rw[show pre.length+i*sz+sz=pre.length+(i*sz+sz) by omega,List.drop_length_add_append,List.drop_append_of_le_length (by omega)]
      simp only[List.append_assoc]
     refine⟨?_,.inr ⟨b,cap,pre,sp,fr,by rw[List.length_set],by rw[e1],by rw[List.length_set];exact hc,by rw[List.length_set];exact hs,?_⟩⟩
     . intro y hy
       rcases List.mem_or_eq_of_mem_set hy with hy|rfl
       . exact hl y hy
       . exact Ks
     . have e2:(pre++(xs.set i x').flatMap enc++sp).length=(pre++xs.flatMap enc++sp).length:=by
        rw[<-e1,gy (by omega)]
       unfold fy at ht⊢
       rw[e2]
       exact ht
variable[au]
theorem OT.jQ{x ix:Operand}{b o n cap:Nat}{kk:IntKind}{i:Int}(hT:T.ok X.P)(ht:ty T t=some (.slice e sz))(hg:dX ops R gd=some true)(hx:ev R x=some (.slice (some ⟨b,o,none⟩) n cap))(zn:ev R ix=some (.int kk i))
 (h0:0<=i)(hi:i<n)(hdn:Nat.ble (d+1) X.n=true)
 (h:OT X ops l k ((d,.pointer (some ⟨b,o+i.toNat*sz,none⟩))::R) hs):OT X ops (⟨some d,.indexAddr t x ix,ty',pos,after,gd⟩::l) k R hs:=by
 refine OT.value hg rfl hdn fun a w ha hm=>⟨.pointer (some ⟨b,o+i.toNat*sz,none⟩),hs,w,?_,hm,h⟩
 have hu:=(hT.ty ht).1
 have hsz:=(hT.ty ht).2.1 w
 simp only[execOp,ha.ev hx,ha.ev zn]
 have:(Instr.indexAt t (.slice (some ⟨b,o,none⟩) n cap) (.int kk i)).run X.P w= .ok (.pointer (some ⟨b,o+i.toNat*sz,none⟩)) w:=by
  simp[Instr.indexAt,asIntOf,run_underlying hu,h0,hi,hsz,bX]
 simp[this]
end
end Go.Sx
end
section
namespace Go.Sx
open Go
theorem pl{hs r:List Chunk}{A:Chunk}(h:aR hs A r:=by repeat(first|exact aR.head|apply aR.tail)):aR hs A r:=h
theorem sl{hs hs':List Chunk}(h:bp hs hs':=by repeat(first|exact bp.refl _|refine bp.empty ?_|(apply bp.pull;focus ((repeat(first|exact aR.head|apply aR.tail));done))|refine bp.join ?_|refine bp.drop ?_)):bp hs hs':=h
theorem hz{hs:List Chunk}{b:Nat}{o:Obj}(h:Has hs b o:=by repeat(first|exact Has.one|apply Has.there)):Has hs b o:=h
theorem kr{α:Type}{a b:α}(h:a=b:=by kernel_rfl):a=b:=h
theorem ro{α:Type}{enc:α->List Value}{sz:Nat}{hs:List Chunk}{v:Value}{xs:List α}
 (h:Row enc sz hs v xs:=by first
  |assumption|exact Own.row (by assumption)
  |exact Row.there (by assumption)|exact Row.there (Own.row (by assumption))
  |exact Row.there (Row.there (by assumption))|exact Row.there (Row.there (Own.row (by assumption)))
  |exact Row.there (Row.there (Row.there (by assumption)))|exact Row.there (Row.there (Row.there (Own.row (by assumption))))
  |exact Row.there (Row.there (Row.there (Row.there (by assumption))))|exact Row.there (Row.there (Row.there (Row.there (Own.row (by assumption)))))
  |exact Row.there (Row.there (Row.there (Row.there (Row.there (by assumption)))))|exact Row.there (Row.there (Row.there (Row.there (Row.there (Own.row (by assumption))))))
  |exact Row.there (Row.there (Row.there (Row.there (Row.there (Row.there (by assumption))))))|exact Row.there (Row.there (Row.there (Row.there (Row.there (Row.there (Own.row (by assumption)))))))
  |exact Row.there (Row.there (Row.there (Row.there (Row.there (Row.there (Row.there (by assumption)))))))|exact Row.there (Row.there (Row.there (Row.there (Row.there (Row.there (Row.there (Own.row (by assumption)))))))))
 :Row enc sz hs v xs:=h
theorem ow{α:Type}{enc:α->List Value}{sz e:Nat}{v:Value}{xs:List α}{H:Chunk}(h:Own enc sz e v xs H:=by assumption):Own enc sz e v xs H:=h
end Go.Sx
end
section
namespace Go.Sx
open Go
def over{α:Type}(xs:List α)(j:Nat)(ys:List α):List α:=xs.take j++ys++xs.drop (j+ys.length)
section
variable{α:Type}{enc:α->List Value}{sz e:Nat}
theorem je{xs:List α}{j:Nat}{ys:List α}(h:j+ys.length<=xs.length):(over xs j ys).length=xs.length:=by
 simp[over];omega
theorem C7{xs:List α}(h1:∀x∈xs,(enc x).length=sz){j:Nat}{ys:List α}(h2:∀y∈ys,(enc y).length=sz):
 (over xs j ys).flatMap enc=splice (xs.flatMap enc) (j*sz) (ys.flatMap enc):=by
 unfold over splice
 rw[List.flatMap_append,List.flatMap_append,eS h1,aH h2,<-Nat.add_mul,d_ h1]
theorem Own.over{v:Value}{xs:List α}{H:Chunk}(h:Own enc sz e v xs H)(hn:0<xs.length):
 ∃b o cap cs fr,v= .slice (some ⟨b,o,none⟩) xs.length cap/\H=[(b,blk cs e fr)]/\fy cs fr/\o+xs.length*sz<=cs.length/\(cs.drop o).take (xs.length*sz)=xs.flatMap enc/\xs.length<=cap/\
  ∀(j:Nat) (ys:List α),j+ys.length<=xs.length->(∀y∈ys,(enc y).length=sz)->Own enc sz e v (Go.Sx.over xs j ys) [(b,blk (splice cs (o+j*sz) (ys.flatMap enc)) e fr)]:=by
 obtain⟨hl,⟨_,rfl,_⟩|⟨b,cap,pre,sp,fr,rfl,rfl,hc,hs,ht⟩⟩:=h
 . simp at hn
 . have hfl:=aH hl
   refine⟨b,pre.length,cap,_,fr,rfl,rfl,ht,by simp only[List.length_append];omega,?_,hc,?_⟩
   . rw[List.append_assoc,List.drop_left,List.take_append_of_le_length (by omega),<-hfl,List.take_length]
   . intro j ys hj hy
     have S7:=aH hy
     have XF:j*sz+ys.length*sz<=xs.length*sz:=by rw[<-Nat.add_mul];exact Nat.mul_le_mul_right _ hj
     have e1:splice (pre++xs.flatMap enc++sp) (pre.length+j*sz) (ys.flatMap enc)=pre++(Go.Sx.over xs j ys).flatMap enc++sp:=by
      rw[C7 hl hy]
      unfold splice
      rw[S7,List.append_assoc pre,List.take_length_add_append,List.take_append_of_le_length (by omega)]
      rw[show pre.length+j*sz+ys.length*sz=pre.length+(j*sz+ys.length*sz) by omega,List.drop_length_add_append,List.drop_append_of_le_length (by omega)]
      simp only[List.append_assoc]
     have e3:(Go.Sx.over xs j ys).length=xs.length:=je hj
     refine⟨?_,.inr ⟨b,cap,pre,sp,fr,by rw[e3],by rw[e1],by rw[e3];exact hc,by rw[e3];exact hs,?_⟩⟩
     . intro y hy'
       simp only[Go.Sx.over,List.mem_append]at hy'
       rcases hy' with(h1|h1)|h1
       . exact hl y (List.mem_of_mem_take h1)
       . exact hy y h1
       . exact hl y (List.mem_of_mem_drop h1)
     . have e2:(pre++(Go.Sx.over xs j ys).flatMap enc++sp).length=(pre++xs.flatMap enc++sp).length:=by
        rw[<-e1,gy (by rw[S7];simp only[List.length_append];omega)]
       unfold fy at ht⊢
       rw[e2]
       exact ht
theorem El.piece{hs:List Chunk}{x:α}{b o:Nat}(h:El enc sz hs x ⟨b,o,none⟩){β:Type}{enc':β->List Value}{sz':Nat}{ys:List β}(hy:∀y∈ys,(enc' y).length=sz')(j:Nat){n cap:Nat}(hn:ys.length=n)(hc:n<=cap)
 (hr:((enc x).drop j).take (n*sz')=ys.flatMap enc')(hj:j+n*sz'<=sz):Row enc' sz' hs (.slice (some ⟨b,o+j,none⟩) n cap) ys:=by
 obtain⟨h1,b',o',cs,t,fr,ha,hb,hr'⟩:=h
 injection ha with e1 e2
 subst e1;subst e2
 refine Row.rT hb hy hn hc ?_
 rw[<-hr,<-hr',List.drop_take,List.drop_drop,List.take_take,Nat.min_eq_left (by omega)]
end
variable[au]
theorem Mem.join{A B:Chunk}{r:List Chunk}{w:World}:Mem (A::B::r) w↔Mem ((A++B)::r) w:=by
 have e:(A::B::r).flatten.Perm ((A++B)::r).flatten:=by simp[List.append_assoc]
 exact⟨fun h=>h.perm e,fun h=>h.perm e.symm⟩
section
variable{X:Cx}{k:dx}{R:ee}{hs hs':List Chunk}{ops:Array Oper}{l:List Oper}{T:aE}{d ty':Nat}{pos:String}{after:Array Edge}{gd:Option (Nat×Bool)}
 {α:Type}{enc:α->List Value}{sz e t:Nat}
theorem TT.perm{c:Code}(hp:hs.flatten.Perm hs'.flatten)(h:TT X c k R hs'):TT X c k R hs:=fun a w ha hm=>h a w ha (hm.perm hp)
theorem KT.perm(hp:hs.flatten.Perm hs'.flatten)(h:KT X k R hs'):KT X k R hs:=fun a w ha hm=>h a w ha (hm.perm hp)
theorem OT.perm(hp:hs.flatten.Perm hs'.flatten)(h:OT X ops l k R hs'):OT X ops l k R hs:=fun a w ha hm=>h a w ha (hm.perm hp)
theorem aA.perm{P:Program}{f:Nat}{vs:List Value}{N:Value->List Chunk->Prop}(hp:hs.flatten.Perm hs'.flatten)(h:aA P f vs hs' N):aA P f vs hs N:=fun w hm=>h w (hm.perm hp)
theorem aA.zW{P:Program}{f:Nat}{vs:List Value}{N N':Value->List Chunk->Prop}(h:aA P f vs hs N)(hn:∀v dF,N v dF->∃kX,N' v kX/\dF.flatten.Perm kX.flatten):aA P f vs hs N':=fun w hm=>
 (h w hm).mono fun _ _ ⟨v,dF,he,hN,hM⟩=>by
  obtain⟨kX,h2,hp⟩:=hn _ _ hN
  exact⟨v,kX,he,h2,hM.perm hp⟩
theorem TT.split{c:Code}{A B:Chunk}(h:TT X c k R (A::B::hs)):TT X c k R ((A++B)::hs):=fun a w ha hm=>h a w ha (Mem.join.2 hm)
theorem OT.qH{A B:Chunk}(h:OT X ops l k R (A::B::hs)):OT X ops l k R ((A++B)::hs):=fun a w ha hm=>h a w ha (Mem.join.2 hm)
theorem KT.split{A B:Chunk}(h:KT X k R (A::B::hs)):KT X k R ((A++B)::hs):=fun a w ha hm=>h a w ha (Mem.join.2 hm)
theorem RT.split{A B:Chunk}(h:RT X R (A::B::hs)):RT X R ((A++B)::hs):=fun a w ha hm=>h a w ha (Mem.join.2 hm)
theorem RT.join{A B:Chunk}(h:RT X R ((A++B)::hs)):RT X R (A::B::hs):=fun a w ha hm=>h a w ha (Mem.join.1 hm)
theorem KT.join{A B:Chunk}(h:KT X k R ((A++B)::hs)):KT X k R (A::B::hs):=fun a w ha hm=>h a w ha (Mem.join.1 hm)
theorem aA.join{P:Program}{f:Nat}{vs:List Value}{N:Value->List Chunk->Prop}{A B:Chunk}(h:aA P f vs ((A++B)::hs) N):aA P f vs (A::B::hs) N:=fun w hm=>h w (Mem.join.1 hm)
theorem td{P:Program}{v:Value}{ys:List α}(hr:Row enc sz hs v ys){w:World}(hm:Mem hs w){n:Nat}(hn:n<=ys.length):
 (Builtin.firstCells sz n v).run P w= .ok ⟨(ys.take n).flatMap enc⟩ w:=by
 rcases hr.2 with⟨⟨a,rfl⟩,rfl⟩|⟨b,o,cap,cs,t,fr,rfl,hb,hc,h⟩
 . have hn0:n=0:=by simpa using hn
   subst hn0
   cases a<;>simp[Builtin.firstCells,loadCells,loadCellsFrom]
 . have h1:(cs.drop o).take (n*sz)=(ys.take n).flatMap enc:=by
    rw[<-eS hr.1,<-h,List.take_take,Nat.min_eq_left (Nat.mul_le_mul_right _ hn)]
   have h2:((ys.take n).flatMap enc).length=n*sz:=by
    rw[aH (fun y hy=>hr.1 y (List.mem_of_mem_take hy)),List.length_take,Nat.min_eq_left hn]
   exact hm.loadCells hb h1 h2
omit [au] in
theorem xY{xs ys:List Value}(h:dy ys=true)(hs:∀x∈xs,x∈ys):dy xs=true:=by
 unfold dy at*
 rw[List.all_eq_true]at*
 exact fun x hx=>h x (hs x hx)
omit [au] in
theorem C8{ys:List α}(h:dy (ys.flatMap enc)=true)(m:Nat):dy ((ys.take m).flatMap enc)=true:=by
 refine xY h fun x hx=> ?_
 obtain⟨y,hy,hx⟩:=List.mem_flatMap.1 hx
 exact List.mem_flatMap.2 ⟨y,List.mem_of_mem_take hy,hx⟩
theorem FB{P:Program}{r:List Chunk}{t2 b o m cap e':Nat}{cs:List Value}{fr:Nat×Nat}{u:Value}{ys:List α}(hu:P.underlying t=some (.slice e))(hsz:∀w,(sizeOf e).run P w= .ok sz w)
 (hrow:Row enc sz ([(b,blk cs e' fr)]::r) u ys){w:World}(hm:Mem ([(b,blk cs e' fr)]::r) w)(hl:o+min ys.length m*sz<=cs.length)(h1:dy (ys.flatMap enc)=true)(hf:fy cs fr):
 ∃w',(Builtin.copy_ #[t,t2] ty' #[.slice (some ⟨b,o,none⟩) m cap,u]).run P w= .ok (.int .i64 (min ys.length m:Nat)) w'/\Mem ([(b,blk (splice cs o ((ys.take m).flatMap enc)) e' fr)]::r) w':=by
 have vK:=td (P:=P) hrow hm (n:=min ys.length m) (Nat.min_le_left _ _)
 have e1:ys.take (min ys.length m)=ys.take m:=by
  rcases Nat.le_total ys.length m with h|h
  . rw[Nat.min_eq_left h,List.take_length,List.take_of_length_le h]
  . rw[Nat.min_eq_right h]
 rw[e1]at vK
 have hlen:((ys.take m).flatMap enc).length=min ys.length m*sz:=by
  rw[aH (fun y hy=>hrow.1 y (List.mem_of_mem_take hy)),List.length_take,Nat.min_comm]
 obtain⟨w',hr,hm'⟩:=hm.storeCells (P:=P) (o:=o) ((ys.take m).flatMap enc) 0 (by omega) (C8 h1 m) hf
 refine⟨w',?_,by simpa using hm'⟩
 obtain⟨a0,c0,hv⟩:=hrow.len
 subst hv
 unfold Builtin.copy_
 simp only[List.getElem?_toArray,List.getElem?_cons_zero,List.getElem?_cons_succ]
 rw[Sem.run_bind,run_underlying hu]
 simp only[Result.andThen_ok]
 rw[Sem.run_bind]
 show Result.andThen (Result.ok ys.length w) _=_
 simp only[Result.andThen_ok]
 rw[Sem.run_bind,hsz]
 simp only[Result.andThen_ok]
 rw[Sem.run_bind,show Nat.min ys.length m=min ys.length m from rfl,vK]
 simp only[Result.andThen_ok]
 rw[Sem.run_bind,hr]
 rfl
omit [au] in
theorem uB{a:Act}{x y:Operand}{v u:Value}(hx:a.eval x=v)(hy:a.eval y=u)(o:Option Nat)(t t2:Nat){P:Program}{w w':World}{v':Value}(h:(Builtin.copy_ #[t,t2] ty' #[v,u]).run P w= .ok v' w'):
 (execOp a.eval ⟨o,.call ⟨.builtin .copy,#[x,y],#[t,t2]⟩,ty',pos,after,gd⟩).run P w= .ok (.value v') w':=by
 simp[execOp,resolve,hx,hy,invoke,builtin,h]
theorem OT.FC{x y:Operand}{t2 b o m cap e':Nat}{cs:List Value}{fr:Nat×Nat}{u:Value}{ys:List α}{r:List Chunk}(hT:T.ok X.P)(ht:ty T t=some (.slice e sz))(hg:dX ops R gd=some true)
 (hx:ev R x=some (.slice (some ⟨b,o,none⟩) m cap))(hy:ev R y=some u)(hp:aR hs [(b,blk cs e' fr)] r)(hrow:Row enc sz hs u ys)(hl:o+min ys.length m*sz<=cs.length)(h1:dy (ys.flatMap enc)=true)(hf:fy cs fr)
 (hdn:Nat.ble (d+1) X.n=true)
 (h:OT X ops l k ((d,.int .i64 (min ys.length m:Nat))::R) ([(b,blk (splice cs o ((ys.take m).flatMap enc)) e' fr)]::r)):OT X ops (⟨some d,.call ⟨.builtin .copy,#[x,y],#[t,t2]⟩,ty',pos,after,gd⟩::l) k R hs:=by
 refine OT.value hg rfl hdn fun a w ha hm=> ?_
 obtain⟨w',hr,hm'⟩:=FB (P:=X.P) (t2:=t2) (ty':=ty') (cap:=cap) (hT.ty ht).1 (hT.ty ht).2.1 (hrow.pull hp) (hm.pull hp) hl h1 hf
 exact⟨_,_,w',uB (ha.ev hx) (ha.ev hy) (some d) t t2 hr,hm',h⟩
theorem OT.fc{x y:Operand}{t2 b o m cap n c:Nat}{u:Value}{xs ys:List α}{H:Chunk}{r:List Chunk}(j:Nat)(hT:T.ok X.P)(ht:ty T t=some (.slice e sz))(hg:dX ops R gd=some true)
 (hx:ev R x=some (.slice (some ⟨b,o+j*sz,none⟩) m cap))(hy:ev R y=some u)(hp:aR hs H r)(hown:Own enc sz e (.slice (some ⟨b,o,none⟩) n c) xs H)(hrow:Row enc sz hs u ys)(hj:j+min ys.length m<=xs.length)(hn:0<xs.length)
 (h1:dy (ys.flatMap enc)=true)(hdn:Nat.ble (d+1) X.n=true)
 (h:∀H',Own enc sz e (.slice (some ⟨b,o,none⟩) n c) (over xs j (ys.take m)) H'->OT X ops l k ((d,.int .i64 (min ys.length m:Nat))::R) (H'::r)):OT X ops (⟨some d,.call ⟨.builtin .copy,#[x,y],#[t,t2]⟩,ty',pos,after,gd⟩::l) k R hs:=by
 obtain⟨b',o',cap',cs,fr,hv,rfl,qV,hle,hat,hc,Kt⟩:=hown.over hn
 injection hv with e1 e2 e3
 injection e1 with e1
 injection e1 with e1 e4
 subst e1;subst e4
 have hb:o+j*sz+min ys.length m*sz<=cs.length:=by
  have h2:j*sz+min ys.length m*sz<=xs.length*sz:=by rw[<-Nat.add_mul];exact Nat.mul_le_mul_right _ hj
  omega
 refine OT.FC hT ht hg hx hy hp hrow hb h1 qV hdn ?_
 exact h _ (Kt j (ys.take m) (by rw[List.length_take,Nat.min_comm];exact hj) (fun y hy=>hrow.1 y (List.mem_of_mem_take hy)))
omit [au] in
theorem k5{z0:α}(hz:(enc z0).length=sz):∀(n i:Nat),i<n*sz->((List.replicate n z0).flatMap enc)[i]? =(enc z0)[i%sz]? :=by
 intro n
 induction n with
 |zero=>intro i h;simp at h
 |succ n ih=>
  intro i h
  rw[List.replicate_succ,List.flatMap_cons]
  by_cases hi:i<sz
  . rw[List.getElem?_append_left (by omega),Nat.mod_eq_of_lt hi]
  . rw[List.getElem?_append_right (by omega),hz]
    rw[Nat.succ_mul]at h
    rw[ih (i-sz) (by omega),<-Nat.mod_eq_sub_mod (by omega)]
omit [au] in
theorem Av{z0:α}{zc:Array Value}(hz:enc z0=zc.toList)(n:Nat):((Array.range (n*zc.size)).map (zc[·%zc.size]!))=⟨(List.replicate n z0).flatMap enc⟩:=by
 have hl:(enc z0).length=zc.size:=by rw[hz];simp
 apply Array.ext'
 simp only[Array.toList_map,Array.toList_range]
 have h1:((List.replicate n z0).flatMap enc).length=n*zc.size:=by
  rw[aH (sz:=zc.size) (fun y hy=>by rw[List.eq_of_mem_replicate hy];exact hl),List.length_replicate]
 apply List.ext_getElem?
 intro i
 by_cases hi:i<n*zc.size
 . have hpos:0<zc.size:=by
    rcases Nat.eq_zero_or_pos zc.size with h|h
    . rw[h]at hi;simp at hi
    . exact h
   rw[k5 hl n i hi,List.getElem?_map,List.getElem?_range hi,Option.map_some,hz]
   have hm:i%zc.size<zc.size:=Nat.mod_lt _ hpos
   rw[getElem!_pos zc _ hm,Array.getElem?_toList,Array.getElem?_eq_getElem hm]
 . rw[List.getElem?_eq_none (by simp;omega),List.getElem?_eq_none (by omega)]
theorem OT.cP{x:Operand}{lo hi:Option Operand}{b o n c:Nat}{vl vh:Option Value}(L H:Nat)(hT:T.ok X.P)(ht:ty T t=some (.slice e sz))(hg:dX ops R gd=some true)(hx:ev R x=some (.slice (some ⟨b,o,none⟩) n c))
 (hlo:lV R lo=some vl)(hhi:lV R hi=some vh)(hL:zK vl 0 L)(hH:zK vh n H)(h1:L<=H)(h2:H<=c)(h3:L<c)(hdn:Nat.ble (d+1) X.n=true)
 (h:OT X ops l k ((d,.slice (some ⟨b,o+L*sz,none⟩) (H-L) (c-L))::R) hs):OT X ops (⟨some d,.slice t x lo hi none,ty',pos,after,gd⟩::l) k R hs:=by
 refine OT.b_ L H hT ht hg hx hlo hhi hL hH h1 h2 hdn ?_
 rw[if_neg (by omega),Option.map_some,bX]
 exact h
theorem OT.iM{x y:Operand}{b o n c a:Nat}{v:Value}{D:TD}{xs:List α}{z z':α}{H:Chunk}{r:List Chunk}(i j:Nat)(hT:T.ok X.P)(ht:ty T t=some D)(hg:dX ops R gd=some true)
 (hx:ev R x=some (.pointer (some ⟨b,a,none⟩)))(hy:ev R y=some v)(hp:aR hs H r)(hown:Own enc sz e (.slice (some ⟨b,o,none⟩) n c) xs H)(hi:xs[i]? =some z)(ha:a=o+i*sz+j)(hn:v.cells.toList.length=D.size)(hj:j+D.size<=sz)
 (h1:dy v.cells.toList=true)(hz:splice (enc z) j v.cells.toList=enc z')
 (h:∀H',Own enc sz e (.slice (some ⟨b,o,none⟩) n c) (xs.set i z') H'->OT X ops l k R (H'::r)):OT X ops (⟨none,.store t x y,ty',pos,after,gd⟩::l) k R hs:=by
 obtain⟨b',o',cap',cs,fr,hv,rfl,qV,hle,hat,Wr,Kt⟩:=hown.spot hi
 injection hv with e1 e2 e3
 injection e1 with e1
 injection e1 with e1 e4
 subst e1;subst e4;subst ha
 exact OT.store hT ht hg hx hy hp hn (by omega) h1 qV rfl (h _ (Kt rfl (by omega) hz))
theorem OT.C9{x ix:Operand}{kk:IntKind}{i:Int}{v:Value}{xs:List α}{H:Chunk}(hT:T.ok X.P)(ht:ty T t=some (.slice e sz))(hg:dX ops R gd=some true)(hx:ev R x=some v)(zn:ev R ix=some (.int kk i))
 (hown:Own enc sz e v xs H)(h0:0<=i)(hi:i<xs.length)(hdn:Nat.ble (d+1) X.n=true)
 (h:∀b o c,v= .slice (some ⟨b,o,none⟩) xs.length c->OT X ops l k ((d,.pointer (some ⟨b,o+i.toNat*sz,none⟩))::R) hs):OT X ops (⟨some d,.indexAddr t x ix,ty',pos,after,gd⟩::l) k R hs:=by
 obtain⟨b,o,cap,cs,fr,hv,_⟩:=hown.over (by omega)
 exact OT.jQ hT ht hg (hv▸hx) zn h0 hi hdn (h b o cap hv)
omit [au] in
theorem Row.B0{n c:Nat}{xs:List α}(h:Row enc sz hs (.slice none n c) xs):xs=[]:=by
 rcases h.2 with⟨_,h⟩|⟨_,_,_,_,_,_,hv,_⟩
 . exact h
 . cases hv
omit [au] in
theorem Own.Jp{b o n c:Nat}{xs:List α}{H:Chunk}(h:Own enc sz e (.slice (some ⟨b,o,none⟩) n c) xs H){i:Nat}{x:α}(hi:xs[i]? =some x):El enc sz (H::hs) x ⟨b,o+i*sz,none⟩:=by
 obtain⟨b',o',cap',hv,hel⟩:=(h.row (hs:=hs)).el hi
 injection hv with e1 e2 e3
 injection e1 with e1
 injection e1 with e1 e4
 subst e1;subst e4
 exact hel
omit [au] in
theorem Row.gN{a:Option Addr}{n c:Nat}{xs:List α}(h:Row enc sz hs (.slice a n c) xs):xs.length<=c:=by
 rcases h.2 with⟨hv,rfl⟩|⟨b,o,cap,cs,t',fr,hv,hb,hc,hr⟩
 . simp
 . injection hv with e1 e2 e3;omega
omit [au] in
theorem Row.sub{a:Option Addr}{n c:Nat}{xs:List α}(h:Row enc sz hs (.slice a n c) xs){L M:Nat}(h1:L<=M)(h2:M<=xs.length):
 Row enc sz hs (.slice (if c=L then a else a.map (·.add (L*sz))) (M-L) (c-L)) ((xs.take M).drop L):=by
 have hlen:((xs.take M).drop L).length=M-L:=by simp;omega
 have hmem:∀y∈(xs.take M).drop L,(enc y).length=sz:=fun y hy=>h.1 y (List.mem_of_mem_take (List.mem_of_mem_drop hy))
 rcases h.2 with⟨⟨_,hv⟩,rfl⟩|⟨b,o,cap,cs,t',fr,hv,hb,hc,hr⟩
 . injection hv with e1 e2 e3
   subst e1;subst e3
   simp at h2
   subst h2
   obtain rfl:L=0:=by omega
   simpa using Row.EM a
 . injection hv with e1 e2 e3
   subst e1;subst e3
   refine⟨hmem,.inr ?_⟩
   by_cases ki:c=L
   . have e1:M-L=0:=by omega
     have e0:(xs.take M).drop L=[]:=List.eq_nil_of_length_eq_zero (by rw[hlen,e1])
     exact⟨b,o,c-L,cs,t',fr,by rw[if_pos ki,e0,e1];rfl,hb,by rw[e0];simp,by rw[e0];simp⟩
   . refine⟨b,o+L*sz,c-L,cs,t',fr,by rw[if_neg ki,hlen,Option.map_some,bX],hb,by rw[hlen];omega,?_⟩
     rw[hlen,<-d_ (fun y hy=>h.1 y (List.mem_of_mem_take hy)),<-eS h.1,<-hr,List.take_take,Nat.min_eq_left (Nat.mul_le_mul_right _ h2),List.drop_take,List.drop_drop,Nat.sub_mul]
theorem Fl.slice{Cs:List Chunk}{x:Operand}{lo hi:Option Operand}{b o n c:Nat}{vl vh:Option Value}(L H:Nat)(hT:T.ok X.P)(ht:ty T t=some (.slice e sz))(hx:ev R x=some (.slice (some ⟨b,o,none⟩) n c))
 (hlo:lV R lo=some vl)(hhi:lV R hi=some vh)(hL:zK vl 0 L)(hH:zK vh n H)(h1:L<=H)(h2:H<=c)(h3:L<c):
 Fl X T Cs R (.slice t x lo hi none) (.slice (some ⟨b,o+L*sz,none⟩) (H-L) (c-L)):=by
 refine .MK fun op a w hop ha=> ?_
 simp only[execOp,hop,ha.ev hx,ha.lV hlo,ha.lV hhi,Option.map_none]
 have:=jP (hT.ty ht).1 (hT.ty ht).2.1 (some ⟨b,o,none⟩) n c vl vh L H hL hH h1 h2 w
 rw[if_neg (by omega),Option.map_some,bX]at this
 rw[Sem.run_bind,this]
 rfl
omit [au] in
theorem Own.l9{b o n c:Nat}{xs:List α}{H:Chunk}(h:Own enc sz e (.slice (some ⟨b,o,none⟩) n c) xs H){L M:Nat}(h1:L<=M)(h2:M<=xs.length)(h3:L<c):
 Row enc sz (H::hs) (.slice (some ⟨b,o+L*sz,none⟩) (M-L) (c-L)) ((xs.take M).drop L):=by
 have:=(h.row (hs:=hs)).sub h1 h2
 rw[if_neg (by omega),Option.map_some,bX]at this
 exact this
omit [au] in
theorem Own.drop{a:Option Addr}{n c:Nat}{xs:List α}{H:Chunk}(h:Own enc sz e (.slice a n c) xs H){L:Nat}(hL:L<=xs.length):
 Own enc sz e (.slice (if c=L then a else a.map (·.add (L*sz))) (n-L) (c-L)) (xs.drop L) H:=by
 have hl':∀x∈xs.drop L,(enc x).length=sz:=fun x hx=>h.1 x (List.mem_of_mem_drop hx)
 rcases h.2 with⟨hv,hx,hH⟩|⟨b,cap,pre,sp,fr,hv,hH,hc,hsp,qV⟩
 . injection hv with e1 e2 e3
   subst e1;subst e2;subst e3;subst hx;subst hH
   have:L=0:=by simpa using hL
   subst this
   exact⟨by simp,.inl ⟨rfl,rfl,rfl⟩⟩
 . injection hv with e1 e2 e3
   subst e1;subst e2;subst e3;subst hH
   refine⟨hl',.inr ?_⟩
   have hsplit:xs.flatMap enc=(xs.take L).flatMap enc++(xs.drop L).flatMap enc:=by rw[<-List.flatMap_append,List.take_append_drop]
   have BN:((xs.take L).flatMap enc).length=L*sz:=by rw[aH (fun x hx=>h.1 x (List.mem_of_mem_take hx)),List.length_take,Nat.min_eq_left hL]
   by_cases ki:c=L
   . have GP:xs.length=L:=by omega
     have e0:xs.drop L=[]:=List.drop_eq_nil_of_le (by omega)
     refine⟨b,c-L,pre,xs.flatMap enc++sp,fr,by rw[if_pos ki,e0,GP,Nat.sub_self];rfl,by rw[e0];simp,by rw[e0];simp,by rw[e0,ki];simp,by rw[e0];simpa using qV⟩
   . refine⟨b,c-L,pre++(xs.take L).flatMap enc,sp,fr,?_,?_,by rw[List.length_drop];omega,?_,?_⟩
     . rw[if_neg ki,Option.map_some,bX,List.length_append,BN,List.length_drop]
     . rw[hsplit];simp
     . rw[List.length_drop,show c-L-(xs.length-L)=c-xs.length by omega];exact hsp
     . rw[hsplit]at qV;simpa using qV
theorem Mem.swap{A B:Chunk}{r:List Chunk}{w:World}(hp:A.Perm B)(h:aR hs A r)(hm:Mem hs w):Mem (B::r) w:=
 (hm.pull h).perm (by simp only[List.flatten_cons];exact List.Perm.append_right _ hp)
theorem RT.swap{A B:Chunk}{r:List Chunk}(hp:A.Perm B)(h:aR hs A r)(k:RT X R (B::r)):RT X R hs:=fun a w ha hm=>k a w ha (hm.swap hp h)
theorem TT.swap{A B:Chunk}{r:List Chunk}{c:Code}(hp:A.Perm B)(h:aR hs A r)(hk:TT X c k R (B::r)):TT X c k R hs:=fun a w ha hm=>hk a w ha (hm.swap hp h)
theorem KT.swap{A B:Chunk}{r:List Chunk}(hp:A.Perm B)(h:aR hs A r)(hk:KT X k R (B::r)):KT X k R hs:=fun a w ha hm=>hk a w ha (hm.swap hp h)
theorem OT.swap{A B:Chunk}{r:List Chunk}(hp:A.Perm B)(h:aR hs A r)(hk:OT X ops l k R (B::r)):OT X ops l k R hs:=fun a w ha hm=>hk a w ha (hm.swap hp h)
theorem RT.perm(hp:hs.flatten.Perm hs'.flatten)(h:RT X R hs'):RT X R hs:=fun a w ha hm=>h a w ha (hm.perm hp)
theorem OT.bI{parts:Array (Nat×Operand)}{n:Nat}{gQ:List Operand}{vs:List Value}{xs:List α}(he:Elem X.P t e sz)(zU:parts.toList=(gQ.zipIdx).map fun p=>(p.2,p.1))(hg:dX ops R gd=some true)(hxs:ng R gQ=some vs)
 (hn:vs.length=n)(nt:vs.flatMap (·.cells.toList)=xs.flatMap enc)(hsz:∀v∈vs,v.cells.size=sz)(T0:∀x∈xs,(enc x).length=sz)(Ws:xs.length=n)(l6:n*sz<=16777216)(hdn:Nat.ble (d+1) X.n=true)
 (h:∀b,OT X ops l k ((d,.slice (some ⟨b,0,none⟩) n n)::R) ([(b,blk (xs.flatMap enc) e (0,0))]::hs)):OT X ops (⟨some d,.buildSlice t n parts,ty',pos,after,gd⟩::l) k R hs:=by
 obtain⟨z,hz,hzs⟩:=he.zero
 refine OT.value hg rfl hdn fun a w ha hm=>⟨.slice (some ⟨w.heap.size,0,none⟩) n n,[(w.heap.size,blk (vs.flatMap (·.cells.toList)) e (0,0))]::hs,w.alloc (.cells ⟨vs.flatMap (·.cells.toList)⟩ e),?_,hm.alloc _,by have:=h w.heap.size;rw[<-nt]at this;exact this⟩
 have JW:=ha.ng hxs
 have hlen:gQ.length=n:=by rw[<-hn,<-JW];simp
 have tn:(parts.map fun(p:Nat×Operand)=>(p.1,a.eval p.2)).toList=(vs.zipIdx).map fun p=>(p.2,p.1):=by
  rw[Array.toList_map,zU,<-JW,List.zipIdx_map]
  simp[Function.comp_def]
 have hrun:(Instr.buildSlice t n (parts.map fun(p:Nat×Operand)=>(p.1,a.eval p.2))).run X.P w= .ok (.slice (some ⟨w.heap.size,0,none⟩) n n) (w.alloc (.cells ⟨vs.flatMap (·.cells.toList)⟩ e)):=by
  unfold Instr.buildSlice
  rw[Sem.run_bind,run_underlying he.BL]
  simp only[Result.andThen_ok]
  rw[Sem.run_bind,he.size]
  simp only[Result.andThen_ok]
  have Kp:¬(n*sz>2^24):=by
   have:(2:Nat)^24=16777216:=by decide
   omega
  simp only[Kp,if_false]
  have gw:∀zc:Array Value,Instr.fill (fun i=>some (i*sz,sz)) ((Array.range (n*sz)).map (zc[·%zc.size]!)) (parts.map fun(p:Nat×Operand)=>(p.1,a.eval p.2)).toList=some ⟨vs.flatMap (·.cells.toList)⟩:=by
   intro zc
   have gw:=xX (fun i=>some (i*sz,sz)) vs 0 sz ((Array.range (n*sz)).map (zc[·%zc.size]!)).toList (fun _ _ _=>rfl) hsz (by simp[hn])
   rw[<-tn]at gw
   simp only[Nat.zero_mul,List.take_zero,List.nil_append]at gw
   exact gw
  by_cases h0:n*sz=0
  . rw[if_pos h0,Sem.run_bind,Sem.run_pure]
    simp only[Result.andThen_ok,gw]
    simp only[newRow,Sem.run_bind,run_newObj_alloc,Result.andThen_ok,Sem.run_pure]
  . rw[if_neg h0,Sem.run_bind,hz]
    simp only[Result.andThen_ok]
    rw[Sem.run_bind,Sem.run_pure]
    simp only[Result.andThen_ok,gw]
    simp only[newRow,Sem.run_bind,run_newObj_alloc,Result.andThen_ok,Sem.run_pure]
 simp only[execOp]
 have e2:(parts.map fun x=>match x with|(i,x)=>(i,a.eval x))=(parts.map fun(p:Nat×Operand)=>(p.1,a.eval p.2)):=rfl
 rw[e2,Sem.run_bind,hrun]
 rfl
theorem OT.cF{x:Operand}{b o n c:Nat}{cs:List Value}{r:List Chunk}(hT:T.ok X.P)(ht:ty T t=some (.slice e 1))(he:ty T e=some (.one (.int .u8)))(hg:dX ops R gd=some true)(hx:ev R x=some (.slice (some ⟨b,o,none⟩) n c))
 (hp:aR hs [(b,blk cs e (0,0))] r)(hdn:Nat.ble (d+1) X.n=true)
 (h:OT X ops l k ((d,.slice (some ⟨b,o,none⟩) n c)::R) ([(b,blk cs e (cs.length,cs.length+1))]::r)):OT X ops (⟨some d,.convert t t x,ty',pos,after,gd⟩::l) k R hs:=by
 refine OT.value hg rfl hdn fun a w ha hm=> ?_
 have hm:=hm.pull hp
 have hb:=hm.heap (b:=b) (o:=blk cs e (0,0)) Has.one
 have hs':w.shape? b=some (e,cs.length):=by unfold World.shape?;rw[hb];simp
 refine⟨_,_,w.freeze ⟨b,cs.length,none⟩ 1,?_,?_,h⟩
 . simp only[execOp,ha.ev hx]
   rw[Sem.run_bind]
   have:(convert t t (.slice (some ⟨b,o,none⟩) n c)).run X.P w= .ok (.slice (some ⟨b,o,none⟩) n c) (w.freeze ⟨b,cs.length,none⟩ 1):=by
    unfold convert
    rw[Sem.run_bind,run_underlying (hT.ty ht).1]
    simp only[Result.andThen_ok]
    rw[Sem.run_bind,run_underlying (hT.ty ht).1]
    simp only[Result.andThen_ok]
    rw[Sem.run_bind,run_underlying (hT.ty he).1]
    simp only[Result.andThen_ok,beq_self_eq_true]
    rw[Sem.run_bind]
    have hmk:(markStringish ⟨b,o,none⟩).run X.P w= .ok () (w.freeze ⟨b,cs.length,none⟩ 1):=by
     unfold markStringish shape
     simp only[Sem.run_bind]
     simp[Sem.run,hs',freeze]
    rw[hmk]
    rfl
   rw[this]
   rfl
 . refine hm.write ?_ ?_ ⟨rfl,rfl⟩
   . simp only[World.freeze]
     simp[Array.getElem?_modify,hb]
   . intro c' GM
     simp only[World.freeze]
     rw[if_neg (by omega),Array.getElem?_modify,if_neg (fun e=>GM e.symm)]
omit [au] in
theorem Own.marked{b n:Nat}{xs:List α}(eZ:∀x∈xs,(enc x).length=sz)(hn:xs.length=n):Own enc sz e (.slice (some ⟨b,0,none⟩) n n) xs [(b,blk (xs.flatMap enc) e ((xs.flatMap enc).length,(xs.flatMap enc).length+1))]:=by
 subst hn
 exact⟨eZ,.inr ⟨b,xs.length,[],[],((xs.flatMap enc).length,(xs.flatMap enc).length+1),rfl,by rw[List.nil_append,List.append_nil],Nat.le_refl _,by rw[Nat.sub_self];simp,.inr (by rw[List.nil_append,List.append_nil];exact Nat.le_refl _)⟩⟩
end
end Go.Sx
end
section
namespace Go.Sx
open Go
section
variable[au]{X:Cx}{k:dx}{R:ee}{hs:List Chunk}{ops:Array Oper}{l:List Oper}{T:aE}{d ty':Nat}{pos:String}{after:Array Edge}{gd:Option (Nat×Bool)}{enc:UInt8->List Value}{e t:Nat}
theorem AT.eI{Cs:List Chunk}{fuel:Nat}{listed:List Bool}(t:Nat){u v:Value}(hu:look R t=some u)(e:u=v)(h:AT X ops Cs k fuel listed ((t,v)::R) hs):AT X ops Cs k fuel listed R hs:=
 fun a w ha hm=>h a w ⟨ha.size,ha.defers,fun x y hl=>by
  rw[eN]at hl
  by_cases e':t=x
  . subst e';rw[if_pos rfl]at hl;obtain rfl:=Option.some.inj hl;rw[<-e];exact ha.jX _ _ hu
  . rw[if_neg e']at hl;exact ha.jX x y hl⟩ hm
end
end Go.Sx
end
section
namespace Go.Sx
open Go
variable[au]
def aN(P:Program)(f:Nat)(vs:List Value)(hs:List Chunk)(N E:Value->List Chunk->Prop):Prop:=
 ∀w,Mem hs w->Calls P f ⟨vs⟩ w fun e w'=>(∃v hs',e= .returned v/\N v hs'/\Mem hs' w')\/∃v hs',e= .panicked [{v,recovered:=false}]/\E v hs'/\Mem hs' w'
def xB(N E:Value->List Chunk->Prop):Ending->World->Prop:=fun e w'=>(∃v hs',e= .returned v/\N v hs'/\Mem hs' w')\/∃v hs',e= .panicked [{v,recovered:=false}]/\E v hs'/\Mem hs' w'
section
variable{P:Program}{f:Nat}{vs:List Value}{hs:List Chunk}{N N' E E':Value->List Chunk->Prop}
theorem aN.mono(h:aN P f vs hs N E)(hn:∀v hs',N v hs'->N' v hs')(he:∀v hs',E v hs'->E' v hs'):aN P f vs hs N' E':=fun w hm=>(h w hm).mono fun _ _ h=>by
 rcases h with⟨v,hs',e,h1,h2⟩|⟨v,hs',e,h1,h2⟩
 . exact .inl ⟨v,hs',e,hn _ _ h1,h2⟩
 . exact .inr ⟨v,hs',e,he _ _ h1,h2⟩
theorem aN.weaken{hs':List Chunk}(hsel:bp hs hs')(h:aN P f vs hs' N E):aN P f vs hs N E:=fun w hm=>h w (hm.kf hsel)
theorem aN.perm{hs':List Chunk}(hp:hs.flatten.Perm hs'.flatten)(h:aN P f vs hs' N E):aN P f vs hs N E:=fun w hm=>h w (hm.perm hp)
theorem aN.pull{A:Chunk}{r:List Chunk}(hp:aR hs A r)(h:aN P f vs (A::r) N E):aN P f vs hs N E:=fun w hm=>h w (hm.pull hp)
theorem aN.of(h:aA P f vs hs N):aN P f vs hs N E:=fun w hm=>(h w hm).mono fun _ _ h=> .inl h
theorem aN.enter{fn:Func}{c:Code}(n:Nat)(hf:P.funcs[f]? =some fn)(hb:fn.body=some c)(hn:fn.ntmps=n)
 (hlen:Nat.ble vs.length n=true)(h:TT ⟨P,fn,n,xB N E⟩ c .fin (ins 0 vs) hs):aN P f vs hs N E:=by
 intro w hm
 have hlen':=Nat.le_of_ble_eq_true hlen
 refine calls_of_wp hf hb (h _ w ?_ hm)
 refine⟨by simp[hn];omega,rfl,?_⟩
 intro t v hl
 obtain⟨j,rfl,hj⟩:=oG vs 0 t v hl
 have hjl:j<vs.length:=(List.getElem?_eq_some_iff.1 hj).1
 rw[Nat.zero_add,Array.getD_eq_getD_getElem?,Array.getElem?_append_left (by simpa using hjl)]
 simp[hj]
variable{R:ee}
theorem RT.jm{fn:Func}{n:Nat}{rs:List ResultVar}(vs:List Value)(hs':List Chunk)(hfn:fn.results.toList=rs)(h:zm P R hs rs vs)
 (hsel:bp hs hs')(hN:N (one vs) hs'):RT ⟨P,fn,n,xB N E⟩ R hs:=
 fun _ _ ha hm=>⟨ha.defers,one vs,h.run ha hm hfn,.inl ⟨one vs,hs',rfl,hN,hm.kf hsel⟩⟩
theorem KT.jm{fn:Func}{n:Nat}{rs:List ResultVar}(vs:List Value)(hs':List Chunk)(hfn:fn.results.toList=rs)(h:zm P R hs rs vs)
 (hsel:bp hs hs')(hN:N (one vs) hs'):KT ⟨P,fn,n,xB N E⟩ .fin R hs:=
 fun _ _ ha hm=>⟨ha.defers,one vs,h.run ha hm hfn,.inl ⟨one vs,hs',rfl,hN,hm.kf hsel⟩⟩
end
def PP(X:Cx)(v:Value)(hs:List Chunk):Prop:=∀w,Mem hs w->X.E (.panicked [{v,recovered:=false}]) w
theorem PP.of{P:Program}{fn:Func}{n:Nat}{N E:Value->List Chunk->Prop}{v:Value}{hs hs':List Chunk}(h:E v hs')(hsel:bp hs hs'):PP ⟨P,fn,n,xB N E⟩ v hs:=
 fun _ hm=> .inr ⟨v,hs',rfl,h,hm.kf hsel⟩
theorem PP.up{P:Program}{fn:Func}{n:Nat}{N E:Value->List Chunk->Prop}{v:Value}{hs:List Chunk}(h:E v hs):PP ⟨P,fn,n,xB N E⟩ v hs:=
 fun _ hm=> .inr ⟨v,hs,rfl,h,hm⟩
section
variable{X:Cx}{k:dx}{R:ee}{hs:List Chunk}{ops:Array Oper}{l:List Oper}{d ty':Nat}{pos:String}{after:Array Edge}{gd:Option (Nat×Bool)}
theorem PP.Hp{v:Value}(h:PP X v hs){a:Act}{w:World}(ha:Fits X.n R a)(hm:Mem hs w)(k:dx):k.Q X (.panic [{v,recovered:=false}]) a w:=by
 rw[dx.oF]
 exact⟨ha.defers,h w hm⟩
theorem OT.aY{x:Operand}{f:Nat}{xs:Array Operand}{tys:Array Nat}{vs:List Value}{N E:Value->List Chunk->Prop}(hc:∀args w,(callFunc f args).run X.P w= .ok (.enter f args) w)
 (hg:dX ops R gd=some true)(hx:ev R x=some (.func (.func f) #[] #[]))(hxs:ng R xs.toList=some vs)(hdn:Nat.ble (d+1) X.n=true)(hF:aN X.P f vs hs N E)
 (hp:∀v hs',E v hs'->PP X v hs')
 (h:∀v hs',N v hs'->OT X ops l k ((d,v)::R) hs'):OT X ops (⟨some d,.call ⟨.value x,xs,tys⟩,ty',pos,after,gd⟩::l) k R hs:=by
 intro a w ha hm
 simp only[wpList]
 rw[fP (o:=⟨some d,.call ⟨.value x,xs,tys⟩,ty',pos,after,gd⟩) ha hg,if_pos rfl]
 refine Or.inl ?_
 unfold Oper.wp
 have he:(execOp a.eval ⟨some d,.call ⟨.value x,xs,tys⟩,ty',pos,after,gd⟩).run X.P w= .ok (.enter f ⟨vs⟩) w:=by
  simp only[execOp,resolve,ha.ev hx,Deferred.ofValue]
  have e:xs.map a.eval=⟨vs⟩:=by
   have:=ha.ng hxs
   apply Array.ext'
   simpa using this
  rw[e]
  simp[invoke,hc]
 rw[he,Oper.upon_enter]
 refine(hF w hm).mono ?_
 rintro e w' (⟨v,hs',rfl,hN,hM⟩|⟨v,hs',rfl,hE,hM⟩)
 . exact h v hs' hN _ _ (ha.put hdn v) hM
 . exact(hp v hs' hE).Hp ha hM k
theorem OT.panic{d:Option Nat}{x:Operand}{t:Nat}{u:Value}(hg:dX ops R gd=some true)(hx:ev R x=some (.iface t u))(h:PP X (.iface t u) hs):
 OT X ops (⟨d,.panic x,ty',pos,after,gd⟩::l) k R hs:=by
 intro a w ha hm
 simp only[wpList]
 rw[fP (o:=⟨d,.panic x,ty',pos,after,gd⟩) ha hg,if_pos rfl]
 refine Or.inl ?_
 unfold Oper.wp
 have he:(execOp a.eval ⟨d,.panic x,ty',pos,after,gd⟩).run X.P w= .halt (.panic (.iface t u)) w:=by
  simp only[execOp,ha.ev hx,Instr.panic]
  rfl
 rw[he,Oper.upon_panic]
 exact h.Hp ha hm k
theorem OT.bO{x:Operand}{t:Nat}{v:Value}{D:TypeDesc}(hu:X.P.underlying t=some D)(hD:(match D with| .interface _=>false|_=>true)=true)(hg:dX ops R gd=some true)(hx:ev R x=some v)(hdn:Nat.ble (d+1) X.n=true)
 (h:OT X ops l k ((d,.iface t v)::R) hs):OT X ops (⟨some d,.makeInterface t x,ty',pos,after,gd⟩::l) k R hs:=by
 refine OT.value hg rfl hdn fun a w ha hm=>⟨_,hs,w,?_,hm,h⟩
 simp only[execOp,ha.ev hx,Instr.makeInterface]
 rw[Sem.run_bind,Sem.run_bind,run_underlying hu]
 cases D<;>first|rfl|cases hD
theorem OT.Lk{x:Operand}{f:Nat}{xs:Array Operand}{tys:Array Nat}{caps vs:List Value}{N E:Value->List Chunk->Prop}(hc:∀args w,(callFunc f args).run X.P w= .ok (.enter f args) w)
 (hg:dX ops R gd=some true)(hx:ev R x=some (.func (.func f) ⟨[]⟩ ⟨caps⟩))(hxs:ng R xs.toList=some vs)(hdn:Nat.ble (d+1) X.n=true)(hF:aN X.P f (vs++caps) hs N E)
 (hp:∀v hs',E v hs'->PP X v hs')
 (h:∀v hs',N v hs'->OT X ops l k ((d,v)::R) hs'):OT X ops (⟨some d,.call ⟨.value x,xs,tys⟩,ty',pos,after,gd⟩::l) k R hs:=by
 intro a w ha hm
 simp only[wpList]
 rw[fP (o:=⟨some d,.call ⟨.value x,xs,tys⟩,ty',pos,after,gd⟩) ha hg,if_pos rfl]
 refine Or.inl ?_
 unfold Oper.wp
 have he:(execOp a.eval ⟨some d,.call ⟨.value x,xs,tys⟩,ty',pos,after,gd⟩).run X.P w= .ok (.enter f ⟨vs++caps⟩) w:=by
  simp only[execOp,resolve,ha.ev hx,Deferred.ofValue,fZ ha hxs]
  have e2:((⟨[]⟩:Array Value)++(⟨vs⟩:Array Value))++(⟨caps⟩:Array Value)=⟨vs++caps⟩:=by apply Array.ext';simp
  have e3:(⟨[]⟩:Array Value)++(⟨vs⟩:Array Value)=⟨vs⟩:=by apply Array.ext';simp
  rw[e3]at e2
  show((pure {target:= .fn (.func f) ⟨caps⟩,args:=(⟨[]⟩:Array Value)++⟨vs⟩}:Sem Deferred)>>=fun d=>invoke d.target d.args).run X.P w=_
  rw[e3,Sem.run_bind]
  show(invoke (.fn (.func f) ⟨caps⟩) ⟨vs⟩).run X.P w=_
  simp only[invoke,e2,hc]
 rw[he,Oper.upon_enter]
 refine(hF w hm).mono ?_
 rintro e w' (⟨v,hs',rfl,hN,hM⟩|⟨v,hs',rfl,hE,hM⟩)
 . exact h v hs' hN _ _ (ha.put hdn v) hM
 . exact(hp v hs' hE).Hp ha hM k
theorem OT.HQ{x:Operand}{name:String}{t f:Nat}{u rv:Value}{xs:Array Operand}{tys:Array Nat}{vs:List Value}{N E:Value->List Chunk->Prop}(Mn:∀w,Mem hs w->(method (X.P.types.size+Made.depth) t u name).run X.P w= .ok (f,rv) w)
 (hc:∀args w,(callFunc f args).run X.P w= .ok (.enter f args) w)
 (hg:dX ops R gd=some true)(hx:ev R x=some (.iface t u))(hxs:ng R xs.toList=some vs)(hdn:Nat.ble (d+1) X.n=true)(hF:aN X.P f (rv::vs) hs N E)
 (hp:∀v hs',E v hs'->PP X v hs')
 (h:∀v hs',N v hs'->OT X ops l k ((d,v)::R) hs'):OT X ops (⟨some d,.call ⟨.invoke x name,xs,tys⟩,ty',pos,after,gd⟩::l) k R hs:=by
 intro a w ha hm
 simp only[wpList]
 rw[fP (o:=⟨some d,.call ⟨.invoke x name,xs,tys⟩,ty',pos,after,gd⟩) ha hg,if_pos rfl]
 refine Or.inl ?_
 unfold Oper.wp
 have he:(execOp a.eval ⟨some d,.call ⟨.invoke x name,xs,tys⟩,ty',pos,after,gd⟩).run X.P w= .ok (.enter f ⟨rv::vs⟩) w:=by
  simp only[execOp,resolve,ha.ev hx,fZ ha hxs]
  show((pure {target:= .fn (.method name) #[],args:= #[Value.iface t u]++(⟨vs⟩:Array Value)}:Sem Deferred)>>=fun d=>invoke d.target d.args).run X.P w=_
  have e1:(#[Value.iface t u]++(⟨vs⟩:Array Value))=⟨Value.iface t u::vs⟩:=by apply Array.ext';simp
  have e2:(⟨Value.iface t u::vs⟩:Array Value).extract 1 (⟨Value.iface t u::vs⟩:Array Value).size=⟨vs⟩:=by apply Array.ext';simp
  have e3:(#[rv]++(⟨vs⟩:Array Value))=⟨rv::vs⟩:=by apply Array.ext';simp
  rw[e1,Sem.run_bind]
  show(callMethod (.iface t u) name ((⟨Value.iface t u::vs⟩:Array Value).extract 1 (⟨Value.iface t u::vs⟩:Array Value).size)).run X.P w=_
  rw[e2]
  unfold callMethod
  dsimp only
  rw[Sem.run_bind,run_program]
  simp only[Result.andThen_ok]
  rw[Sem.run_bind,Mn w hm]
  simp only[Result.andThen_ok]
  rw[e3]
  exact hc _ _
 rw[he,Oper.upon_enter]
 refine(hF w hm).mono ?_
 rintro e w' (⟨v,hs',rfl,hN,hM⟩|⟨v,hs',rfl,hE,hM⟩)
 . exact h v hs' hN _ _ (ha.put hdn v) hM
 . exact(hp v hs' hE).Hp ha hM k
theorem OT.invoke{x:Operand}{name:String}{t f:Nat}{u rv:Value}{xs:Array Operand}{tys:Array Nat}{vs:List Value}{N:Value->List Chunk->Prop}(Mn:∀w,Mem hs w->(method (X.P.types.size+Made.depth) t u name).run X.P w= .ok (f,rv) w)
 (hc:∀args w,(callFunc f args).run X.P w= .ok (.enter f args) w)
 (hg:dX ops R gd=some true)(hx:ev R x=some (.iface t u))(hxs:ng R xs.toList=some vs)(hdn:Nat.ble (d+1) X.n=true)(hF:aA X.P f (rv::vs) hs N)
 (h:∀v hs',N v hs'->OT X ops l k ((d,v)::R) hs'):OT X ops (⟨some d,.call ⟨.invoke x name,xs,tys⟩,ty',pos,after,gd⟩::l) k R hs:=
 OT.HQ Mn hc hg hx hxs hdn (.of (E:=fun _ _=>False) hF) (fun _ _ h=>h.elim) h
end
end Go.Sx
end
section
namespace Go.Sx
open Go
open Go.MapKept (Stamped)
def l7:Value->Option Int
 | .int .i64 n=>some n
 |_=>none
def pF:List MapEntry->Int->Option Value
 |[],_=>none
 |e::es,z=>if l7 e.key=some z then some e.val else pF es z
def j8(es:List MapEntry):Prop:=∀e∈es,∃z,e.key= .int .i64 z
structure IsMap(m:Int->Option Value)(b:Nat)(H:Chunk):Prop where
 is:∃es clock,H=[(b,.map ⟨es⟩ clock)]/\j8 es/\(∀z,pF es z=m z)/\Stamped ⟨es⟩ clock
theorem IsMap.none(b:Nat):IsMap (fun _=>none) b [(b,.map #[] 0)]:=⟨[],0,rfl,(by intro e he;cases he),fun _=>rfl,⟨fun e he=>(by cases he),List.nodup_nil,List.nodup_nil⟩⟩
theorem stamped_modify{es:List MapEntry}{c j:Nat}{k v:Value}{x:MapEntry}(h:Stamped ⟨es⟩ c)(hj:es[j]? =some x)(hk:x.key=k):Stamped ⟨es.modify j fun e=>{e with key:=k,val:=v}⟩ c:=by
 have hm:∀{β:Type} (f:MapEntry->β),f {x with key:=k,val:=v}=f x->(es.modify j fun e=>{e with key:=k,val:=v}).map f=es.map f:=by
  intro β f hf
  apply List.ext_getElem?
  intro i
  rw[List.getElem?_map,List.getElem?_map,List.getElem?_modify]
  by_cases e:j=i
  . subst e;rw[hj];simp[hf]
  . cases es[i]? <;>simp[e]
 refine⟨?_,?_,?_⟩
 . intro y hy
   have h1:y.born∈(es.modify j fun e=>{e with key:=k,val:=v}).map (·.born):=List.mem_map.2 ⟨y,hy,rfl⟩
   rw[hm (·.born) rfl]at h1
   obtain⟨y',hy',e⟩:=List.mem_map.1 h1
   rw[<-e];exact h.1 y' hy'
 . show((es.modify j fun e=>{e with key:=k,val:=v}).map (·.born)).Nodup
   rw[hm (·.born) rfl];exact h.2.1
 . show((es.modify j fun e=>{e with key:=k,val:=v}).map (·.key)).Nodup
   rw[hm (·.key) hk.symm];exact h.2.2
theorem FD{es:List MapEntry}{z:Int}(h:pF es z=none):∀e∈es,e.key≠.int .i64 z:=by
 induction es with
 |nil=>intro e he;cases he
 |cons a es ih=>
  intro e he hk
  simp only[pF]at h
  split at h
  . cases h
  . rename_i hn
    rcases List.mem_cons.1 he with rfl|he
    . rw[hk]at hn;exact hn rfl
    . exact ih h e he hk
theorem stamped_push{es:List MapEntry}{c:Nat}{z:Int}{v:Value}(h:Stamped ⟨es⟩ c)(hn:pF es z=none):Stamped ⟨es++[{key:= .int .i64 z,val:=v,born:=c}]⟩ (c+1):=by
 refine⟨?_,?_,?_⟩
 . intro y hy
   rcases List.mem_append.1 hy with hy|hy
   . have:=h.1 y hy;omega
   . rw[List.mem_singleton]at hy;subst hy;exact Nat.lt_succ_self _
 . show((es++_).map _).Nodup
   rw[List.map_append,List.nodup_append]
   refine⟨h.2.1,by simp,?_⟩
   intro a ha b hb
   obtain⟨y,hy,rfl⟩:=List.mem_map.1 ha
   simp only[List.map_cons,List.map_nil,List.mem_singleton]at hb
   subst hb
   have:=h.1 y hy;omega
 . show((es++_).map _).Nodup
   rw[List.map_append,List.nodup_append]
   refine⟨h.2.2,by simp,?_⟩
   intro a ha b hb
   obtain⟨y,hy,rfl⟩:=List.mem_map.1 ha
   simp only[List.map_cons,List.map_nil,List.mem_singleton]at hb
   subst hb
   exact FD hn y hy
theorem yL(a z:Int):Instr.sameNow (.int .i64) (.int .i64 z) (.int .i64 a)=some (z==a):=by simp[Instr.sameNow]
theorem xZ{z:Int}:∀{es:List MapEntry} (i:Nat),j8 es->
 (Instr.findNow (.int .i64) (.int .i64 z) es i=some none/\pF es z=none)\/∃j e,Instr.findNow (.int .i64) (.int .i64 z) es i=some (some (i+j,e.val))/\es[j]? =some e/\e.key= .int .i64 z/\pF es z=some e.val/\
  ∀(f:MapEntry->MapEntry) (v:Value),(∀e,(f e).key= .int .i64 z/\(f e).val=v)->j8 (es.modify j f)/\∀z',pF (es.modify j f) z'=if z'=z then some v else pF es z':=by
 intro es
 induction es with
 |nil=>intro i _;exact .inl ⟨rfl,rfl⟩
 |cons e es ih=>
  intro i hk
  obtain⟨a,ha⟩:=hk e (by simp)
  have hk':j8 es:=fun x hx=>hk x (by simp[hx])
  unfold Instr.findNow
  rw[ha,yL]
  by_cases h:z=a
  . subst h
    refine .inr ⟨0,e,by simp,rfl,ha,by simp[pF,ha,l7],fun f v hf=>⟨?_,fun z'=> ?_⟩⟩
    . intro x hx
      simp only[List.modify_zero_cons,List.mem_cons]at hx
      rcases hx with rfl|hx
      . exact⟨z,(hf e).1⟩
      . exact hk' x hx
    . simp only[List.modify_zero_cons,pF,(hf e).1,(hf e).2,ha,l7,Option.some.injEq]
      by_cases hz:z'=z
      . subst hz;rw[if_pos rfl,if_pos rfl]
      . rw[if_neg (fun h=>hz h.symm),if_neg hz,if_neg (fun h=>hz h.symm)]
  . have hb:(z==a)=false:=by simpa using h
    have hl:pF (e::es) z=pF es z:=by
     simp only[pF,ha,l7,Option.some.injEq]
     rw[if_neg (fun h'=>h h'.symm)]
    rw[hb]
    rcases ih (i+1) hk' with⟨h1,h2⟩|⟨j,e',h1,h2,h3,h4,h5⟩
    . exact .inl ⟨h1,by rw[hl];exact h2⟩
    . refine .inr ⟨j+1,e',by rw[show i+(j+1)=i+1+j by omega];exact h1,by simpa using h2,h3,by rw[hl];exact h4,fun f v hf=> ?_⟩
      obtain⟨h6,h7⟩:=h5 f v hf
      refine⟨?_,fun z'=> ?_⟩
      . intro x hx
        simp only[List.modify_succ_cons,List.mem_cons]at hx
        rcases hx with rfl|hx
        . exact⟨a,ha⟩
        . exact h6 x hx
      . simp only[List.modify_succ_cons,pF,h7,ha,l7,Option.some.injEq]
        by_cases hz:z'=z
        . subst hz
          rw[if_neg (fun h'=>h h'.symm),if_pos rfl,if_pos rfl]
        . rw[if_neg hz,if_neg hz]
theorem FE{es:List MapEntry}{z:Int}{v:Value}{x:MapEntry}(hx:x.key= .int .i64 z/\x.val=v)(hn:pF es z=none):∀z',pF (es++[x]) z'=if z'=z then some v else pF es z':=by
 intro z'
 induction es with
 |nil=>
  simp only[List.nil_append,pF,hx.1,hx.2,l7,Option.some.injEq]
  by_cases h:z'=z
  . subst h;simp
  . rw[if_neg (fun h'=>h h'.symm),if_neg h]
 |cons e es ih=>
  simp only[pF]at hn
  split at hn
  . cases hn
  . rename_i hne
    simp only[List.cons_append,pF,ih hn]
    by_cases h:z'=z
    . subst h;rw[if_neg hne,if_pos rfl,if_pos rfl]
    . rw[if_neg h,if_neg h]
section
variable[au]{X:Cx}{k:dx}{R:ee}{hs:List Chunk}{ops:Array Oper}{l:List Oper}{d ty':Nat}{pos:String}{after:Array Edge}{gd:Option (Nat×Bool)}
theorem OT.makeMap{t:Nat}(hg:dX ops R gd=some true)(hdn:Nat.ble (d+1) X.n=true)
 (h:∀b H,IsMap (fun _=>none) b H->OT X ops l k ((d,.map (some b))::R) (H::hs)):OT X ops (⟨some d,.makeMap t none,ty',pos,after,gd⟩::l) k R hs:=
 OT.value hg rfl hdn fun _ w _ hm=>⟨.map (some w.heap.size),[(w.heap.size,.map #[] 0)]::hs,w.alloc (.map #[] 0),rfl,hm.alloc _,h _ _ (IsMap.none _)⟩
structure rU(P:Program)(t e:Nat)(z:Value):Prop where
 BL:∃kt,P.underlying t=some (.map kt e)/\P.underlying kt=some (.int .i64)
 zero:∀w,(zeroValue e).run P w= .ok z w
omit [au] in
theorem sJ{P:Program}{w:World}{b:Nat}{es:Array MapEntry}{c:Nat}(h:w.heap[b]? =some (.map es c)):(getObj b).run P w= .ok (.map es c) w:=by simp[getObj,Sem.run,h]
omit [au] in
theorem oY{P:Program}{kt:Nat}{w:World}(h:P.underlying kt=some (.int .i64))(em:Bool)(z:Int):(Instr.checkKey em 10000 kt (.int .i64 z)).run P w= .ok () w:=by
 unfold Instr.checkKey
 rw[Sem.run_bind,run_underlying h]
 rfl
omit [au] in
theorem jf{P:Program}{kt:Nat}{w:World}(h:P.underlying kt=some (.int .i64)){z:Int}{es:List MapEntry}{r:Option (Nat×Value)}(hr:Instr.findNow (.int .i64) (.int .i64 z) es 0=some r):(Instr.findKey kt (.int .i64 z) es).run P w= .ok r w:=by
 unfold Instr.findKey
 rw[Sem.run_bind,run_underlying h]
 simp only[Result.andThen_ok,hr]
 rfl
theorem sK{P:Program}{t e b:Nat}{z0:Value}{z:Int}{m:Int->Option Value}{H:Chunk}{r:List Chunk}(hT:rU P t e z0)(hM:IsMap m b H){w:World}(hm:Mem (H::r) w)(ok:Bool):
 (Instr.lookup t (.map (some b)) (.int .i64 z) ok).run P w= .ok (if ok then .tuple #[(m z).getD z0,.bool (m z).isSome]else(m z).getD z0) w:=by
 obtain⟨es,clock,rfl,hk,hl,hst⟩:=hM.is
 obtain⟨kt,h1,h2⟩:=hT.BL
 have hb:=hm.heap (b:=b) (o:= .map ⟨es⟩ clock) .one
 unfold Instr.lookup
 rw[Sem.run_bind,run_underlying h1]
 simp only[Result.andThen_ok]
 rw[Sem.run_bind,sJ hb]
 simp only[Result.andThen_ok]
 rw[Sem.run_bind]
 rw[show(pure (⟨es⟩:Array MapEntry):Sem (Array MapEntry)).run P w= .ok ⟨es⟩ w from rfl]
 simp only[Result.andThen_ok]
 rw[Sem.run_bind,oY h2]
 simp only[Result.andThen_ok]
 rw[Sem.run_bind]
 rcases xZ (z:=z) 0 hk with⟨h3,h4⟩|⟨j,x,h3,_,_,h4,_⟩
 . rw[jf h2 h3]
   simp only[Result.andThen_ok]
   rw[Sem.run_bind,hT.zero w]
   rw[hl]at h4
   rw[h4]
   cases ok<;>rfl
 . rw[jf h2 h3]
   simp only[Result.andThen_ok]
   rw[hl]at h4
   rw[h4]
   cases ok<;>rfl
theorem OT.C_{t e b:Nat}{z0:Value}{z:Int}{x y:Operand}{m:Int->Option Value}{H:Chunk}{r:List Chunk}(hT:rU X.P t e z0)(hg:dX ops R gd=some true)(hx:ev R x=some (.map (some b)))(hy:ev R y=some (.int .i64 z))
 (hp:aR hs H r)(hM:IsMap m b H)(hdn:Nat.ble (d+1) X.n=true)
 (h:OT X ops l k ((d,.tuple ⟨[(m z).getD z0,.bool (m z).isSome]⟩)::R) hs):OT X ops (⟨some d,.lookup t x y true,ty',pos,after,gd⟩::l) k R hs:=by
 refine OT.value hg rfl hdn fun a w ha hm=>⟨_,hs,w,?_,hm,h⟩
 simp only[execOp,ha.ev hx,ha.ev hy]
 rw[Sem.run_bind,sK hT hM (hm.pull hp) true]
 rfl
theorem OT.lookup{t e b:Nat}{z0:Value}{z:Int}{x y:Operand}{m:Int->Option Value}{H:Chunk}{r:List Chunk}(hT:rU X.P t e z0)(hg:dX ops R gd=some true)(hx:ev R x=some (.map (some b)))(hy:ev R y=some (.int .i64 z))
 (hp:aR hs H r)(hM:IsMap m b H)(hdn:Nat.ble (d+1) X.n=true)
 (h:OT X ops l k ((d,(m z).getD z0)::R) hs):OT X ops (⟨some d,.lookup t x y false,ty',pos,after,gd⟩::l) k R hs:=by
 refine OT.value hg rfl hdn fun a w ha hm=>⟨_,hs,w,?_,hm,h⟩
 simp only[execOp,ha.ev hx,ha.ev hy]
 rw[Sem.run_bind,sK hT hM (hm.pull hp) false]
 rfl
theorem sL{P:Program}{b:Nat}{es es':Array MapEntry}{c c':Nat}{r:List Chunk}{w:World}(hm:Mem ([(b,.map es c)]::r) w):∃w',(setObj b (.map es' c')).run P w= .ok () w'/\Mem ([(b,.map es' c')]::r) w':=by
 have hb:=hm.heap (b:=b) (o:= .map es c) .one
 have hlt:=(Array.getElem?_eq_some_iff.1 hb).1
 refine⟨{w with heap:=w.heap.setIfInBounds b (.map es' c')},by simp[setObj,Sem.run,hb],hm.write ?_ (fun c hc=> ?_) ⟨rfl,rfl⟩⟩
 . show(w.heap.setIfInBounds b _)[b]? =_
   rw[Array.getElem?_setIfInBounds_self_of_lt hlt]
 . show(w.heap.setIfInBounds b _)[c]? =_
   rw[Array.getElem?_setIfInBounds_ne (fun e=>hc e.symm)]
omit [au] in
theorem wD(z:Int):Instr.sameBits 10000 (.int .i64 z) (.int .i64 z)=true:=by simp[Instr.sameBits]
theorem OT.mapUpdate{t e b:Nat}{z0 v:Value}{z:Int}{x y u:Operand}{m:Int->Option Value}{H:Chunk}{r:List Chunk}(hT:rU X.P t e z0)(hg:dX ops R gd=some true)(hx:ev R x=some (.map (some b)))(hy:ev R y=some (.int .i64 z))(hu:ev R u=some v)
 (hp:aR hs H r)(hM:IsMap m b H)
 (h:∀H',IsMap (fun z'=>if z'=z then some v else m z') b H'->OT X ops l k R (H'::r)):OT X ops (⟨none,.mapUpdate t x y u,ty',pos,after,gd⟩::l) k R hs:=by
 refine OT.BZ hg rfl fun a w ha hm=> ?_
 have hm:=hm.pull hp
 obtain⟨es,clock,rfl,hk,hl,hst⟩:=hM.is
 obtain⟨kt,h1,h2⟩:=hT.BL
 have hb:=hm.heap (b:=b) (o:= .map ⟨es⟩ clock) .one
 have key:∀w',(Instr.mapUpdate t (.map (some b)) (.int .i64 z) v).run X.P w= .ok () w'->(execOp a.eval ⟨none,.mapUpdate t x y u,ty',pos,after,gd⟩).run X.P w= .ok .skip w':=by
  intro w' hw
  simp only[execOp,ha.ev hx,ha.ev hy,ha.ev hu]
  rw[Sem.run_bind,hw]
  rfl
 have start:(Instr.mapUpdate t (.map (some b)) (.int .i64 z) v).run X.P w=(do
  match<-Instr.findKey kt (.int .i64 z) es with
  |some (i,_)=>do
   let key<-Instr.keyThatStays ((((⟨es⟩:Array MapEntry)[i]?).map (·.key)).getD (.int .i64 z)) (.int .i64 z)
   setObj b (.map ((⟨es⟩:Array MapEntry).modify i fun e=>{e with key,val:=v}) clock)
  |none=>setObj b (.map ((⟨es⟩:Array MapEntry).push {key:= .int .i64 z,val:=v,born:=clock}) (clock+1)):Sem Unit).run X.P w:=by
  unfold Instr.mapUpdate
  rw[Sem.run_bind,run_underlying h1]
  simp only[Result.andThen_ok]
  rw[Sem.run_bind,sJ hb]
  simp only[Result.andThen_ok]
  rw[Sem.run_bind,oY h2]
  rfl
 rcases xZ (z:=z) 0 hk with⟨h3,h4⟩|⟨j,x',h3,h5,h6,h4,h7⟩
 . obtain⟨w',hr,hm'⟩:=sL (P:=X.P) (es':=(⟨es⟩:Array MapEntry).push {key:= .int .i64 z,val:=v,born:=clock}) (c':=clock+1) hm
   refine⟨_,w',key w' ?_,hm',h _ ⟨es++[{key:= .int .i64 z,val:=v,born:=clock}],clock+1,?_,?_,fun z'=> ?_,stamped_push hst h4⟩⟩
   . rw[start,Sem.run_bind,jf h2 h3]
     exact hr
   . congr 3;apply Array.ext';simp
   . intro e he
     rcases List.mem_append.1 he with he|he
     . exact hk e he
     . rw[List.mem_singleton]at he;subst he;exact⟨z,rfl⟩
   . rw[FE (z:=z) (v:=v) ⟨rfl,rfl⟩ h4,hl]
 . obtain⟨h8,h9⟩:=h7 (fun e=>{e with key:= .int .i64 z,val:=v}) v (fun e=>⟨rfl,rfl⟩)
   obtain⟨w',hr,hm'⟩:=sL (P:=X.P) (es':=(⟨es⟩:Array MapEntry).modify (0+j) fun e=>{e with key:= .int .i64 z,val:=v}) (c':=clock) hm
   refine⟨_,w',key w' ?_,hm',h _ ⟨es.modify j fun e=>{e with key:= .int .i64 z,val:=v},clock,?_,h8,fun z'=> ?_,stamped_modify hst h5 h6⟩⟩
   . rw[start,Sem.run_bind,jf h2 h3]
     simp only[Result.andThen_ok]
     have ek:(((⟨es⟩:Array MapEntry)[0+j]?).map (·.key)).getD (.int .i64 z)= .int .i64 z:=by
      have:(⟨es⟩:Array MapEntry)[0+j]? =some x':=by rw[Nat.zero_add];simpa using h5
      rw[this];exact h6
     rw[ek,Sem.run_bind]
     unfold Instr.keyThatStays
     rw[if_pos (wD z)]
     exact hr
   . congr 3;apply Array.ext';simp
   . rw[h9,hl]
end
end Go.Sx
end
section
namespace Go.Sx
open Go
variable[au]
theorem lZ{P:Program}{f:Nat}{fn:Func}{id d n:Nat}{rest:Code}{vs:List Value}{hs:List Chunk}{N:Value->List Chunk->Prop}{tys:Array Nat}{ty':Nat}{pos:String}{after:Array Edge}
 (hf:P.funcs[f]? =some fn)(hb:fn.body=some (.seq (.region id #[⟨some d,.call ⟨.builtin .recover,#[],tys⟩,ty',pos,after,none⟩] false) rest))(hn:fn.ntmps=n)(hlen:Nat.ble vs.length n=true)(hdn:Nat.ble (d+1) n=true)
 {u u':FrameMode}{rv:Value}(RB:∀(c:Frame) (cs:List Frame),c.mode=u->recoverD (c::cs)=some (rv,{c with mode:=u'}::cs)\/(recoverD (c::cs)=none/\rv= .nilIface/\u'=u))
 (h:TT ⟨P,fn,n,Post N⟩ rest .fin ((d,rv)::ins 0 vs) hs){w:World}(hm:Mem hs w):
 CallsD P f ⟨vs⟩ u w fun e P8 w'=>P8=u'/\∃v hs',e= .returned v/\N v hs'/\Mem hs' w':=by
 refine callsD_of_wpS hf hb fun c₀ cs hu=>wpS_seq (wpS_region ?_)
 have hlen':=Nat.le_of_ble_eq_true hlen
 have ha:Fits n (ins 0 vs) {tmps:=(⟨vs⟩:Array Value)++Array.replicate (fn.ntmps-(⟨vs⟩:Array Value).size) undef,defers:=[]}:=by
  refine⟨by simp[hn];omega,rfl,?_⟩
  intro t v hl
  obtain⟨j,rfl,hj⟩:=oG vs 0 t v hl
  have hjl:j<vs.length:=(List.getElem?_eq_some_iff.1 hj).1
  rw[Nat.zero_add,Array.getD_eq_getD_getElem?,Array.getElem?_append_left (by simpa using hjl)]
  simp[hj]
 generalize({tmps:=(⟨vs⟩:Array Value)++Array.replicate (fn.ntmps-(⟨vs⟩:Array Value).size) undef,defers:=[]}:Act)=a at ha
 have go:∀cs',cs'={c₀ with mode:=u'}::cs->(rest.wpS P (bodyPostS P fn c₀ cs fun e P8 w'=>P8=u'/\∃v hs',e= .returned v/\N v hs'/\Mem hs' w')) (a.put (some d) rv) cs' w:=by
  rintro cs' rfl
  refine wpS_of_wp (wp_mono (h _ w (ha.put hdn rv) hm) ?_)
  intro e a' w' hq
  cases e with
  |normal=>obtain⟨h1,v,h2,h3⟩:=hq;exact⟨h1,u',rfl,v,h2,rfl,h3⟩
  |ret=>obtain⟨h1,v,h2,h3⟩:=hq;exact⟨h1,u',rfl,v,h2,rfl,h3⟩
  |panic ch=>obtain⟨_,v,hs',h3,_⟩:=hq;cases h3
  |outgrown=>obtain⟨v,hs',h3,_⟩:=hq;cases h3
  |exit id=>exact hq
  |goto l=>exact hq
 have hex:(execOp a.eval ⟨some d,.call ⟨.builtin .recover,#[],tys⟩,ty',pos,after,none⟩).run P w= .ok .recover w:=rfl
 show wpOpsS P _ _ [0] a (c₀::cs) w
 unfold wpOpsS
 simp only[List.getElem?_toArray,List.getElem?_cons_zero]
 rw[if_pos (by rfl),hex]
 dsimp only
 rcases RB c₀ cs hu with h1|⟨h1,rfl,rfl⟩
 . rw[h1]
   exact go _ rfl
 . rw[h1]
   exact go _ (by subst hu;rfl)
omit [au] in
theorem wF(c:Frame)(cs:List Frame)(h:c.mode= .returning):recoverD (c::cs)=none:=by
 unfold recoverD
 dsimp only
 rw[h]
omit [au] in
theorem wG(v:Value)(c:Frame)(cs:List Frame)(h:c.mode= .panicking [{v,recovered:=false}]):recoverD (c::cs)=some (v,{c with mode:= .panicking [{v,recovered:=true}]}::cs):=by
 unfold recoverD
 dsimp only
 rw[h]
section
variable{X:Cx}{k:dx}{R:ee}{hs:List Chunk}{ops:Array Oper}{l:List Oper}{d ty':Nat}{pos:String}{after:Array Edge}{gd:Option (Nat×Bool)}
theorem OT.Da{x:Operand}{xt t:Nat}{v:Value}{D:TypeDesc}(hu:X.P.underlying t=some D)(hD:(match D with| .interface _=>false|_=>true)=true)(hg:dX ops R gd=some true)(hx:ev R x=some (.iface t v))(hdn:Nat.ble (d+1) X.n=true)
 (h:OT X ops l k ((d,.tuple ⟨[v,.bool true]⟩)::R) hs):OT X ops (⟨some d,.typeAssert x xt t true,ty',pos,after,gd⟩::l) k R hs:=by
 refine OT.value hg rfl hdn fun a w ha hm=>⟨_,hs,w,?_,hm,h⟩
 simp only[execOp,ha.ev hx,Instr.typeAssert]
 rw[Sem.run_bind,Sem.run_bind,run_underlying hu]
 cases D<;>first|(cases hD;done)|simp
theorem OT.HR{x:Operand}{t y:Nat}{ms:Array (String×TypeId)}(hu:X.P.underlying t=some (.interface ms))(hg:dX ops R gd=some true)(hx:ev R x=some .nilIface)(hdn:Nat.ble (d+1) X.n=true)
 (h:OT X ops l k ((d,.bool true)::R) hs):OT X ops (⟨some d,.binOp .eql t x (.const .nilIface) y,ty',pos,after,gd⟩::l) k R hs:=by
 refine OT.value hg rfl hdn fun a w ha hm=>⟨_,hs,w,?_,hm,h⟩
 have he:(Op.equal t .nilIface .nilIface).run X.P w= .ok true w:=by
  show(Op.equalIn (9999+1) t .nilIface .nilIface).run X.P w=_
  rw[Op.equalIn,Sem.run_bind,run_underlying hu]
  rfl
 simp only[execOp,ha.ev hx]
 rw[Sem.run_bind,Sem.run_bind]
 have hgd:(eqGuard .eql t x (.const .nilIface) .nilIface .nilIface).run X.P w= .ok () w:=by
  unfold eqGuard
  simp
 show Result.andThen (Result.andThen ((eqGuard .eql t x (.const .nilIface) .nilIface .nilIface).run X.P w) fun _ w=>((Op.equal t .nilIface .nilIface)>>=fun b=>pure (Value.bool b)).run X.P w) _=_
 rw[hgd]
 simp only[Result.andThen_ok]
 rw[Sem.run_bind,he]
 rfl
end
omit [au] in
theorem iQ{P:Program}{fn:Func}{E:Ending->World->Prop}{e:Exit}{a:Act}{w:World}(h:bodyPost P fn E e a w):bodyPostD P fn E e a w:=by
 cases e with
 |normal=>obtain⟨h1,v,h2,h3⟩:=h;show Leaves P fn a.tmps E a.defers .returning w;rw[h1];exact⟨v,h2,h3⟩
 |ret=>obtain⟨h1,v,h2,h3⟩:=h;show Leaves P fn a.tmps E a.defers .returning w;rw[h1];exact⟨v,h2,h3⟩
 |panic ch=>obtain⟨h1,h2⟩:=h;show Leaves P fn a.tmps E a.defers (.panicking ch) w;rw[h1];exact h2
 |outgrown=>exact h
 |exit id=>exact h
 |goto l=>exact h
theorem B1{X:Cx}{x y:Code}{R:ee}{hs:List Chunk}{ι:Type}(A:ι->Prop)(S:ι->ee)(H:ι->List Chunk)(h:TT X x (.loop (fun a w=>∃j:ι,A j/\Fits X.n (S j) a/\Mem (H j) w) .fin) R hs)
 (hy:∀j a w,A j->Fits X.n (S j) a->Mem (H j) w->y.wp X.P (bodyPostD X.P X.fn X.E) a w){a:Act}{w:World}(ha:Fits X.n R a)(hm:Mem hs w):(Code.seq x y).wp X.P (bodyPostD X.P X.fn X.E) a w:=by
 refine wp_seq (wp_mono (h a w ha hm) ?_)
 intro e a' w' hq
 cases e with
 |normal=>obtain⟨j,h1,h2,h3⟩:=hq;exact hy j a' w' h1 h2 h3
 |exit id=>exact iQ (P:=X.P) (fn:=X.fn) (E:=X.E) (e:= .exit id) (a:=a') (w:=w') hq
 |goto l=>exact iQ (P:=X.P) (fn:=X.fn) (E:=X.E) (e:= .goto l) (a:=a') (w:=w') hq
 |ret=>exact iQ (P:=X.P) (fn:=X.fn) (E:=X.E) (e:= .ret) (a:=a') (w:=w') hq
 |panic ch=>exact iQ (P:=X.P) (fn:=X.fn) (E:=X.E) (e:= .panic ch) (a:=a') (w:=w') hq
 |outgrown=>exact iQ (P:=X.P) (fn:=X.fn) (E:=X.E) (e:= .outgrown) (a:=a') (w:=w') hq
omit [au] in
theorem rV{P:Program}{ops:Array Oper}{Q:Exit->Act->World->Prop}{l:List Oper}{a:Act}{w:World}{o:Oper}{r:Result Next}(hg:o.guard=none)(hr:(execOp a.eval o).run P w=r)(h:o.upon P a (wpList P ops Q l) Q r):wpList P ops Q (o::l) a w:=by
 simp only[wpList]
 have:Region.wanted o (yielded ops a.tmps)=true:=by unfold Region.wanted;rw[hg]
 rw[if_pos this]
 refine Or.inl ?_
 unfold Oper.wp
 rw[hr]
 exact h
omit [au] in
theorem Fits.start{fn:Func}{n:Nat}{vs:List Value}(hn:fn.ntmps=n)(hlen:Nat.ble vs.length n=true):Fits n (ins 0 vs) {tmps:=(⟨vs⟩:Array Value)++Array.replicate (fn.ntmps-(⟨vs⟩:Array Value).size) undef,defers:=[]}:=by
 have hlen':=Nat.le_of_ble_eq_true hlen
 refine⟨by simp[hn];omega,rfl,?_⟩
 intro t v hl
 obtain⟨j,rfl,hj⟩:=oG vs 0 t v hl
 have hjl:j<vs.length:=(List.getElem?_eq_some_iff.1 hj).1
 rw[Nat.zero_add,Array.getD_eq_getD_getElem?,Array.getElem?_append_left (by simpa using hjl)]
 simp[hj]
omit [au] in
theorem Aw{P:Program}{ρ:Operand->Value}{x:Operand}{g:Nat}{caps:List Value}{d:Option Nat}{tys:Array Nat}{ty':Nat}{pos:String}{after:Array Edge}{gd:Option (Nat×Bool)}{w:World}(hx:ρ x= .func (.func g) ⟨[]⟩ ⟨caps⟩)(hc:∀args w,(callFunc g args).run P w= .ok (.enter g args) w):
 (execOp ρ ⟨d,.call ⟨.value x,#[],tys⟩,ty',pos,after,gd⟩).run P w= .ok (.enter g ⟨caps⟩) w:=by
 simp only[execOp,resolve,hx,Deferred.ofValue]
 have e3:(#[]:Array Operand).map ρ= #[]:=by simp
 rw[e3]
 show((pure {target:= .fn (.func g) ⟨caps⟩,args:=(⟨[]⟩:Array Value)++ #[]}:Sem Deferred)>>=fun d=>invoke d.target d.args).run P w=_
 rw[Sem.run_bind]
 show(invoke (.fn (.func g) ⟨caps⟩) ((⟨[]⟩:Array Value)++ #[])).run P w=_
 have e2:((⟨[]⟩:Array Value)++(#[]:Array Value))++(⟨caps⟩:Array Value)=⟨caps⟩:=by apply Array.ext';simp
 simp only[invoke,e2,hc]
omit [au] in
theorem Ax{P:Program}{ρ:Operand->Value}{x y:Operand}{t:Nat}{b o:Nat}{v:Value}{ty':Nat}{pos:String}{after:Array Edge}{gd:Option (Nat×Bool)}{w w':World}(hx:ρ x= .pointer (some ⟨b,o,none⟩))(hy:ρ y=v)(hr:(storeVar t ⟨b,o,none⟩ v).run P w= .ok () w'):
 (execOp ρ ⟨none,.store t x y,ty',pos,after,gd⟩).run P w= .ok .skip w':=by
 simp only[execOp,hx,hy,Instr.storeAt,Instr.sureAddr]
 simp[hr]
end Go.Sx
end
section
namespace Go.Sx
open Go
def mO(I:Chunk->Prop)(E:Int->Chunk->Prop)(x:Int×List UInt8)(e:Int)(bs:List UInt8)(H:Chunk):Prop:=
 (e=0/\x=(0,bs)/\I H)\/(e≠0/\bs=[]/\(x.1=e/\I H\/E e H))
section
variable[au]
structure ni(P:Program)(u8:Nat)(v:Value)(I:Chunk->Prop)(E:Int->Chunk->Prop)(pg:Int->Int×List UInt8):Prop where
 is:∃t u f rv,v= .iface t u/\(∀w,(method (P.types.size+Made.depth) t u "Page").run P w= .ok (f,rv) w)/\(∀args w,(callFunc f args).run P w= .ok (.enter f args) w)/\
  ∀(no:Int) (H:Chunk) (r:List Chunk), -9223372036854775808<=no->no<=9223372036854775807->I H->aA P f [rv,.int .i64 no] (H::r) fun v' hs'=>∃H' K w e bs,hs'=H'::K::r/\v'= .tuple ⟨[w,.int .i64 e]⟩/\Own aB 1 u8 w bs K/\mO I E (pg no) e bs H'
theorem ni.iface{P:Program}{u8:Nat}{v:Value}{I:Chunk->Prop}{E:Int->Chunk->Prop}{pg:Int->Int×List UInt8}(h:ni P u8 v I E pg):∃t u,v= .iface t u:=by
 obtain⟨t,u,_,_,e,_⟩:=h.is;exact⟨t,u,e⟩
variable{X:Cx}{k:dx}{R:ee}{hs:List Chunk}{ops:Array Oper}{l:List Oper}{d ty':Nat}{pos:String}{after:Array Edge}{gd:Option (Nat×Bool)}
theorem OT.kS{x:Operand}{xs:Array Operand}{tys:Array Nat}{v:Value}{u8:Nat}{I:Chunk->Prop}{E:Int->Chunk->Prop}{pg:Int->Int×List UInt8}{no:Int}{H:Chunk}{r:List Chunk}(hP:ni X.P u8 v I E pg)
 (hg:dX ops R gd=some true)(hx:ev R x=some v)(hxs:ng R xs.toList=some [.int .i64 no])(hdn:Nat.ble (d+1) X.n=true)(hp:aR hs H r)(hI:I H)(h1: -9223372036854775808<=no)(h2:no<=9223372036854775807)
 (h:∀H' K w e bs,Own aB 1 u8 w bs K->mO I E (pg no) e bs H'->OT X ops l k ((d,.tuple ⟨[w,.int .i64 e]⟩)::R) (H'::K::r)):OT X ops (⟨some d,.call ⟨.invoke x "Page",xs,tys⟩,ty',pos,after,gd⟩::l) k R hs:=by
 obtain⟨t,u,f,rv,rfl,hm,hc,hF⟩:=hP.is
 refine OT.invoke (fun w _=>hm w) hc hg hx hxs hdn (aA.pull hp (hF no H r h1 h2 hI)) ?_
 rintro v' hs' ⟨H',K,w,e,bs,rfl,rfl,hO,hR⟩
 exact h H' K w e bs hO hR
theorem AT.conv{Cs:List Chunk}{fuel:Nat}{listed:List Bool}{D:List Nat}{T:aE}{s t' e:Nat}{x:Operand}{v:Value}{xs:List UInt8}(i:Nat)(hi:ops.toList[i]? =some ⟨some d,.convert s t' x,ty',pos,after,gd⟩)(hs0:Region.noSelect ops=true)(hfree:(Region.free .any ops ⟨listed⟩ i&&vq ops D listed i)=true)
 (fQ:(Region.ready .any ops ⟨listed⟩).contains i=true)(hT:T.ok X.P)(hs':ty T s=some (.slice e 1))(he:ty T e=some (.one (.int .u8)))(ht:ty T t'=some (.one .string))(hg:dX ops R gd=some true)(hx:ev R x=some v)(hrow:Row aB 1 Cs v xs)(hdn:Nat.ble (d+1) X.n=true)
 (h:AT X ops Cs k fuel (listed.set i true) ((d,.string ⟨⟨xs⟩⟩)::R) hs D):AT X ops Cs k (fuel+1) listed R hs D:=by
 refine AT.Bj i hi rfl hs0 hfree fQ hg (fun a w ha hm=> ?_) hdn h
 obtain⟨a0,c0,hv⟩:=hrow.len
 have h1:=jk (P:=X.P) (fun _=>rfl) hrow hm
 simp only[execOp,ha.ev hx]
 rw[hv]at h1⊢
 rw[Sem.run_bind,run_convert_bytes_string w s t' e a0 xs.length c0 (hT.ty hs').1 (hT.ty he).1 (hT.ty ht).1,h1]
 rfl
end
end Go.Sx
end
section
namespace Go.Sx
open Go
theorem Db{P:Program}{ops:Array Oper}{Q:Exit->Act->World->Prop}{J J':Array Bool->World->Prop}(hJ:∀l w,J' l w->J l w):∀(fuel:Nat) (listed:Array Bool) (a:Act) (w:World),wU P ops Q J' fuel listed a w->wU P ops Q J fuel listed a w:=by
 intro fuel
 induction fuel with
 |zero=>intro listed a w h;exact⟨hJ _ _ h.1,h.2⟩
 |succ fuel ih=>intro listed a w h;exact⟨hJ _ _ h.1,h.2.1,fun i hi=>wpOp_mono (fun a w=>ih _ a w) (h.2.2 i hi)⟩
theorem AT.cs[au]{X:Cx}{k:dx}{R:ee}{hs Cs:List Chunk}{ops:Array Oper}{fuel:Nat}{listed:List Bool}{D:List Nat}(S8:List Chunk)(hsel:bp S8 Cs)(h:AT X ops S8 k fuel listed R hs D):AT X ops Cs k fuel listed R hs D:=
 fun a w ha hw=>Db (fun _ _ hm hd=>(hm hd).kf hsel) _ _ _ _ (h a w ha hw)
end Go.Sx
end
section
namespace Go.Sx
open Go
def qB(u:Nat):Bool:=decide (2047*2^52<u%2^63)
theorem sM(u:Nat):(FloatKind.f64.format.order u u !=some .eq)=qB u:=by
 show((Ieee.double.read u).order (Ieee.double.read u)!=some .eq)=qB u
 have e1:Ieee.double.signWeight=2^63:=by decide
 have e2:Ieee.double.infRung=2047*2^52:=by decide
 have e3:Ieee.double.binade=2^52:=by decide
 unfold Ieee.Format.read qB
 rw[e1,e2,e3]
 dsimp only
 split
 . rw[decide_eq_false (by omega)]
   simp[Ieee.Datum.order,Std.ReflCmp.compare_self]
 . split
   . rw[decide_eq_false (by omega)]
     simp[Ieee.Datum.order,Std.ReflCmp.compare_self]
   . split
     . rw[decide_eq_false (by omega)]
       simp[Ieee.Datum.order,Std.ReflCmp.compare_self]
     . rw[decide_eq_true (by omega)]
       rfl
section
variable[au]{X:Cx}{k:dx}{R:ee}{hs:List Chunk}{ops:Array Oper}{l:List Oper}{T:aE}{d ty':Nat}{pos:String}{after:Array Edge}{gd:Option (Nat×Bool)}
theorem OT.extern{x:Operand}{f:Nat}{xs:Array Operand}{tys:Array Nat}{vs:List Value}{v:Value}(hc:∀w,(callFunc f ⟨vs⟩).run X.P w= .ok (.value v) w)
 (hg:dX ops R gd=some true)(hx:ev R x=some (.func (.func f) #[] #[]))(hxs:ng R xs.toList=some vs)(hdn:Nat.ble (d+1) X.n=true)
 (h:OT X ops l k ((d,v)::R) hs):OT X ops (⟨some d,.call ⟨.value x,xs,tys⟩,ty',pos,after,gd⟩::l) k R hs:=by
 refine OT.value hg rfl hdn fun a w ha hm=>⟨v,hs,w,?_,hm,h⟩
 simp only[execOp,resolve,ha.ev hx,Deferred.ofValue]
 have e:xs.map a.eval=⟨vs⟩:=by
  have:=ha.ng hxs
  apply Array.ext'
  simpa using this
 rw[e]
 refine Eq.trans ?_ (hc w)
 simp[Go.invoke]
theorem OT.Oc{x y:Operand}{t t2:Nat}{u:Nat}(hg:dX ops R gd=some true)(hx:ev R x=some (.float .f64 u))(hy:ev R y=some (.float .f64 u))(hdn:Nat.ble (d+1) X.n=true)
 (h:OT X ops l k ((d,.bool (qB u))::R) hs):OT X ops (⟨some d,.binOp .neq t x y t2,ty',pos,after,gd⟩::l) k R hs:=by
 refine OT.value hg rfl hdn fun a w ha hm=>⟨_,hs,w,?_,hm,h⟩
 simp only[execOp,ha.ev hx,ha.ev hy]
 simp[eqGuard,binOp,Op.floatCmp,sM]
end
end Go.Sx
end
section
namespace Go.Sx
open Go Go.Proofs Go.MapKept
open Go.WideElems (Fit rd rg)
open Go.RowKit (Below)
variable[au]
def cS(m:Int->Option Value)(N:Nat):List Int:=((List.range N).map fun k:Nat=>(k:Int)).filter fun z=>(m z).isSome
omit [au] in
theorem x2{es:List MapEntry}(hk:j8 es){z:Int}:(pF es z).isSome=true↔Value.int .i64 z∈es.map (·.key):=by
 induction es with
 |nil=>simp[pF]
 |cons e es ih=>
  obtain⟨a,ha⟩:=hk e (by simp)
  have hk':j8 es:=fun x hx=>hk x (by simp[hx])
  simp only[pF,List.map_cons,List.mem_cons,ha,l7,Option.some.injEq,Value.int.injEq,true_and]
  by_cases h:a=z
  . subst h;simp
  . rw[if_neg h,ih hk']
    constructor
    . exact .inr
    . rintro(h2|h2)
      . exact absurd h2.symm h
      . exact h2
def Mo:Value->Option (DataW Unit×List MemPlace):=fun _=>some (.nil,[])
omit [au] in
theorem m8(m:Int->Option Value)(N:Nat):(cS m N).Pairwise fun x y=>x<y:=by
 unfold cS
 refine List.Pairwise.filter _ ?_
 rw[List.pairwise_map]
 exact List.pairwise_lt_range.imp fun h=>by omega
omit [au] in
theorem keys_perm{es:List MapEntry}(hk:j8 es)(hn:(es.map (·.key)).Nodup){m:Int->Option Value}(hm:∀z,pF es z=m z){N:Nat}(hN:∀z,m z≠none->0<=z/\z<N):(es.map fun e=>(l7 e.key).getD 0).Perm (cS m N):=by
 have key:∀e∈es,e.key= .int .i64 ((l7 e.key).getD 0):=fun e he=>by obtain⟨a,ha⟩:=hk e he;rw[ha];rfl
 have hd:(es.map fun e=>(l7 e.key).getD 0).Nodup:=by
  have:(es.map fun e=>Value.int .i64 ((l7 e.key).getD 0))=es.map (·.key):=List.map_congr_left fun e he=>(key e he).symm
  rw[<-this]at hn
  rw[show(es.map fun e=>Value.int .i64 ((l7 e.key).getD 0))=(es.map fun e=>(l7 e.key).getD 0).map (Value.int .i64) by rw[List.map_map];rfl]at hn
  exact(List.pairwise_map.1 hn).imp fun h e=>h (by rw[e])
 refine(List.perm_ext_iff_of_nodup hd ((m8 m N).imp fun h=>by omega)).2 fun z=> ?_
 have h1:z∈(es.map fun e=>(l7 e.key).getD 0)↔Value.int .i64 z∈es.map (·.key):=by
  simp only[List.mem_map]
  constructor
  . rintro⟨e,he,rfl⟩;exact⟨e,he,key e he⟩
  . rintro⟨e,he,h⟩;exact⟨e,he,by rw[h];rfl⟩
 rw[h1,<-x2 hk,hm]
 unfold cS
 rw[List.mem_filter]
 constructor
 . intro h
   obtain⟨h2,h3⟩:=hN z (by cases hz:m z<;>simp_all)
   exact⟨List.mem_map.2 ⟨z.toNat,List.mem_range.2 (by omega),by omega⟩,h⟩
 . exact fun h=>h.2
omit [au] in
theorem Ay{e:Nat}{w:World}{base:Nat}{v:Value}{ss:List Int}(h:w.ownsRow base e 1 v ss.length (ss.map (Value.int .i64))):
 (v= .slice none 0 0/\ss=[])\/∃g cap cur,v= .slice (some ⟨g,0,none⟩) ss.length cap/\base<=g/\w.heap[g]? =some (blk cur e (0,0))/\Own cM 1 e v ss [(g,blk cur e (0,0))]:=by
 obtain⟨_,⟨rfl,h⟩|⟨g,cap,cur,rfl,h1,h2,h3,_,h5,h6⟩⟩:=h
 . exact .inl ⟨rfl,List.eq_nil_of_length_eq_zero h⟩
 . refine .inr ⟨g,cap,cur.toList,rfl,h1,by rw[h2],fun _ _=>rfl,.inr ⟨g,cap,[],cur.toList.drop ss.length,(0,0),rfl,?_,h3,?_,.inl (Nat.le_refl _)⟩⟩
   . have em:∀l:List Int,l.flatMap cM=l.map (Value.int .i64):=by
      intro l
      induction l with
      |nil=>rfl
      |cons x l ih=>simpa using ih
     rw[em,<-h6,Nat.mul_one,List.nil_append,List.take_append_drop]
   . show(cap-ss.length)*1<=(cur.toList.drop ss.length).length
     have e1:(cur.toList.drop ss.length).length=cur.toList.length-ss.length:=List.length_drop ..
     have e2:cur.toList.length=cap:=by rw[Array.length_toList,h5,Nat.mul_one]
     omega
theorem HU{P:Program}{f g tM:Nat}(hK:∀(mb:Option Nat) (w:World),Calls P f #[.map mb] w fun e w'=>e= .returned (.func (.func g) #[] #[.pointer (some ⟨w.heap.size,0,none⟩)])/\w'=w.alloc (.cells #[.map mb] tM)){b:Nat}{hs:List Chunk}:
 aA P f [.map (some b)] hs fun v' hs'=>∃bx,v'= .func (.func g) ⟨[]⟩ ⟨[.pointer (some ⟨bx,0,none⟩)]⟩/\hs'=[(bx,blk [.map (some b)] tM (0,0))]::hs:=by
 intro w hm
 refine(hK (some b) w).mono ?_
 rintro e w' ⟨rfl,rfl⟩
 exact⟨_,_,rfl,⟨w.heap.size,rfl,rfl⟩,hm.alloc _⟩
theorem yM{P:Program}{f g tM tK tI:Nat}(hk:P.underlying tK=some (.int .i64))
 (hS:∀(b nn bx:Nat) (D0:DataW Unit) (w:World),bx<w.heap.size->w.cell? ⟨bx,0,none⟩=some (.map (some b))->w.ownsMap P tK Mo b nn D0->Maps.size D0<=4096->
  Calls P f #[.func (.func g) #[] #[.pointer (some ⟨bx,0,none⟩)]] w fun e w'=>∃(v:Value) (ss:List Int),e= .returned v/\ss.Perm (intKeys D0)/\
   w'.ownsRow w.heap.size tI 1 v ss.length ((ss.mergeSort fun x y=>decide (x<=y)).map encZ)/\(v= .slice none 0 0↔ss=[])/\Below w.heap.size w w')
 {m:Int->Option Value}{b bx:Nat}{M:Chunk}(hM:IsMap m b M){N:Nat}(hN:∀z,m z≠none->0<=z/\z<N)(P9:N<=4096){hs:List Chunk}:
 aA P f [.func (.func g) ⟨[]⟩ ⟨[.pointer (some ⟨bx,0,none⟩)]⟩] ([(bx,blk [.map (some b)] tM (0,0))]::M::hs) fun v' hs'=>∃H,hs'=H::[(bx,blk [.map (some b)] tM (0,0))]::M::hs/\Own cM 1 tI v' (cS m N) H:=by
 intro w hm
 obtain⟨es,clock,rfl,hki,hl,hst⟩:=hM.is
 have hb:=hm.heap (b:=b) (o:= .map ⟨es⟩ clock) (.there .one)
 have S9:=hm.heap (b:=bx) .one
 have xC:=keys_perm hki hst.2.2 hl hN
 have hlen:es.length<=4096:=by
  have:=xC.length_eq
  rw[List.length_map]at this
  rw[this]
  unfold cS
  refine Nat.le_trans (List.length_filter_le _ _) ?_
  rw[List.length_map,List.length_range];exact P9
 have hkey:∀x∈es,∃z,x.key= .int .i64 z/\keyOf P tK x.key=some (.int .i64 z)/\(l7 x.key).getD 0=z:=fun x hx=>by
  obtain⟨z,hz⟩:=hki x hx
  have h1:(pF es z).isSome=true:=(x2 hki).2 (List.mem_map.2 ⟨x,hx,hz⟩)
  obtain⟨h2,h3⟩:=hN z (by rw[<-hl];intro h;rw[h]at h1;cases h1)
  refine⟨z,hz,?_,by rw[hz];rfl⟩
  rw[hz]
  exact Maps.keyOf_int_mk hk (by simp[Lit.wf,IntKind.min,IntKind.max,IntKind.bits,IntKind.signed];omega)
 have hrd:∀x∈es,∃z,x.key= .int .i64 z/\rd P tK Mo x=some (.int .i64 z,.nil)/\(l7 x.key).getD 0=z:=fun x hx=>by
  obtain⟨z,h1,h2,h3⟩:=hkey x hx
  exact⟨z,h1,by unfold rd;rw[h2];rfl,h3⟩
 have hown:w.ownsMap P tK Mo b es.length (.map ((es.map (rg P tK Mo)).foldr DataW.insert [])):=
  ⟨⟨es⟩,clock,hb,⟨Nat.le_trans hlen (by decide),hst,fun x hx=>by obtain⟨z,_,h,_⟩:=hrd x hx;exact⟨_,h⟩⟩,Nat.le_refl _,rfl⟩
 have hik:(intKeys (.map ((es.map (rg P tK Mo)).foldr DataW.insert []):DataW Unit)).Perm (cS m N):=by
  refine List.Perm.trans ?_ xC
  refine((WideShapes.sorted_perm _).map _).trans ?_
  rw[List.map_map]
  refine List.Perm.of_eq (List.map_congr_left fun x hx=> ?_)
  obtain⟨z,_,h,h3⟩:=hrd x hx
  rw[h3]
  show intOf (rg P tK Mo x).1=z
  unfold rg;rw[h];rfl
 refine(hS b es.length bx _ w (Array.getElem?_eq_some_iff.1 S9).1 (by simp[World.cell?,S9]) hown ?_).mono ?_
 . rw[Maps.size_eq,DataW.length_sorted,List.length_map];exact hlen
 rintro e w' ⟨v,ss,rfl,hp,hrow,_,hB⟩
 have S_:(ss.mergeSort fun x y=>decide (x<=y))=cS m N:=by
  have h1:(ss.mergeSort fun x y=>decide (x<=y)).Perm (cS m N):=((List.mergeSort_perm _ _).trans hp).trans hik
  refine List.Perm.eq_of_pairwise (le:=fun x y=>x<=y) ?_ ?_ ?_ h1
  . intro a b _ _ h2 h3;omega
  . exact(List.pairwise_mergeSort (le:=fun x y:Int=>decide (x<=y)) (fun a b c h1 h2=>by simp at*;omega) (fun a b=>by simp;omega) ss).imp fun h=>by simpa using h
  . exact(m8 m N).imp fun h=>by omega
 have RC:ss.length=(cS m N).length:=by rw[<-S_,List.length_mergeSort]
 rw[S_,RC]at hrow
 have hin:∀c o,(c,o)∈([(bx,blk [.map (some b)] tM (0,0))]::[(b,.map ⟨es⟩ clock)]::hs).flatten->c<w.heap.size/\w'.heap[c]? =some o:=fun c o hc=>by
  have h1:=hm.has c o hc
  have h2:=(Array.getElem?_eq_some_iff.1 h1).1
  exact⟨h2,(hB.block c h2).trans h1⟩
 rcases Ay hrow with⟨rfl,h0⟩|⟨g',cap,cur,rfl,h1,h2,h3⟩
 . refine⟨_,_,rfl,⟨[],rfl,by rw[h0];exact Own.nil⟩,?_,?_,?_⟩
   . have:=hm.nodup;simpa using this
   . intro c o hc;exact(hin c o (by simpa using hc)).2
   . exact⟨hB.os.trans hm.outer.1,hB.output.trans hm.outer.2⟩
 . refine⟨_,_,rfl,⟨_,rfl,h3⟩,?_,?_,?_⟩
   . rw[List.flatten_cons,List.singleton_append,List.map_cons,List.nodup_cons]
     refine⟨?_,hm.nodup⟩
     intro hmem
     obtain⟨⟨c,o⟩,hc,e⟩:=List.mem_map.1 hmem
     have:=(hin c o hc).1
     simp only at e;omega
   . intro c o hc
     rw[List.flatten_cons,List.singleton_append,List.mem_cons]at hc
     rcases hc with hc|hc
     . injection hc with e1 e2;subst e1 e2;exact h2
     . exact(hin c o hc).2
   . exact⟨hB.os.trans hm.outer.1,hB.output.trans hm.outer.2⟩
end Go.Sx
end
