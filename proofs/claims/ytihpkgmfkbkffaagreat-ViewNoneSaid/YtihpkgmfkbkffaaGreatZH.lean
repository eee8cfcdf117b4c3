/- Part 8 of what the proofs of these rest on: Pages, None, Open. -/
import Derived.Test.YtihpkgmfkbkffaaGreatZC
import Derived.Test.YtihpkgmfkbkffaaGreatZB
import Derived.Test.YtihpkgmfkbkffaaGreatIter
import Derived.Test.YtihpkgmfkbkffaaGreatShelf
import Derived.Test.YtihpkgmfkbkffaaGreatZF
import Derived.Test.YtihpkgmfkbkffaaGreatZG
set_option linter.unusedVariables false
set_option linter.unusedSimpArgs false
set_option linter.unusedSectionVars false
section
namespace Go.Proofs.YtihpkgmfkbkffaaGreat.Sx
open Go Go.Sx Go.Pl
variable[au]
open Go.Maps Go.Proofs Go.RowKit in
omit [au] in
theorem Gs(m:Nat):AnyZI.SortsIn Tryz.prog Tryz.sortedI_ren Fence.wide m:=
 ⟨fun blk off cap ss W hH hblk hsz=>callsIn_wide.2 (Tryz.slices_Sort_int blk off cap ss W hH hblk hsz),fun p cap W=>callsIn_wide.2 (Tryz.slices_Sort_int_none p cap W)⟩
open Go.Maps Go.Proofs Go.RowKit in
theorem IQ{b:Nat}{hs:List Chunk}:aA Tryz.prog 81 [.map (some b)] hs fun v' hs'=>∃bx,v'= .func (.func 125) ⟨[]⟩ ⟨[.pointer (some ⟨bx,0,none⟩)]⟩/\hs'=[(bx,blk [.map (some b)] 108 (0,0))]::hs:=
 HU (fun mb w=>(callsIn_wide (n:=5)).1 (AnyZI.keys_in Tryz.keysI Fence.wide 5 trivial rfl mb w))
open Go.Maps Go.Proofs Go.RowKit in
theorem DR{m:Int->Option Value}{b bx:Nat}{M:Chunk}(hM:IsMap m b M){N:Nat}(hN:∀z,m z≠none->0<=z/\z<N)(P9:N<=4096){hs:List Chunk}:
 aA Tryz.prog 80 [.func (.func 125) ⟨[]⟩ ⟨[.pointer (some ⟨bx,0,none⟩)]⟩] ([(bx,blk [.map (some b)] 108 (0,0))]::M::hs) fun v' hs'=>∃H,hs'=H::[(bx,blk [.map (some b)] 108 (0,0))]::M::hs/\Own Go.Sx.cM 1 3 v' (cS m N) H:=by
 refine yM (tK:=3) Tryz.underlying3 (fun b nn bx D0 w hlt hcell hown hsz=> ?_) hM hN P9
 have hseq:SeqGives Fence.wide 2 Tryz.prog 125 #[.pointer (some ⟨bx,0,none⟩)] encZ (fun ss=>ss.Perm (intKeys D0)) (Maps.size D0) w:=
  AnyZI.keys_gives (ρ:=Tryz.keysI_ren) {Tryz.keysI with} Fence.wide _ trivial rfl (by omega) bx b nn D0 _ hlt hcell hown
 refine(callsIn_wide (n:=5)).1 ((AnyZI.sorted_in Tryz.sortedI Fence.wide 5 trivial trivial trivial trivial rfl (by omega) (Gs _) (enters_of Tryz.func124 kr rfl) 125 #[.pointer (some ⟨bx,0,none⟩)] trivial (enters_of Tryz.func125 kr rfl) _ _ (Nat.le_trans hsz (by decide)) (by omega) _ hseq).mono ?_)
 rintro e w' ⟨v,ss,h1,h2,h3,h4,h5⟩
 exact⟨v,ss,h1,h2,h3,h4,h5⟩
end Go.Proofs.YtihpkgmfkbkffaaGreat.Sx
end
section
namespace Go.Proofs.YtihpkgmfkbkffaaGreat.Sx
open Go Go.Sx Go.Pl
variable[au]
omit [au] in
theorem EI:rU Tryz.prog 108 9 (.string ⟨#[]⟩):=⟨⟨3,Tryz.underlying108,Tryz.underlying3⟩,Tryz.zeroValue9⟩
set_option maxHeartbeats 1000000 in
set_option maxRecDepth 100000 in
theorem za{v:Value}{xs:List UInt8}{hs:List Chunk}(hr:Row Go.Sx.aB 1 hs v xs)(hl:xs.length<=1073741824):aA Tryz.prog 126 [v] hs (fun v' hs'=>∃H',hs'=H'::hs/\Own Go.Sx.aB 1 5 v' xs H'):=by
 refine aA.enter 8 Tryz.func126 rfl Tryz.ntmps126 rfl ?_
 obtain⟨a0,c0,hv⟩:=hr.len
 subst hv
 refine TT.seq (.region (.U hT 1 rfl (.nil (.seq (.seq (.seq (.region (.U hT 2 rfl (.nil (.seq (.cond rfl (fun c4=> ?_) (fun c4=> ?_))))))))))))
 .
  obtain rfl:a0=none:=by cases a0 with|none=>rfl|some x=>cases c4
  have hx:=hr.B0
  refine TT.seq (.region (.U hT 1 rfl (.nil (.seq (.ret (.of (rs:=[.tmp 2]) [_] ([]::hs) rfl (.tmp rfl .nil) sl ?_))))))
  try dsimp only[one]
  exact⟨_,rfl,by rw[hx];exact Own.nil⟩
 .
  refine TT.skip (.seq (.seq (.region ?_)))
  refine OT.buildSlice (enc:=Go.Sx.aB) (xs:=([]:List UInt8)) (gQ:=[]) eW rfl rfl rfl rfl rfl (by intro v hv;cases hv) (by intro v hv;cases hv) rfl (by decide) rfl (fun Tr VS KQ=> ?_)
  refine OT.U hT 1 rfl ?_
  refine OT.append hT eW rfl rfl rfl rfl pl KQ hr.there (sU _) (by simp only[List.length_nil];omega) rfl (fun CV M9 EH=> ?_)
  refine OT.U hT 1 rfl (.nil (.seq (.ret (.of (rs:=[.tmp 2]) [_] (M9::hs) rfl (.tmp rfl .nil) sl ?_))))
  try dsimp only[one]
  exact⟨_,rfl,EH⟩
set_option maxHeartbeats 1000000 in
set_option maxRecDepth 100000 in
theorem Aj{ti:Nat}{ui:Value}{I:Chunk->Prop}{H:Chunk}{r:List Chunk}(hI:I H):aA Tryz.prog 15 [.iface ti ui] (H::r) (fun v' hs'=>∃b H',v'= .pointer (some ⟨b,0,none⟩)/\hs'=H'::r/\i_ 110 b (.iface ti ui) I (fun _=>none) H'):=by
 refine aA.enter 7 Tryz.func15 rfl Tryz.ntmps15 rfl ?_
 refine TT.seq (.region (.U hT 1 rfl (.nil (.seq (.seq (.region (.U hT 1 rfl (.makeMap rfl rfl (fun nW QO HD=> ?_)))))))))
 refine OT.build (cs:=[.iface ti ui,.map (some nW)]) hT rfl Tryz.zeroValue110 rfl rfl rfl rfl (.box rfl rfl rfl (fun eG=> ?_))
 refine OT.U hT 1 rfl (.nil (.seq (.ret (.of (rs:=[.tmp 2]) [_] ((([(eG,blk [.iface ti ui,.map (some nW)] 110 (0,0))]++QO)++H)::r) rfl (.tmp rfl .nil) sl ?_))))
 try dsimp only[one]
 exact⟨eG,_,rfl,rfl,nW,QO,H,rfl,HD,gO.none,hI⟩
set_option maxHeartbeats 1000000 in
set_option maxRecDepth 100000 in
theorem Fp{b:Nat}{no:Int}{hs:List Chunk}:aA Tryz.prog 154 [.pointer (some ⟨b,0,none⟩),.int .i64 no] hs (fun v' hs'=>v'= .int .i64 (if aD no then 0 else 3)/\hs=hs'):=by
 refine aA.enter 15 Tryz.func154 rfl Tryz.ntmps154 rfl ?_
 refine TT.seq (.region (.U hT 1 rfl (.nil (.seq (.seq (.block (.seq (.region (.U hT 3 rfl (.nil (.seq (.cond_false rfl (.seq (.region (.U hT 3 rfl (.split 11 rfl (fun G0=> ?_) (fun G0=> ?_)))))))))))))))))
 .
  have G0:=of_decide_eq_true G0
  refine OT.U hT 4 rfl (.nil (.seq (.cond_true rfl (.seq (.region (.U hT 1 rfl (.nil (.seq (.ret (.of (rs:=[.tmp 4]) [_] hs rfl (.tmp rfl .nil) sl ?_))))))))))
  try dsimp only[one]
  exact⟨int_eq (by rw[if_neg (by unfold aD;omega)]),rfl⟩
 .
  have G0:=of_decide_eq_false G0
  refine OT.U hT 4 rfl (.nil (.seq (.cond rfl (fun c8=> ?_) (fun c8=> ?_))))
  .
   have c8:=of_decide_eq_true c8
   refine TT.seq (.region (.U hT 1 rfl (.nil (.seq (.ret (.of (rs:=[.tmp 4]) [_] hs rfl (.tmp rfl .nil) sl ?_))))))
   try dsimp only[one]
   exact⟨int_eq (by rw[if_neg (by unfold aD;omega)]),rfl⟩
  .
   have c8:=of_decide_eq_false c8
   refine TT.skip (.blk (.seq (.seq (.region (.U hT 1 rfl (.nil (.seq (.ret (.of (rs:=[.tmp 4]) [_] hs rfl (.tmp rfl .nil) sl ?_)))))))))
   try dsimp only[one]
   exact⟨int_eq (by rw[if_pos (by unfold aD;omega)]),rfl⟩
set_option maxHeartbeats 1000000 in
set_option maxRecDepth 100000 in
theorem yG{b:Nat}{P:Value}{I:Chunk->Prop}{E:Int->Chunk->Prop}{Qb:ah}(hP:cW Tryz.prog 5 P I E (aK Qb))(hQ:cQ Qb){bd:Bool}{m:iU}{H:Chunk}{r:List Chunk}(hH:i_ 110 b P (St I E bd) m H){no:Int}(hno:aD no):aA Tryz.prog 82 [.pointer (some ⟨b,0,none⟩),.int .i64 no] (H::r) (fun v' hs'=>∃nj H' K w e bs,hs'=H'::K::r/\v'= .tuple ⟨[w,.int .i64 e]⟩/\Own Go.Sx.aB 1 5 w bs K/\i_ 110 b P (St I E nj) m H'/\MM (0,Qb no) bd nj e bs):=by
 refine aA.enter 27 Tryz.func82 rfl Tryz.ntmps82 rfl ?_
 obtain⟨mb,M,G,rfl,hM,zM,hG⟩:=hH.is
 obtain⟨ti,ui,rfl⟩:=hP.iface
 refine TT.split (TT.split ?_)
 have Ec:aK Qb no=(0,Qb no):=by unfold aK;rw[if_pos hno]
 unfold aD at hno
 refine TT.seq (.region (.U hT 2 rfl (.nil (.seq (.seq (.seq (.region (.U hT 3 rfl (.load rfl rfl (Ld.one hT rfl hz rfl) rfl ?_)))))))))
 refine OT.U hT 1 rfl (.nil (.seq (.cond_false rfl (.skip (.seq (.seq (.region (.U hT 3 rfl (.load rfl rfl (Ld.one hT rfl hz rfl) rfl ?_)))))))))
 refine OT.U hT 1 rfl (.Of hP rfl rfl rfl rfl pl hG (by omega) (by omega) (fun JL w9 WY WZ KY JM oh Fq uy=> ?_))
 rw[Ec]at uy
 obtain⟨TA,zN,rfl⟩:=(oh.row (hs:=[])).len
 refine OT.U hT 5 rfl (.nil (.seq (.seq (.seq (.region (.U hT 2 rfl (.nil (.seq (.cond rfl (fun nk=> ?_) (fun nk=> ?_))))))))))
 .
  have nk:KY≠0:=by simpa using nk
  refine TT.seq (.region (.U hT 3 rfl (.nil (.seq (.ret (.of (rs:=[.tmp 4,.tmp 5]) [_,_] ((([(b,blk [.iface ti ui,.map (some mb)] 110 (0,0))]++M)++w9)::[]::r) rfl (.tmp rfl (.tmp rfl .nil)) sl ?_))))))
  try dsimp only[one]
  exact⟨JL,_,[],_,KY,[],rfl,rfl,Own.nil,⟨mb,M,w9,rfl,hM,zM,Fq⟩,uy.stay,fun h=>absurd h nk,fun h=>⟨(uy.good h).1,fun he=>absurd he nk,fun _=>rfl⟩,fun h1 h2=>⟨nk,rfl⟩⟩
 .
  have nk:KY=0:=by simpa using nk
  refine TT.skip (.seq (.seq (.region (.U hT 1 rfl (.call Tryz.call126 rfl rfl rfl rfl (za (xs:=JM) (oh.row.pull pl).there (by have:=uy.len nk;omega)) ?_)))))
  rintro CI Bz ⟨HC,rfl,nX⟩
  refine OT.U hT 2 rfl (.nil (.seq (.ret (.of (rs:=[.tmp 4,.tmp 5]) [_,_] ((([(b,blk [.iface ti ui,.map (some mb)] 110 (0,0))]++M)++w9)::HC::r) rfl (.tmp rfl (.tmp rfl .nil)) sl ?_))))
  try dsimp only[one]
  exact⟨JL,_,HC,_,0,JM,rfl,rfl,nX,⟨mb,M,w9,rfl,hM,zM,Fq⟩,by rw[nk]at uy;exact uy⟩
set_option maxHeartbeats 1000000 in
set_option maxRecDepth 100000 in
theorem Gt{b:Nat}{P:Value}{I:Chunk->Prop}{E:Int->Chunk->Prop}{Qb:ah}(hP:cW Tryz.prog 5 P I E (aK Qb))(hQ:cQ Qb){bd:Bool}{m:iU}{H:Chunk}{r:List Chunk}(hH:i_ 110 b P (St I E bd) m H){no:Int}:aA Tryz.prog 234 [.pointer (some ⟨b,0,none⟩),.int .i64 no] (H::r) (fun v' hs'=>∃nj H' K w e bs,hs'=H'::K::r/\v'= .tuple ⟨[w,.int .i64 e]⟩/\Own Go.Sx.aB 1 5 w bs K/\i_ 110 b P (St I E nj) m H'/\MM (aK (dD Qb m) no) bd nj e bs):=by
 refine aA.enter 32 Tryz.func234 rfl Tryz.ntmps234 rfl ?_
 obtain⟨mb,M,G,rfl,hM,zM,hG⟩:=hH.is
 obtain⟨ti,ui,rfl⟩:=hP.iface
 refine TT.split (TT.split ?_)
 refine TT.seq (.region (.U hT 2 rfl (.nil (.seq (.seq (.seq (.region (.U hT 2 rfl (.call Tryz.call154 rfl rfl rfl rfl (Fp) ?_)))))))))
 rintro qE kR ⟨rfl,rfl⟩
 refine OT.U hT 1 rfl (.nil (.seq (.seq (.region (.U hT 2 rfl (.nil (.seq (.cond rfl (fun gM=> ?_) (fun gM=> ?_)))))))))
 .
  have hno:¬aD no:=fun h=>by rw[if_pos h]at gM;cases gM
  refine TT.seq (.region (.U hT 3 rfl (.nil (.seq (.ret (.of (rs:=[.tmp 4,.tmp 5]) [_,_] ((([(b,blk [.iface ti ui,.map (some mb)] 110 (0,0))]++M)++G)::[]::r) rfl (.tmp rfl (.tmp rfl .nil)) sl ?_))))))
  try dsimp only[one]
  rw[if_neg hno]
  exact⟨bd,_,[],_,3,[],rfl,rfl,Own.nil,⟨mb,M,G,rfl,hM,zM,hG⟩,fun h=>h,fun h=>(by cases h),fun _=>⟨by unfold aK;rw[if_neg hno],fun h=>(by cases h),fun _=>rfl⟩,fun h1 h2=>(by rw[h1]at h2;cases h2)⟩
 .
  have hno:aD no:=Decidable.byContradiction fun h=>by rw[if_neg h]at gM;cases gM
  have Ec:aK (dD Qb m) no=(0,dD Qb m no):=by unfold aK;rw[if_pos hno]
  refine TT.skip (.seq (.seq (.seq (.region (.U hT 3 rfl (.load rfl rfl (Ld.one hT rfl hz rfl) rfl ?_))))))
  refine OT.U hT 1 rfl (.C_ EI rfl rfl rfl pl hM rfl ?_)
  refine OT.U hT 5 rfl (.nil (.seq (.seq (.region (.U hT 1 rfl (.nil (.seq (.cond rfl (fun tc=> ?_) (fun tc=> ?_)))))))))
  .
   obtain⟨x,hx⟩:∃x,m no=some x:=by
    cases hx:m no with
    |none=>unfold gh at tc;rw[hx]at tc;cases tc
    |some x=>exact⟨x,rfl⟩
   have hgd:(gh m no).getD (.string ⟨#[]⟩)= .string ⟨⟨x⟩⟩:=by unfold gh;rw[hx];rfl
   refine TT.eI 7 rfl hgd ?_
   have GP:=(zM no x hx).2
   refine TT.seq (.region (.U hT 1 rfl (.v7 hT rfl rfl rfl rfl rfl rfl (fun CI w_ iD=> ?_))))
   refine OT.U hT 2 rfl (.nil (.seq (.ret (.of (rs:=[.tmp 4,.tmp 5]) [_,_] ((([(b,blk [.iface ti ui,.map (some mb)] 110 (0,0))]++M)++G)::w_::r) rfl (.tmp rfl (.tmp rfl .nil)) sl ?_))))
   try dsimp only[one]
   exact⟨bd,_,_,_,0,x,rfl,rfl,iD,⟨mb,M,G,rfl,hM,zM,hG⟩,fun h=>h,fun _=>by rw[GP];decide,fun _=>⟨by rw[Ec],fun _=>by rw[Ec];unfold dD;rw[hx];rfl,fun h=>absurd rfl h⟩,fun h1 h2=>(by rw[h1]at h2;cases h2)⟩
  .
   have hx:m no=none:=by
    cases hx:m no with
    |none=>rfl
    |some x=>unfold gh at tc;rw[hx]at tc;cases tc
   refine TT.skip (.seq (.seq (.region (.U hT 2 rfl (.call Tryz.call82 rfl rfl rfl rfl (aA.join (aA.join (yG hP hQ hH hno))) ?_)))))
   rintro vv qt ⟨QS,H1,K1,w1,e1,pY,rfl,rfl,eJ,dF,G5⟩
   refine OT.U hT 4 rfl (.nil (.seq (.ret (.of (rs:=[.tmp 4,.tmp 5]) [_,_] (H1::K1::r) rfl (.tmp rfl (.tmp rfl .nil)) sl ?_))))
   try dsimp only[one]
   have hl:dD Qb m no=Qb no:=by unfold dD;rw[hx];rfl
   exact⟨QS,H1,K1,w1,e1,pY,rfl,rfl,eJ,dF,by rw[Ec,hl];exact G5⟩
theorem cu{b:Nat}{P:Value}{I:Chunk->Prop}{E:Int->Chunk->Prop}{Qb:ah}(hP:cW Tryz.prog 5 P I E (aK Qb))(hQ:cQ Qb){Qt:ah}:cW Tryz.prog 5 (.iface 24 (.pointer (some ⟨b,0,none⟩))) (aV 110 b P I Qb Qt) (cI 110 b P E) (aK Qt):=by
 refine⟨24,.pointer (some ⟨b,0,none⟩),234,.pointer (some ⟨b,0,none⟩),rfl,fun w=>by kernel_rfl,Tryz.call234,fun bd no H r h1 h2 hS=> ?_⟩
 have hH:∃m',i_ 110 b P (St I E bd) m' H/\(bd=false->Qt=dD Qb m'):=by
  cases bd with
  |false=>obtain⟨m,h,h2⟩:=hS;exact⟨m,h,fun _=>h2⟩
  |true=>obtain⟨_,m',h⟩:=hS;exact⟨m',h,fun h=>(by cases h)⟩
 obtain⟨m',hH,hm⟩:=hH
 refine(Gt hP hQ hH).mono ?_
 rintro v' hs' ⟨nj,H',K,w,e,bs,rfl,rfl,ho,hs,hr⟩
 refine⟨nj,H',K,w,e,bs,rfl,rfl,ho,?_,hr.stay,hr.len,fun h=> ?_,hr.fail⟩
 . cases nj with
   |false=>cases bd with
    |false=>exact⟨m',hs,hm rfl⟩
    |true=>exact absurd (hr.stay rfl) (by simp)
   |true=>exact⟨0,m',hs⟩
 . have hb:bd=false:=by cases bd with
    |false=>rfl
    |true=>rw[hr.stay rfl]at h;cases h
   rw[hm hb];exact hr.good h
set_option maxHeartbeats 1000000 in
set_option maxRecDepth 100000 in
theorem Ct{b:Nat}{P:Value}{t u}(hv:P= .iface t u){J:Chunk->Prop}{m:iU}{H:Chunk}{r:List Chunk}(hH:i_ 110 b P J m H){no:Int}{v:Value}{bs:List UInt8}(hr:Row Go.Sx.aB 1 r v bs)(hb:bs.length<=1073741824):aA Tryz.prog 109 [.pointer (some ⟨b,0,none⟩),.int .i64 no,v] (H::r) (fun v' hs'=>∃H',hs'=H'::r/\((¬aD no/\v'= .int .i64 3/\H'=H)\/(aD no/\bs.length≠256/\v'= .int .i64 1/\H'=H)\/(aD no/\bs.length=256/\v'= .int .i64 0/\i_ 110 b P J (mW m no bs) H'))):=by
 refine aA.enter 24 Tryz.func109 rfl Tryz.ntmps109 rfl ?_
 obtain⟨mb,M,G,rfl,hM,zM,hG⟩:=hH.is
 subst hv
 refine TT.split (TT.split ?_)
 obtain⟨a0,c0,hv⟩:=hr.len
 subst hv
 refine TT.seq (.region (.U hT 1 rfl (.nil (.seq (.seq (.seq (.region (.U hT 2 rfl (.call Tryz.call154 rfl rfl rfl rfl (Fp) ?_)))))))))
 rintro nZ jF ⟨rfl,rfl⟩
 refine OT.U hT 1 rfl (.nil (.seq (.seq (.region (.U hT 2 rfl (.nil (.seq (.cond rfl (fun fu=> ?_) (fun fu=> ?_)))))))))
 .
  have hno:¬aD no:=fun h=>by rw[if_pos h]at fu;cases fu
  refine TT.seq (.region (.U hT 2 rfl (.nil (.seq (.ret (.of (rs:=[.tmp 6]) [_] ((([(b,blk [.iface t u,.map (some mb)] 110 (0,0))]++M)++G)::r) rfl (.tmp rfl .nil) sl ?_))))))
  try dsimp only[one]
  exact⟨_,rfl,.inl ⟨hno,by rw[if_neg hno];rfl,rfl⟩⟩
 .
  have hno:aD no:=Decidable.byContradiction fun h=>by rw[if_neg h]at fu;cases fu
  refine TT.skip (.seq (.seq (.seq (.region (.U hT 3 rfl (.nil (.seq (.cond rfl (fun fO=> ?_) (fun fO=> ?_)))))))))
  .
   have fO:(bs.length:Int)≠256:=by simpa using fO
   refine TT.seq (.region (.U hT 1 rfl (.nil (.seq (.ret (.of (rs:=[.tmp 6]) [_] ((([(b,blk [.iface t u,.map (some mb)] 110 (0,0))]++M)++G)::r) rfl (.tmp rfl .nil) sl ?_))))))
   try dsimp only[one]
   exact⟨_,rfl,.inr (.inl ⟨hno,by omega,rfl,rfl⟩)⟩
  .
   have fO:(bs.length:Int)=256:=by simpa using fO
   refine TT.skip (.seq (.seq (.draw (([(b,blk [.iface t u,.map (some mb)] 110 (0,0))]::r)) mixed (.takes (fuel:=3) hT [0,1,2,4,5] kr kr rfl (.take (fuel:=2) hT 3 rfl rfl kr kr kr rfl (.load rfl (Ld.one hT rfl hz rfl)) rfl ?_)))))
   refine AT.conv (fuel:=1) 6 rfl kr kr kr hT rfl rfl rfl rfl rfl hr.there rfl (.op (fuel:=0) 7 kr rfl sl (.mapUpdate EI rfl rfl rfl rfl pl hM (fun jH n_=> ?_)))
   rw[show(Value.string ⟨⟨bs⟩⟩)= .string (JX bs)from rfl,FR]at n_
   refine OT.nil (.any (.done kr sl (.seq (.seq (.region (.U hT 1 rfl (.nil (.seq (.ret (.of (rs:=[.tmp 6]) [_] ((([(b,blk [.iface t u,.map (some mb)] 110 (0,0))]++jH)++G)::r) rfl (.tmp rfl .nil) sl ?_))))))))))
   try dsimp only[one]
   exact⟨_,rfl,.inr (.inr ⟨hno,by omega,rfl,mb,jH,G,rfl,n_,zM.ef hno (by omega),hG⟩)⟩
end Go.Proofs.YtihpkgmfkbkffaaGreat.Sx
end
section
namespace Go.Proofs.YtihpkgmfkbkffaaGreat.Sx
open Go Go.Sx Go.Pl
variable[au]
set_option maxHeartbeats 2000000 in
set_option maxRecDepth 100000 in
theorem s8{b:Nat}{P:Value}{I:Chunk->Prop}{E:Int->Chunk->Prop}{Qb:ah}(hP:cW Tryz.prog 5 P I E (aK Qb))(hQ:cQ Qb){bd:Bool}{m:iU}{H:Chunk}{r:List Chunk}(hH:i_ 110 b P (St I E bd) m H):aA Tryz.prog 47 [.pointer (some ⟨b,0,none⟩)] (H::r) (fun v' hs'=>∃nj ts HI H',hs'=HI::H'::r/\rZ 143 5 v' ts HI/\i_ 110 b P (St I E nj) m H'/\(bd=true->nj=true)/\(nj=false->jv ts=zA Qb (dD Qb m) 96)/\(∀x∈jv ts,aD x.1/\x.2.length=256)/\ts.length<=96):=by
 refine aA.enter 54 Tryz.func47 rfl Tryz.ntmps47 rfl ?_
 obtain⟨mb,M,G,rfl,hM,zM,hG⟩:=hH.is
 have Te:=hP
 obtain⟨ti,ui,rfl⟩:=hP.iface
 have nT:=FT m
 refine TT.split (TT.split ?_)
 refine TT.seq (.region (.U hT 1 rfl (.nil (.seq (.seq (.seq (.region (.U hT 2 rfl (.nil (.seq (.cond_false rfl (.skip (.seq (.seq (.region (.U hT 1 rfl (.nil (.seq (.seq (.seq (.region (.U hT 3 rfl (.load rfl rfl (Ld.one hT rfl hz rfl) rfl ?_)))))))))))))))))))))))
 refine OT.call Tryz.call81 rfl rfl rfl rfl (IQ) ?_
 rintro CL ur ⟨bx,rfl,rfl⟩
 refine OT.call Tryz.call80 rfl rfl rfl rfl (aA.weaken sl (DR hM (Ic zM) (by decide))) ?_
 rintro CP uw ⟨HK,rfl,qA⟩
 obtain⟨ak,ck,rfl⟩:=(qA.row (hs:=[])).len
 refine OT.U hT 2 rfl (.nil (.seq (.block (.jo (.jo (.loop (ι:=Nat×(List It)×Value×Chunk×Bool×Chunk) (fun j=>(j.1)<=(cS (gh m) 96).length/\(j.2.1).length<=(j.1)/\(∀u∈(j.2.1),Own Go.Sx.aB 1 5 u.1.v u.1.b u.2)/\Own rP 2 143 (j.2.2.1) ((j.2.1).map (·.1)) (j.2.2.2.1)/\i_ 110 b (.iface ti ui) (St I E (j.2.2.2.2.1)) m (j.2.2.2.2.2)/\(bd=true->(j.2.2.2.2.1)=true)/\((j.2.2.2.2.1)=false->jv ((j.2.1).map (·.1))=((cS (gh m) 96).take (j.1)).filterMap (fun no=>if dD Qb m no=Qb no then none else some (no,dD Qb m no)))/\(∀x∈jv ((j.2.1).map (·.1)),aD x.1/\x.2.length=256)) (fun j=>(cS (gh m) 96).length-(j.1)) (fun j=>[(0,.pointer (some ⟨b,0,none⟩)),(3,(j.2.2.1)),(15,.slice ak (cS (gh m) 96).length ck),(16,.int .i64 ((cS (gh m) 96).length:Nat)),(17,.int .i64 ((j.1):Nat))]) (fun j=>(j.2.2.2.1)::hU (j.2.1)::HK::(j.2.2.2.2.2)::r) (0,[],.slice none 0 0,[],bd,(([(b,blk [.iface ti ui,.map (some mb)] 110 (0,0))]++M)++G)) ?_ (aa.cons rfl (aa.cons rfl (aa.cons rfl (aa.cons rfl (aa.cons rfl (aa.nil _)))))) (.empty (.empty sl)) ?_))))))
 . dsimp only
   exact⟨by omega,Nat.le_refl _,(by intro u hu;cases hu),Own.nil,hH,fun h=>h,fun _=>rfl,(by intro x hx;cases hx)⟩
 rintro⟨i,us,w,K,QS,H1⟩ hI
 dsimp only at hI
 obtain⟨hin,XZ,Mk,hw,hS,PR,My,hmay⟩:=hI
 show TT _ _ _ [(0,.pointer (some ⟨b,0,none⟩)),(3,w),(15,.slice ak (cS (gh m) 96).length ck),(16,.int .i64 ((cS (gh m) 96).length:Nat)),(17,.int .i64 (i:Nat))] (K::hU us::HK::H1::r)
 refine TT.seq (.region (.U hT 1 rfl (.nil (.seq (.seq (.cond rfl (fun eK=> ?_) (fun eK=> ?_)))))))
 .
  have eK:=of_decide_eq_true eK
  obtain⟨no,hno⟩:=nth (l:=cS (gh m) 96) (i:=i) (by omega)
  obtain⟨x,hx,hmp⟩:=Lz zM hno
  have GP:=(zM no x hx).2
  have QT:dD Qb m no=x:=by unfold dD;rw[hx];rfl
  have hgd:(gh m no).getD (.string ⟨#[]⟩)= .string ⟨⟨x⟩⟩:=by unfold gh;rw[hx];rfl
  refine TT.skip (.seq (.seq (.block (.seq (.region (.index hT rfl rfl rfl rfl qA.row.there.there (by omega) (by rw[Int.toNat_natCast];exact hno) rfl (fun Ur L1=> ?_)))))))
  refine OT.load rfl rfl (L1.bL hT rfl rfl) rfl (.U hT 1 rfl (.nil (.seq (.seq (.region (.U hT 2 rfl (.call Tryz.call82 rfl rfl rfl rfl (aA.pull pl (yG Te hQ hS hmp)) ?_)))))))
  rintro EE xJ ⟨QU,H2,K2,w2,e2,TB,rfl,rfl,pI,jb,kg⟩
  obtain⟨Ka,M1,G1,rfl,Mz,KZ,QV⟩:=jb.is
  refine OT.qH (OT.qH ?_)
  obtain⟨a2,c2,rfl⟩:=(pI.row (hs:=[])).len
  refine OT.U hT 5 rfl (.nil (.seq (.seq (.draw (([(b,blk [.iface ti ui,.map (some Ka)] 110 (0,0))]::K2::r)) mixed (.takes (fuel:=10) hT [0,1,2] kr kr rfl (.split 29 rfl (fun QW=> ?_) (fun QW=> ?_)))))))
  .
   refine AT.takes (fuel:=0) hT [3,4,5,6,7,8,9,10,11,12] kr kr rfl (.done kr sl (.seq (.cond_true rfl (.region (.U hT 5 rfl (.load rfl rfl (Ld.one hT rfl hz rfl) rfl ?_))))))
   refine OT.U hT 1 rfl (.lookup EI rfl rfl rfl pl Mz rfl ?_)
   refine OT.eI 47 rfl hgd (.v7 hT rfl rfl rfl rfl rfl rfl (fun NU K7 xP=> ?_))
   obtain⟨a8,c8,rfl⟩:=(xP.row (hs:=[])).len
   refine OT.build (cs:=[.int .i64 no,.slice a8 x.length c8]) hT rfl Tryz.zeroValue143 rfl rfl rfl rfl ?_
   refine OT.buildSlice (enc:=rP) (xs:=[(⟨no,.slice a8 x.length c8,x⟩:Im)]) (gQ:=[.tmp 49]) Bu rfl rfl rfl rfl rfl (by simp[Value.cells]) (fun _ _=>rfl) rfl (by decide) rfl (fun zJ Su E4=> ?_)
   refine OT.append hT Bu rfl rfl rfl rfl pl hw E4.row rfl (by simp only[List.length_cons,List.length_nil,List.length_map];omega) rfl (fun Hz HA xM=> ?_)
   refine OT.U hT 1 rfl (.nil (.blk (.seq (.region (.U hT 2 rfl (.nil (.loop (i+1,us++[(⟨no,.slice a8 x.length c8,x⟩,K7)],Hz,HA,QU,(([(b,blk [.iface ti ui,.map (some Ka)] 110 (0,0))]++M1)++G1)) ?_ ?_ (aa.cons rfl (aa.cons rfl (aa.cons rfl (aa.cons rfl (aa.aM rfl (by(try dsimp only);exact(int_eq (by rw[wrap_i64 (by omega) (by omega)];omega))) (aa.nil _)))))) (by rw[o4];exact sl))))))))
   . dsimp only
     refine⟨by omega,by rw[List.length_append];simp only[List.length_singleton];omega,?_,by rw[List.map_append];exact xM,⟨Ka,M1,G1,rfl,Mz,KZ,QV⟩,fun h=>kg.stay (PR h),fun h=> ?_,?_⟩
     . exact x9 Mk xP
     . have hg:=(kg.good h).1
       exact absurd hg (by simpa using QW)
     . exact x_ hmay hmp GP
   . dsimp only
     omega
  .
   have nV:e2=0:=by simpa using QW
   refine AT.takes (fuel:=5) hT [3,5,6,7,9] kr kr rfl (.take (fuel:=4) hT 8 rfl rfl kr kr kr rfl (.load rfl (Ld.one hT rfl hz rfl)) rfl ?_)
   refine AT.conv (fuel:=3) 4 rfl kr kr kr hT rfl rfl rfl rfl rfl pI.row.there rfl (.op (fuel:=2) 10 kr rfl sl (.lookup EI rfl rfl rfl pl Mz rfl ?_))
   refine OT.eI 37 rfl hgd (.nil (.any (.takes (fuel:=0) hT [11,12] kr kr rfl (.done kr sl (.seq (.cond rfl (fun tF=> ?_) (fun tF=> ?_)))))))
   .
    refine TT.region (.U hT 5 rfl (.load rfl rfl (Ld.one hT rfl hz rfl) rfl ?_))
    refine OT.U hT 1 rfl (.lookup EI rfl rfl rfl pl Mz rfl ?_)
    refine OT.eI 47 rfl hgd (.v7 hT rfl rfl rfl rfl rfl rfl (fun NU K7 xP=> ?_))
    obtain⟨a8,c8,rfl⟩:=(xP.row (hs:=[])).len
    refine OT.build (cs:=[.int .i64 no,.slice a8 x.length c8]) hT rfl Tryz.zeroValue143 rfl rfl rfl rfl ?_
    refine OT.buildSlice (enc:=rP) (xs:=[(⟨no,.slice a8 x.length c8,x⟩:Im)]) (gQ:=[.tmp 49]) Bu rfl rfl rfl rfl rfl (by simp[Value.cells]) (fun _ _=>rfl) rfl (by decide) rfl (fun zJ Su E4=> ?_)
    refine OT.append hT Bu rfl rfl rfl rfl pl hw E4.row rfl (by simp only[List.length_cons,List.length_nil,List.length_map];omega) rfl (fun Hz HA xM=> ?_)
    refine OT.U hT 1 rfl (.nil (.blk (.seq (.region (.U hT 2 rfl (.nil (.loop (i+1,us++[(⟨no,.slice a8 x.length c8,x⟩,K7)],Hz,HA,QU,(([(b,blk [.iface ti ui,.map (some Ka)] 110 (0,0))]++M1)++G1)) ?_ ?_ (aa.cons rfl (aa.cons rfl (aa.cons rfl (aa.cons rfl (aa.aM rfl (by(try dsimp only);exact(int_eq (by rw[wrap_i64 (by omega) (by omega)];omega))) (aa.nil _)))))) (by rw[o4];exact sl))))))))
    . dsimp only
      refine⟨by omega,by rw[List.length_append];simp only[List.length_singleton];omega,?_,by rw[List.map_append];exact xM,⟨Ka,M1,G1,rfl,Mz,KZ,QV⟩,fun h=>kg.stay (PR h),fun h=> ?_,?_⟩
      . exact x9 Mk xP
      . have tj:=B9 kg h
        rw[take_succ hno,List.filterMap_append,List.map_append,qO,<-My tj]
        congr 1
        have hg:=kg.good h
        exact(FU (by rw[QT,show Qb no=TB from(hg.2.1 nV).symm];exact Ig tF) QT).symm
      . exact x_ hmay hmp GP
    . dsimp only
      omega
   .
    refine TT.skip (.blk (.seq (.region (.U hT 2 rfl (.nil (.loop (i+1,us,w,K,QU,(([(b,blk [.iface ti ui,.map (some Ka)] 110 (0,0))]++M1)++G1)) ?_ ?_ (aa.cons rfl (aa.cons rfl (aa.cons rfl (aa.cons rfl (aa.aM rfl (by(try dsimp only);exact(int_eq (by rw[wrap_i64 (by omega) (by omega)];omega))) (aa.nil _)))))) sl))))))
    . dsimp only
      refine⟨by omega,by omega,Mk,hw,⟨Ka,M1,G1,rfl,Mz,KZ,QV⟩,fun h=>kg.stay (PR h),fun h=> ?_,hmay⟩
      have tj:=B9 kg h
      rw[take_succ hno,List.filterMap_append,<-My tj]
      have hg:=kg.good h
      rw[Dr (by rw[QT,show Qb no=TB from(hg.2.1 nV).symm];exact Ie tF)]
      rw[List.append_nil]
    . dsimp only
      omega
 .
  have eK:=of_decide_eq_false eK
  obtain rfl:i=(cS (gh m) 96).length:=by omega
  rw[List.take_length,Dq]at My
  refine TT.exit (.seq (.loop (.here (.seq (.seq (.region (.U hT 2 rfl (.nil (.seq (.ret (.of (rs:=[.tmp 2]) [_] ((K++hU us)::H1::r) rfl (.tmp rfl .nil) sl ?_)))))))))))
  try dsimp only[one]
  exact⟨QS,us.map Prod.fst,_,_,rfl,(⟨us,K,rfl,Mk,hw,rfl⟩:rZ _ _ w _ _),hS,PR,My,hmay,by rw[List.length_map];omega⟩
end Go.Proofs.YtihpkgmfkbkffaaGreat.Sx
end
section
namespace Go.Proofs.YtihpkgmfkbkffaaGreat.Sx
open Go Go.Sx Go.Pl
variable[au]
set_option maxHeartbeats 1000000 in
set_option maxRecDepth 100000 in
theorem IU{P:Value}{I:Chunk->Prop}{E:Int->Chunk->Prop}{pg:Int->Int×List UInt8}{H:Chunk}{r:List Chunk}(hP:ni Tryz.prog 5 P I E pg)(hI:I H):aA Tryz.prog 133 [P] (H::r) (fun v' hs'=>∃H' no e,hs'=H'::r/\v'= .tuple ⟨[.int .i64 no,.int .i64 e]⟩/\((I H'/\(no,e)=jB (pg 1))\/(e≠0/\E e H'))):=by
 refine aA.enter 27 Tryz.func133 rfl Tryz.ntmps133 rfl ?_
 refine TT.seq (.region (.U hT 2 rfl (.nil (.seq (.seq (.region (.U hT 1 rfl (.call Tryz.call157 rfl rfl rfl rfl (nN hP hI) ?_))))))))
 rintro J3 zF ⟨H1,K1,w1,e1,pY,rfl,rfl,eJ,nh⟩
 refine OT.U hT 5 rfl (.nil (.seq (.seq (.seq (.region (.U hT 2 rfl (.nil (.seq (.cond rfl (fun gM=> ?_) (fun gM=> ?_))))))))))
 .
  have gM:=bne_iff_ne.1 gM
  rcases nh with⟨h,_⟩|⟨h,rfl,hq⟩
  . exact absurd h gM
  refine TT.seq (.region (.U hT 3 rfl (.nil (.seq (.ret (.of (rs:=[.tmp 2,.tmp 3]) [_,_] (H1::r) rfl (.tmp rfl (.tmp rfl .nil)) sl ?_))))))
  try dsimp only[one]
  rcases hq with⟨h1,h2⟩|h2
  . exact⟨H1,0,e1,rfl,rfl,.inl ⟨h2,by unfold jB;dsimp only;rw[if_pos (by rw[h1];exact gM),h1]⟩⟩
  . exact⟨H1,0,e1,rfl,rfl,.inr ⟨gM,h2⟩⟩
 .
  have gM:=bne_eq_false_iff_eq.1 gM
  rcases nh with⟨rfl,hx,fX⟩|⟨h,_⟩
  rotate_left
  . exact absurd gM h
  have nR:=vg hx
  refine TT.skip (.seq (.seq (.region (.U hT 1 rfl ?_))))
  obtain⟨c4,TC⟩:=nth (l:=pY) (i:=4) (by omega)
  have j3:rootOf pY=(c4.toNat:Int):=by unfold rootOf;rw[List.getD_eq_getElem?_getD,TC];rfl
  have W3:=c4.toNat_lt
  refine OT.index hT rfl rfl rfl rfl eJ.row.there (by omega) (by exact TC) rfl (fun O8 Ak=> ?_)
  refine OT.load rfl rfl (Ak.bL hT rfl rfl) rfl (.U hT 1 rfl (.eI 18 rfl (v:= .int .i64 (rootOf pY)) (int_eq (by rw[j3,wrap_i64 (by omega) (by omega)])) (.U hT 1 rfl (.nil (.seq (.seq (.seq (.region (.U hT 3 rfl (.split 21 rfl (fun BP=> ?_) (fun BP=> ?_)))))))))))
  .
   have BP:rootOf pY≠0:=by simpa using BP
   refine OT.U hT 1 rfl (.call Tryz.call166 rfl rfl rfl rfl (sC) ?_)
   rintro xb uq ⟨rfl,rfl⟩
   refine OT.U hT 2 rfl (.nil (.seq (.cond rfl (fun jx=> ?_) (fun jx=> ?_))))
   .
    have jx:¬ay (rootOf pY):=by simpa using jx
    refine TT.seq (.region (.U hT 2 rfl (.nil (.seq (.ret (.of (rs:=[.tmp 2,.tmp 3]) [_,_] (H1::r) rfl (.tmp rfl (.tmp rfl .nil)) sl ?_))))))
    try dsimp only[one]
    exact⟨H1,0,3,rfl,rfl,.inl ⟨fX,by unfold jB;dsimp only;rw[hx,if_neg (by simp),if_pos ⟨BP,jx⟩]⟩⟩
   .
    have jx:ay (rootOf pY):=by simpa using jx
    refine TT.skip (.seq (.seq (.region (.U hT 3 rfl (.nil (.seq (.ret (.of (rs:=[.tmp 2,.tmp 3]) [_,_] (H1::r) rfl (.tmp rfl (.tmp rfl .nil)) sl ?_))))))))
    try dsimp only[one]
    exact⟨H1,_,0,rfl,rfl,.inl ⟨fX,by unfold jB;dsimp only;rw[hx,if_neg (by simp),if_neg (fun h=>h.2 jx)]⟩⟩
  .
   have BP:rootOf pY=0:=by simpa using BP
   refine OT.U hT 4 rfl (.nil (.seq (.cond_false rfl (.skip (.seq (.seq (.region (.U hT 3 rfl (.nil (.seq (.ret (.of (rs:=[.tmp 2,.tmp 3]) [_,_] (H1::r) rfl (.tmp rfl (.tmp rfl .nil)) sl ?_))))))))))))
   try dsimp only[one]
   exact⟨H1,_,0,rfl,rfl,.inl ⟨fX,by unfold jB;dsimp only;rw[hx,if_neg (by simp),if_neg (fun h=>h.1 BP)]⟩⟩
theorem rD{b:Nat}{P:Value}{I:Chunk->Prop}{E:Int->Chunk->Prop}{Qb:ah}(hP:cW Tryz.prog 5 P I E (aK Qb))(hQ:cQ Qb){Qt:ah}{H:Chunk}{r:List Chunk}(hH:aV 110 b P I Qb Qt H):aA Tryz.prog 157 [.iface 24 (.pointer (some ⟨b,0,none⟩))] (H::r) (fun v' hs'=>∃H' K w e bs,hs'=H'::K::r/\v'= .tuple ⟨[w,.int .i64 e]⟩/\Own Go.Sx.aB 1 5 w bs K/\((e=0/\bs=Qt 1/\aV 110 b P I Qb Qt H')\/(e≠0/\bs=[]/\∃e,cI 110 b P E e H'))):=by
 refine(nN (cu hP hQ).D9 hH).mono ?_
 rintro v' hs' ⟨H',K,w,e,bs,h1,h2,h3,h4⟩
 refine⟨H',K,w,e,bs,h1,h2,h3,?_⟩
 rw[FV (hH.pL hQ)]at h4
 rcases h4 with⟨h5,h6,h7⟩|⟨h5,h6,⟨h7,_⟩|h7⟩
 . exact .inl ⟨h5,(congrArg Prod.snd h6).symm,h7⟩
 . exact absurd h7.symm h5
 . exact .inr ⟨h5,h6,h7⟩
theorem nB{b:Nat}{P:Value}{I:Chunk->Prop}{E:Int->Chunk->Prop}{Qb:ah}(hP:cW Tryz.prog 5 P I E (aK Qb))(hQ:cQ Qb){Qt:ah}{H:Chunk}{r:List Chunk}(hH:aV 110 b P I Qb Qt H){no:Int}{v:Value}{bs:List UInt8}(hr:Row Go.Sx.aB 1 r v bs)(hno:aD no)(hb:bs.length=256):aA Tryz.prog 109 [.pointer (some ⟨b,0,none⟩),.int .i64 no,v] (H::r) (fun v' hs'=>∃H',hs'=H'::r/\v'= .int .i64 0/\aV 110 b P I Qb (ef Qt no bs) H'):=by
 obtain⟨m,hm,rfl⟩:=hH
 obtain⟨ti,ui,hv⟩:=hP.iface
 refine(Ct hv hm hr (by omega)).mono ?_
 rintro v' hs' ⟨H',h1,⟨h2,_⟩|⟨_,h2,_⟩|⟨_,_,h2,h3⟩⟩
 . exact absurd hno h2
 . exact absurd hb h2
 . exact⟨H',h1,h2,_,h3,(x8 _ _ _ _).symm⟩
set_option maxHeartbeats 1000000 in
set_option maxRecDepth 100000 in
theorem A4{b:Nat}{P:Value}{I:Chunk->Prop}{E:Int->Chunk->Prop}{Qb:ah}(hP:cW Tryz.prog 5 P I E (aK Qb))(hQ:cQ Qb){Qt:ah}{H:Chunk}{r:List Chunk}(hH:aV 110 b P I Qb Qt H){no:Int}(hno:no=0\/ay no):aA Tryz.prog 143 [.pointer (some ⟨b,0,none⟩),.int .i64 no] (H::r) (fun v' hs'=>∃H' e,hs'=H'::r/\v'= .int .i64 e/\((e=0/\aV 110 b P I Qb (ef Qt 1 ((Qt 1).set 4 (UInt8.ofNat no.toNat))) H')\/(e≠0/\∃e,cI 110 b P E e H'))):=by
 refine aA.enter 30 Tryz.func143 rfl Tryz.ntmps143 rfl ?_
 have hnb:0<=no/\no<32:=by unfold ay at hno;omega
 refine TT.seq (.region (.U hT 1 rfl (.nil (.seq (.seq (.seq (.region (.U hT 3 rfl (.split 9 rfl (fun g9=> ?_) (fun g9=> ?_))))))))))
 .
  have g9:no≠0:=by simpa using g9
  refine OT.U hT 1 rfl (.call Tryz.call166 rfl rfl rfl rfl (sC) ?_)
  rintro qE kR ⟨rfl,rfl⟩
  refine OT.U hT 2 rfl (.nil (.seq (.cond rfl (fun gM=> ?_) (fun gM=> ?_))))
  .
   exact absurd (hno.resolve_left g9) (by simpa using gM)
  .
   refine TT.skip (.seq (.seq (.region (.U hT 1 rfl (.bO Tryz.underlying24 rfl rfl rfl rfl (.call Tryz.call157 rfl rfl rfl rfl (rD hP hQ hH) ?_))))))
   rintro CJ BF ⟨H1,K1,w1,e1,pY,rfl,rfl,eJ,nh⟩
   refine OT.U hT 5 rfl (.nil (.seq (.seq (.seq (.region (.U hT 2 rfl (.nil (.seq (.cond rfl (fun eF=> ?_) (fun eF=> ?_))))))))))
   .
    have eF:=bne_iff_ne.1 eF
    rcases nh with⟨h,_⟩|⟨h,rfl,hq⟩
    . exact absurd h eF
    refine TT.seq (.region (.U hT 2 rfl (.nil (.seq (.ret (.of (rs:=[.tmp 4]) [_] (H1::r) rfl (.tmp rfl .nil) sl ?_))))))
    try dsimp only[one]
    exact⟨H1,e1,rfl,rfl,.inr ⟨eF,hq⟩⟩
   .
    have eF:=bne_eq_false_iff_eq.1 eF
    rcases nh with⟨rfl,hx,fX⟩|⟨h,_⟩
    rotate_left
    . exact absurd eF h
    have nR:pY.length=256:=by rw[hx];exact hH.pL hQ 1 (by unfold aD;omega)
    obtain⟨aw,cw,rfl⟩:=(eJ.row (hs:=[])).len
    obtain⟨bw,ow,rfl⟩:=oI eJ (by omega)
    refine TT.skip (.seq (.seq (.region (.U hT 2 rfl (.U hT 1 rfl (.eI 25 rfl (v:= .int .u8 ((UInt8.ofNat no.toNat).toNat:Int)) (int_eq (B_ hnb)) (.jQ hT rfl rfl rfl rfl (by omega) (by omega) rfl (.iM 4 0 hT rfl rfl rfl rfl pl eJ (Ns nR) rfl rfl (by decide) rfl (show splice (Go.Sx.aB _) 0 [.int .u8 ((UInt8.ofNat no.toNat).toNat:Int)]=Go.Sx.aB (UInt8.ofNat no.toNat)from rfl) (fun jH n_=> ?_)))))))))
    refine OT.nil (.seq (.seq (.region (.U hT 2 rfl (.call Tryz.call109 rfl rfl rfl rfl (aA.weaken sl (nB hP hQ fX (no:=1) (r:=jH::r) n_.row (by unfold aD;omega) (by rw[List.length_set];exact nR))) ?_)))))
    rintro vv qt ⟨H2,rfl,rfl,dU⟩
    refine OT.U hT 1 rfl (.nil (.seq (.ret (.of (rs:=[.tmp 4]) [_] (H2::r) rfl (.tmp rfl .nil) sl ?_))))
    try dsimp only[one]
    rw[hx]at dU
    exact⟨H2,0,rfl,rfl,.inl ⟨rfl,dU⟩⟩
 .
  refine OT.U hT 4 rfl (.nil (.seq (.cond_false rfl (.skip (.seq (.seq (.region (.U hT 1 rfl (.bO Tryz.underlying24 rfl rfl rfl rfl (.call Tryz.call157 rfl rfl rfl rfl (rD hP hQ hH) ?_))))))))))
  rintro CJ BF ⟨H1,K1,w1,e1,pY,rfl,rfl,eJ,nh⟩
  refine OT.U hT 5 rfl (.nil (.seq (.seq (.seq (.region (.U hT 2 rfl (.nil (.seq (.cond rfl (fun eF=> ?_) (fun eF=> ?_))))))))))
  .
   have eF:=bne_iff_ne.1 eF
   rcases nh with⟨h,_⟩|⟨h,rfl,hq⟩
   . exact absurd h eF
   refine TT.seq (.region (.U hT 2 rfl (.nil (.seq (.ret (.of (rs:=[.tmp 4]) [_] (H1::r) rfl (.tmp rfl .nil) sl ?_))))))
   try dsimp only[one]
   exact⟨H1,e1,rfl,rfl,.inr ⟨eF,hq⟩⟩
  .
   have eF:=bne_eq_false_iff_eq.1 eF
   rcases nh with⟨rfl,hx,fX⟩|⟨h,_⟩
   rotate_left
   . exact absurd eF h
   have nR:pY.length=256:=by rw[hx];exact hH.pL hQ 1 (by unfold aD;omega)
   obtain⟨aw,cw,rfl⟩:=(eJ.row (hs:=[])).len
   obtain⟨bw,ow,rfl⟩:=oI eJ (by omega)
   refine TT.skip (.seq (.seq (.region (.U hT 2 rfl (.U hT 1 rfl (.eI 25 rfl (v:= .int .u8 ((UInt8.ofNat no.toNat).toNat:Int)) (int_eq (B_ hnb)) (.jQ hT rfl rfl rfl rfl (by omega) (by omega) rfl (.iM 4 0 hT rfl rfl rfl rfl pl eJ (Ns nR) rfl rfl (by decide) rfl (show splice (Go.Sx.aB _) 0 [.int .u8 ((UInt8.ofNat no.toNat).toNat:Int)]=Go.Sx.aB (UInt8.ofNat no.toNat)from rfl) (fun jH n_=> ?_)))))))))
   refine OT.nil (.seq (.seq (.region (.U hT 2 rfl (.call Tryz.call109 rfl rfl rfl rfl (aA.weaken sl (nB hP hQ fX (no:=1) (r:=jH::r) n_.row (by unfold aD;omega) (by rw[List.length_set];exact nR))) ?_)))))
   rintro vv qt ⟨H2,rfl,rfl,dU⟩
   refine OT.U hT 1 rfl (.nil (.seq (.ret (.of (rs:=[.tmp 4]) [_] (H2::r) rfl (.tmp rfl .nil) sl ?_))))
   try dsimp only[one]
   rw[hx]at dU
   exact⟨H2,0,rfl,rfl,.inl ⟨rfl,dU⟩⟩
set_option maxHeartbeats 1000000 in
set_option maxRecDepth 100000 in
theorem IV{b:Nat}{P:Value}{I:Chunk->Prop}{E:Int->Chunk->Prop}{Qb:ah}(hP:cW Tryz.prog 5 P I E (aK Qb))(hQ:cQ Qb){Qt:ah}{H:Chunk}{r:List Chunk}(hH:aV 110 b P I Qb Qt H):aA Tryz.prog 142 [.pointer (some ⟨b,0,none⟩)] (H::r) (fun v' hs'=>∃H' no e,hs'=H'::r/\v'= .tuple ⟨[.int .i64 no,.int .i64 e]⟩/\((∃n:Nat,k8 (Qt 1)=some n/\e=0/\no=(n:Nat)/\aV 110 b P I Qb (ef (ef Qt 1 (wW (Qt 1) n)) (n:Nat) (dO 256)) H')\/(k8 (Qt 1)=none/\e=4/\aV 110 b P I Qb Qt H')\/(e≠0/\∃e,cI 110 b P E e H'))):=by
 refine aA.enter 45 Tryz.func142 rfl Tryz.ntmps142 rfl ?_
 refine TT.seq (.region (.U hT 2 rfl (.nil (.seq (.seq (.region (.U hT 1 rfl (.bO Tryz.underlying24 rfl rfl rfl rfl (.call Tryz.call157 rfl rfl rfl rfl (rD hP hQ hH) ?_)))))))))
 rintro qE kR ⟨H1,K1,w1,e1,pY,rfl,rfl,eJ,nh⟩
 refine OT.U hT 5 rfl (.nil (.seq (.seq (.seq (.region (.U hT 2 rfl (.nil (.seq (.cond rfl (fun p4=> ?_) (fun p4=> ?_))))))))))
 .
  have p4:=bne_iff_ne.1 p4
  rcases nh with⟨h,_⟩|⟨h,rfl,hq⟩
  . exact absurd h p4
  refine TT.seq (.region (.U hT 3 rfl (.nil (.seq (.ret (.of (rs:=[.tmp 2,.tmp 3]) [_,_] (H1::r) rfl (.tmp rfl (.tmp rfl .nil)) sl ?_))))))
  try dsimp only[one]
  exact⟨H1,0,e1,rfl,rfl,.inr (.inr ⟨p4,hq⟩)⟩
 .
  have p4:=bne_eq_false_iff_eq.1 p4
  rcases nh with⟨rfl,hx,fX⟩|⟨h,_⟩
  rotate_left
  . exact absurd p4 h
  have nR:pY.length=256:=by rw[hx];exact hH.pL hQ 1 (by unfold aD;omega)
  obtain⟨aw,cw,rfl⟩:=(eJ.row (hs:=[])).len
  obtain⟨bw,ow,rfl⟩:=oI eJ (by omega)
  refine TT.skip (.seq (.seq (.seq (.region (.U hT 1 rfl (.nil (.seq (.block (.loop (ι:=Nat) (fun j=>2<=(j)/\(j)<=32/\z1 pY (j)) (fun j=>32-(j)) (fun j=>[(0,.pointer (some ⟨b,0,none⟩)),(4,.slice (some ⟨bw,ow,none⟩) pY.length cw),(6,.int .i64 ((j):Nat))]) (fun j=>H1::K1::r) (2) ?_ (aa.cons rfl (aa.cons rfl (aa.cons rfl (aa.nil _)))) sl ?_)))))))))
  . exact⟨by omega,by omega,fun k h1 h2=>by omega⟩
  rintro n ⟨hn2,hn,zL⟩
  show TT _ _ _ [(0,.pointer (some ⟨b,0,none⟩)),(4,.slice (some ⟨bw,ow,none⟩) pY.length cw),(6,.int .i64 (n:Nat))] (H1::K1::r)
  refine TT.seq (.seq (.region (.U hT 2 rfl (.nil (.seq (.cond rfl (fun eK=> ?_) (fun eK=> ?_)))))))
  .
   have eK:=of_decide_eq_true eK
   have CQ:n<32:=by omega
   obtain⟨cx,Kb⟩:=nth (l:=pY) (i:=n/8) (by omega)
   refine TT.skip (.seq (.seq (.block (.seq (.seq (.region (.U hT 2 rfl (.call Tryz.call158 rfl rfl rfl rfl (qj (eJ.row.there) nR) ?_))))))))
   rintro xb uq ⟨rfl,rfl⟩
   refine OT.nil (.seq (.cond rfl (fun nk=> ?_) (fun nk=> ?_)))
   .
    refine TT.exit (.seq (.here (.seq (.region (.U hT 3 rfl (.nil (.loop (n+1) ?_ ?_ (aa.cons rfl (aa.cons rfl (aa.aM rfl (by(try dsimp only);exact(int_eq (by rw[wrap_i64 (by omega) (by omega)];omega))) (aa.nil _)))) sl)))))))
    . exact⟨by omega,by omega,fun k h1 h2=>if h:k=n then(by rw[h];exact nk)else zL k h1 (by omega)⟩
    . omega
   .
    refine TT.skip (.seq (.seq (.draw (r) mixed (.takes (fuel:=6) hT [0,1,2,5,6] kr kr rfl (.take (fuel:=5) hT 3 rfl rfl kr kr kr rfl (Fl.index (i:=((n/8:Nat):Int)) hT rfl rfl (congrArg some (int_eq (q8 CQ))) (by omega) (by omega)) rfl (.take (fuel:=4) hT 7 rfl rfl kr kr kr rfl (Fl.shl (b:=((n%8:Nat):Int)) rfl (congrArg some (int_eq (r8 n))) (by omega)) rfl (.op (fuel:=3) 4 kr rfl sl (.load rfl rfl ((eJ.Jp Kb).there.bL hT rfl rfl) rfl (.nil (.any (.takes (fuel:=2) hT [8] kr kr rfl (.take (fuel:=1) hT 9 rfl rfl kr kr kr rfl (Fl.index (i:=((n/8:Nat):Int)) hT rfl rfl (congrArg some (int_eq (q8 CQ))) (by omega) (by omega)) rfl (.op (fuel:=0) 10 kr rfl sl (.iM (n/8) 0 hT rfl rfl rfl rfl pl eJ Kb rfl rfl (by decide) rfl (Ih cx n) (fun jH n_=> ?_)))))))))))))))
    rw[LA Kb]at n_
    refine OT.nil (.any (.done kr sl (.seq (.seq (.seq (.region (.U hT 2 rfl (.call Tryz.call109 rfl rfl rfl rfl (aA.weaken sl (nB hP hQ fX (no:=1) (r:=jH::r) n_.row (by unfold aD;omega) (by rw[yb];exact nR))) ?_))))))))
    rintro Sj Us ⟨H2,rfl,rfl,dU⟩
    refine OT.U hT 1 rfl (.nil (.seq (.seq (.region (.U hT 2 rfl (.nil (.seq (.cond_false rfl (.skip (.seq (.seq (.region (.U hT 3 rfl ?_)))))))))))))
    refine OT.make (enc:=Go.Sx.aB) (z0:=(0:UInt8)) (n:=256) eW Tryz.zeroValue5 rfl rfl rfl rfl rfl (by omega) rfl (fun Hy Sv O9=> ?_)
    refine OT.call Tryz.call109 rfl rfl rfl rfl (aA.weaken sl (nB hP hQ dU (no:=(n:Nat)) (r:=Sv::r) O9.row (by unfold aD;omega) (by rw[List.length_replicate]))) ?_
    rintro CN uv ⟨H3,rfl,rfl,mV⟩
    refine OT.U hT 2 rfl (.nil (.seq (.ret (.of (rs:=[.tmp 2,.tmp 3]) [_,_] (H3::r) rfl (.tmp rfl (.tmp rfl .nil)) sl ?_))))
    try dsimp only[one]
    rw[hx]at mV zL nk
    exact⟨H3,_,0,rfl,rfl,.inl ⟨n,AE hn2 CQ zL nk,rfl,rfl,mV⟩⟩
  .
   have eK:=of_decide_eq_false eK
   obtain rfl:n=32:=by omega
   refine TT.exit (.seq (.loop (.here (.seq (.seq (.region (.U hT 2 rfl (.nil (.seq (.ret (.of (rs:=[.tmp 2,.tmp 3]) [_,_] (H1::r) rfl (.tmp rfl (.tmp rfl .nil)) sl ?_)))))))))))
   try dsimp only[one]
   rw[hx]at zL
   exact⟨H1,0,4,rfl,rfl,.inr (.inl ⟨AF zL,rfl,fX⟩)⟩
set_option maxHeartbeats 1000000 in
set_option maxRecDepth 100000 in
theorem IW{b:Nat}{P:Value}{I:Chunk->Prop}{E:Int->Chunk->Prop}{Qb:ah}(hP:cW Tryz.prog 5 P I E (aK Qb))(hQ:cQ Qb){Qt:ah}{H:Chunk}{r:List Chunk}(hH:aV 110 b P I Qb Qt H){n:Nat}(CQ:n<32):aA Tryz.prog 183 [.pointer (some ⟨b,0,none⟩),.int .i64 (n:Nat)] (H::r) (fun v' hs'=>∃H' e,hs'=H'::r/\v'= .int .i64 e/\((hasB (Qt 1) (n:Nat)=true/\e=0/\aV 110 b P I Qb (ef Qt 1 (wX (Qt 1) n)) H')\/(hasB (Qt 1) (n:Nat)=false/\e=6/\aV 110 b P I Qb Qt H')\/(e≠0/\∃e,cI 110 b P E e H'))):=by
 refine aA.enter 35 Tryz.func183 rfl Tryz.ntmps183 rfl ?_
 refine TT.seq (.region (.U hT 1 rfl (.nil (.seq (.seq (.region (.U hT 1 rfl (.bO Tryz.underlying24 rfl rfl rfl rfl (.call Tryz.call157 rfl rfl rfl rfl (rD hP hQ hH) ?_)))))))))
 rintro nZ jF ⟨H1,K1,w1,e1,pY,rfl,rfl,eJ,nh⟩
 refine OT.U hT 5 rfl (.nil (.seq (.seq (.block (.seq (.region (.U hT 3 rfl (.nil (.seq (.cond rfl (fun gM=> ?_) (fun gM=> ?_)))))))))))
 .
  have gM:=bne_iff_ne.1 gM
  rcases nh with⟨h,_⟩|⟨h,rfl,hq⟩
  . exact absurd h gM
  refine TT.seq (.region (.U hT 2 rfl (.nil (.seq (.ret (.of (rs:=[.tmp 4]) [_] (H1::r) rfl (.tmp rfl .nil) sl ?_))))))
  try dsimp only[one]
  exact⟨H1,e1,rfl,rfl,.inr (.inr ⟨gM,hq⟩)⟩
 .
  have gM:=bne_eq_false_iff_eq.1 gM
  rcases nh with⟨rfl,hx,fX⟩|⟨h,_⟩
  rotate_left
  . exact absurd gM h
  have nR:pY.length=256:=by rw[hx];exact hH.pL hQ 1 (by unfold aD;omega)
  obtain⟨aw,cw,rfl⟩:=(eJ.row (hs:=[])).len
  obtain⟨bw,ow,rfl⟩:=oI eJ (by omega)
  refine TT.seq (.region (.U hT 2 rfl (.call Tryz.call158 rfl rfl rfl rfl (qj (eJ.row.there) nR) ?_)))
  rintro vz rS ⟨rfl,rfl⟩
  refine OT.U hT 2 rfl (.nil (.seq (.cond rfl (fun jn=> ?_) (fun jn=> ?_))))
  .
   have jn:hasB pY (n:Nat)=false:=by simpa using jn
   refine TT.seq (.region (.U hT 1 rfl (.nil (.seq (.ret (.of (rs:=[.tmp 4]) [_] (H1::r) rfl (.tmp rfl .nil) sl ?_))))))
   try dsimp only[one]
   rw[hx]at jn
   exact⟨H1,6,rfl,rfl,.inr (.inl ⟨jn,rfl,fX⟩)⟩
  .
   have jn:hasB pY (n:Nat)=true:=by simpa using jn
   obtain⟨cx,Kb⟩:=nth (l:=pY) (i:=n/8) (by omega)
   refine TT.skip (.blk (.seq (.seq (.draw (r) mixed (.takes (fuel:=6) hT [0,1,2,5,6] kr kr rfl (.take (fuel:=5) hT 3 rfl rfl kr kr kr rfl (Fl.index (i:=((n/8:Nat):Int)) hT rfl rfl (congrArg some (int_eq (q8 CQ))) (by omega) (by omega)) rfl (.take (fuel:=4) hT 7 rfl rfl kr kr kr rfl (Fl.shl (b:=((n%8:Nat):Int)) rfl (congrArg some (int_eq (r8 n))) (by omega)) rfl (.op (fuel:=3) 4 kr rfl sl (.load rfl rfl ((eJ.Jp Kb).there.bL hT rfl rfl) rfl (.nil (.any (.takes (fuel:=2) hT [8] kr kr rfl (.take (fuel:=1) hT 9 rfl rfl kr kr kr rfl (Fl.index (i:=((n/8:Nat):Int)) hT rfl rfl (congrArg some (int_eq (q8 CQ))) (by omega) (by omega)) rfl (.op (fuel:=0) 10 kr rfl sl (.iM (n/8) 0 hT rfl rfl rfl rfl pl eJ Kb rfl rfl (by decide) rfl (F0 cx n) (fun jH n_=> ?_))))))))))))))))
   rw[LB Kb]at n_
   refine OT.nil (.any (.done kr sl (.seq (.seq (.region (.U hT 2 rfl (.call Tryz.call109 rfl rfl rfl rfl (aA.weaken sl (nB hP hQ fX (no:=1) (r:=jH::r) n_.row (by unfold aD;omega) (by rw[yc];exact nR))) ?_)))))))
   rintro Hv BA ⟨H2,rfl,rfl,dU⟩
   refine OT.U hT 1 rfl (.nil (.seq (.ret (.of (rs:=[.tmp 4]) [_] (H2::r) rfl (.tmp rfl .nil) sl ?_))))
   try dsimp only[one]
   rw[hx]at dU jn
   exact⟨H2,0,rfl,rfl,.inl ⟨jn,rfl,dU⟩⟩
end Go.Proofs.YtihpkgmfkbkffaaGreat.Sx
end
section
namespace Go.Proofs.YtihpkgmfkbkffaaGreat.Sx
open Go Go.Sx Go.Pl
variable[au]
set_option maxHeartbeats 2000000 in
set_option maxRecDepth 100000 in
theorem A5{a:Option Addr}{n c:Nat}{xs:List Cell}{y:Cell}{i b2:Nat}{H:Chunk}{r:List Chunk}(ho:Own aj 8 113 (.slice a n c) xs H)(hi:i<=xs.length)(hl:xs.length<=1000000):aA Tryz.prog 145 [.slice a n c,.int .i64 (i:Nat),.slice (some ⟨b2,0,none⟩) 1 1] (H::[(b2,blk (aj y) 113 (0,0))]::r) (fun v' hs'=>∃H',hs'=H'::r/\Own aj 8 113 v' (aP xs i y) H'):=by
 refine aA.enter 95 Tryz.func145 rfl Tryz.ntmps145 rfl ?_
 obtain⟨a0,c0,hv⟩:=(ho.row (hs:=r)).len
 injection hv with _ hn _
 subst hn
 have Eo:Row aj 8 ([(b2,blk (aj y) 113 (0,0))]::r) (.slice (some ⟨b2,0,none⟩) 1 1) [y]:=Row.rT (o:=0) Has.one (fun _ _=>rfl) rfl (Nat.le_refl _) rfl
 refine TT.seq (.region (.U hT 1 rfl (.nil (.seq (.seq (.region (.U hT 2 rfl (.slice i xs.length hT rfl rfl rfl rfl rfl ho.row (.inr ⟨_,rfl⟩) (.inl ⟨rfl,rfl⟩) (by omega) (by omega) rfl (fun K8 JN=> ?_)))))))))
 refine OT.nil (.seq (.seq (.region (.U hT 3 rfl (.nil (.seq (.seq (.seq (.region (.U hT 2 rfl (.nil (.seq (.cond_false rfl (.skip (.seq (.seq (.region (.U hT 3 rfl (.nil (.seq (.seq (.seq (.region (.U hT 3 rfl (.nil (.seq (.cond rfl (fun jy=> ?_) (fun jy=> ?_))))))))))))))))))))))))))))
 .
  have jy:(i:Int)=xs.length:=by simpa using jy
  obtain rfl:i=xs.length:=by omega
  refine TT.seq (.region (.U hT 2 rfl ?_))
  refine OT.append hT jE rfl rfl rfl rfl pl ho Eo.there rfl (by simp only[List.length_singleton];omega) rfl (fun vD xg xQ=> ?_)
  refine OT.U hT 1 rfl (.nil (.seq (.ret (.of (rs:=[.tmp 6]) [_] (xg::r) rfl (.tmp rfl .nil) sl ?_))))
  try dsimp only[one]
  exact⟨xg,rfl,by rw[<-we];exact xQ⟩
 .
  have jy:¬(i:Int)=xs.length:=by simpa using jy
  have hin:i<xs.length:=by omega
  obtain⟨b,o,rfl⟩:=z6 ho (by omega)
  refine TT.skip (.seq (.seq (.seq (.region (.U hT 4 rfl (.cap hT rfl rfl rfl rfl (.U hT 1 rfl (.nil (.seq (.cond rfl (fun fE=> ?_) (fun fE=> ?_)))))))))))
  .
   have fE:(c:Int)<(xs.length:Int)+1:=by
    have:=of_decide_eq_true fE
    rw[wrap_i64 (by omega) (by omega)]at this;omega
   have BO:=(ho.row (hs:=r)).gN
   refine TT.seq (.region (.U hT 2 rfl (.cP 0 i hT rfl rfl rfl rfl rfl (.inl ⟨rfl,rfl⟩) (.inr ⟨_,rfl⟩) (by omega) (by omega) (by omega) rfl (.U hT 5 rfl (.eI 39 rfl (v:= .int .i64 ((xs.length+1-i:Nat):Int)) (int_eq (by rw[wrap_i64 (n:=(xs.length:Int)+((1:Nat):Int)) (by omega) (by omega),wrap_i64 (by omega) (by omega)];omega)) ?_)))))
   have hro:=ho.l9 (hs:=[(b2,blk (aj y) 113 (0,0))]::r) (L:=0) (M:=i) (by omega) (by omega) (by omega)
   rw[List.drop_zero]at hro
   have BN:(xs.take i).length=i:=by rw[List.length_take];omega
   refine OT.gp (z0:=noCell) (m:=xs.length+1-i) Tryz.zeroValue113 rfl (by decide) hT jE rfl rfl rfl rfl hro (by omega) (by rw[BN];rfl) (by rw[BN];omega) rfl (fun vA zI ey=> ?_)
   obtain⟨b9,o9,c9,rfl⟩:=mB ey (by rw[List.length_append,List.length_replicate];omega)
   have wS:(xs.take i++List.replicate (xs.length+1-i) noCell).length=xs.length+1:=by rw[List.length_append,List.length_replicate];omega
   rw[wS]at ey
   have M_:=(ey.row (hs:=r)).gN
   rw[wS]at M_⊢
   refine OT.U hT 1 rfl (.nil (.seq (.seq (.region (.U hT 2 rfl (.cP i (xs.length+1) hT rfl rfl rfl rfl rfl (.inr ⟨_,rfl⟩) (.inl ⟨rfl,rfl⟩) (by omega) (by omega) (by omega) rfl (.U hT 1 rfl (.fc i hT rfl rfl rfl rfl pl ey (ys:=[y]) Eo.there.there (by rw[wS];simp only[List.length_singleton];omega) (by omega) rfl rfl (fun NV qv=> ?_)))))))))
   rw[List.take_of_length_le (l:=[y]) (by show 1<=_;omega)]at qv
   refine OT.nil (.seq (.seq (.draw (r) mixed (.takes (fuel:=3) hT [0,1,2,3,5,6] kr kr rfl (.take (fuel:=2) hT 4 rfl rfl kr kr kr rfl (Fl.slice (i+1) (xs.length+1) hT rfl rfl rfl rfl (.inr ⟨.i64,by rw[wrap_i64 (by omega) (by omega)];exact congrArg some (int_eq (by omega))⟩) (.inl ⟨rfl,rfl⟩) (by omega) (by omega) (by omega)) rfl (.take (fuel:=1) hT 7 rfl rfl kr kr kr rfl (Fl.slice i xs.length hT rfl rfl rfl rfl (.inr ⟨_,rfl⟩) (.inl ⟨rfl,rfl⟩) (by omega) (by omega) (by omega)) rfl (.op (fuel:=0) 8 kr rfl sl ?_)))))))
   have xh:=ho.l9 (hs:=[(b2,blk (aj y) 113 (0,0))]::r) (L:=i) (M:=xs.length) (by omega) (Nat.le_refl _) (by omega)
   rw[List.take_length]at xh
   have j0:(xs.drop i).length=xs.length-i:=List.length_drop
   have EJ:(over (xs.take i++List.replicate (xs.length+1-i) noCell) i [y]).length=xs.length+1:=by rw[je (by rw[wS];simp only[List.length_singleton];omega)];exact wS
   refine OT.fc (i+1) hT rfl rfl rfl rfl pl qv (ys:=xs.drop i) xh.there (by rw[EJ,j0];omega) (by omega) (gl _) rfl (fun xk qw=> ?_)
   rw[List.take_of_length_le (l:=xs.drop i) (by omega),v_ hin rfl]at qw
   refine OT.nil (.any (.done kr sl (.seq (.seq (.region (.U hT 2 rfl (.nil (.seq (.ret (.of (rs:=[.tmp 6]) [_] (xk::r) rfl (.tmp rfl .nil) sl ?_))))))))))
   try dsimp only[one]
   exact⟨xk,rfl,qw⟩
  .
   have fE:¬(c:Int)<(xs.length:Int)+1:=by
    have:=of_decide_eq_false fE
    rw[wrap_i64 (by omega) (by omega)]at this;omega
   refine TT.skip (.seq (.seq (.region (.U hT 4 rfl (.cP 0 (xs.length+1) hT rfl rfl rfl rfl rfl (.inl ⟨rfl,rfl⟩) (.inr ⟨.i64,by rw[wrap_i64 (by omega) (by omega)];exact congrArg some (int_eq (by omega))⟩) (by omega) (by omega) (by omega) rfl (.U hT 1 rfl (.nil (.seq (.seq (.seq (.region (.U hT 5 rfl (.eI 0 rfl (v:= .slice (some ⟨b,o,none⟩) (xs.length+1) c) (by rw[Nat.zero_mul,Nat.add_zero];rfl) (.eI 62 rfl (v:= .slice (some ⟨b,o,none⟩) (xs.length+1) c) (by rw[Nat.zero_mul,Nat.add_zero];rfl) (.cP (i+1) (xs.length+1) hT rfl rfl rfl rfl rfl (.inr ⟨.i64,by rw[wrap_i64 (by omega) (by omega)];exact congrArg some (int_eq (by omega))⟩) (.inl ⟨rfl,rfl⟩) (by omega) (by omega) (by omega) rfl (.overlaps Tryz.func174 kr kr kr (tS:=122) (tR:=4) kr hT rfl rfl rfl rfl rfl pl ho (by omega) (by decide) Has.one ?_))))))))))))))))
   refine OT.U hT 1 rfl (.nil (.seq (.cond_true rfl (.seq (.draw (r) mixed (.takes (fuel:=3) hT [0,1,2,3,5,6] kr kr rfl (.take (fuel:=2) hT 4 rfl rfl kr kr kr rfl (Fl.slice (i+1) (xs.length+1) hT rfl rfl rfl rfl (.inr ⟨.i64,by rw[wrap_i64 (by omega) (by omega)];exact congrArg some (int_eq (by omega))⟩) (.inl ⟨rfl,rfl⟩) (by omega) (by omega) (by omega)) rfl (.take (fuel:=1) hT 7 rfl rfl kr kr kr rfl (Fl.slice i (xs.length+1) hT rfl rfl rfl rfl (.inr ⟨_,rfl⟩) (.inl ⟨rfl,rfl⟩) (by omega) (by omega) (by omega)) rfl (.op (fuel:=0) 8 kr rfl sl (.v8 (i:=i) hT rfl rfl rfl rfl pl ho hin (by omega) (by omega) (by omega) (gl _) rfl (fun NW xR=> ?_)))))))))))
   refine OT.nil (.any (.done kr sl (.seq (.seq (.region (.U hT 2 rfl (.cP i (xs.length+1) hT rfl rfl rfl rfl rfl (.inr ⟨_,rfl⟩) (.inl ⟨rfl,rfl⟩) (by omega) (by omega) (by omega) rfl (.U hT 1 rfl (.fc i hT rfl rfl rfl rfl pl xR (ys:=[y]) Eo.there (by rw[List.length_append,List.length_take,List.length_drop];simp only[List.length_singleton];omega) (by rw[List.length_append,List.length_drop];omega) rfl rfl (fun xl qx=> ?_))))))))))
   rw[List.take_of_length_le (l:=[y]) (by show 1<=_;omega),z2 hin]at qx
   refine OT.nil (.seq (.seq (.region (.U hT 2 rfl (.nil (.seq (.ret (.of (rs:=[.tmp 6]) [_] (xl::r) rfl (.tmp rfl .nil) sl ?_))))))))
   try dsimp only[one]
   exact⟨xl,rfl,qx⟩
set_option maxHeartbeats 1000000 in
set_option maxRecDepth 100000 in
theorem A6{v:Value}{xs:List Cell}{i j:Nat}{H:Chunk}{r:List Chunk}(ho:Own aj 8 113 v xs H)(hij:i<=j)(hj:j<=xs.length)(hl:xs.length<=1073741824):aA Tryz.prog 149 [v,.int .i64 (i:Nat),.int .i64 (j:Nat)] (H::r) (fun v' hs'=>∃H',hs'=H'::r/\Own aj 8 113 v' (xs.take i++xs.drop j) H'):=by
 refine aA.enter 33 Tryz.func149 rfl Tryz.ntmps149 rfl ?_
 obtain⟨a0,c0,hv⟩:=(ho.row (hs:=r)).len
 subst hv
 have hc:=ho.cap.2
 have hlt:(xs.take i).length=i:=by rw[List.length_take];omega
 have j0:(xs.drop j).length=xs.length-j:=List.length_drop
 refine TT.seq (.region (.U hT 1 rfl (.nil (.seq (.seq (.region (.U hT 5 rfl (.slice3 i j xs.length hT rfl rfl rfl ho.row rfl rfl rfl (by omega) (by omega) (by omega) rfl (fun xd=> ?_)))))))))
 refine OT.nil (.seq (.seq (.seq (.region (.U hT 3 rfl (.nil (.seq (.cond rfl (fun fO=> ?_) (fun fO=> ?_)))))))))
 .
  have fO:(i:Int)=j:=by simpa using fO
  obtain rfl:i=j:=by omega
  refine TT.seq (.region (.U hT 2 rfl (.nil (.seq (.ret (.of (rs:=[.tmp 6]) [_] (H::r) rfl (.tmp rfl .nil) sl ?_))))))
  try dsimp only[one]
  exact⟨H,rfl,by rw[List.take_append_drop];exact ho⟩
 .
  refine TT.skip (.seq (.seq (.region (.U hT 3 rfl (.nil (.seq (.seq (.draw (r) mixed (.takes (fuel:=4) hT [0,1,3,4] kr kr rfl (.all (fuel:=3) [2,5] kr (by decide) sl ?_))))))))))
  intro i hi
  simp only[List.mem_cons,List.not_mem_nil,or_false]at hi
  rcases hi with rfl|rfl
  .
   refine⟨_,rfl,?_⟩
   refine OT.jI i hT rfl rfl rfl rfl ho (by omega) rfl (fun k_=> ?_)
   refine OT.nil (.any (.op (fuel:=2) 5 kr rfl sl (.slice j xs.length hT rfl rfl rfl rfl rfl ho.row (.inr ⟨_,rfl⟩) (.inl ⟨rfl,rfl⟩) (by omega) (by omega) rfl (fun vD ld=> ?_))))
   refine OT.nil (.any (.op (fuel:=1) 6 kr rfl sl (.fI hT jE rfl rfl rfl rfl pl hlt.symm k_ ld (gl _) (by rw[hlt,List.take_length,j0];omega) (by rw[List.take_length,j0];omega) rfl (fun w_ iD=> ?_))))
   refine OT.nil (.any (.takes (fuel:=0) hT [7] kr kr rfl (.done kr sl (.seq (.seq (.region (.U hT 4 rfl (.b_ (i+((xs.take xs.length).drop j).length) xs.length hT rfl rfl rfl rfl rfl (.inr ⟨_,rfl⟩) (.inr ⟨_,rfl⟩) (by rw[List.take_length,j0];omega) hc rfl (.fJ jE Tryz.zeroValue113 rfl rfl (by rw[List.length_append,hlt]) rfl rfl pl iD (by rw[List.take_length,j0];omega) hc (fun Ep k7=> ?_))))))))))
   refine OT.nil (.seq (.seq (.region (.U hT 2 rfl (.nil (.seq (.ret (.of (rs:=[.tmp 6]) [_] (Ep::r) rfl (.tmp rfl .nil) sl ?_))))))))
   try dsimp only[one]
   exact⟨_,rfl,by rw[List.take_length]at k7⊢;exact k7⟩
  .
   refine⟨_,rfl,?_⟩
   refine OT.slice j xs.length hT rfl rfl rfl rfl rfl ho.row (.inr ⟨_,rfl⟩) (.inl ⟨rfl,rfl⟩) (by omega) (by omega) rfl (fun vD ld=> ?_)
   refine OT.nil (.any (.op (fuel:=2) 2 kr rfl sl (.jI i hT rfl rfl rfl rfl ho (by omega) rfl (fun k_=> ?_))))
   refine OT.nil (.any (.op (fuel:=1) 6 kr rfl sl (.fI hT jE rfl rfl rfl rfl pl hlt.symm k_ ld (gl _) (by rw[hlt,List.take_length,j0];omega) (by rw[List.take_length,j0];omega) rfl (fun w_ iD=> ?_))))
   refine OT.nil (.any (.takes (fuel:=0) hT [7] kr kr rfl (.done kr sl (.seq (.seq (.region (.U hT 4 rfl (.b_ (i+((xs.take xs.length).drop j).length) xs.length hT rfl rfl rfl rfl rfl (.inr ⟨_,rfl⟩) (.inr ⟨_,rfl⟩) (by rw[List.take_length,j0];omega) hc rfl (.fJ jE Tryz.zeroValue113 rfl rfl (by rw[List.length_append,hlt]) rfl rfl pl iD (by rw[List.take_length,j0];omega) hc (fun Ep k7=> ?_))))))))))
   refine OT.nil (.seq (.seq (.region (.U hT 2 rfl (.nil (.seq (.ret (.of (rs:=[.tmp 6]) [_] (Ep::r) rfl (.tmp rfl .nil) sl ?_))))))))
   try dsimp only[one]
   exact⟨_,rfl,by rw[List.take_length]at k7⊢;exact k7⟩
set_option maxHeartbeats 2000000 in
set_option maxRecDepth 100000 in
theorem nP{a:Option Addr}{n c:Nat}{xs:List ByteArray}{y:ByteArray}{i b2:Nat}{H:Chunk}{r:List Chunk}(ho:Own Go.Sx.ij 1 9 (.slice a n c) xs H)(hi:i<=xs.length)(hl:xs.length<=1000000):aA Tryz.prog 147 [.slice a n c,.int .i64 (i:Nat),.slice (some ⟨b2,0,none⟩) 1 1] (H::[(b2,blk (Go.Sx.ij y) 9 (0,0))]::r) (fun v' hs'=>∃H',hs'=H'::r/\Own Go.Sx.ij 1 9 v' (aP xs i y) H'):=by
 refine aA.enter 95 Tryz.func147 rfl Tryz.ntmps147 rfl ?_
 obtain⟨a0,c0,hv⟩:=(ho.row (hs:=r)).len
 injection hv with _ hn _
 subst hn
 have Eo:Row Go.Sx.ij 1 ([(b2,blk (Go.Sx.ij y) 9 (0,0))]::r) (.slice (some ⟨b2,0,none⟩) 1 1) [y]:=Row.rT (o:=0) Has.one (fun _ _=>rfl) rfl (Nat.le_refl _) rfl
 refine TT.seq (.region (.U hT 1 rfl (.nil (.seq (.seq (.region (.U hT 2 rfl (.slice i xs.length hT rfl rfl rfl rfl rfl ho.row (.inr ⟨_,rfl⟩) (.inl ⟨rfl,rfl⟩) (by omega) (by omega) rfl (fun K8 JN=> ?_)))))))))
 refine OT.nil (.seq (.seq (.region (.U hT 3 rfl (.nil (.seq (.seq (.seq (.region (.U hT 2 rfl (.nil (.seq (.cond_false rfl (.skip (.seq (.seq (.region (.U hT 3 rfl (.nil (.seq (.seq (.seq (.region (.U hT 3 rfl (.nil (.seq (.cond rfl (fun jy=> ?_) (fun jy=> ?_))))))))))))))))))))))))))))
 .
  have jy:(i:Int)=xs.length:=by simpa using jy
  obtain rfl:i=xs.length:=by omega
  refine TT.seq (.region (.U hT 2 rfl ?_))
  refine OT.append hT rI rfl rfl rfl rfl pl ho Eo.there rfl (by simp only[List.length_singleton];omega) rfl (fun vD xg xQ=> ?_)
  refine OT.U hT 1 rfl (.nil (.seq (.ret (.of (rs:=[.tmp 6]) [_] (xg::r) rfl (.tmp rfl .nil) sl ?_))))
  try dsimp only[one]
  exact⟨xg,rfl,by rw[<-we];exact xQ⟩
 .
  have jy:¬(i:Int)=xs.length:=by simpa using jy
  have hin:i<xs.length:=by omega
  obtain⟨b,o,rfl⟩:=z6 ho (by omega)
  refine TT.skip (.seq (.seq (.seq (.region (.U hT 4 rfl (.cap hT rfl rfl rfl rfl (.U hT 1 rfl (.nil (.seq (.cond rfl (fun fE=> ?_) (fun fE=> ?_)))))))))))
  .
   have fE:(c:Int)<(xs.length:Int)+1:=by
    have:=of_decide_eq_true fE
    rw[wrap_i64 (by omega) (by omega)]at this;omega
   have BO:=(ho.row (hs:=r)).gN
   refine TT.seq (.region (.U hT 2 rfl (.cP 0 i hT rfl rfl rfl rfl rfl (.inl ⟨rfl,rfl⟩) (.inr ⟨_,rfl⟩) (by omega) (by omega) (by omega) rfl (.U hT 5 rfl (.eI 39 rfl (v:= .int .i64 ((xs.length+1-i:Nat):Int)) (int_eq (by rw[wrap_i64 (n:=(xs.length:Int)+((1:Nat):Int)) (by omega) (by omega),wrap_i64 (by omega) (by omega)];omega)) ?_)))))
   have hro:=ho.l9 (hs:=[(b2,blk (Go.Sx.ij y) 9 (0,0))]::r) (L:=0) (M:=i) (by omega) (by omega) (by omega)
   rw[List.drop_zero]at hro
   have BN:(xs.take i).length=i:=by rw[List.length_take];omega
   refine OT.gp (z0:=(⟨#[]⟩:ByteArray)) (m:=xs.length+1-i) Tryz.zeroValue9 rfl (by decide) hT rI rfl rfl rfl rfl hro (by omega) (by rw[BN];rfl) (by rw[BN];omega) rfl (fun vA zI ey=> ?_)
   obtain⟨b9,o9,c9,rfl⟩:=mB ey (by rw[List.length_append,List.length_replicate];omega)
   have wS:(xs.take i++List.replicate (xs.length+1-i) (⟨#[]⟩:ByteArray)).length=xs.length+1:=by rw[List.length_append,List.length_replicate];omega
   rw[wS]at ey
   have M_:=(ey.row (hs:=r)).gN
   rw[wS]at M_⊢
   refine OT.U hT 1 rfl (.nil (.seq (.seq (.region (.U hT 2 rfl (.cP i (xs.length+1) hT rfl rfl rfl rfl rfl (.inr ⟨_,rfl⟩) (.inl ⟨rfl,rfl⟩) (by omega) (by omega) (by omega) rfl (.U hT 1 rfl (.fc i hT rfl rfl rfl rfl pl ey (ys:=[y]) Eo.there.there (by rw[wS];simp only[List.length_singleton];omega) (by omega) rfl rfl (fun NV qv=> ?_)))))))))
   rw[List.take_of_length_le (l:=[y]) (by show 1<=_;omega)]at qv
   refine OT.nil (.seq (.seq (.draw (r) mixed (.takes (fuel:=3) hT [0,1,2,3,5,6] kr kr rfl (.take (fuel:=2) hT 4 rfl rfl kr kr kr rfl (Fl.slice (i+1) (xs.length+1) hT rfl rfl rfl rfl (.inr ⟨.i64,by rw[wrap_i64 (by omega) (by omega)];exact congrArg some (int_eq (by omega))⟩) (.inl ⟨rfl,rfl⟩) (by omega) (by omega) (by omega)) rfl (.take (fuel:=1) hT 7 rfl rfl kr kr kr rfl (Fl.slice i xs.length hT rfl rfl rfl rfl (.inr ⟨_,rfl⟩) (.inl ⟨rfl,rfl⟩) (by omega) (by omega) (by omega)) rfl (.op (fuel:=0) 8 kr rfl sl ?_)))))))
   have xh:=ho.l9 (hs:=[(b2,blk (Go.Sx.ij y) 9 (0,0))]::r) (L:=i) (M:=xs.length) (by omega) (Nat.le_refl _) (by omega)
   rw[List.take_length]at xh
   have j0:(xs.drop i).length=xs.length-i:=List.length_drop
   have EJ:(over (xs.take i++List.replicate (xs.length+1-i) (⟨#[]⟩:ByteArray)) i [y]).length=xs.length+1:=by rw[je (by rw[wS];simp only[List.length_singleton];omega)];exact wS
   refine OT.fc (i+1) hT rfl rfl rfl rfl pl qv (ys:=xs.drop i) xh.there (by rw[EJ,j0];omega) (by omega) (mz _) rfl (fun xk qw=> ?_)
   rw[List.take_of_length_le (l:=xs.drop i) (by omega),v_ hin rfl]at qw
   refine OT.nil (.any (.done kr sl (.seq (.seq (.region (.U hT 2 rfl (.nil (.seq (.ret (.of (rs:=[.tmp 6]) [_] (xk::r) rfl (.tmp rfl .nil) sl ?_))))))))))
   try dsimp only[one]
   exact⟨xk,rfl,qw⟩
  .
   have fE:¬(c:Int)<(xs.length:Int)+1:=by
    have:=of_decide_eq_false fE
    rw[wrap_i64 (by omega) (by omega)]at this;omega
   refine TT.skip (.seq (.seq (.region (.U hT 4 rfl (.cP 0 (xs.length+1) hT rfl rfl rfl rfl rfl (.inl ⟨rfl,rfl⟩) (.inr ⟨.i64,by rw[wrap_i64 (by omega) (by omega)];exact congrArg some (int_eq (by omega))⟩) (by omega) (by omega) (by omega) rfl (.U hT 1 rfl (.nil (.seq (.seq (.seq (.region (.U hT 5 rfl (.eI 0 rfl (v:= .slice (some ⟨b,o,none⟩) (xs.length+1) c) (by rw[Nat.zero_mul,Nat.add_zero];rfl) (.eI 62 rfl (v:= .slice (some ⟨b,o,none⟩) (xs.length+1) c) (by rw[Nat.zero_mul,Nat.add_zero];rfl) (.cP (i+1) (xs.length+1) hT rfl rfl rfl rfl rfl (.inr ⟨.i64,by rw[wrap_i64 (by omega) (by omega)];exact congrArg some (int_eq (by omega))⟩) (.inl ⟨rfl,rfl⟩) (by omega) (by omega) (by omega) rfl (.overlaps Tryz.func179 kr kr kr (tS:=91) (tR:=4) kr hT rfl rfl rfl rfl rfl pl ho (by omega) (by decide) Has.one ?_))))))))))))))))
   refine OT.U hT 1 rfl (.nil (.seq (.cond_true rfl (.seq (.draw (r) mixed (.takes (fuel:=3) hT [0,1,2,3,5,6] kr kr rfl (.take (fuel:=2) hT 4 rfl rfl kr kr kr rfl (Fl.slice (i+1) (xs.length+1) hT rfl rfl rfl rfl (.inr ⟨.i64,by rw[wrap_i64 (by omega) (by omega)];exact congrArg some (int_eq (by omega))⟩) (.inl ⟨rfl,rfl⟩) (by omega) (by omega) (by omega)) rfl (.take (fuel:=1) hT 7 rfl rfl kr kr kr rfl (Fl.slice i (xs.length+1) hT rfl rfl rfl rfl (.inr ⟨_,rfl⟩) (.inl ⟨rfl,rfl⟩) (by omega) (by omega) (by omega)) rfl (.op (fuel:=0) 8 kr rfl sl (.v8 (i:=i) hT rfl rfl rfl rfl pl ho hin (by omega) (by omega) (by omega) (mz _) rfl (fun NW xR=> ?_)))))))))))
   refine OT.nil (.any (.done kr sl (.seq (.seq (.region (.U hT 2 rfl (.cP i (xs.length+1) hT rfl rfl rfl rfl rfl (.inr ⟨_,rfl⟩) (.inl ⟨rfl,rfl⟩) (by omega) (by omega) (by omega) rfl (.U hT 1 rfl (.fc i hT rfl rfl rfl rfl pl xR (ys:=[y]) Eo.there (by rw[List.length_append,List.length_take,List.length_drop];simp only[List.length_singleton];omega) (by rw[List.length_append,List.length_drop];omega) rfl rfl (fun xl qx=> ?_))))))))))
   rw[List.take_of_length_le (l:=[y]) (by show 1<=_;omega),z2 hin]at qx
   refine OT.nil (.seq (.seq (.region (.U hT 2 rfl (.nil (.seq (.ret (.of (rs:=[.tmp 6]) [_] (xl::r) rfl (.tmp rfl .nil) sl ?_))))))))
   try dsimp only[one]
   exact⟨xl,rfl,qx⟩
set_option maxHeartbeats 1000000 in
set_option maxRecDepth 100000 in
theorem A7{v:Value}{xs:List ByteArray}{i j:Nat}{H:Chunk}{r:List Chunk}(ho:Own Go.Sx.ij 1 9 v xs H)(hij:i<=j)(hj:j<=xs.length)(hl:xs.length<=1073741824):aA Tryz.prog 152 [v,.int .i64 (i:Nat),.int .i64 (j:Nat)] (H::r) (fun v' hs'=>∃H',hs'=H'::r/\Own Go.Sx.ij 1 9 v' (xs.take i++xs.drop j) H'):=by
 refine aA.enter 33 Tryz.func152 rfl Tryz.ntmps152 rfl ?_
 obtain⟨a0,c0,hv⟩:=(ho.row (hs:=r)).len
 subst hv
 have hc:=ho.cap.2
 have hlt:(xs.take i).length=i:=by rw[List.length_take];omega
 have j0:(xs.drop j).length=xs.length-j:=List.length_drop
 refine TT.seq (.region (.U hT 1 rfl (.nil (.seq (.seq (.region (.U hT 5 rfl (.slice3 i j xs.length hT rfl rfl rfl ho.row rfl rfl rfl (by omega) (by omega) (by omega) rfl (fun xd=> ?_)))))))))
 refine OT.nil (.seq (.seq (.seq (.region (.U hT 3 rfl (.nil (.seq (.cond rfl (fun fO=> ?_) (fun fO=> ?_)))))))))
 .
  have fO:(i:Int)=j:=by simpa using fO
  obtain rfl:i=j:=by omega
  refine TT.seq (.region (.U hT 2 rfl (.nil (.seq (.ret (.of (rs:=[.tmp 6]) [_] (H::r) rfl (.tmp rfl .nil) sl ?_))))))
  try dsimp only[one]
  exact⟨H,rfl,by rw[List.take_append_drop];exact ho⟩
 .
  refine TT.skip (.seq (.seq (.region (.U hT 3 rfl (.nil (.seq (.seq (.draw (r) mixed (.takes (fuel:=4) hT [0,1,3,4] kr kr rfl (.all (fuel:=3) [2,5] kr (by decide) sl ?_))))))))))
  intro i hi
  simp only[List.mem_cons,List.not_mem_nil,or_false]at hi
  rcases hi with rfl|rfl
  .
   refine⟨_,rfl,?_⟩
   refine OT.jI i hT rfl rfl rfl rfl ho (by omega) rfl (fun k_=> ?_)
   refine OT.nil (.any (.op (fuel:=2) 5 kr rfl sl (.slice j xs.length hT rfl rfl rfl rfl rfl ho.row (.inr ⟨_,rfl⟩) (.inl ⟨rfl,rfl⟩) (by omega) (by omega) rfl (fun vD ld=> ?_))))
   refine OT.nil (.any (.op (fuel:=1) 6 kr rfl sl (.fI hT rI rfl rfl rfl rfl pl hlt.symm k_ ld (mz _) (by rw[hlt,List.take_length,j0];omega) (by rw[List.take_length,j0];omega) rfl (fun w_ iD=> ?_))))
   refine OT.nil (.any (.takes (fuel:=0) hT [7] kr kr rfl (.done kr sl (.seq (.seq (.region (.U hT 4 rfl (.b_ (i+((xs.take xs.length).drop j).length) xs.length hT rfl rfl rfl rfl rfl (.inr ⟨_,rfl⟩) (.inr ⟨_,rfl⟩) (by rw[List.take_length,j0];omega) hc rfl (.fJ rI Tryz.zeroValue9 rfl rfl (by rw[List.length_append,hlt]) rfl rfl pl iD (by rw[List.take_length,j0];omega) hc (fun Ep k7=> ?_))))))))))
   refine OT.nil (.seq (.seq (.region (.U hT 2 rfl (.nil (.seq (.ret (.of (rs:=[.tmp 6]) [_] (Ep::r) rfl (.tmp rfl .nil) sl ?_))))))))
   try dsimp only[one]
   exact⟨_,rfl,by rw[List.take_length]at k7⊢;exact k7⟩
  .
   refine⟨_,rfl,?_⟩
   refine OT.slice j xs.length hT rfl rfl rfl rfl rfl ho.row (.inr ⟨_,rfl⟩) (.inl ⟨rfl,rfl⟩) (by omega) (by omega) rfl (fun vD ld=> ?_)
   refine OT.nil (.any (.op (fuel:=2) 2 kr rfl sl (.jI i hT rfl rfl rfl rfl ho (by omega) rfl (fun k_=> ?_))))
   refine OT.nil (.any (.op (fuel:=1) 6 kr rfl sl (.fI hT rI rfl rfl rfl rfl pl hlt.symm k_ ld (mz _) (by rw[hlt,List.take_length,j0];omega) (by rw[List.take_length,j0];omega) rfl (fun w_ iD=> ?_))))
   refine OT.nil (.any (.takes (fuel:=0) hT [7] kr kr rfl (.done kr sl (.seq (.seq (.region (.U hT 4 rfl (.b_ (i+((xs.take xs.length).drop j).length) xs.length hT rfl rfl rfl rfl rfl (.inr ⟨_,rfl⟩) (.inr ⟨_,rfl⟩) (by rw[List.take_length,j0];omega) hc rfl (.fJ rI Tryz.zeroValue9 rfl rfl (by rw[List.length_append,hlt]) rfl rfl pl iD (by rw[List.take_length,j0];omega) hc (fun Ep k7=> ?_))))))))))
   refine OT.nil (.seq (.seq (.region (.U hT 2 rfl (.nil (.seq (.ret (.of (rs:=[.tmp 6]) [_] (Ep::r) rfl (.tmp rfl .nil) sl ?_))))))))
   try dsimp only[one]
   exact⟨_,rfl,by rw[List.take_length]at k7⊢;exact k7⟩
set_option maxHeartbeats 2000000 in
set_option maxRecDepth 100000 in
theorem nQ{a:Option Addr}{n c:Nat}{xs:List Int}{y:Int}{i b2:Nat}{H:Chunk}{r:List Chunk}(ho:Own Go.Sx.cM 1 3 (.slice a n c) xs H)(hi:i<=xs.length)(hl:xs.length<=1000000):aA Tryz.prog 148 [.slice a n c,.int .i64 (i:Nat),.slice (some ⟨b2,0,none⟩) 1 1] (H::[(b2,blk (Go.Sx.cM y) 3 (0,0))]::r) (fun v' hs'=>∃H',hs'=H'::r/\Own Go.Sx.cM 1 3 v' (aP xs i y) H'):=by
 refine aA.enter 95 Tryz.func148 rfl Tryz.ntmps148 rfl ?_
 obtain⟨a0,c0,hv⟩:=(ho.row (hs:=r)).len
 injection hv with _ hn _
 subst hn
 have Eo:Row Go.Sx.cM 1 ([(b2,blk (Go.Sx.cM y) 3 (0,0))]::r) (.slice (some ⟨b2,0,none⟩) 1 1) [y]:=Row.rT (o:=0) Has.one (fun _ _=>rfl) rfl (Nat.le_refl _) rfl
 refine TT.seq (.region (.U hT 1 rfl (.nil (.seq (.seq (.region (.U hT 2 rfl (.slice i xs.length hT rfl rfl rfl rfl rfl ho.row (.inr ⟨_,rfl⟩) (.inl ⟨rfl,rfl⟩) (by omega) (by omega) rfl (fun K8 JN=> ?_)))))))))
 refine OT.nil (.seq (.seq (.region (.U hT 3 rfl (.nil (.seq (.seq (.seq (.region (.U hT 2 rfl (.nil (.seq (.cond_false rfl (.skip (.seq (.seq (.region (.U hT 3 rfl (.nil (.seq (.seq (.seq (.region (.U hT 3 rfl (.nil (.seq (.cond rfl (fun jy=> ?_) (fun jy=> ?_))))))))))))))))))))))))))))
 .
  have jy:(i:Int)=xs.length:=by simpa using jy
  obtain rfl:i=xs.length:=by omega
  refine TT.seq (.region (.U hT 2 rfl ?_))
  refine OT.append hT jw rfl rfl rfl rfl pl ho Eo.there rfl (by simp only[List.length_singleton];omega) rfl (fun vD xg xQ=> ?_)
  refine OT.U hT 1 rfl (.nil (.seq (.ret (.of (rs:=[.tmp 6]) [_] (xg::r) rfl (.tmp rfl .nil) sl ?_))))
  try dsimp only[one]
  exact⟨xg,rfl,by rw[<-we];exact xQ⟩
 .
  have jy:¬(i:Int)=xs.length:=by simpa using jy
  have hin:i<xs.length:=by omega
  obtain⟨b,o,rfl⟩:=z6 ho (by omega)
  refine TT.skip (.seq (.seq (.seq (.region (.U hT 4 rfl (.cap hT rfl rfl rfl rfl (.U hT 1 rfl (.nil (.seq (.cond rfl (fun fE=> ?_) (fun fE=> ?_)))))))))))
  .
   have fE:(c:Int)<(xs.length:Int)+1:=by
    have:=of_decide_eq_true fE
    rw[wrap_i64 (by omega) (by omega)]at this;omega
   have BO:=(ho.row (hs:=r)).gN
   refine TT.seq (.region (.U hT 2 rfl (.cP 0 i hT rfl rfl rfl rfl rfl (.inl ⟨rfl,rfl⟩) (.inr ⟨_,rfl⟩) (by omega) (by omega) (by omega) rfl (.U hT 5 rfl (.eI 39 rfl (v:= .int .i64 ((xs.length+1-i:Nat):Int)) (int_eq (by rw[wrap_i64 (n:=(xs.length:Int)+((1:Nat):Int)) (by omega) (by omega),wrap_i64 (by omega) (by omega)];omega)) ?_)))))
   have hro:=ho.l9 (hs:=[(b2,blk (Go.Sx.cM y) 3 (0,0))]::r) (L:=0) (M:=i) (by omega) (by omega) (by omega)
   rw[List.drop_zero]at hro
   have BN:(xs.take i).length=i:=by rw[List.length_take];omega
   refine OT.gp (z0:=(0:Int)) (m:=xs.length+1-i) Tryz.zeroValue3 rfl (by decide) hT jw rfl rfl rfl rfl hro (by omega) (by rw[BN];rfl) (by rw[BN];omega) rfl (fun vA zI ey=> ?_)
   obtain⟨b9,o9,c9,rfl⟩:=mB ey (by rw[List.length_append,List.length_replicate];omega)
   have wS:(xs.take i++List.replicate (xs.length+1-i) (0:Int)).length=xs.length+1:=by rw[List.length_append,List.length_replicate];omega
   rw[wS]at ey
   have M_:=(ey.row (hs:=r)).gN
   rw[wS]at M_⊢
   refine OT.U hT 1 rfl (.nil (.seq (.seq (.region (.U hT 2 rfl (.cP i (xs.length+1) hT rfl rfl rfl rfl rfl (.inr ⟨_,rfl⟩) (.inl ⟨rfl,rfl⟩) (by omega) (by omega) (by omega) rfl (.U hT 1 rfl (.fc i hT rfl rfl rfl rfl pl ey (ys:=[y]) Eo.there.there (by rw[wS];simp only[List.length_singleton];omega) (by omega) rfl rfl (fun NV qv=> ?_)))))))))
   rw[List.take_of_length_le (l:=[y]) (by show 1<=_;omega)]at qv
   refine OT.nil (.seq (.seq (.draw (r) mixed (.takes (fuel:=3) hT [0,1,2,3,5,6] kr kr rfl (.take (fuel:=2) hT 4 rfl rfl kr kr kr rfl (Fl.slice (i+1) (xs.length+1) hT rfl rfl rfl rfl (.inr ⟨.i64,by rw[wrap_i64 (by omega) (by omega)];exact congrArg some (int_eq (by omega))⟩) (.inl ⟨rfl,rfl⟩) (by omega) (by omega) (by omega)) rfl (.take (fuel:=1) hT 7 rfl rfl kr kr kr rfl (Fl.slice i xs.length hT rfl rfl rfl rfl (.inr ⟨_,rfl⟩) (.inl ⟨rfl,rfl⟩) (by omega) (by omega) (by omega)) rfl (.op (fuel:=0) 8 kr rfl sl ?_)))))))
   have xh:=ho.l9 (hs:=[(b2,blk (Go.Sx.cM y) 3 (0,0))]::r) (L:=i) (M:=xs.length) (by omega) (Nat.le_refl _) (by omega)
   rw[List.take_length]at xh
   have j0:(xs.drop i).length=xs.length-i:=List.length_drop
   have EJ:(over (xs.take i++List.replicate (xs.length+1-i) (0:Int)) i [y]).length=xs.length+1:=by rw[je (by rw[wS];simp only[List.length_singleton];omega)];exact wS
   refine OT.fc (i+1) hT rfl rfl rfl rfl pl qv (ys:=xs.drop i) xh.there (by rw[EJ,j0];omega) (by omega) (mA _) rfl (fun xk qw=> ?_)
   rw[List.take_of_length_le (l:=xs.drop i) (by omega),v_ hin rfl]at qw
   refine OT.nil (.any (.done kr sl (.seq (.seq (.region (.U hT 2 rfl (.nil (.seq (.ret (.of (rs:=[.tmp 6]) [_] (xk::r) rfl (.tmp rfl .nil) sl ?_))))))))))
   try dsimp only[one]
   exact⟨xk,rfl,qw⟩
  .
   have fE:¬(c:Int)<(xs.length:Int)+1:=by
    have:=of_decide_eq_false fE
    rw[wrap_i64 (by omega) (by omega)]at this;omega
   refine TT.skip (.seq (.seq (.region (.U hT 4 rfl (.cP 0 (xs.length+1) hT rfl rfl rfl rfl rfl (.inl ⟨rfl,rfl⟩) (.inr ⟨.i64,by rw[wrap_i64 (by omega) (by omega)];exact congrArg some (int_eq (by omega))⟩) (by omega) (by omega) (by omega) rfl (.U hT 1 rfl (.nil (.seq (.seq (.seq (.region (.U hT 5 rfl (.eI 0 rfl (v:= .slice (some ⟨b,o,none⟩) (xs.length+1) c) (by rw[Nat.zero_mul,Nat.add_zero];rfl) (.eI 62 rfl (v:= .slice (some ⟨b,o,none⟩) (xs.length+1) c) (by rw[Nat.zero_mul,Nat.add_zero];rfl) (.cP (i+1) (xs.length+1) hT rfl rfl rfl rfl rfl (.inr ⟨.i64,by rw[wrap_i64 (by omega) (by omega)];exact congrArg some (int_eq (by omega))⟩) (.inl ⟨rfl,rfl⟩) (by omega) (by omega) (by omega) rfl (.overlaps Tryz.func181 kr kr kr (tS:=22) (tR:=4) kr hT rfl rfl rfl rfl rfl pl ho (by omega) (by decide) Has.one ?_))))))))))))))))
   refine OT.U hT 1 rfl (.nil (.seq (.cond_true rfl (.seq (.draw (r) mixed (.takes (fuel:=3) hT [0,1,2,3,5,6] kr kr rfl (.take (fuel:=2) hT 4 rfl rfl kr kr kr rfl (Fl.slice (i+1) (xs.length+1) hT rfl rfl rfl rfl (.inr ⟨.i64,by rw[wrap_i64 (by omega) (by omega)];exact congrArg some (int_eq (by omega))⟩) (.inl ⟨rfl,rfl⟩) (by omega) (by omega) (by omega)) rfl (.take (fuel:=1) hT 7 rfl rfl kr kr kr rfl (Fl.slice i (xs.length+1) hT rfl rfl rfl rfl (.inr ⟨_,rfl⟩) (.inl ⟨rfl,rfl⟩) (by omega) (by omega) (by omega)) rfl (.op (fuel:=0) 8 kr rfl sl (.v8 (i:=i) hT rfl rfl rfl rfl pl ho hin (by omega) (by omega) (by omega) (mA _) rfl (fun NW xR=> ?_)))))))))))
   refine OT.nil (.any (.done kr sl (.seq (.seq (.region (.U hT 2 rfl (.cP i (xs.length+1) hT rfl rfl rfl rfl rfl (.inr ⟨_,rfl⟩) (.inl ⟨rfl,rfl⟩) (by omega) (by omega) (by omega) rfl (.U hT 1 rfl (.fc i hT rfl rfl rfl rfl pl xR (ys:=[y]) Eo.there (by rw[List.length_append,List.length_take,List.length_drop];simp only[List.length_singleton];omega) (by rw[List.length_append,List.length_drop];omega) rfl rfl (fun xl qx=> ?_))))))))))
   rw[List.take_of_length_le (l:=[y]) (by show 1<=_;omega),z2 hin]at qx
   refine OT.nil (.seq (.seq (.region (.U hT 2 rfl (.nil (.seq (.ret (.of (rs:=[.tmp 6]) [_] (xl::r) rfl (.tmp rfl .nil) sl ?_))))))))
   try dsimp only[one]
   exact⟨xl,rfl,qx⟩
set_option maxHeartbeats 1000000 in
set_option maxRecDepth 100000 in
theorem A8{v:Value}{xs:List Int}{i j:Nat}{H:Chunk}{r:List Chunk}(ho:Own Go.Sx.cM 1 3 v xs H)(hij:i<=j)(hj:j<=xs.length)(hl:xs.length<=1073741824):aA Tryz.prog 151 [v,.int .i64 (i:Nat),.int .i64 (j:Nat)] (H::r) (fun v' hs'=>∃H',hs'=H'::r/\Own Go.Sx.cM 1 3 v' (xs.take i++xs.drop j) H'):=by
 refine aA.enter 33 Tryz.func151 rfl Tryz.ntmps151 rfl ?_
 obtain⟨a0,c0,hv⟩:=(ho.row (hs:=r)).len
 subst hv
 have hc:=ho.cap.2
 have hlt:(xs.take i).length=i:=by rw[List.length_take];omega
 have j0:(xs.drop j).length=xs.length-j:=List.length_drop
 refine TT.seq (.region (.U hT 1 rfl (.nil (.seq (.seq (.region (.U hT 5 rfl (.slice3 i j xs.length hT rfl rfl rfl ho.row rfl rfl rfl (by omega) (by omega) (by omega) rfl (fun xd=> ?_)))))))))
 refine OT.nil (.seq (.seq (.seq (.region (.U hT 3 rfl (.nil (.seq (.cond rfl (fun fO=> ?_) (fun fO=> ?_)))))))))
 .
  have fO:(i:Int)=j:=by simpa using fO
  obtain rfl:i=j:=by omega
  refine TT.seq (.region (.U hT 2 rfl (.nil (.seq (.ret (.of (rs:=[.tmp 6]) [_] (H::r) rfl (.tmp rfl .nil) sl ?_))))))
  try dsimp only[one]
  exact⟨H,rfl,by rw[List.take_append_drop];exact ho⟩
 .
  refine TT.skip (.seq (.seq (.region (.U hT 3 rfl (.nil (.seq (.seq (.draw (r) mixed (.takes (fuel:=4) hT [0,1,3,4] kr kr rfl (.all (fuel:=3) [2,5] kr (by decide) sl ?_))))))))))
  intro i hi
  simp only[List.mem_cons,List.not_mem_nil,or_false]at hi
  rcases hi with rfl|rfl
  .
   refine⟨_,rfl,?_⟩
   refine OT.jI i hT rfl rfl rfl rfl ho (by omega) rfl (fun k_=> ?_)
   refine OT.nil (.any (.op (fuel:=2) 5 kr rfl sl (.slice j xs.length hT rfl rfl rfl rfl rfl ho.row (.inr ⟨_,rfl⟩) (.inl ⟨rfl,rfl⟩) (by omega) (by omega) rfl (fun vD ld=> ?_))))
   refine OT.nil (.any (.op (fuel:=1) 6 kr rfl sl (.fI hT jw rfl rfl rfl rfl pl hlt.symm k_ ld (mA _) (by rw[hlt,List.take_length,j0];omega) (by rw[List.take_length,j0];omega) rfl (fun w_ iD=> ?_))))
   refine OT.nil (.any (.takes (fuel:=0) hT [7] kr kr rfl (.done kr sl (.seq (.seq (.region (.U hT 4 rfl (.b_ (i+((xs.take xs.length).drop j).length) xs.length hT rfl rfl rfl rfl rfl (.inr ⟨_,rfl⟩) (.inr ⟨_,rfl⟩) (by rw[List.take_length,j0];omega) hc rfl (.fJ jw Tryz.zeroValue3 rfl rfl (by rw[List.length_append,hlt]) rfl rfl pl iD (by rw[List.take_length,j0];omega) hc (fun Ep k7=> ?_))))))))))
   refine OT.nil (.seq (.seq (.region (.U hT 2 rfl (.nil (.seq (.ret (.of (rs:=[.tmp 6]) [_] (Ep::r) rfl (.tmp rfl .nil) sl ?_))))))))
   try dsimp only[one]
   exact⟨_,rfl,by rw[List.take_length]at k7⊢;exact k7⟩
  .
   refine⟨_,rfl,?_⟩
   refine OT.slice j xs.length hT rfl rfl rfl rfl rfl ho.row (.inr ⟨_,rfl⟩) (.inl ⟨rfl,rfl⟩) (by omega) (by omega) rfl (fun vD ld=> ?_)
   refine OT.nil (.any (.op (fuel:=2) 2 kr rfl sl (.jI i hT rfl rfl rfl rfl ho (by omega) rfl (fun k_=> ?_))))
   refine OT.nil (.any (.op (fuel:=1) 6 kr rfl sl (.fI hT jw rfl rfl rfl rfl pl hlt.symm k_ ld (mA _) (by rw[hlt,List.take_length,j0];omega) (by rw[List.take_length,j0];omega) rfl (fun w_ iD=> ?_))))
   refine OT.nil (.any (.takes (fuel:=0) hT [7] kr kr rfl (.done kr sl (.seq (.seq (.region (.U hT 4 rfl (.b_ (i+((xs.take xs.length).drop j).length) xs.length hT rfl rfl rfl rfl rfl (.inr ⟨_,rfl⟩) (.inr ⟨_,rfl⟩) (by rw[List.take_length,j0];omega) hc rfl (.fJ jw Tryz.zeroValue3 rfl rfl (by rw[List.length_append,hlt]) rfl rfl pl iD (by rw[List.take_length,j0];omega) hc (fun Ep k7=> ?_))))))))))
   refine OT.nil (.seq (.seq (.region (.U hT 2 rfl (.nil (.seq (.ret (.of (rs:=[.tmp 6]) [_] (Ep::r) rfl (.tmp rfl .nil) sl ?_))))))))
   try dsimp only[one]
   exact⟨_,rfl,by rw[List.take_length]at k7⊢;exact k7⟩
end Go.Proofs.YtihpkgmfkbkffaaGreat.Sx
end
section
namespace Go.Proofs.YtihpkgmfkbkffaaGreat.Sx
open Go Go.Sx Go.Pl
variable[au]
def dW(I:Chunk->Prop)(E:Int->Chunk->Prop)(res:Int->Prop)(r:List Chunk)(v':Value)(hs':List Chunk):Prop:=∃e H',v'=ta e/\e≠0/\hs'=H'::r/\((res e/\I H')\/∃e0,E e0 H')
theorem zb{a b:ByteArray}{hs:List Chunk}:aA Tryz.prog 137 [.string a,.string b] hs fun v' hs'=>v'= .int .i64 (zC a b)/\hs=hs':=fun w hm=>(Tryz.strings_Compare a b w).mono fun e w' h=>by obtain⟨rfl,rfl⟩:=h;exact⟨_,_,rfl,⟨rfl,rfl⟩,hm⟩
set_option maxHeartbeats 1000000 in
set_option maxRecDepth 100000 in
theorem yH{x:Cell}{k:ByteArray}{hs:List Chunk}:aA Tryz.prog 136 [.agg ⟨aj x⟩,.string k] hs (fun v' hs'=>v'= .int .i64 (zC x.key k)/\hs=hs'):=by
 refine aA.enter 9 Tryz.func136 rfl Tryz.ntmps136 rfl ?_
 refine TT.seq (.region (.box rfl rfl rfl (fun b_2=> ?_)))
 refine OT.U hT 1 rfl (.nil (.seq (.seq (.region (.U hT 1 rfl (.load rfl rfl (Ld.one hT rfl hz rfl) rfl ?_))))))
 refine OT.U hT 1 rfl (.call Tryz.call137 rfl rfl rfl rfl (zb) ?_)
 rintro Ed rJ ⟨rfl,rfl⟩
 refine OT.U hT 1 rfl (.nil (.seq (.ret (.of (rs:=[.tmp 4]) [_] hs rfl (.tmp rfl .nil) sl ?_))))
 try dsimp only[one]
 exact⟨rfl,rfl⟩
set_option maxHeartbeats 1000000 in
set_option maxRecDepth 100000 in
theorem A9{v:Value}{cells:List Cell}{k:ByteArray}{hs:List Chunk}(hr:Row aj 8 hs v cells)(hl:cells.length<=1000000)(xo:rising (keysOf cells)):aA Tryz.prog 135 [v,.string k,.func (.func 136) #[] #[]] hs (fun v' hs'=>v'= .tuple ⟨[.int .i64 (aL (keysOf cells) k:Nat),.bool (decide ((keysOf cells)[aL (keysOf cells) k]? =some k))]⟩/\hs=hs'):=by
 refine aA.enter 49 Tryz.func135 rfl Tryz.ntmps135 rfl ?_
 obtain⟨a0,c0,hv⟩:=hr.len
 subst hv
 have nT:=yg cells
 refine TT.seq (.region (.U hT 2 rfl (.nil (.seq (.seq (.region (.U hT 3 rfl (.nil (.seq (.seq (.region (.U hT 3 rfl (.nil (.seq (.seq (.block (.loop (ι:=Nat×Nat) (fun j=>(j.1)<=(j.2)/\(j.2)<=cells.length/\(∀(z:Nat) (x:ByteArray),z<(j.1)->(keysOf cells)[z]? =some x->cC x k=true)/\(∀(z:Nat) (x:ByteArray),(j.2)<=z->(keysOf cells)[z]? =some x->cC x k=false)) (fun j=>(j.2)-(j.1)) (fun j=>[(0,.slice a0 cells.length c0),(1,.string k),(2,.func (.func 136) #[] #[]),(8,.int .i64 (cells.length:Nat)),(9,.int .i64 ((j.1):Nat)),(10,.int .i64 ((j.2):Nat))]) (fun j=>hs) (0,cells.length) ?_ (aa.cons rfl (aa.cons rfl (aa.cons rfl (aa.cons rfl (aa.cons rfl (aa.cons rfl (aa.nil _))))))) sl ?_)))))))))))))))))
 . dsimp only
   exact⟨by omega,by omega,fun j x h=>by omega,fun j x h hx=>by rw[List.getElem?_eq_none (by omega)]at hx;cases hx⟩
 rintro⟨p,q⟩ hI
 dsimp only at hI
 obtain⟨hpq,PI,hlo,hhi⟩:=hI
 show TT _ _ _ [(0,.slice a0 cells.length c0),(1,.string k),(2,.func (.func 136) #[] #[]),(8,.int .i64 (cells.length:Nat)),(9,.int .i64 (p:Nat)),(10,.int .i64 (q:Nat))] (hs)
 refine TT.seq (.seq (.region (.U hT 3 rfl (.nil (.seq (.cond rfl (fun jn=> ?_) (fun jn=> ?_)))))))
 .
  have jn:=of_decide_eq_true jn
  obtain⟨x,hx⟩:=nth (l:=cells) (i:=(p+q)/2) (by omega)
  have Je:=bG hx
  refine TT.skip (.seq (.block (.seq (.region (.U hT 7 rfl (.nil (.seq (.seq (.region (.U hT 3 rfl (.eI 11 rfl (v:= .int .i64 (((p+q)/2:Nat):Int)) (int_eq (half (by omega))) (.eI 26 rfl (v:= .int .i64 (((p+q)/2:Nat):Int)) (int_eq (half (by omega))) (.index hT rfl rfl rfl rfl hr (by omega) (by rw[Int.toNat_natCast];exact hx) rfl (fun ON Ai=> ?_))))))))))))))
  refine OT.load rfl rfl (Ai.cO hT rfl) rfl (.U hT 1 rfl ?_)
  refine OT.xA Tryz.call136 rfl rfl rfl rfl (yH) ?_
  rintro vw uo ⟨rfl,rfl⟩
  refine OT.U hT 1 rfl (.eI 31 rfl (v:= .bool (cC x.key k)) (congrArg Value.bool (Ij _ _)) (.nil (.seq (.cond rfl (fun fE=> ?_) (fun fE=> ?_)))))
  .
   refine TT.region (.U hT 3 rfl (.nil (.blk (.loop ((p+q)/2+1,q) ?_ ?_ (aa.cons rfl (aa.cons rfl (aa.cons rfl (aa.cons rfl (aa.aM rfl (by(try dsimp only);exact(int_eq (by rw[wrap_i64 (by omega) (by omega)];omega))) (aa.cons rfl (aa.nil _))))))) sl))))
   . dsimp only
     refine⟨by omega,PI,fun j y hj hy=> ?_,hhi⟩
     by_cases e:j=(p+q)/2
     . subst e;rw[Je]at hy;cases hy;exact fE
     . exact bD (jT xo (by omega) hy Je) fE
   . dsimp only
     omega
  .
   refine TT.region (.U hT 2 rfl (.nil (.blk (.loop (p,(p+q)/2) ?_ ?_ (aa.cons rfl (aa.cons rfl (aa.cons rfl (aa.cons rfl (aa.cons rfl (aa.cons rfl (aa.nil _))))))) sl))))
   . dsimp only
     refine⟨by omega,by omega,hlo,fun j y hj hy=> ?_⟩
     by_cases e:j=(p+q)/2
     . subst e;rw[Je]at hy;cases hy;exact fE
     . cases hh:cC y k with
       |false=>rfl
       |true=>have:=bD (jT xo (by omega) Je hy) hh;rw[fE]at this;cases this
   . dsimp only
     omega
 .
  have jn:=of_decide_eq_false jn
  obtain rfl:p=q:=by omega
  have hst:aL (keysOf cells) k=p:=pP.is ⟨by omega,hlo,hhi⟩
  refine TT.exit (.seq (.loop (.here (.seq (.seq (.region (.U hT 5 rfl (.split 39 rfl (fun PS=> ?_) (fun PS=> ?_)))))))))
  .
   obtain⟨y,hy⟩:=nth (l:=cells) (i:=p) (by have:=of_decide_eq_true PS;omega)
   have Qr:=bG hy
   refine OT.U hT 3 rfl (.index hT rfl rfl rfl rfl hr (by omega) (by rw[Int.toNat_natCast];exact hy) rfl (fun Ut L2=> ?_))
   refine OT.load rfl rfl (L2.cO hT rfl) rfl (.U hT 1 rfl ?_)
   refine OT.xA Tryz.call136 rfl rfl rfl rfl (yH) ?_
   rintro NX O_ ⟨rfl,rfl⟩
   refine OT.U hT 4 rfl (.nil (.seq (.ret (.of (rs:=[.tmp 6,.tmp 7]) [_,_] hs rfl (.tmp rfl (.tmp rfl .nil)) sl ?_))))
   try dsimp only[one]
   refine⟨?_,rfl⟩
   rw[hst,Qr]
   refine congrArg (fun z=>Value.tuple ⟨[_,Value.bool z]⟩) ?_
   exact(Ik _ _).trans (decide_eq_decide.2 (by simp))
  .
   have PS:¬p<cells.length:=by have:=of_decide_eq_false PS;omega
   refine OT.U hT 11 rfl (.nil (.seq (.ret (.of (rs:=[.tmp 6,.tmp 7]) [_,_] hs rfl (.tmp rfl (.tmp rfl .nil)) sl ?_))))
   try dsimp only[one]
   refine⟨?_,rfl⟩
   rw[hst,List.getElem?_eq_none (by omega)]
   rfl
set_option maxHeartbeats 1000000 in
set_option maxRecDepth 100000 in
theorem wu{cs:List Value}{n:Nd}{k:ByteArray}{hs:List Chunk}(h:gf hs cs n)(hlc:n.cells.length<=1000)(xo:rising (keysOf n.cells)):aA Tryz.prog 96 [.agg ⟨cs⟩,.string k] hs (fun v' hs'=>v'= .tuple ⟨[.int .i64 (aL (keysOf n.cells) k:Nat),.bool (decide ((keysOf n.cells)[aL (keysOf n.cells) k]? =some k))]⟩/\hs=hs'):=by
 refine aA.enter 12 Tryz.func96 rfl Tryz.ntmps96 rfl ?_
 obtain⟨vc,vk,vi,rfl,hc,hk,hi⟩:=h.is
 obtain⟨ac,cc,e1⟩:=hc.len
 subst e1
 refine TT.seq (.region (.box rfl rfl rfl (fun b_2=> ?_)))
 refine OT.U hT 2 rfl (.nil (.seq (.seq (.region (.U hT 1 rfl (.load rfl rfl (Ld.slc hT rfl hz rfl) rfl ?_))))))
 refine OT.U hT 1 rfl (.call Tryz.call135 rfl rfl rfl rfl (A9 hc.there (by omega) xo) ?_)
 rintro J3 zF ⟨rfl,rfl⟩
 refine OT.U hT 4 rfl (.nil (.seq (.ret (.of (rs:=[.tmp 4,.tmp 5]) [_,_] hs rfl (.tmp rfl (.tmp rfl .nil)) sl ?_))))
 try dsimp only[one]
 exact⟨rfl,rfl⟩
set_option maxHeartbeats 1000000 in
set_option maxRecDepth 100000 in
theorem Cu{P:Value}{I:Chunk->Prop}{E:Int->Chunk->Prop}{pg:Pg}{H:Chunk}{r:List Chunk}(hP:ni Tryz.prog 5 P I E pg)(hI:I H){no:Int}(hno: -9223372036854775808<=no/\no<=9223372036854775807):aN Tryz.prog 132 [P,.int .i64 no] (H::r) (fun v' hs'=>∃H' K bs,hs'=H'::K::r/\Own Go.Sx.aB 1 5 v' bs K/\I H'/\mT pg no= .ok bs) (dW I E (fun e=>mT pg no= .error e) r):=by
 refine aN.enter 21 Tryz.func132 rfl Tryz.ntmps132 rfl ?_
 obtain⟨ti,ui,rfl⟩:=hP.iface
 refine TT.seq (.region (.U hT 1 rfl (.nil (.seq (.seq (.region (.U hT 2 rfl (.call Tryz.call118 rfl rfl rfl rfl (dr) ?_))))))))
 rintro J3 zF ⟨rfl,rfl⟩
 refine OT.nil (.seq (.seq (.region (.U hT 2 rfl (.kS hP rfl rfl rfl rfl pl hI (by omega) (by omega) (fun Hw NY W4 K9 Pa BE JO=> ?_))))))
 refine OT.U hT 5 rfl (.nil (.seq (.seq (.region (.U hT 3 rfl ?_)))))
 refine OT.aY Tryz.call118 rfl rfl rfl rfl (bg) (fun _ _ h=>by
  obtain⟨hb,rfl,rfl⟩:=h
  have hb:K9≠0:=by simpa using hb
  refine PP.of ⟨K9,Hw,by rw[bJ hb],hb,rfl,?_⟩ sl
  rcases JO with⟨h,_⟩|⟨_,_,⟨h1,h2⟩|h2⟩
  . exact absurd h hb
  . exact .inl ⟨by unfold mT;rw[if_neg (by rw[h1];exact hb),h1],h2⟩
  . exact .inr ⟨_,h2⟩) ?_
 rintro jY iE ⟨hb,rfl,rfl⟩
 have hb:K9=0:=by simpa using hb
 rcases JO with⟨_,hx,fX⟩|⟨h,_⟩
 rotate_left
 . exact absurd hb h
 obtain⟨X0,gM,rfl⟩:=(BE.row (hs:=[])).len
 refine OT.nil (.seq (.seq (.region (.U hT 2 rfl (.nil (.seq (.ret (.jm (rs:=[.tmp 4]) [_] (Hw::NY::r) rfl (.tmp rfl .nil) sl ?_))))))))
 try dsimp only[one]
 exact⟨Hw,NY,Pa,rfl,BE,fX,by unfold mT;rw[hx];rfl⟩
set_option maxHeartbeats 1000000 in
set_option maxRecDepth 100000 in
theorem mm{P:Value}{I:Chunk->Prop}{E:Int->Chunk->Prop}{pg:Pg}{H:Chunk}{r:List Chunk}(hP:ni Tryz.prog 5 P I E pg)(hI:I H){no:Int}(hno: -9223372036854775808<=no/\no<=9223372036854775807):aN Tryz.prog 95 [P,.int .i64 no] (H::r) (fun v' hs'=>∃H' K cs n,hs'=H'::K::r/\v'= .agg ⟨cs⟩/\iB 113 9 3 cs n K/\I H'/\bN pg no= .ok n) (dW I E (fun e=>bN pg no= .error e) r):=by
 refine aN.enter 18 Tryz.func95 rfl Tryz.ntmps95 rfl ?_
 refine TT.seq (.region (.alloc Tryz.zeroValue159 rfl rfl (fun nW=> ?_)))
 refine OT.nil (.seq (.seq (.region (.U hT 2 rfl ?_))))
 refine OT.aY Tryz.call132 rfl rfl rfl rfl (aN.pull pl (Cu hP hI hno)) (fun _ _ h=>by
  obtain⟨e,H',rfl,he,rfl,⟨h1,h2⟩|h2⟩:=h
  . exact PP.of ⟨e,H',rfl,he,rfl,.inl ⟨by unfold bN;rw[h1];rfl,h2⟩⟩ sl
  . exact PP.of ⟨e,H',rfl,he,rfl,.inr h2⟩ sl) ?_
 rintro nZ jF ⟨H1,K1,bs,rfl,eJ,fX,Mv⟩
 refine OT.call Tryz.call134 rfl rfl rfl rfl (DP eJ.row.there) ?_
 rintro qE kR ⟨K2,cs,n,e1,rfl,rfl,hN,hD⟩
 refine OT.U hT 3 rfl (.alloc Tryz.zeroValue159 rfl rfl (fun g_=> ?_))
 refine OT.ag hT rfl rfl rfl rfl pl (by exact hN.four) rfl hN.Kw (.inl (Nat.le_refl _)) ?_
 refine OT.U hT 1 rfl (.nil (.seq (.seq (.region (.U hT 2 rfl ?_)))))
 refine OT.aY Tryz.call118 rfl rfl rfl rfl (bg) (fun _ _ h=>by
  obtain⟨hb,rfl,rfl⟩:=h
  have hb:e1≠0:=by simpa using hb
  refine PP.of ⟨8,H1,by rw[bJ (by decide)],by decide,rfl,.inl ⟨?_,fX⟩⟩ sl
  rcases hD with⟨h,_⟩|⟨_,_,h⟩
  . exact absurd h hb
  . unfold bN;rw[Mv];exact F1 h) ?_
 rintro iT eY ⟨hb,rfl,rfl⟩
 have hb:e1=0:=by simpa using hb
 have VU:bC bs n:=by rcases hD with⟨_,h⟩|⟨h,_⟩
                     . exact h
                     . rw[hb]at h;cases h
 refine OT.nil (.seq (.seq (.region (.load rfl rfl (Ld.af hT rfl hz hN.four) rfl ?_))))
 refine OT.ag hT rfl rfl rfl rfl pl (by exact hN.four) rfl hN.Kw (.inl (Nat.le_refl _)) ?_
 refine OT.nil (.seq (.ret (.jm (rs:=[.cell 4 159]) [_] (H1::K2::r) rfl (.cell rfl (Ld.af hT rfl hz hN.four) .nil) sl ?_)))
 try dsimp only[one]
 exact⟨H1,K2,cs,n,rfl,rfl,hN,fX,by unfold bN;rw[Mv];exact Cb VU⟩
set_option maxHeartbeats 1000000 in
set_option maxRecDepth 100000 in
theorem rE{P:Value}{I:Chunk->Prop}{E:Int->Chunk->Prop}{pg:Pg}{H:Chunk}{r:List Chunk}(hP:ni Tryz.prog 5 P I E pg)(hI:I H):aN Tryz.prog 94 [P] (H::r) (fun v' hs'=>∃H' no,hs'=H'::r/\v'= .int .i64 no/\I H'/\b6 pg= .ok no) (dW I E (fun e=>b6 pg= .error e) r):=by
 refine aN.enter 16 Tryz.func94 rfl Tryz.ntmps94 rfl ?_
 refine TT.seq (.region (.U hT 1 rfl (.nil (.seq (.seq (.region (.U hT 1 rfl ?_)))))))
 refine OT.aY Tryz.call132 rfl rfl rfl rfl (Cu hP hI (no:=1) (by omega)) (fun _ _ h=>by
  obtain⟨e,H',rfl,he,rfl,⟨h1,h2⟩|h2⟩:=h
  . exact PP.of ⟨e,H',rfl,he,rfl,.inl ⟨by unfold b6;rw[h1];rfl,h2⟩⟩ sl
  . exact PP.of ⟨e,H',rfl,he,rfl,.inr h2⟩ sl) ?_
 rintro Ms zE ⟨H1,K1,bs,rfl,eJ,fX,Mv⟩
 refine OT.nil (.seq (.seq (.region (.U hT 1 rfl (.call Tryz.call133 rfl rfl rfl rfl (IU hP fX) ?_)))))
 rintro J3 zF ⟨H2,no,e2,rfl,rfl,TF⟩
 refine OT.U hT 5 rfl (.nil (.seq (.seq (.region (.U hT 2 rfl ?_)))))
 refine OT.aY Tryz.call118 rfl rfl rfl rfl (bg) (fun _ _ h=>by
  obtain⟨hb,rfl,rfl⟩:=h
  have hb:e2≠0:=by simpa using hb
  refine PP.of ⟨8,H2,by rw[bJ (by decide)],by decide,rfl,?_⟩ sl
  rcases TF with⟨h1,h2⟩|⟨_,h2⟩
  . exact .inl ⟨by unfold b6;rw[Mv];show(if _ then _ else _)=_;rw[<-h2,if_neg hb],h1⟩
  . exact .inr ⟨_,h2⟩) ?_
 rintro CL ur ⟨hb,rfl,rfl⟩
 have hb:e2=0:=by simpa using hb
 rcases TF with⟨dU,h2⟩|⟨h,_⟩
 rotate_left
 . exact absurd hb h
 refine OT.nil (.seq (.seq (.region (.U hT 2 rfl (.nil (.seq (.ret (.jm (rs:=[.tmp 2]) [_] (H2::r) rfl (.tmp rfl .nil) sl ?_))))))))
 try dsimp only[one]
 exact⟨H2,no,rfl,rfl,dU,by unfold b6;rw[Mv];show(if _ then _ else _)=_;rw[<-h2,if_pos hb]⟩
set_option maxHeartbeats 1000000 in
set_option maxRecDepth 100000 in
theorem wv{cs:List Value}{n:Nd}{hs:List Chunk}(h:gf hs cs n)(hlc:n.cells.length<=1000)(hlk:n.keys.length<=1000000)(xw:n.kids.length<=1000000)(hf:∀c∈n.cells,c.val.f<2^64/\c.new.f<2^64):aA Tryz.prog 176 [.agg ⟨cs⟩] hs (fun v' hs'=>v'= .bool (decide (Fits n))/\hs=hs'):=by
 refine aA.enter 12 Tryz.func176 rfl Tryz.ntmps176 rfl ?_
 have h4:cs.length=4:=by obtain⟨vc,vk,vi,e,_⟩:=h.is;rw[e];rfl
 refine TT.seq (.region (.box rfl rfl rfl (fun b_1=> ?_)))
 refine OT.U hT 1 rfl (.nil (.seq (.seq (.region (.load rfl rfl (Ld.af hT rfl hz h4) rfl ?_)))))
 refine OT.call Tryz.call144 rfl rfl rfl rfl (ql (h.mono fun _ _=> .there) hlc hlk xw hf) ?_
 rintro CV tD ⟨KE,wE,rfl,rfl,Ji⟩
 refine OT.U hT 5 rfl (.nil (.seq (.seq (.region (.U hT 3 rfl (.nil (.seq (.ret (.of (rs:=[.tmp 2]) [_] hs rfl (.tmp rfl .nil) sl ?_)))))))))
 try dsimp only[one]
 refine⟨congrArg Value.bool ?_,rfl⟩
 rw[show((bU n).2==0)=decide ((bU n).2=0)from rfl]
 exact decide_eq_decide.2 fS
set_option maxHeartbeats 1000000 in
set_option maxRecDepth 100000 in
theorem pW{b:Nat}{P:Value}{I:Chunk->Prop}{E:Int->Chunk->Prop}{Qb:ah}(hP:cW Tryz.prog 5 P I E (aK Qb))(hQ:cQ Qb){Qt:ah}{H:Chunk}{r:List Chunk}(hH:aV 110 b P I Qb Qt H){cs:List Value}{n:Nd}(h:gf r cs n)(hlc:n.cells.length<=1000)(hlk:n.keys.length<=1000000)(xw:n.kids.length<=1000000)(hf:∀c∈n.cells,c.val.f<2^64/\c.new.f<2^64){no:Int}(hno:aD no):aN Tryz.prog 104 [.pointer (some ⟨b,0,none⟩),.int .i64 no,.agg ⟨cs⟩] (H::r) (fun v' hs'=>∃H' Q',hs'=H'::r/\v'= .tuple ⟨[]⟩/\ja Qt no n= .ok Q'/\aV 110 b P I Qb Q' H') (dW (fun H=>∃Q',aV 110 b P I Qb Q' H) (cI 110 b P E) (fun e=>ja Qt no n= .error e) r):=by
 refine aN.enter 25 Tryz.func104 rfl Tryz.ntmps104 rfl ?_
 have h4:cs.length=4:=by obtain⟨vc,vk,vi,e,_⟩:=h.is;rw[e];rfl
 refine TT.seq (.region (.box rfl rfl rfl (fun g_=> ?_)))
 refine OT.nil (.seq (.seq (.region (.load rfl rfl (Ld.af hT rfl hz h4) rfl ?_))))
 refine OT.call Tryz.call144 rfl rfl rfl rfl (ql (hs:=_::H::r) (h.mono fun _ _ h=> .there (.there h)) hlc hlk xw hf) ?_
 rintro nZ jF ⟨KE,wE,rfl,rfl,Ji⟩
 refine OT.U hT 5 rfl (.nil (.seq (.seq (.region (.U hT 3 rfl ?_)))))
 refine OT.aY Tryz.call118 rfl rfl rfl rfl (bg) (fun _ _ h=>by
  obtain⟨hb,rfl,rfl⟩:=h
  have hb:(bU n).2≠0:=by simpa using hb
  exact PP.of ⟨(bU n).2,H,by rw[bJ hb],hb,rfl,.inl ⟨by unfold ja;rw[if_neg hb],Qt,hH⟩⟩ sl) ?_
 rintro iT eY ⟨hb,rfl,rfl⟩
 have hb:(bU n).2=0:=by simpa using hb
 refine OT.nil (.seq (.seq (.region (.U hT 3 rfl (.call Tryz.call109 rfl rfl rfl rfl (aA.weaken sl (nB hP hQ hH (no:=no) (r:=KE::r) Ji.row hno (j7 (fS.1 hb)))) ?_)))))
 rintro vz rS ⟨H2,rfl,rfl,dU⟩
 refine OT.U hT 1 rfl (.nil (.seq (.region (.U hT 3 rfl (.call Tryz.call118 rfl rfl rfl rfl (dr) ?_)))))
 rintro EE xJ ⟨rfl,rfl⟩
 refine OT.nil (.jm (rs:=[]) [] (H2::r) rfl .nil sl ?_)
 try dsimp only[one]
 exact⟨H2,_,rfl,rfl,by unfold ja;rw[if_pos hb],dU⟩
set_option maxHeartbeats 1000000 in
set_option maxRecDepth 100000 in
theorem wz{b:Nat}{P:Value}{I:Chunk->Prop}{E:Int->Chunk->Prop}{Qb:ah}(hP:cW Tryz.prog 5 P I E (aK Qb))(hQ:cQ Qb){Qt:ah}{H:Chunk}{r:List Chunk}(hH:aV 110 b P I Qb Qt H):aN Tryz.prog 102 [.pointer (some ⟨b,0,none⟩)] (H::r) (fun v' hs'=>∃H' no Q',hs'=H'::r/\v'= .int .i64 no/\fA Qt= .ok (no,Q')/\aV 110 b P I Qb Q' H') (dW (fun H=>∃Q',aV 110 b P I Qb Q' H) (cI 110 b P E) (fun e=>fA Qt= .error e) r):=by
 refine aN.enter 15 Tryz.func102 rfl Tryz.ntmps102 rfl ?_
 refine TT.seq (.region (.U hT 1 rfl (.nil (.seq (.seq (.region (.U hT 1 rfl (.call Tryz.call142 rfl rfl rfl rfl (IV hP hQ hH) ?_))))))))
 rintro CV tD ⟨H1,no,e1,rfl,rfl,nh⟩
 refine OT.U hT 5 rfl (.nil (.seq (.seq (.region (.U hT 3 rfl ?_)))))
 refine OT.aY Tryz.call118 rfl rfl rfl rfl (bg) (fun _ _ h=>by
  obtain⟨hb,rfl,rfl⟩:=h
  have hb:e1≠0:=by simpa using hb
  rcases nh with⟨n,_,h,_⟩|⟨h1,rfl,h2⟩|⟨_,h2⟩
  . exact absurd h hb
  . exact PP.of ⟨4,H1,by rw[bJ hb],hb,rfl,.inl ⟨by unfold fA;rw[h1],Qt,h2⟩⟩ sl
  . exact PP.of ⟨e1,H1,by rw[bJ hb],hb,rfl,.inr h2⟩ sl) ?_
 rintro xd BB ⟨hb,rfl,rfl⟩
 have hb:e1=0:=by simpa using hb
 rcases nh with⟨n,h1,_,rfl,dU⟩|⟨_,h,_⟩|⟨h,_⟩
 rotate_left
 . rw[hb]at h;cases h
 . exact absurd hb h
 refine OT.nil (.seq (.seq (.region (.U hT 2 rfl (.nil (.seq (.ret (.jm (rs:=[.tmp 2]) [_] (H1::r) rfl (.tmp rfl .nil) sl ?_))))))))
 try dsimp only[one]
 exact⟨H1,_,_,rfl,rfl,by unfold fA;rw[h1],dU⟩
set_option maxHeartbeats 1000000 in
set_option maxRecDepth 100000 in
theorem Cv{b:Nat}{P:Value}{I:Chunk->Prop}{E:Int->Chunk->Prop}{Qb:ah}(hP:cW Tryz.prog 5 P I E (aK Qb))(hQ:cQ Qb){Qt:ah}{H:Chunk}{r:List Chunk}(hH:aV 110 b P I Qb Qt H){no:Int}(hno:0<=no/\no<32):aN Tryz.prog 153 [.pointer (some ⟨b,0,none⟩),.int .i64 no] (H::r) (fun v' hs'=>∃H' Q',hs'=H'::r/\v'= .tuple ⟨[]⟩/\kO Qt no= .ok Q'/\aV 110 b P I Qb Q' H') (dW (fun H=>∃Q',aV 110 b P I Qb Q' H) (cI 110 b P E) (fun e=>kO Qt no= .error e) r):=by
 refine aN.enter 11 Tryz.func153 rfl Tryz.ntmps153 rfl ?_
 obtain⟨n,rfl⟩:∃n:Nat,no=n:=⟨no.toNat,by omega⟩
 refine TT.seq (.region (.U hT 2 rfl (.call Tryz.call183 rfl rfl rfl rfl (IW hP hQ hH (n:=n) (by omega)) ?_)))
 rintro CV tD ⟨H1,e1,rfl,rfl,nh⟩
 refine OT.U hT 1 rfl (.nil (.seq (.region (.U hT 2 rfl ?_))))
 refine OT.aY Tryz.call118 rfl rfl rfl rfl (bg) (fun _ _ h=>by
  obtain⟨hb,rfl,rfl⟩:=h
  have hb:e1≠0:=by simpa using hb
  rcases nh with⟨_,h,_⟩|⟨h1,rfl,h2⟩|⟨_,h2⟩
  . exact absurd h hb
  . exact PP.of ⟨8,H1,by rw[bJ (by decide)],by decide,rfl,.inl ⟨by unfold kO;rw[if_neg (by rw[h1];simp)],Qt,h2⟩⟩ sl
  . exact PP.of ⟨8,H1,by rw[bJ (by decide)],by decide,rfl,.inr h2⟩ sl) ?_
 rintro nZ jF ⟨hb,rfl,rfl⟩
 have hb:e1=0:=by simpa using hb
 rcases nh with⟨h1,_,dU⟩|⟨_,h,_⟩|⟨h,_⟩
 rotate_left
 . rw[hb]at h;cases h
 . exact absurd hb h
 refine OT.nil (.jm (rs:=[]) [] (H1::r) rfl .nil sl ?_)
 try dsimp only[one]
 exact⟨H1,_,rfl,rfl,by unfold kO;rw[if_pos h1];rfl,dU⟩
set_option maxHeartbeats 1000000 in
set_option maxRecDepth 100000 in
theorem kH{b:Nat}{P:Value}{I:Chunk->Prop}{E:Int->Chunk->Prop}{Qb:ah}(hP:cW Tryz.prog 5 P I E (aK Qb))(hQ:cQ Qb){Qt:ah}{H:Chunk}{r:List Chunk}(hH:aV 110 b P I Qb Qt H){no:Int}(hno:no=0\/ay no):aN Tryz.prog 103 [.pointer (some ⟨b,0,none⟩),.int .i64 no] (H::r) (fun v' hs'=>∃H',hs'=H'::r/\v'= .tuple ⟨[]⟩/\aV 110 b P I Qb (cq Qt no) H') (dW (fun H=>∃Q',aV 110 b P I Qb Q' H) (cI 110 b P E) (fun e=>(.ok ():TE Unit)= .error e) r):=by
 refine aN.enter 12 Tryz.func103 rfl Tryz.ntmps103 rfl ?_
 refine TT.seq (.region (.U hT 2 rfl (.call Tryz.call143 rfl rfl rfl rfl (A4 hP hQ hH hno) ?_)))
 rintro CV tD ⟨H1,e1,rfl,rfl,nh⟩
 refine OT.U hT 1 rfl (.nil (.seq (.region (.U hT 3 rfl ?_))))
 refine OT.aY Tryz.call118 rfl rfl rfl rfl (bg) (fun _ _ h=>by
  obtain⟨hb,rfl,rfl⟩:=h
  have hb:e1≠0:=by simpa using hb
  rcases nh with⟨h,_⟩|⟨_,h2⟩
  . exact absurd h hb
  . exact PP.of ⟨e1,H1,by rw[bJ hb],hb,rfl,.inr h2⟩ sl) ?_
 rintro qE kR ⟨hb,rfl,rfl⟩
 have hb:e1=0:=by simpa using hb
 rcases nh with⟨_,dU⟩|⟨h,_⟩
 rotate_left
 . exact absurd hb h
 refine OT.nil (.jm (rs:=[]) [] (H1::r) rfl .nil sl ?_)
 try dsimp only[one]
 exact⟨H1,rfl,rfl,dU⟩
end Go.Proofs.YtihpkgmfkbkffaaGreat.Sx
end
section
namespace Go.Proofs.YtihpkgmfkbkffaaGreat.Sx
open Go Go.Sx Go.Pl
variable[au]
set_option maxHeartbeats 4000000 in
set_option maxRecDepth 100000 in
theorem vp{cs:List Value}{n:Nd}{hs0 hs:List Chunk}{i:Nat}(h:gf hs0 cs n)(hh:∀b o,Has hs0 b o->Has hs b o)(hlc:n.cells.length<=1000)(xw:n.kids.length<=1000)(h1:1<=i)(h2:i<cD n)(h3:n.leaf=false->n.keys.length+1=n.kids.length)(hks:∀c∈n.cells,c.key.size<=1000000):aA Tryz.prog 177 [.agg ⟨cs⟩,.int .i64 (i:Nat)] hs (fun v' hs'=>∃cl cr,v'= .tuple ⟨[.agg ⟨cl⟩,.agg ⟨cr⟩,.string (bu n i).2.2]⟩/\hs'=hs/\gf hs0 cl (bu n i).1/\gf hs0 cr (bu n i).2.1/\dy cl=true/\dy cr=true):=by
 refine aA.enter 66 Tryz.func177 rfl Tryz.ntmps177 rfl ?_
 obtain⟨vc,vk,vi,rfl,hc,hk,hi⟩:=h.is
 obtain⟨ac,cc,e1⟩:=hc.len
 obtain⟨ak,ck,e2⟩:=hk.len
 obtain⟨ai,ci,e3⟩:=hi.len
 subst e1 e2 e3
 have ki:=hc.gN
 have nT:=hk.gN
 have hil:=hi.gN
 refine TT.seq (.region (.box rfl rfl rfl (fun b_2=> ?_)))
 refine OT.alloc Tryz.zeroValue159 rfl rfl (fun nW=> ?_)
 refine OT.alloc Tryz.zeroValue159 rfl rfl (fun g_=> ?_)
 refine OT.U hT 1 rfl (.nil (.seq (.seq (.seq (.region (.U hT 1 rfl (.load rfl rfl (Ld.one hT rfl hz rfl) rfl ?_)))))))
 refine OT.nil (.seq (.cond rfl (fun fu=> ?_) (fun fu=> ?_)))
 .
  unfold cD at h2;rw[if_pos fu]at h2
  rw[gF fu]
  obtain⟨xi,mM⟩:=nth (l:=n.cells) (i:=i) (by omega)
  obtain⟨xj,Kc⟩:=nth (l:=n.cells) (i:=i-1) (by omega)
  rw[oJ mM,oJ Kc]
  refine TT.seq (.draw (([(b_2,blk [.bool n.leaf,.slice ac n.cells.length cc,.slice ak n.keys.length ck,.slice ai n.kids.length ci] 159 (0,0))]::hs)) mixed (.takes (fuel:=10) hT [0,2,5,7] kr kr rfl (.take (fuel:=9) hT 1 rfl rfl kr kr kr rfl (.load rfl (Ld.slc hT rfl hz rfl)) rfl ?_)))
  refine AT.take (fuel:=8) hT 6 rfl rfl kr kr kr rfl (.load rfl (Ld.slc hT rfl hz rfl)) rfl ?_
  refine AT.take (fuel:=7) hT 3 rfl rfl kr kr kr rfl (Fl.b_ 0 i hT rfl rfl rfl rfl (.inl ⟨rfl,rfl⟩) (.inr ⟨_,rfl⟩) (by omega) (by omega)) rfl (.take (fuel:=6) hT 4 rfl rfl kr kr kr rfl (gB (cs:=[.bool true,.slice (if cc=0 then ac else ac.map (·.add (0*8))) (i-0) (cc-0),.slice none 0 0,.slice none 0 0]) hT rfl Tryz.zeroValue159 rfl rfl) rfl (.take (fuel:=5) hT 8 rfl rfl kr kr kr rfl (Fl.b_ i n.cells.length hT rfl rfl rfl rfl (.inr ⟨_,rfl⟩) (.inl ⟨rfl,rfl⟩) (by omega) (by omega)) rfl (.take (fuel:=4) hT 9 rfl rfl kr kr kr rfl (gB (cs:=[.bool true,.slice (if cc=i then ac else ac.map (·.add (i*8))) (n.cells.length-i) (cc-i),.slice none 0 0,.slice none 0 0]) hT rfl Tryz.zeroValue159 rfl rfl) rfl (.all (fuel:=3) [10,11] kr (by decide) sl ?_))))
  intro i hi
  simp only[List.mem_cons,List.not_mem_nil,or_false]at hi
  rcases hi with rfl|rfl
  .
   refine⟨_,rfl,?_⟩
   refine OT.alloc Tryz.zeroValue159 rfl rfl (fun Mu=> ?_)
   refine OT.nil (.any (.op (fuel:=2) 11 kr rfl sl (.alloc Tryz.zeroValue159 rfl rfl (fun fH=> ?_))))
   refine OT.nil (.any (.op (fuel:=1) 12 kr rfl sl (.ag hT rfl rfl rfl rfl pl rfl rfl rfl (.inl (Nat.le_refl _)) ?_)))
   refine OT.nil (.any (.op (fuel:=0) 13 kr rfl sl (.ag hT rfl rfl rfl rfl pl rfl rfl rfl (.inl (Nat.le_refl _)) ?_)))
   refine OT.nil (.any (.done kr sl (.seq (.seq (.draw (([(Mu,blk [.bool true,.slice (if cc=0 then ac else ac.map (·.add (0*8))) (i-0) (cc-0),.slice none 0 0,.slice none 0 0] 159 (0,0))]::[(fH,blk [.bool true,.slice (if cc=i then ac else ac.map (·.add (i*8))) (n.cells.length-i) (cc-i),.slice none 0 0,.slice none 0 0] 159 (0,0))]::[(b_2,blk [.bool n.leaf,.slice ac n.cells.length cc,.slice ak n.keys.length ck,.slice ai n.kids.length ci] 159 (0,0))]::hs)) mixed (.takes (fuel:=14) hT [2,4,5,9,11] kr kr rfl (.take (fuel:=13) hT 0 rfl rfl kr kr kr rfl (.load rfl (Ld.af hT rfl hz rfl)) rfl ?_)))))))
   refine AT.take (fuel:=12) hT 1 rfl rfl kr kr kr rfl (.load rfl (Ld.af hT rfl hz rfl)) rfl ?_
   refine AT.take (fuel:=11) hT 3 rfl rfl kr kr kr rfl (.load rfl (Ld.slc hT rfl hz rfl)) rfl ?_
   refine AT.take (fuel:=10) hT 10 rfl rfl kr kr kr rfl (.load rfl (Ld.slc hT rfl hz rfl)) rfl ?_
   refine AT.index (fuel:=9) hT 6 rfl kr kr kr rfl rfl rfl rfl ((hc.mono hh).there.there.there) (by rw[wrap_i64 (by omega) (by omega)];omega) (by rw[wrap_i64 (by omega) (by omega),show((i:Int)-1).toNat=i-1 by omega];exact Kc) rfl (fun JJ r5=> ?_)
   obtain⟨Pb,Pc,rfl,wA⟩:=r5.at (P:=Tryz.prog)
   refine AT.takes (fuel:=8) hT [7] kr kr rfl (.take (fuel:=7) hT 8 rfl rfl kr kr kr rfl (.load rfl (wA hT rfl rfl)) rfl (.index (fuel:=6) hT 12 rfl kr kr kr rfl rfl rfl rfl ((hc.mono hh).there.there.there) (by omega) (by rw[Int.toNat_natCast];exact mM) rfl (fun xS iL=> ?_)))
   obtain⟨Pd,Pe,rfl,wB⟩:=iL.at (P:=Tryz.prog)
   refine AT.takes (fuel:=5) hT [13] kr kr rfl (.take (fuel:=4) hT 14 rfl rfl kr kr kr rfl (.load rfl (wB hT rfl rfl)) rfl (.op (fuel:=3) 15 kr rfl sl (.call Tryz.call201 rfl rfl rfl rfl (Fm (hks xi (List.mem_of_getElem? mM))) ?_)))
   rintro xe ux ⟨rfl,rfl⟩
   refine OT.nil (.any (.op (fuel:=2) 16 kr rfl sl (.ag hT rfl rfl rfl rfl pl rfl rfl rfl (.inl (Nat.le_refl _)) ?_)))
   refine OT.nil (.any (.op (fuel:=1) 17 kr rfl sl (.ag hT rfl rfl rfl rfl pl rfl rfl rfl (.inl (Nat.le_refl _)) ?_)))
   refine OT.nil (.any (.takes (fuel:=0) hT [18] kr kr rfl (.done kr sl (.seq (.ret (.of (rs:=[.cell 4 159,.cell 5 159,.tmp 6]) [_,_,_] hs rfl (.cell rfl (Ld.af hT rfl hz rfl) (.cell rfl (Ld.af hT rfl hz rfl) (.tmp rfl .nil))) sl ?_))))))
   try dsimp only[one]
   exact⟨_,_,rfl,rfl,⟨_,_,_,rfl,pQ hc (by omega),Row.nil,Row.nil⟩,⟨_,_,_,rfl,jK hc (by omega),Row.nil,Row.nil⟩,rfl,rfl⟩
  .
   refine⟨_,rfl,?_⟩
   refine OT.alloc Tryz.zeroValue159 rfl rfl (fun fH=> ?_)
   refine OT.nil (.any (.op (fuel:=2) 10 kr rfl sl (.alloc Tryz.zeroValue159 rfl rfl (fun Mu=> ?_))))
   refine OT.nil (.any (.op (fuel:=1) 12 kr rfl sl (.ag hT rfl rfl rfl rfl pl rfl rfl rfl (.inl (Nat.le_refl _)) ?_)))
   refine OT.nil (.any (.op (fuel:=0) 13 kr rfl sl (.ag hT rfl rfl rfl rfl pl rfl rfl rfl (.inl (Nat.le_refl _)) ?_)))
   refine OT.nil (.any (.done kr sl (.seq (.seq (.draw (([(Mu,blk [.bool true,.slice (if cc=0 then ac else ac.map (·.add (0*8))) (i-0) (cc-0),.slice none 0 0,.slice none 0 0] 159 (0,0))]::[(fH,blk [.bool true,.slice (if cc=i then ac else ac.map (·.add (i*8))) (n.cells.length-i) (cc-i),.slice none 0 0,.slice none 0 0] 159 (0,0))]::[(b_2,blk [.bool n.leaf,.slice ac n.cells.length cc,.slice ak n.keys.length ck,.slice ai n.kids.length ci] 159 (0,0))]::hs)) mixed (.takes (fuel:=14) hT [2,4,5,9,11] kr kr rfl (.take (fuel:=13) hT 0 rfl rfl kr kr kr rfl (.load rfl (Ld.af hT rfl hz rfl)) rfl ?_)))))))
   refine AT.take (fuel:=12) hT 1 rfl rfl kr kr kr rfl (.load rfl (Ld.af hT rfl hz rfl)) rfl ?_
   refine AT.take (fuel:=11) hT 3 rfl rfl kr kr kr rfl (.load rfl (Ld.slc hT rfl hz rfl)) rfl ?_
   refine AT.take (fuel:=10) hT 10 rfl rfl kr kr kr rfl (.load rfl (Ld.slc hT rfl hz rfl)) rfl ?_
   refine AT.index (fuel:=9) hT 6 rfl kr kr kr rfl rfl rfl rfl ((hc.mono hh).there.there.there) (by rw[wrap_i64 (by omega) (by omega)];omega) (by rw[wrap_i64 (by omega) (by omega),show((i:Int)-1).toNat=i-1 by omega];exact Kc) rfl (fun JJ r5=> ?_)
   obtain⟨Pb,Pc,rfl,wA⟩:=r5.at (P:=Tryz.prog)
   refine AT.takes (fuel:=8) hT [7] kr kr rfl (.take (fuel:=7) hT 8 rfl rfl kr kr kr rfl (.load rfl (wA hT rfl rfl)) rfl (.index (fuel:=6) hT 12 rfl kr kr kr rfl rfl rfl rfl ((hc.mono hh).there.there.there) (by omega) (by rw[Int.toNat_natCast];exact mM) rfl (fun xS iL=> ?_)))
   obtain⟨Pd,Pe,rfl,wB⟩:=iL.at (P:=Tryz.prog)
   refine AT.takes (fuel:=5) hT [13] kr kr rfl (.take (fuel:=4) hT 14 rfl rfl kr kr kr rfl (.load rfl (wB hT rfl rfl)) rfl (.op (fuel:=3) 15 kr rfl sl (.call Tryz.call201 rfl rfl rfl rfl (Fm (hks xi (List.mem_of_getElem? mM))) ?_)))
   rintro xe ux ⟨rfl,rfl⟩
   refine OT.nil (.any (.op (fuel:=2) 16 kr rfl sl (.ag hT rfl rfl rfl rfl pl rfl rfl rfl (.inl (Nat.le_refl _)) ?_)))
   refine OT.nil (.any (.op (fuel:=1) 17 kr rfl sl (.ag hT rfl rfl rfl rfl pl rfl rfl rfl (.inl (Nat.le_refl _)) ?_)))
   refine OT.nil (.any (.takes (fuel:=0) hT [18] kr kr rfl (.done kr sl (.seq (.ret (.of (rs:=[.cell 4 159,.cell 5 159,.tmp 6]) [_,_,_] hs rfl (.cell rfl (Ld.af hT rfl hz rfl) (.cell rfl (Ld.af hT rfl hz rfl) (.tmp rfl .nil))) sl ?_))))))
   try dsimp only[one]
   exact⟨_,_,rfl,rfl,⟨_,_,_,rfl,pQ hc (by omega),Row.nil,Row.nil⟩,⟨_,_,_,rfl,jK hc (by omega),Row.nil,Row.nil⟩,rfl,rfl⟩
 .
  unfold cD at h2;rw[if_neg (by rw[fu];simp)]at h2
  have h3:=h3 fu
  rw[gG fu]
  obtain⟨xj,Kc⟩:=nth (l:=n.keys) (i:=i-1) (by omega)
  have hgd:n.keys.getD (i-1) ⟨#[]⟩=xj:=by rw[List.getD_eq_getElem?_getD,Kc];rfl
  rw[hgd]
  refine TT.skip (.seq (.seq (.draw (([(b_2,blk [.bool n.leaf,.slice ac n.cells.length cc,.slice ak n.keys.length ck,.slice ai n.kids.length ci] 159 (0,0))]::hs)) mixed (.takes (fuel:=14) hT [0,2,3,5,7,10,12,14,16] kr kr rfl (.take (fuel:=13) hT 1 rfl rfl kr kr kr rfl (.load rfl (Ld.slc hT rfl hz rfl)) rfl ?_)))))
  refine AT.take (fuel:=12) hT 6 rfl rfl kr kr kr rfl (.load rfl (Ld.slc hT rfl hz rfl)) rfl ?_
  refine AT.take (fuel:=11) hT 11 rfl rfl kr kr kr rfl (.load rfl (Ld.slc hT rfl hz rfl)) rfl ?_
  refine AT.take (fuel:=10) hT 15 rfl rfl kr kr kr rfl (.load rfl (Ld.slc hT rfl hz rfl)) rfl ?_
  refine AT.take (fuel:=9) hT 4 rfl rfl kr kr kr rfl (Fl.b_ 0 (i-1) hT rfl rfl rfl rfl (.inl ⟨rfl,rfl⟩) (.inr ⟨.i64,congrArg some (int_eq (by rw[wrap_i64 (by omega) (by omega)];omega))⟩) (by omega) (by omega)) rfl (.take (fuel:=8) hT 8 rfl rfl kr kr kr rfl (Fl.b_ 0 i hT rfl rfl rfl rfl (.inl ⟨rfl,rfl⟩) (.inr ⟨_,rfl⟩) (by omega) (by omega)) rfl (.take (fuel:=7) hT 9 rfl rfl kr kr kr rfl (gB (cs:=[.bool false,.slice none 0 0,.slice (if ck=0 then ak else ak.map (·.add (0*1))) (i-1-0) (ck-0),.slice (if ci=0 then ai else ai.map (·.add (0*1))) (i-0) (ci-0)]) hT rfl Tryz.zeroValue159 rfl rfl) rfl (.take (fuel:=6) hT 13 rfl rfl kr kr kr rfl (Fl.b_ i n.keys.length hT rfl rfl rfl rfl (.inr ⟨_,rfl⟩) (.inl ⟨rfl,rfl⟩) (by omega) (by omega)) rfl (.take (fuel:=5) hT 17 rfl rfl kr kr kr rfl (Fl.b_ i n.kids.length hT rfl rfl rfl rfl (.inr ⟨_,rfl⟩) (.inl ⟨rfl,rfl⟩) (by omega) (by omega)) rfl (.take (fuel:=4) hT 18 rfl rfl kr kr kr rfl (gB (cs:=[.bool false,.slice none 0 0,.slice (if ck=i then ak else ak.map (·.add (i*1))) (n.keys.length-i) (ck-i),.slice (if ci=i then ai else ai.map (·.add (i*1))) (n.kids.length-i) (ci-i)]) hT rfl Tryz.zeroValue159 rfl rfl) rfl (.all (fuel:=3) [19,20] kr (by decide) sl ?_))))))
  intro i hi
  simp only[List.mem_cons,List.not_mem_nil,or_false]at hi
  rcases hi with rfl|rfl
  .
   refine⟨_,rfl,?_⟩
   refine OT.alloc Tryz.zeroValue159 rfl rfl (fun gR=> ?_)
   refine OT.nil (.any (.op (fuel:=2) 20 kr rfl sl (.alloc Tryz.zeroValue159 rfl rfl (fun vC=> ?_))))
   refine OT.nil (.any (.op (fuel:=1) 21 kr rfl sl (.ag hT rfl rfl rfl rfl pl rfl rfl rfl (.inl (Nat.le_refl _)) ?_)))
   refine OT.nil (.any (.op (fuel:=0) 22 kr rfl sl (.ag hT rfl rfl rfl rfl pl rfl rfl rfl (.inl (Nat.le_refl _)) ?_)))
   refine OT.nil (.any (.done kr sl (.seq (.seq (.draw (([(gR,blk [.bool false,.slice none 0 0,.slice (if ck=0 then ak else ak.map (·.add (0*1))) (i-1-0) (ck-0),.slice (if ci=0 then ai else ai.map (·.add (0*1))) (i-0) (ci-0)] 159 (0,0))]::[(vC,blk [.bool false,.slice none 0 0,.slice (if ck=i then ak else ak.map (·.add (i*1))) (n.keys.length-i) (ck-i),.slice (if ci=i then ai else ai.map (·.add (i*1))) (n.kids.length-i) (ci-i)] 159 (0,0))]::[(b_2,blk [.bool n.leaf,.slice ac n.cells.length cc,.slice ak n.keys.length ck,.slice ai n.kids.length ci] 159 (0,0))]::hs)) mixed (.takes (fuel:=8) hT [2,4,5] kr kr rfl (.take (fuel:=7) hT 0 rfl rfl kr kr kr rfl (.load rfl (Ld.af hT rfl hz rfl)) rfl ?_)))))))
   refine AT.take (fuel:=6) hT 1 rfl rfl kr kr kr rfl (.load rfl (Ld.af hT rfl hz rfl)) rfl ?_
   refine AT.take (fuel:=5) hT 3 rfl rfl kr kr kr rfl (.load rfl (Ld.slc hT rfl hz rfl)) rfl ?_
   refine AT.index (fuel:=4) hT 6 rfl kr kr kr rfl rfl rfl rfl ((hk.mono hh).there.there.there) (by rw[wrap_i64 (by omega) (by omega)];omega) (by rw[wrap_i64 (by omega) (by omega),show((i:Int)-1).toNat=i-1 by omega];exact Kc) rfl (fun Pf Al=> ?_)
   refine AT.take (fuel:=3) hT 7 rfl rfl kr kr kr rfl (.load rfl (Al.bL hT rfl rfl)) rfl (.op (fuel:=2) 8 kr rfl sl (.ag hT rfl rfl rfl rfl pl rfl rfl rfl (.inl (Nat.le_refl _)) ?_))
   refine OT.nil (.any (.op (fuel:=1) 9 kr rfl sl (.ag hT rfl rfl rfl rfl pl rfl rfl rfl (.inl (Nat.le_refl _)) ?_)))
   refine OT.nil (.any (.takes (fuel:=0) hT [10] kr kr rfl (.done kr sl (.seq (.ret (.of (rs:=[.cell 4 159,.cell 5 159,.tmp 6]) [_,_,_] hs rfl (.cell rfl (Ld.af hT rfl hz rfl) (.cell rfl (Ld.af hT rfl hz rfl) (.tmp rfl .nil))) sl ?_))))))
   try dsimp only[one]
   exact⟨_,_,rfl,rfl,⟨_,_,_,rfl,Row.nil,pQ hk (by omega),pQ hi (by omega)⟩,⟨_,_,_,rfl,Row.nil,jK hk (by omega),jK hi (by omega)⟩,rfl,rfl⟩
  .
   refine⟨_,rfl,?_⟩
   refine OT.alloc Tryz.zeroValue159 rfl rfl (fun vC=> ?_)
   refine OT.nil (.any (.op (fuel:=2) 19 kr rfl sl (.alloc Tryz.zeroValue159 rfl rfl (fun gR=> ?_))))
   refine OT.nil (.any (.op (fuel:=1) 21 kr rfl sl (.ag hT rfl rfl rfl rfl pl rfl rfl rfl (.inl (Nat.le_refl _)) ?_)))
   refine OT.nil (.any (.op (fuel:=0) 22 kr rfl sl (.ag hT rfl rfl rfl rfl pl rfl rfl rfl (.inl (Nat.le_refl _)) ?_)))
   refine OT.nil (.any (.done kr sl (.seq (.seq (.draw (([(gR,blk [.bool false,.slice none 0 0,.slice (if ck=0 then ak else ak.map (·.add (0*1))) (i-1-0) (ck-0),.slice (if ci=0 then ai else ai.map (·.add (0*1))) (i-0) (ci-0)] 159 (0,0))]::[(vC,blk [.bool false,.slice none 0 0,.slice (if ck=i then ak else ak.map (·.add (i*1))) (n.keys.length-i) (ck-i),.slice (if ci=i then ai else ai.map (·.add (i*1))) (n.kids.length-i) (ci-i)] 159 (0,0))]::[(b_2,blk [.bool n.leaf,.slice ac n.cells.length cc,.slice ak n.keys.length ck,.slice ai n.kids.length ci] 159 (0,0))]::hs)) mixed (.takes (fuel:=8) hT [2,4,5] kr kr rfl (.take (fuel:=7) hT 0 rfl rfl kr kr kr rfl (.load rfl (Ld.af hT rfl hz rfl)) rfl ?_)))))))
   refine AT.take (fuel:=6) hT 1 rfl rfl kr kr kr rfl (.load rfl (Ld.af hT rfl hz rfl)) rfl ?_
   refine AT.take (fuel:=5) hT 3 rfl rfl kr kr kr rfl (.load rfl (Ld.slc hT rfl hz rfl)) rfl ?_
   refine AT.index (fuel:=4) hT 6 rfl kr kr kr rfl rfl rfl rfl ((hk.mono hh).there.there.there) (by rw[wrap_i64 (by omega) (by omega)];omega) (by rw[wrap_i64 (by omega) (by omega),show((i:Int)-1).toNat=i-1 by omega];exact Kc) rfl (fun Pf Al=> ?_)
   refine AT.take (fuel:=3) hT 7 rfl rfl kr kr kr rfl (.load rfl (Al.bL hT rfl rfl)) rfl (.op (fuel:=2) 8 kr rfl sl (.ag hT rfl rfl rfl rfl pl rfl rfl rfl (.inl (Nat.le_refl _)) ?_))
   refine OT.nil (.any (.op (fuel:=1) 9 kr rfl sl (.ag hT rfl rfl rfl rfl pl rfl rfl rfl (.inl (Nat.le_refl _)) ?_)))
   refine OT.nil (.any (.takes (fuel:=0) hT [10] kr kr rfl (.done kr sl (.seq (.ret (.of (rs:=[.cell 4 159,.cell 5 159,.tmp 6]) [_,_,_] hs rfl (.cell rfl (Ld.af hT rfl hz rfl) (.cell rfl (Ld.af hT rfl hz rfl) (.tmp rfl .nil))) sl ?_))))))
   try dsimp only[one]
   exact⟨_,_,rfl,rfl,⟨_,_,_,rfl,Row.nil,pQ hk (by omega),pQ hi (by omega)⟩,⟨_,_,_,rfl,Row.nil,jK hk (by omega),jK hi (by omega)⟩,rfl,rfl⟩
set_option maxHeartbeats 4000000 in
set_option maxRecDepth 100000 in
theorem Fs{b:Nat}{P:Value}{I:Chunk->Prop}{E:Int->Chunk->Prop}{Qb:ah}(hP:cW Tryz.prog 5 P I E (aK Qb))(hQ:cQ Qb){Qt:ah}{H:Chunk}{r:List Chunk}(hH:aV 110 b P I Qb Qt H){cs:List Value}{n:Nd}(h:gf r cs n)(hn:qp n)(h1c:dy cs=true){no:Int}(hno:aD no):aN Tryz.prog 146 [.pointer (some ⟨b,0,none⟩),.int .i64 no,.agg ⟨cs⟩] (H::r) (fun v' hs'=>∃H' x Q',hs'=H'::r/\v'= .agg ⟨[.string x.1,.int .i64 x.2]⟩/\kU Qt no n= .ok (x,Q')/\aV 110 b P I Qb Q' H') (dW (fun H=>∃Q',aV 110 b P I Qb Q' H) (cI 110 b P E) (fun e=>kU Qt no n= .error e) r):=by
 refine aN.enter 92 Tryz.func146 rfl Tryz.ntmps146 rfl ?_
 have h4:=h.four
 have X1:=Ds hn
 have hlc:=hn.cells
 have hlk:=hn.keys
 have xw:=hn.kids
 obtain⟨vc,vk,vi,hcs,VV,VW,VX⟩:=h.is
 obtain⟨ac,cc,e1⟩:=VV.len
 obtain⟨ak,ck,e2⟩:=VW.len
 obtain⟨ai,ci,e3⟩:=VX.len
 subst e1 e2 e3
 refine TT.seq (.region (.box rfl rfl rfl (fun g_=> ?_)))
 refine OT.alloc Tryz.zeroValue171 rfl rfl (fun eG=> ?_)
 refine OT.nil (.seq (.seq (.seq (.region (.load rfl rfl (Ld.af hT rfl hz h4) rfl ?_)))))
 refine OT.call Tryz.call176 rfl rfl rfl rfl (wv (h.mono fun _ _ h=> .there (.there (.there h))) hlc (by omega) (by omega) hn.fl) ?_
 rintro vz rS ⟨rfl,rfl⟩
 refine OT.nil (.seq (.cond rfl (fun vI=> ?_) (fun vI=> ?_)))
 .
  have vI:Fits n:=of_decide_eq_true vI
  refine TT.seq (.region (.U hT 2 rfl (.load rfl rfl (Ld.af hT rfl hz h4) rfl ?_)))
  refine OT.aY Tryz.call104 rfl rfl rfl rfl (aN.pull pl (pW hP hQ hH (h.mono fun _ _ h=> .there (.there h)) hlc (by omega) (by omega) hn.fl hno)) (fun _ _ h=>by
   obtain⟨e,H',rfl,he,rfl,⟨h1,h2⟩|h2⟩:=h
   . exact PP.of ⟨e,H',rfl,he,rfl,.inl ⟨(by rw[jL vI]at h1;cases h1),h2⟩⟩ sl
   . exact PP.of ⟨e,H',rfl,he,rfl,.inr h2⟩ sl) ?_
  rintro EE xJ ⟨H2,Q2,rfl,rfl,kX,dU⟩
  rw[jL vI]at kX
  injection kX with kX
  subst kX
  refine OT.nil (.seq (.seq (.region (.build hT rfl Tryz.zeroValue171 rfl rfl rfl rfl (.ag hT rfl rfl rfl rfl pl rfl rfl rfl (.inl (Nat.le_refl _)) ?_)))))
  refine OT.nil (.seq (.ret (.jm (rs:=[.cell 6 171]) [_] (H2::r) rfl (.cell rfl (Ld.af hT rfl hz rfl) .nil) sl ?_)))
  try dsimp only[one]
  exact⟨H2,lp,_,rfl,rfl,oL vI,dU⟩
 .
  have vI:¬Fits n:=of_decide_eq_false vI
  refine TT.skip (.seq (.seq (.region (.U hT 1 rfl (.load rfl rfl (Ld.slc hT rfl hz (by rw[hcs];rfl)) rfl ?_)))))
  refine OT.U hT 2 rfl (.nil (.seq (.cut (ι:=Unit) (fun j=>True) (fun j=>[(0,.pointer (some ⟨b,0,none⟩)),(1,.int .i64 no),(5,.pointer (some ⟨g_,0,none⟩)),(6,.pointer (some ⟨eG,0,none⟩)),(7,.int .i64 (cD n:Nat))]) (fun j=>[(eG,blk [.string ⟨#[]⟩,.int .i64 0] 171 (0,0))]::[(g_,blk cs 159 (0,0))]::H::r) ?_ ?_)))
  .
   refine TT.seq (.region (.U hT 1 rfl (.load rfl rfl (Ld.one hT rfl hz (by rw[hcs];rfl)) rfl ?_)))
   refine OT.U hT 1 rfl (.nil (.seq (.cond rfl (fun fE=> ?_) (fun fE=> ?_))))
   .
    refine TT.region (.U hT 1 rfl (.load rfl rfl (Ld.slc hT rfl hz (by rw[hcs];rfl)) rfl ?_))
    refine OT.U hT 2 rfl (.nil (.cut (()) ?_ (aa.cons rfl (aa.cons rfl (aa.cons rfl (aa.cons rfl (aa.aM rfl (by(try dsimp only);exact(int_eq (by unfold cD;rw[if_neg (by simpa using fE)]))) (aa.nil _)))))) sl))
    . trivial
   .
    refine TT.skip (.cut (()) ?_ (aa.cons rfl (aa.cons rfl (aa.cons rfl (aa.cons rfl (aa.aM rfl (by(try dsimp only);exact(int_eq (by unfold cD;rw[if_pos (by simpa using fE)]))) (aa.nil _)))))) sl)
    . trivial
  .
   rintro _ _
   show TT _ _ _ [(0,.pointer (some ⟨b,0,none⟩)),(1,.int .i64 no),(5,.pointer (some ⟨g_,0,none⟩)),(6,.pointer (some ⟨eG,0,none⟩)),(7,.int .i64 (cD n:Nat))] ([(eG,blk [.string ⟨#[]⟩,.int .i64 0] 171 (0,0))]::[(g_,blk cs 159 (0,0))]::H::r)
   refine TT.seq (.region (.U hT 2 rfl (.nil (.seq (.seq (.seq (.region (.U hT 1 rfl (.nil (.seq (.block (.loop (ι:=Nat×Nat×Nat) (fun j=>1<=(j.1)/\((j.1)=1\/(j.1)<=cD n)/\fz n (j.1)=((j.2.1),(j.2.2))) (fun j=>cD n-(j.1)) (fun j=>[(0,.pointer (some ⟨b,0,none⟩)),(1,.int .i64 no),(5,.pointer (some ⟨g_,0,none⟩)),(6,.pointer (some ⟨eG,0,none⟩)),(7,.int .i64 (cD n:Nat)),(8,.int .i64 ((j.2.1):Nat)),(9,.int .i64 ((j.2.2):Nat)),(10,.int .i64 ((j.1):Nat))]) (fun j=>[(eG,blk [.string ⟨#[]⟩,.int .i64 0] 171 (0,0))]::[(g_,blk cs 159 (0,0))]::H::r) (1,0,0) ?_ (aa.cons rfl (aa.cons rfl (aa.cons rfl (aa.cons rfl (aa.cons rfl (aa.cons rfl (aa.cons rfl (aa.cons rfl (aa.nil _))))))))) sl ?_))))))))))))
   . dsimp only
     exact⟨by omega,.inl rfl,rfl⟩
   rintro⟨i,p,q⟩ hI
   dsimp only at hI
   obtain⟨hi1,hi2,Ke⟩:=hI
   show TT _ _ _ [(0,.pointer (some ⟨b,0,none⟩)),(1,.int .i64 no),(5,.pointer (some ⟨g_,0,none⟩)),(6,.pointer (some ⟨eG,0,none⟩)),(7,.int .i64 (cD n:Nat)),(8,.int .i64 (p:Nat)),(9,.int .i64 (q:Nat)),(10,.int .i64 (i:Nat))] ([(eG,blk [.string ⟨#[]⟩,.int .i64 0] 171 (0,0))]::[(g_,blk cs 159 (0,0))]::H::r)
   refine TT.seq (.seq (.region (.U hT 3 rfl (.nil (.seq (.cond rfl (fun pZ=> ?_) (fun pZ=> ?_)))))))
   .
    have pZ:=of_decide_eq_true pZ
    have hlf:=hn.l i
    have BR:=hn.r i
    refine TT.skip (.seq (.seq (.block (.seq (.region (.load rfl rfl (Ld.af hT rfl hz h4) rfl ?_))))))
    refine OT.U hT 1 rfl (.call Tryz.call177 rfl rfl rfl rfl (vp h (fun _ _ h=> .there (.there (.there h))) hlc xw hi1 (by omega) hn.ways hn.key) ?_)
    rintro Hy EZ ⟨cl,cr,rfl,rfl,G8,G9,QX,Kf⟩
    refine OT.U hT 4 rfl (.alloc Tryz.zeroValue159 rfl rfl (fun oa=> ?_))
    refine OT.alloc Tryz.zeroValue159 rfl rfl (fun NZ=> ?_)
    refine OT.ag hT rfl rfl rfl rfl pl (by exact G8.four) rfl QX (.inl (Nat.le_refl _)) ?_
    refine OT.ag hT rfl rfl rfl rfl pl (by exact G9.four) rfl Kf (.inl (Nat.le_refl _)) ?_
    refine OT.U hT 1 rfl (.nil (.seq (.seq (.draw (([(NZ,blk cr 159 (0,0))]::[(oa,blk cl 159 (0,0))]::r)) mixed (.take (fuel:=5) hT 0 rfl rfl kr kr kr rfl (.load rfl (Ld.af hT rfl hz G8.four)) rfl ?_)))))
    refine AT.take (fuel:=4) hT 2 rfl rfl kr kr kr rfl (.load rfl (Ld.af hT rfl hz G9.four)) rfl ?_
    refine AT.op (fuel:=3) 1 kr rfl sl (.call Tryz.call178 rfl rfl rfl rfl (Cq (G8.mono fun _ _ h=> .there (.there (.there (.there (.there h))))) hlf.1 hlf.2.1 hlf.2.2.1 hlf.2.2.2) ?_)
    rintro NU Uu ⟨KS,rfl,rfl⟩
    refine OT.nil (.any (.op (fuel:=2) 3 kr rfl sl (.call Tryz.call178 rfl rfl rfl rfl (Cq (G9.mono fun _ _ h=> .there (.there (.there (.there (.there (.there h)))))) BR.1 BR.2.1 BR.2.2.1 BR.2.2.2) ?_)))
    rintro zJ xT ⟨X2,rfl,rfl⟩
    refine OT.nil (.any (.takes (fuel:=0) hT [4,5] kr kr rfl (.done kr sl (.seq (.seq (.region (.load rfl rfl (Ld.af hT rfl hz G8.four) rfl ?_)))))))
    refine OT.eI 14 rfl (v:= .int .i64 ((oe n i:Nat):Int)) (int_eq (by unfold oe;omega)) ?_
    refine OT.call Tryz.call176 rfl rfl rfl rfl (wv (G8.mono fun _ _ h=>(.there (.there (.there (.there (.there (.there (.there h)))))))) hlf.1 hlf.2.1 hlf.2.2.1 hlf.2.2.2) ?_
    rintro ND OO ⟨rfl,rfl⟩
    refine OT.U hT 1 rfl (.split 54 rfl (fun lY=> ?_) (fun lY=> ?_))
    .
     have lY:Fits (bu n i).1:=of_decide_eq_true lY
     refine OT.load rfl rfl (Ld.af hT rfl hz G9.four) rfl ?_
     refine OT.call Tryz.call176 rfl rfl rfl rfl (wv (G9.mono fun _ _ h=>(.there (.there (.there (.there (.there (.there (.there h)))))))) BR.1 BR.2.1 BR.2.2.1 BR.2.2.2) ?_
     rintro Sw Ph ⟨rfl,rfl⟩
     refine OT.U hT 2 rfl (.split 58 rfl (fun tH=> ?_) (fun tH=> ?_))
     .
      have tH:Fits (bu n i).2.1:=of_decide_eq_true tH
      refine OT.U hT 3 rfl (.split 61 rfl (fun Kg=> ?_) (fun Kg=> ?_))
      .
       have Kg:p=0:=by simpa using Kg
       refine OT.U hT 5 rfl (.nil (.seq (.cond_true rfl (.region (.U hT 4 rfl (.nil (.blk (.seq (.region (.U hT 3 rfl (.nil (.loop (i+1,i,oe n i) ?_ ?_ (aa.cons rfl (aa.cons rfl (aa.cons rfl (aa.cons rfl (aa.cons rfl (aa.cons rfl (aa.cons rfl (aa.aM rfl (by(try dsimp only);exact(int_eq (by rw[wrap_i64 (by omega) (by omega)];omega))) (aa.nil _))))))))) sl))))))))))))
       . dsimp only
         refine⟨by omega,.inr (by omega),?_⟩
         rw[eE n hi1,Ke]
         exact if_pos ⟨lY,tH,.inl Kg⟩
       . dsimp only
         omega
      .
       have Kg:¬p=0:=by simpa using Kg
       refine OT.U hT 5 rfl (.nil (.seq (.cond rfl (fun Kh=> ?_) (fun Kh=> ?_))))
       .
        have Kh:=of_decide_eq_true Kh
        refine TT.region (.U hT 4 rfl (.nil (.blk (.seq (.region (.U hT 3 rfl (.nil (.loop (i+1,i,oe n i) ?_ ?_ (aa.cons rfl (aa.cons rfl (aa.cons rfl (aa.cons rfl (aa.cons rfl (aa.cons rfl (aa.cons rfl (aa.aM rfl (by(try dsimp only);exact(int_eq (by rw[wrap_i64 (by omega) (by omega)];omega))) (aa.nil _))))))))) sl))))))))
        . dsimp only
          refine⟨by omega,.inr (by omega),?_⟩
          rw[eE n hi1,Ke]
          exact if_pos ⟨lY,tH,.inr (by show oe n i<q;have:((oe n i:Nat):Int)<(q:Nat):=Kh;omega)⟩
        . dsimp only
          omega
       .
        have Kh:=of_decide_eq_false Kh
        refine TT.skip (.blk (.seq (.region (.U hT 3 rfl (.nil (.loop (i+1,p,q) ?_ ?_ (aa.cons rfl (aa.cons rfl (aa.cons rfl (aa.cons rfl (aa.cons rfl (aa.cons rfl (aa.cons rfl (aa.aM rfl (by(try dsimp only);exact(int_eq (by rw[wrap_i64 (by omega) (by omega)];omega))) (aa.nil _))))))))) sl))))))
        . dsimp only
          refine⟨by omega,.inr (by omega),?_⟩
          rw[eE n hi1,Ke]
          exact if_neg (fun h=>h.2.2.elim Kg (fun h=>Kh (by show((oe n i:Nat):Int)<(q:Nat);omega)))
        . dsimp only
          omega
     .
      have tH:¬Fits (bu n i).2.1:=of_decide_eq_false tH
      refine OT.U hT 8 rfl (.nil (.seq (.cond_false rfl (.skip (.blk (.seq (.region (.U hT 3 rfl (.nil (.loop (i+1,p,q) ?_ ?_ (aa.cons rfl (aa.cons rfl (aa.cons rfl (aa.cons rfl (aa.cons rfl (aa.cons rfl (aa.cons rfl (aa.aM rfl (by(try dsimp only);exact(int_eq (by rw[wrap_i64 (by omega) (by omega)];omega))) (aa.nil _))))))))) sl))))))))))
      . dsimp only
        refine⟨by omega,.inr (by omega),?_⟩
        rw[eE n hi1,Ke]
        exact if_neg (fun h=>tH h.2.1)
      . dsimp only
        omega
    .
     have lY:¬Fits (bu n i).1:=of_decide_eq_false lY
     refine OT.U hT 12 rfl (.nil (.seq (.cond_false rfl (.skip (.blk (.seq (.region (.U hT 3 rfl (.nil (.loop (i+1,p,q) ?_ ?_ (aa.cons rfl (aa.cons rfl (aa.cons rfl (aa.cons rfl (aa.cons rfl (aa.cons rfl (aa.cons rfl (aa.aM rfl (by(try dsimp only);exact(int_eq (by rw[wrap_i64 (by omega) (by omega)];omega))) (aa.nil _))))))))) sl))))))))))
     . dsimp only
       refine⟨by omega,.inr (by omega),?_⟩
       rw[eE n hi1,Ke]
       exact if_neg (fun h=>lY h.1)
     . dsimp only
       omega
   .
    have pZ:=of_decide_eq_false pZ
    have PT:ew n=p:=by
     unfold ew
     rcases hi2 with rfl|hi2
     . have h1:(fz n 1).1=0:=by rcases mC n 1 with h|⟨h1,h2,_⟩
                                . exact h
                                . omega
       have h2:(fz n (cD n)).1=0:=by rcases mC n (cD n)with h|⟨h1,h2,_⟩
                                     . exact h
                                     . omega
       rw[h2];rw[Ke]at h1;exact h1.symm
     . rw[show cD n=i by omega,Ke]
    refine TT.exit (.seq (.loop (.here (.seq (.seq (.region (.U hT 2 rfl ?_)))))))
    refine OT.aY Tryz.call118 rfl rfl rfl rfl (bg) (fun _ _ h=>by
     obtain⟨hb,rfl,rfl⟩:=h
     have hb:p=0:=by have:=of_decide_eq_false hb;omega
     exact PP.of ⟨8,H,by rw[bJ (by decide)],by decide,rfl,.inl ⟨F2 vI (by rw[PT];exact hb),Qt,hH⟩⟩ sl) ?_
    rintro EK BJ ⟨hb,rfl,rfl⟩
    have hb:p≠0:=by have:=of_decide_eq_true hb;omega
    have VY:1<=p/\p<cD n/\Fits (bu n p).1/\Fits (bu n p).2.1:=by
     have hx:(fz n (cD n)).1=p:=PT
     rcases mC n (cD n)with h|h
     . rw[hx]at h;exact absurd h hb
     . rw[hx]at h;exact h
    obtain⟨GQ,qz,tn,TG⟩:=VY
    have hlf:=hn.l p
    have BR:=hn.r p
    refine OT.nil (.seq (.seq (.region (.load rfl rfl (Ld.af hT rfl hz h4) rfl ?_))))
    refine OT.U hT 1 rfl (.call Tryz.call177 rfl rfl rfl rfl (vp (i:=p) h (fun _ _ h=> .there (.there (.there h))) hlc xw GQ qz hn.ways hn.key) ?_)
    rintro R_ OQ ⟨cl,cr,rfl,rfl,G8,G9,QX,Kf⟩
    refine OT.U hT 4 rfl (.alloc Tryz.zeroValue159 rfl rfl (fun Sy=> ?_))
    refine OT.alloc Tryz.zeroValue159 rfl rfl (fun W5=> ?_)
    refine OT.ag hT rfl rfl rfl rfl pl (by exact G8.four) rfl QX (.inl (Nat.le_refl _)) ?_
    refine OT.ag hT rfl rfl rfl rfl pl (by exact G9.four) rfl Kf (.inl (Nat.le_refl _)) ?_
    refine OT.U hT 1 rfl (.nil (.seq (.seq (.region (.U hT 1 rfl ?_)))))
    refine OT.aY Tryz.call102 rfl rfl rfl rfl (aN.pull pl (wz hP hQ hH)) (fun _ _ h=>by
     obtain⟨e,H',rfl,he,rfl,⟨h1,h2⟩|h2⟩:=h
     . exact PP.of ⟨e,H',rfl,he,rfl,.inl ⟨qb vI (by rw[PT];exact hb) h1,h2⟩⟩ sl
     . exact PP.of ⟨e,H',rfl,he,rfl,.inr h2⟩ sl) ?_
    rintro W6 Uv ⟨H2,to,Q1,rfl,rfl,kX,dU⟩
    have hto:=sj kX
    refine OT.U hT 1 rfl (.nil (.seq (.seq (.region (.U hT 2 rfl (.load rfl rfl (Ld.af hT rfl hz G8.four) rfl ?_))))))
    refine OT.aY Tryz.call104 rfl rfl rfl rfl (aN.pull pl (pW hP hQ dU (G8.mono fun _ _ h=>(.there (.there (.there (.there h))))) hlf.1 hlf.2.1 hlf.2.2.1 hlf.2.2.2 hno)) (fun _ _ h=>by
     obtain⟨e,H',rfl,he,rfl,⟨h1,h2⟩|h2⟩:=h
     . exact PP.of ⟨e,H',rfl,he,rfl,.inl ⟨(by rw[jL tn]at h1;cases h1),h2⟩⟩ sl
     . exact PP.of ⟨e,H',rfl,he,rfl,.inr h2⟩ sl) ?_
    rintro Sq O6 ⟨H3,Q2,rfl,rfl,GK,mV⟩
    rw[jL tn]at GK
    injection GK with GK
    subst GK
    refine OT.nil (.seq (.seq (.region (.U hT 2 rfl (.load rfl rfl (Ld.af hT rfl hz G9.four) rfl ?_)))))
    refine OT.aY Tryz.call104 rfl rfl rfl rfl (aN.pull pl (pW hP hQ mV (G9.mono fun _ _ h=>(.there (.there (.there (.there h))))) BR.1 BR.2.1 BR.2.2.1 BR.2.2.2 (by unfold aD;omega))) (fun _ _ h=>by
     obtain⟨e,H',rfl,he,rfl,⟨h1,h2⟩|h2⟩:=h
     . exact PP.of ⟨e,H',rfl,he,rfl,.inl ⟨(by rw[jL TG]at h1;cases h1),h2⟩⟩ sl
     . exact PP.of ⟨e,H',rfl,he,rfl,.inr h2⟩ sl) ?_
    rintro W7 Uw ⟨H4,Q3,rfl,rfl,Jj,nY⟩
    rw[jL TG]at Jj
    injection Jj with Jj
    subst Jj
    refine OT.nil (.seq (.seq (.region (.U hT 2 rfl (.build hT rfl Tryz.zeroValue171 rfl rfl rfl rfl (.ag hT rfl rfl rfl rfl pl rfl rfl rfl (.inl (Nat.le_refl _)) ?_))))))
    refine OT.nil (.seq (.ret (.jm (rs:=[.cell 6 171]) [_] (H4::r) rfl (.cell rfl (Ld.af hT rfl hz rfl) .nil) sl ?_)))
    try dsimp only[one]
    subst PT
    exact⟨H4,((bu n (ew n)).2.2,to),_,rfl,rfl,sk vI hb kX,nY⟩
end Go.Proofs.YtihpkgmfkbkffaaGreat.Sx
end
section
namespace Go.Proofs.YtihpkgmfkbkffaaGreat.Sx
open Go Go.Sx Go.Pl
variable[au]
theorem Am{cs:List Value}{n:Nd}{k:ByteArray}{hs:List Chunk}(h:gf hs cs n)(hn:tq n)(hl:n.leaf=false):aA Tryz.prog 97 [.agg ⟨cs⟩,.string k] hs (fun v' hs'=>v'= .int .i64 (bM n.keys k:Nat)/\hs=hs'):=by
 have h1:=hn.cells;have h2:=hn.keys;have h3:=hn.kids
 refine(LY h (by omega) (by omega) (by omega)).mono ?_
 rintro v' hs' ⟨⟨h|h,_⟩|⟨_,_,i,hst,rfl⟩,rfl⟩
 . rw[hl]at h;cases h
 . exact absurd hn.may h
 . refine⟨int_eq ?_,rfl⟩
   unfold bM
   rw[hst.is]
   split<;>rfl
set_option maxHeartbeats 1000000 in
set_option maxRecDepth 100000 in
theorem A_{b:Nat}{P:Value}{I:Chunk->Prop}{E:Int->Chunk->Prop}{Qb:ah}(hP:cW Tryz.prog 5 P I E (aK Qb))(hQ:cQ Qb){x:Cell}(hx:aC x=true)(gA:x.val.f<2^64/\x.new.f<2^64){Qt:ah}{H:Chunk}{r:List Chunk}{no:Int}(hH:aV 110 b P I Qb Qt H):aN Tryz.prog 105 [.pointer (some ⟨b,0,none⟩),.int .i64 no,.agg ⟨aj x⟩,.int .i64 32] (H::r) (fun v' hs'=>∃H' y Q',hs'=H'::r/\v'= .agg ⟨[.string y.1,.int .i64 y.2]⟩/\bF x 0 Qt no= .ok (y,Q')/\aV 110 b P I Qb Q' H') (dW (fun H=>∃Q',aV 110 b P I Qb Q' H) (cI 110 b P E) (fun e=>bF x 0 Qt no= .error e) r):=by
 refine aN.enter 86 Tryz.func105 rfl Tryz.ntmps105 rfl ?_
 refine TT.seq (.region (.box rfl rfl rfl (fun eG=> ?_)))
 refine OT.alloc Tryz.zeroValue171 rfl rfl (fun fH=> ?_)
 refine OT.nil (.seq (.seq (.region (.U hT 2 rfl ?_))))
 refine OT.aY Tryz.call118 rfl rfl rfl rfl (gL) (fun _ _ h=>by
  obtain⟨rfl,rfl⟩:=h
  exact PP.of ⟨8,H,by rw[bJ (by decide)],by decide,rfl,.inl ⟨rfl,Qt,hH⟩⟩ sl) ?_
 rintro iT eY ⟨hb,_⟩
 exact hb.elim
set_option maxHeartbeats 4000000 in
set_option maxRecDepth 100000 in
theorem Ba{b:Nat}{P:Value}{I:Chunk->Prop}{E:Int->Chunk->Prop}{Qb:ah}(hP:cW Tryz.prog 5 P I E (aK Qb))(hQ:cQ Qb){x:Cell}(hx:aC x=true)(gA:x.val.f<2^64/\x.new.f<2^64){d f:Nat}(hd:d<32)(ih:∀{Q:ah} {H:Chunk} {r:List Chunk} {no:Int},ay no->aV 110 b P I Qb Q H->aN Tryz.prog 105 [.pointer (some ⟨b,0,none⟩),.int .i64 no,.agg ⟨aj x⟩,.int .i64 ((d+1:Nat):Int)] (H::r) (fun v' hs'=>∃H' y Q',hs'=H'::r/\v'= .agg ⟨[.string y.1,.int .i64 y.2]⟩/\bF x f Q no= .ok (y,Q')/\aV 110 b P I Qb Q' H') (dW (fun H=>∃Q',aV 110 b P I Qb Q' H) (cI 110 b P E) (fun e=>bF x f Q no= .error e) r)){Qt:ah}{H:Chunk}{r:List Chunk}{no:Int}(hno:ay no)(hH:aV 110 b P I Qb Qt H):aN Tryz.prog 105 [.pointer (some ⟨b,0,none⟩),.int .i64 no,.agg ⟨aj x⟩,.int .i64 (d:Nat)] (H::r) (fun v' hs'=>∃H' y Q',hs'=H'::r/\v'= .agg ⟨[.string y.1,.int .i64 y.2]⟩/\bF x (f+1) Qt no= .ok (y,Q')/\aV 110 b P I Qb Q' H') (dW (fun H=>∃Q',aV 110 b P I Qb Q' H) (cI 110 b P E) (fun e=>bF x (f+1) Qt no= .error e) r):=by
 refine aN.enter 86 Tryz.func105 rfl Tryz.ntmps105 rfl ?_
 refine TT.seq (.region (.box rfl rfl rfl (fun eG=> ?_)))
 refine OT.alloc Tryz.zeroValue171 rfl rfl (fun fH=> ?_)
 refine OT.nil (.seq (.seq (.region (.U hT 2 rfl ?_))))
 refine OT.aY Tryz.call118 rfl rfl rfl rfl (bg) (fun _ _ h=>by
  obtain⟨hb,_⟩:=h
  exact absurd (of_decide_eq_false hb) (by omega)) ?_
 rintro iT eY ⟨hb,rfl,rfl⟩
 refine OT.nil (.seq (.seq (.region (.U hT 1 rfl (.bO Tryz.underlying24 rfl rfl rfl rfl (.U hT 1 rfl ?_))))))
 refine OT.aY Tryz.call95 rfl rfl rfl rfl (aN.pull pl (mm (cu hP hQ).D9 hH (iw hno))) (fun _ _ h=>by
  obtain⟨e,H',rfl,he,rfl,⟨h1,h2⟩|⟨_,e0,h2⟩⟩:=h
  . exact PP.of ⟨e,H',rfl,he,rfl,.inl ⟨yP h1,_,h2⟩⟩ sl
  . exact PP.of ⟨e,H',rfl,he,rfl,.inr ⟨_,h2⟩⟩ sl) ?_
 rintro vz rS ⟨H1,K,cs,n,rfl,rfl,hN,fX,hrd⟩
 have hni:=(fU hrd).nd
 have hnc:=hni.cells
 have hnk:=hni.keys
 have hnd:=hni.kids
 obtain⟨vc,vk,vi,KA,KB,KC,rfl,rfl,iF,iG,nX⟩:=hN.is
 obtain⟨ac,cc,e1⟩:=(iF.row (hs:=[])).len
 obtain⟨ak,ck,e2⟩:=(iG.row (hs:=[])).len
 obtain⟨ai,ci,e3⟩:=(nX.row (hs:=[])).len
 subst e1 e2 e3
 refine OT.perm iu ?_
 have Jk:∀hs,gf (KA::KB::KC::hs) [.bool n.leaf,.slice ac n.cells.length cc,.slice ak n.keys.length ck,.slice ai n.kids.length ci] n:=fun hs=>⟨_,_,_,rfl,iF.row,iG.row.there,nX.row.there.there⟩
 refine OT.alloc Tryz.zeroValue159 rfl rfl (fun gR=> ?_)
 refine OT.ag hT rfl rfl rfl rfl pl rfl rfl rfl (.inl (Nat.le_refl _)) ?_
 refine OT.nil (.seq (.seq (.seq (.region (.U hT 1 rfl (.load rfl rfl (Ld.one hT rfl hz rfl) rfl ?_))))))
 refine OT.nil (.seq (.cond rfl (fun jy=> ?_) (fun jy=> ?_)))
 .
  have hlf:n.leaf=true:=jy
  refine TT.seq (.region (.load rfl rfl (Ld.af hT rfl hz rfl) rfl ?_))
  refine OT.U hT 1 rfl (.load rfl rfl (Ld.one hT rfl hz rfl) rfl ?_)
  refine OT.call Tryz.call96 rfl rfl rfl rfl (wu ((Jk _).mono fun _ _ h=>(.there (.there h))) (by omega) hni.kV) ?_
  rintro EC BG ⟨rfl,rfl⟩
  refine OT.U hT 5 rfl (.nil (.seq (.cut (ι:=Value×Chunk) (fun j=>Own aj 8 113 (j.1) (b5 n.cells x) (j.2)) (fun j=>[(0,.pointer (some ⟨b,0,none⟩)),(1,.int .i64 no),(6,.pointer (some ⟨eG,0,none⟩)),(8,.pointer (some ⟨fH,0,none⟩)),(9,.pointer (some ⟨gR,0,none⟩))]) (fun j=>[(gR,blk [.bool n.leaf,(j.1),.slice ak n.keys.length ck,.slice ai n.kids.length ci] 159 (0,0))]::H1::(j.2)::KB::KC::[(fH,blk [.string ⟨#[]⟩,.int .i64 0] 171 (0,0))]::[(eG,blk (aj x) 113 (0,0))]::r) ?_ ?_)))
  .
   refine TT.seq (.region (.U hT 1 rfl (.nil (.seq (.cond rfl (fun lW=> ?_) (fun lW=> ?_))))))
   .
    have lW:=of_decide_eq_true lW
    obtain⟨z,nS,zu⟩:=ei lW
    refine TT.region (.U hT 1 rfl (.load rfl rfl (Ld.slc hT rfl hz rfl) rfl ?_))
    refine OT.U hT 1 rfl (.load rfl rfl (Ld.af hT rfl hz rfl) rfl ?_)
    refine OT.C9 hT rfl rfl rfl rfl iF (by omega) (by have:=(List.getElem?_eq_some_iff.1 nS).1;omega) rfl (fun Pj Pk Pm Pn=> ?_)
    obtain⟨rfl,rfl⟩:ac=some ⟨Pj,Pk,none⟩/\cc=Pm:=by injection Pn with h1 _ h3;exact⟨h1,h3⟩
    refine OT.iM (aL (keysOf n.cells) x.key) 0 hT rfl rfl rfl rfl pl iF nS rfl rfl (by decide) rfl (show splice (aj z) 0 (aj x)=aj x from rfl) (fun jH n_=> ?_)
    refine OT.nil (.cut (_,jH) ?_ (aa.cons rfl (aa.cons rfl (aa.cons rfl (aa.cons rfl (aa.cons rfl (aa.nil _)))))) sl)
    . dsimp only
      rw[ru lW];exact n_
   .
    have lW:=of_decide_eq_false lW
    refine TT.region (.U hT 1 rfl (.load rfl rfl (Ld.slc hT rfl hz rfl) rfl ?_))
    refine OT.U hT 1 rfl (.load rfl rfl (Ld.af hT rfl hz rfl) rfl ?_)
    refine OT.bI (enc:=aj) (xs:=[x]) (gQ:=[.tmp 39]) jE rfl rfl rfl rfl rfl (by simp[Value.cells];rfl) (fun _ _=>rfl) rfl (by decide) rfl (fun W8=> ?_)
    refine OT.call Tryz.call145 rfl rfl rfl rfl (aA.weaken sl (A5 (y:=x) iF (Nat.le_trans List.findIdx_le_length (by rw[yg];exact Nat.le_refl _)) (by omega))) ?_
    rintro CK BC ⟨H7,rfl,wT⟩
    obtain⟨a7,c7,rfl⟩:=(wT.row (hs:=[])).len
    refine OT.U hT 1 rfl (.store hT rfl rfl rfl rfl pl rfl (Nat.le_of_ble_eq_true rfl) rfl (.inl (Nat.le_refl _)) rfl ?_)
    refine OT.nil (.cut (_,H7) ?_ (aa.cons rfl (aa.cons rfl (aa.cons rfl (aa.cons rfl (aa.cons rfl (aa.nil _)))))) sl)
    . dsimp only
      rw[so lW];exact wT
  .
   rintro⟨TH,K2⟩ hI
   dsimp only at hI
   have N0:=hI
   show TT _ _ _ [(0,.pointer (some ⟨b,0,none⟩)),(1,.int .i64 no),(6,.pointer (some ⟨eG,0,none⟩)),(8,.pointer (some ⟨fH,0,none⟩)),(9,.pointer (some ⟨gR,0,none⟩))] ([(gR,blk [.bool n.leaf,TH,.slice ak n.keys.length ck,.slice ai n.kids.length ci] 159 (0,0))]::H1::K2::KB::KC::[(fH,blk [.string ⟨#[]⟩,.int .i64 0] 171 (0,0))]::[(eG,blk (aj x) 113 (0,0))]::r)
   refine TT.seq (.region (.U hT 2 rfl (.load rfl rfl (Ld.af hT rfl hz rfl) rfl ?_)))
   refine OT.aY Tryz.call146 rfl rfl rfl rfl (aN.pull pl (Fs hP hQ fX (n:={n with cells:=b5 n.cells x}) ⟨_,_,_,rfl,N0.row.there,iG.row.there.there,nX.row.there.there.there⟩ (hni.F4 hlf hx gA) (Cc (l_ N0) rfl rfl) (jM hno))) (fun _ _ h=>by
    obtain⟨e,H',rfl,he,rfl,⟨h1,h2⟩|h2⟩:=h
    . exact PP.of ⟨e,H',rfl,he,rfl,.inl ⟨(by rw[ie hrd hlf];exact h1),h2⟩⟩ sl
    . exact PP.of ⟨e,H',rfl,he,rfl,.inr h2⟩ sl) ?_
   rintro NX O_ ⟨H2,y,Q2,rfl,rfl,qz,dU⟩
   refine OT.ag hT rfl rfl rfl rfl pl rfl rfl rfl (.inl (Nat.le_refl _)) ?_
   refine OT.nil (.seq (.ret (.jm (rs:=[.cell 8 171]) [_] (H2::r) rfl (.cell rfl (Ld.af hT rfl hz rfl) .nil) sl ?_)))
   try dsimp only[one]
   exact⟨H2,y,Q2,rfl,rfl,by rw[ie hrd hlf];exact qz,dU⟩
 .
  have hlf:n.leaf=false:=jy
  obtain⟨kd,G_,zO,hkm⟩:=hni.ct hlf x.key
  have nT:=gu n.keys x.key
  have hkk:=(hni.ways hlf).1
  refine TT.skip (.seq (.seq (.region (.load rfl rfl (Ld.af hT rfl hz rfl) rfl ?_))))
  refine OT.U hT 1 rfl (.load rfl rfl (Ld.one hT rfl hz rfl) rfl ?_)
  refine OT.call Tryz.call97 rfl rfl rfl rfl (Am ((Jk _).mono fun _ _ h=>(.there (.there h))) hni hlf) ?_
  rintro zJ xT ⟨rfl,rfl⟩
  refine OT.U hT 1 rfl (.nil (.seq (.cut (ι:=Nat×Chunk×Part×ah) (fun j=>bF x f Qt kd= .ok ((j.2.2.1),(j.2.2.2))/\aV 110 b P I Qb (j.2.2.2) (j.2.1)) (fun j=>[(0,.pointer (some ⟨b,0,none⟩)),(1,.int .i64 no),(8,.pointer (some ⟨fH,0,none⟩)),(9,.pointer (some ⟨gR,0,none⟩)),(12,.int .i64 (bM n.keys x.key:Nat)),(13,.pointer (some ⟨(j.1),0,none⟩))]) (fun j=>[((j.1),blk [.string (j.2.2.1).1,.int .i64 (j.2.2.1).2] 171 (0,0))]::[(gR,blk [.bool n.leaf,.slice ac n.cells.length cc,.slice ak n.keys.length ck,.slice ai n.kids.length ci] 159 (0,0))]::(j.2.1)::KA::KB::KC::[(fH,blk [.string ⟨#[]⟩,.int .i64 0] 171 (0,0))]::[(eG,blk (aj x) 113 (0,0))]::r) ?_ ?_)))
  .
   refine TT.draw (([(gR,blk [.bool n.leaf,.slice ac n.cells.length cc,.slice ak n.keys.length ck,.slice ai n.kids.length ci] 159 (0,0))]::KC::[(eG,blk (aj x) 113 (0,0))]::r)) mixed (.takes (fuel:=7) hT [0,1,3,7,8] kr kr rfl (.take (fuel:=6) hT 2 rfl rfl kr kr kr rfl (.load rfl (Ld.slc hT rfl hz rfl)) rfl ?_))
   refine AT.take (fuel:=5) hT 6 rfl rfl kr kr kr rfl (.load rfl (Ld.af hT rfl hz rfl)) rfl ?_
   refine AT.index (fuel:=4) hT 4 rfl kr kr kr rfl rfl rfl rfl nX.row.there (by omega) (by rw[Int.toNat_natCast];exact G_) rfl (fun Ux L3=> ?_)
   refine AT.take (fuel:=3) hT 5 rfl rfl kr kr kr rfl (.load rfl (L3.bL hT rfl rfl)) rfl (.all (fuel:=2) [9,10] kr (by decide) sl ?_)
   intro i hi
   simp only[List.mem_cons,List.not_mem_nil,or_false]at hi
   rcases hi with rfl|rfl
   .
    refine⟨_,rfl,?_⟩
    refine OT.eI 59 rfl (v:= .int .i64 ((d+1:Nat):Int)) (int_eq (by rw[wrap_i64 (by omega) (by omega)];omega)) ?_
    refine OT.aY Tryz.call105 rfl rfl rfl rfl (aN.pull pl (ih hkm fX)) (fun _ _ h=>by
     obtain⟨e,H',rfl,he,rfl,⟨h1,h2⟩|h2⟩:=h
     . exact PP.of ⟨e,H',rfl,he,rfl,.inl ⟨gZ hrd hlf (by rw[zO];exact h1),h2⟩⟩ sl
     . exact PP.of ⟨e,H',rfl,he,rfl,.inr h2⟩ sl) ?_
    rintro NJ JH ⟨H2,y,Q2,rfl,rfl,qz,dU⟩
    refine OT.nil (.any (.op (fuel:=1) 10 kr rfl sl (.alloc Tryz.zeroValue171 rfl rfl (fun HF=> ?_))))
    refine OT.nil (.any (.op (fuel:=0) 11 kr rfl sl (.ag hT rfl rfl rfl rfl pl rfl rfl rfl (.inl (Nat.le_refl _)) ?_)))
    refine OT.nil (.any (.done kr sl (.cut (HF,H2,y,Q2) ?_ (aa.cons rfl (aa.cons rfl (aa.cons rfl (aa.cons rfl (aa.cons rfl (aa.cons rfl (aa.nil _))))))) sl)))
    . dsimp only
      exact⟨qz,dU⟩
   .
    refine⟨_,rfl,?_⟩
    refine OT.alloc Tryz.zeroValue171 rfl rfl (fun HF=> ?_)
    refine OT.nil (.any (.op (fuel:=1) 9 kr rfl sl (.eI 59 rfl (v:= .int .i64 ((d+1:Nat):Int)) (int_eq (by rw[wrap_i64 (by omega) (by omega)];omega)) ?_)))
    refine OT.aY Tryz.call105 rfl rfl rfl rfl (aN.pull pl (ih hkm fX)) (fun _ _ h=>by
     obtain⟨e,H',rfl,he,rfl,⟨h1,h2⟩|h2⟩:=h
     . exact PP.of ⟨e,H',rfl,he,rfl,.inl ⟨gZ hrd hlf (by rw[zO];exact h1),h2⟩⟩ sl
     . exact PP.of ⟨e,H',rfl,he,rfl,.inr h2⟩ sl) ?_
    rintro NJ JH ⟨H2,y,Q2,rfl,rfl,qz,dU⟩
    refine OT.nil (.any (.op (fuel:=0) 11 kr rfl sl (.ag hT rfl rfl rfl rfl pl rfl rfl rfl (.inl (Nat.le_refl _)) ?_)))
    refine OT.nil (.any (.done kr sl (.cut (HF,H2,y,Q2) ?_ (aa.cons rfl (aa.cons rfl (aa.cons rfl (aa.cons rfl (aa.cons rfl (aa.cons rfl (aa.nil _))))))) sl)))
    . dsimp only
      exact⟨qz,dU⟩
  .
   rintro⟨QY,H2,y,Q2⟩ hI
   dsimp only at hI
   obtain⟨qz,dU⟩:=hI
   show TT _ _ _ [(0,.pointer (some ⟨b,0,none⟩)),(1,.int .i64 no),(8,.pointer (some ⟨fH,0,none⟩)),(9,.pointer (some ⟨gR,0,none⟩)),(12,.int .i64 (bM n.keys x.key:Nat)),(13,.pointer (some ⟨QY,0,none⟩))] ([(QY,blk [.string y.1,.int .i64 y.2] 171 (0,0))]::[(gR,blk [.bool n.leaf,.slice ac n.cells.length cc,.slice ak n.keys.length ck,.slice ai n.kids.length ci] 159 (0,0))]::H2::KA::KB::KC::[(fH,blk [.string ⟨#[]⟩,.int .i64 0] 171 (0,0))]::[(eG,blk (aj x) 113 (0,0))]::r)
   refine TT.seq (.seq (.region (.U hT 1 rfl (.load rfl rfl (Ld.one hT rfl hz rfl) rfl ?_))))
   refine OT.U hT 1 rfl (.nil (.seq (.cond rfl (fun Jl=> ?_) (fun Jl=> ?_))))
   .
    have Jl:y.2=0:=by simpa using Jl
    refine TT.seq (.region (.build hT rfl Tryz.zeroValue171 rfl rfl rfl rfl (.ag hT rfl rfl rfl rfl pl rfl rfl rfl (.inl (Nat.le_refl _)) ?_)))
    refine OT.nil (.seq (.ret (.jm (rs:=[.cell 8 171]) [_] (H2::r) rfl (.cell rfl (Ld.af hT rfl hz rfl) .nil) sl ?_)))
    try dsimp only[one]
    exact⟨H2,lp,Q2,rfl,rfl,gq hrd hlf (by rw[zO];exact qz) Jl,dU⟩
   .
    have Jl:y.2≠0:=by simpa using Jl
    refine TT.skip (.seq (.cut (ι:=Value×Value×Chunk×Chunk) (fun j=>Own Go.Sx.ij 1 9 (j.1) (aP n.keys (bM n.keys x.key) y.1) (j.2.2.1)/\Own Go.Sx.cM 1 3 (j.2.1) (aP n.kids (bM n.keys x.key+1) y.2) (j.2.2.2)) (fun j=>[(0,.pointer (some ⟨b,0,none⟩)),(1,.int .i64 no),(8,.pointer (some ⟨fH,0,none⟩)),(9,.pointer (some ⟨gR,0,none⟩))]) (fun j=>[(gR,blk [.bool n.leaf,.slice ac n.cells.length cc,(j.1),(j.2.1)] 159 (0,0))]::H2::KA::(j.2.2.1)::(j.2.2.2)::[(fH,blk [.string ⟨#[]⟩,.int .i64 0] 171 (0,0))]::[(eG,blk (aj x) 113 (0,0))]::r) ?_ ?_))
    .
     refine TT.EP [16,18] (([(QY,blk [.string y.1,.int .i64 y.2] 171 (0,0))]::[(gR,blk [.bool n.leaf,.slice ac n.cells.length cc,.slice ak n.keys.length ck,.slice ai n.kids.length ci] 159 (0,0))]::r)) mixed (.takes (fuel:=12) hT [0,2,3,7,9,10,11] kr kr rfl (.take (fuel:=11) hT 1 rfl rfl kr kr kr rfl (.load rfl (Ld.slc hT rfl hz rfl)) rfl ?_))
     refine AT.take (fuel:=10) hT 4 rfl rfl kr kr kr rfl (.load rfl (Ld.one hT rfl hz rfl)) rfl ?_
     refine AT.take (fuel:=9) hT 8 rfl rfl kr kr kr rfl (.load rfl (Ld.slc hT rfl hz rfl)) rfl ?_
     refine AT.take (fuel:=8) hT 12 rfl rfl kr kr kr rfl (.load rfl (Ld.one hT rfl hz rfl)) rfl ?_
     refine AT.all (fuel:=7) [5,13] kr (by decide) sl ?_
     intro i hi
     simp only[List.mem_cons,List.not_mem_nil,or_false]at hi
     rcases hi with rfl|rfl
     .
      refine⟨_,rfl,?_⟩
      refine OT.bI (enc:=Go.Sx.ij) (xs:=[y.1]) (gQ:=[.tmp 69]) rI rfl rfl rfl rfl rfl (by simp[Value.cells]) (fun _ _=>rfl) rfl (by decide) rfl (fun Sz=> ?_)
      refine OT.nil (.any (.all (fuel:=6) [6,13] kr (by decide) sl ?_))
      intro i hi
      simp only[List.mem_cons,List.not_mem_nil,or_false]at hi
      rcases hi with rfl|rfl
      .
       refine⟨_,rfl,?_⟩
       refine OT.call Tryz.call147 rfl rfl rfl rfl (aA.weaken sl (nP (y:=y.1) iG nT (by omega))) ?_
       rintro EK BJ ⟨H6,rfl,Jm⟩
       obtain⟨a6,c6,rfl⟩:=(Jm.row (hs:=[])).len
       refine OT.nil (.any (.takes (fuel:=5) hT [15] kr kr rfl (.op (fuel:=4) 13 kr rfl sl (.bI (enc:=Go.Sx.cM) (xs:=[y.2]) (gQ:=[.tmp 77]) jw rfl rfl rfl rfl rfl (by simp[Value.cells]) (fun _ _=>rfl) rfl (by decide) rfl (fun N1=> ?_)))))
       refine OT.nil (.any (.op (fuel:=3) 14 kr rfl sl (.eI 75 rfl (v:= .int .i64 ((bM n.keys x.key+1:Nat):Int)) (int_eq (by rw[wrap_i64 (by omega) (by omega)];omega)) (.call Tryz.call148 rfl rfl rfl rfl (aA.weaken sl (nQ (y:=y.2) nX (by omega) (by omega))) ?_))))
       rintro N2 JP ⟨H7,rfl,wT⟩
       obtain⟨a7,c7,rfl⟩:=(wT.row (hs:=[])).len
       refine OT.nil (.any (.op (fuel:=2) 16 kr rfl sl (.store hT rfl rfl rfl rfl pl rfl (Nat.le_of_ble_eq_true rfl) rfl (.inl (Nat.le_refl _)) rfl ?_)))
       refine OT.nil (.any (.Ml (fuel:=1) 17 kr rfl kr (.U hT 1 rfl (.nil (.any (.Ml (fuel:=0) 18 kr rfl kr (.store hT rfl rfl rfl rfl pl rfl (Nat.le_of_ble_eq_true rfl) rfl (.inl (Nat.le_refl _)) rfl ?_)))))))
       refine OT.nil (.any (.Bi kr kr (.cut (_,_,H6,H7) ?_ (aa.cons rfl (aa.cons rfl (aa.cons rfl (aa.cons rfl (aa.nil _))))) sl)))
       . dsimp only
         exact⟨Jm,wT⟩
      .
       refine⟨_,rfl,?_⟩
       refine OT.bI (enc:=Go.Sx.cM) (xs:=[y.2]) (gQ:=[.tmp 77]) jw rfl rfl rfl rfl rfl (by simp[Value.cells]) (fun _ _=>rfl) rfl (by decide) rfl (fun N1=> ?_)
       refine OT.nil (.any (.op (fuel:=5) 6 kr rfl sl (.call Tryz.call147 rfl rfl rfl rfl (aA.weaken sl (nP (y:=y.1) iG nT (by omega))) ?_)))
       rintro EK BJ ⟨H6,rfl,Jm⟩
       obtain⟨a6,c6,rfl⟩:=(Jm.row (hs:=[])).len
       refine OT.nil (.any (.takes (fuel:=4) hT [15] kr kr rfl (.op (fuel:=3) 14 kr rfl sl (.eI 75 rfl (v:= .int .i64 ((bM n.keys x.key+1:Nat):Int)) (int_eq (by rw[wrap_i64 (by omega) (by omega)];omega)) (.call Tryz.call148 rfl rfl rfl rfl (aA.weaken sl (nQ (y:=y.2) nX (by omega) (by omega))) ?_)))))
       rintro N2 JP ⟨H7,rfl,wT⟩
       obtain⟨a7,c7,rfl⟩:=(wT.row (hs:=[])).len
       refine OT.nil (.any (.op (fuel:=2) 16 kr rfl sl (.store hT rfl rfl rfl rfl pl rfl (Nat.le_of_ble_eq_true rfl) rfl (.inl (Nat.le_refl _)) rfl ?_)))
       refine OT.nil (.any (.Ml (fuel:=1) 17 kr rfl kr (.U hT 1 rfl (.nil (.any (.Ml (fuel:=0) 18 kr rfl kr (.store hT rfl rfl rfl rfl pl rfl (Nat.le_of_ble_eq_true rfl) rfl (.inl (Nat.le_refl _)) rfl ?_)))))))
       refine OT.nil (.any (.Bi kr kr (.cut (_,_,H6,H7) ?_ (aa.cons rfl (aa.cons rfl (aa.cons rfl (aa.cons rfl (aa.nil _))))) sl)))
       . dsimp only
         exact⟨Jm,wT⟩
     .
      refine⟨_,rfl,?_⟩
      refine OT.bI (enc:=Go.Sx.cM) (xs:=[y.2]) (gQ:=[.tmp 77]) jw rfl rfl rfl rfl rfl (by simp[Value.cells]) (fun _ _=>rfl) rfl (by decide) rfl (fun N1=> ?_)
      refine OT.nil (.any (.op (fuel:=6) 5 kr rfl sl (.bI (enc:=Go.Sx.ij) (xs:=[y.1]) (gQ:=[.tmp 69]) rI rfl rfl rfl rfl rfl (by simp[Value.cells]) (fun _ _=>rfl) rfl (by decide) rfl (fun Sz=> ?_))))
      refine OT.nil (.any (.op (fuel:=5) 6 kr rfl sl (.call Tryz.call147 rfl rfl rfl rfl (aA.weaken sl (nP (y:=y.1) iG nT (by omega))) ?_)))
      rintro EK BJ ⟨H6,rfl,Jm⟩
      obtain⟨a6,c6,rfl⟩:=(Jm.row (hs:=[])).len
      refine OT.nil (.any (.takes (fuel:=4) hT [15] kr kr rfl (.op (fuel:=3) 14 kr rfl sl (.eI 75 rfl (v:= .int .i64 ((bM n.keys x.key+1:Nat):Int)) (int_eq (by rw[wrap_i64 (by omega) (by omega)];omega)) (.call Tryz.call148 rfl rfl rfl rfl (aA.weaken sl (nQ (y:=y.2) nX (by omega) (by omega))) ?_)))))
      rintro N2 JP ⟨H7,rfl,wT⟩
      obtain⟨a7,c7,rfl⟩:=(wT.row (hs:=[])).len
      refine OT.nil (.any (.op (fuel:=2) 16 kr rfl sl (.store hT rfl rfl rfl rfl pl rfl (Nat.le_of_ble_eq_true rfl) rfl (.inl (Nat.le_refl _)) rfl ?_)))
      refine OT.nil (.any (.Ml (fuel:=1) 17 kr rfl kr (.U hT 1 rfl (.nil (.any (.Ml (fuel:=0) 18 kr rfl kr (.store hT rfl rfl rfl rfl pl rfl (Nat.le_of_ble_eq_true rfl) rfl (.inl (Nat.le_refl _)) rfl ?_)))))))
      refine OT.nil (.any (.Bi kr kr (.cut (_,_,H6,H7) ?_ (aa.cons rfl (aa.cons rfl (aa.cons rfl (aa.cons rfl (aa.nil _))))) sl)))
      . dsimp only
        exact⟨Jm,wT⟩
    .
     rintro⟨QZ,VZ,K2,K3⟩ hI
     dsimp only at hI
     obtain⟨HG,N3⟩:=hI
     show TT _ _ _ [(0,.pointer (some ⟨b,0,none⟩)),(1,.int .i64 no),(8,.pointer (some ⟨fH,0,none⟩)),(9,.pointer (some ⟨gR,0,none⟩))] ([(gR,blk [.bool n.leaf,.slice ac n.cells.length cc,QZ,VZ] 159 (0,0))]::H2::KA::K2::K3::[(fH,blk [.string ⟨#[]⟩,.int .i64 0] 171 (0,0))]::[(eG,blk (aj x) 113 (0,0))]::r)
     refine TT.seq (.region (.U hT 2 rfl (.load rfl rfl (Ld.af hT rfl hz rfl) rfl ?_)))
     refine OT.aY Tryz.call146 rfl rfl rfl rfl (aN.pull pl (Fs hP hQ dU (n:={n with keys:=aP n.keys (bM n.keys x.key) y.1,kids:=aP n.kids (bM n.keys x.key+1) y.2}) ⟨_,_,_,rfl,iF.row.there,HG.row.there.there,N3.row.there.there.there⟩ (hni.F5 hlf _ _ _ _) (Cc rfl (l_ HG) (l_ N3)) (jM hno))) (fun _ _ h=>by
      obtain⟨e,H',rfl,he,rfl,⟨h1,h2⟩|h2⟩:=h
      . exact PP.of ⟨e,H',rfl,he,rfl,.inl ⟨(by rw[lN hrd hlf (by rw[zO];exact qz) Jl];exact h1),h2⟩⟩ sl
      . exact PP.of ⟨e,H',rfl,he,rfl,.inr h2⟩ sl) ?_
     rintro W9 Uy ⟨H3,z,Q3,rfl,rfl,V0,mV⟩
     refine OT.ag hT rfl rfl rfl rfl pl rfl rfl rfl (.inl (Nat.le_refl _)) ?_
     refine OT.nil (.seq (.ret (.jm (rs:=[.cell 8 171]) [_] (H3::r) rfl (.cell rfl (Ld.af hT rfl hz rfl) .nil) sl ?_)))
     try dsimp only[one]
     exact⟨H3,z,Q3,rfl,rfl,by rw[lN hrd hlf (by rw[zO];exact qz) Jl];exact V0,mV⟩
theorem DS{b:Nat}{P:Value}{I:Chunk->Prop}{E:Int->Chunk->Prop}{Qb:ah}(hP:cW Tryz.prog 5 P I E (aK Qb))(hQ:cQ Qb){x:Cell}(hx:aC x=true)(gA:x.val.f<2^64/\x.new.f<2^64):∀(f d:Nat),d+f=32->∀{Qt:ah} {H:Chunk} {r:List Chunk} {no:Int},ay no->aV 110 b P I Qb Qt H->aN Tryz.prog 105 [.pointer (some ⟨b,0,none⟩),.int .i64 no,.agg ⟨aj x⟩,.int .i64 ((d:Nat):Int)] (H::r) (fun v' hs'=>∃H' y Q',hs'=H'::r/\v'= .agg ⟨[.string y.1,.int .i64 y.2]⟩/\bF x f Qt no= .ok (y,Q')/\aV 110 b P I Qb Q' H') (dW (fun H=>∃Q',aV 110 b P I Qb Q' H) (cI 110 b P E) (fun e=>bF x f Qt no= .error e) r):=by
 intro f
 induction f with
 |zero=>
  intro d hd Qt H r no _ hH
  obtain rfl:d=32:=by omega
  exact A_ hP hQ hx gA hH
 |succ f ih=>
  intro d hd Qt H r no hno hH
  exact Ba hP hQ hx gA (by omega) (fun h1 h2=>ih (d+1) (by omega) h1 h2) hno hH
end Go.Proofs.YtihpkgmfkbkffaaGreat.Sx
end
