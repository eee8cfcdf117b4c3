/- The log: what fits, what is appended, forced. Printed by a program of ours off the loaded program and our notes; Lean checks it. -/
import Derived.Test.YtoalhcodigpgkaaPdC
import Derived.Test.YtoalhcodigpgkaaSxT
import Derived.Test.YtoalhcodigpgkaaCdH
import Derived.Test.YtoalhcodigpgkaaSxL
namespace Go.Proofs.Ytoalhcodigpgkaa.Sx
open Go Go.Sx Go.Pl
variable [Outer]

set_option maxHeartbeats 1000000 in
set_option maxRecDepth 100000 in
theorem wal_Fits {p pd : Value} {l : Log} {H : Chunk} {r : List Chunk} (hl : IsLog 5 2 98 72 p pd l H) {n : Int} (hn : -4611686018427387904 ≤ n ∧ n ≤ 4611686018427387904) : Fun Try.prog 34 [p, .int .i64 n] (H :: r) (fun v' hs' => v' = .bool (decide (l.fits n)) ∧ H :: r = hs') := by
  refine Fun.enter 30 Try.func34 rfl Try.ntmps34 rfl ?_
  obtain ⟨b, ps, v, HS, Ke, hpp, hSup, hE, hone, hH⟩ := hl.is
  subst hpp
  subst hH
  have hrl := hl.ok.ring
  obtain ⟨hob, hof⟩ := hl.ok.order
  have hmo := hl.ok.most
  have hrm := hl.ok.room
  have hfew := hl.ok.few
  refine TT.perm perm3 (.seq (.region (.pures hT 1 rfl (.nil (.seq (.seq (.draw ([(b, blk (logCells pd ps l.ring l.base l.forced l.end_ v l.bad) 72 (0, 0))] :: r) mixed (.takes (fuel := 23) hT [0, 1, 2] kr kr rfl (.takes (fuel := 19) hT [3, 4, 5, 6] kr kr rfl (.split 11 rfl (fun g11 => ?_) (fun g11 => ?_)))))))))))
  ·
    have g11 := of_decide_eq_true g11
    refine AT.takes (fuel := 15) hT [7, 8, 9, 10] kr kr rfl (.split 15 rfl (fun g15 => ?_) (fun g15 => ?_))
    ·
      have g15 := of_decide_eq_true g15
      refine AT.takes (fuel := 7) hT [11, 12, 13, 14, 15, 17, 18, 19] kr kr rfl (.take (fuel := 6) hT 16 rfl rfl kr kr kr rfl (.load rfl (Ld.one hT rfl hz (logc_end hrl))) rfl ?_)
      refine AT.take (fuel := 5) hT 20 rfl rfl kr kr kr rfl (.load rfl (Ld.one hT rfl hz (logc_base hrl))) rfl ?_
      refine AT.takes (fuel := 0) hT [21, 22, 23, 24, 25] kr kr rfl (.done kr sl (.seq (.ret (.of (rs := [.tmp 4]) [_] (([(b, blk (logCells pd ps l.ring l.base l.forced l.end_ v l.bad) 72 (0, 0))] ++ (HS ++ Ke)) :: r) rfl (.tmp rfl .nil) sl ?_))))
      dsimp only [one]
      refine ⟨?_, rfl⟩
      rw [wrap_i64 (n := n + 4) (by omega) (by omega), wrap_i64 (n := (l.end_ : Int) - l.base) (by omega) (by omega), wrap_i64 (n := 65536 - ((l.end_ : Int) - l.base)) (by omega) (by omega)]
      by_cases h : n + 4 ≤ 65536 - ((l.end_ : Int) - l.base)
      · rw [decide_eq_true h, decide_eq_true (show l.fits n from ⟨g11, g15, h⟩)]; rfl
      · rw [decide_eq_false h, decide_eq_false (show ¬ l.fits n from fun hh => h hh.2.2)]; rfl
    ·
      have g15 := of_decide_eq_false g15
      refine AT.takes (fuel := 0) hT [11, 12, 13, 14, 15, 16, 17, 18, 19, 20, 21, 22, 23, 24, 25] kr kr rfl (.done kr sl (.seq (.ret (.of (rs := [.tmp 4]) [_] (([(b, blk (logCells pd ps l.ring l.base l.forced l.end_ v l.bad) 72 (0, 0))] ++ (HS ++ Ke)) :: r) rfl (.tmp rfl .nil) sl ?_))))
      dsimp only [one]
      exact ⟨by rw [decide_eq_false (by unfold Log.fits; omega)]; rfl, rfl⟩
  ·
    have g11 := of_decide_eq_false g11
    refine AT.takes (fuel := 0) hT [7, 8, 9, 10, 11, 12, 13, 14, 15, 16, 17, 18, 19, 20, 21, 22, 23, 24, 25] kr kr rfl (.done kr sl (.seq (.ret (.of (rs := [.tmp 4]) [_] (([(b, blk (logCells pd ps l.ring l.base l.forced l.end_ v l.bad) 72 (0, 0))] ++ (HS ++ Ke)) :: r) rfl (.tmp rfl .nil) sl ?_))))
    dsimp only [one]
    exact ⟨by rw [decide_eq_false (by unfold Log.fits; omega)]; rfl, rfl⟩

set_option maxHeartbeats 4000000 in
set_option maxRecDepth 100000 in
theorem wal_Append {p pd : Value} {l : Log} {H : Chunk} {r : List Chunk} (hl : IsLog 5 2 98 72 p pd l H) {vb : Value} {bs : List UInt8} (hr : Row Go.Sx.encB 1 r vb bs) (hbl : bs.length ≤ 4611686018427387904) (hen : l.end_ ≤ 1152921504606000000) : Fun Try.prog 15 [p, vb] (H :: r) (fun v' hs' => ∃ H', hs' = H' :: r ∧ v' = .tuple ⟨[.int .i64 (l.append bs).2.1, .int .i64 (l.append bs).2.2]⟩ ∧ IsLog 5 2 98 72 p pd (l.append bs).1 H') := by
  refine Fun.enter 64 Try.func15 rfl Try.ntmps15 rfl ?_
  obtain ⟨ab, cb, hvb⟩ := hr.len
  subst hvb
  have hok := Log.append_ok hl.ok hen bs
  obtain ⟨b, ps, v, HS, Ke, hpp, hSup, hE, hone, hH⟩ := hl.is
  subst hpp
  subst hH
  have hrl := hl.ok.ring
  obtain ⟨hob, hof⟩ := hl.ok.order
  have hmo := hl.ok.most
  have hrm := hl.ok.room
  have hfew := hl.ok.few
  refine TT.perm perm3 (.seq (.region (.pures hT 2 rfl (.nil (.seq (.seq (.seq (.region (.pures hT 3 rfl (.nil (.seq (.block (.seq (.region (.pures hT 3 rfl (.pures hT 3 rfl (.load rfl rfl (Ld.one hT rfl hz (logc_bad hrl)) rfl ?_)))))))))))))))))
  refine OT.pures hT 2 rfl (.nil (.seq (.cond rfl (fun c23 => ?_) (fun c23 => ?_))))
  ·
    have ha : (l.append bs) = (l, 0, 5) := by unfold Log.append; rw [if_pos c23]
    rw [ha]
    refine TT.seq (.region (.pures hT 2 rfl (.nil (.seq (.ret (.of (rs := [.tmp 4, .tmp 5]) [_, _] (([(b, blk (logCells pd ps l.ring l.base l.forced l.end_ v l.bad) 72 (0, 0))] ++ (HS ++ Ke)) :: r) rfl (.tmp rfl (.tmp rfl .nil)) sl ?_))))))
    dsimp only [one]
    exact ⟨_, rfl, rfl, hl⟩
  ·
    have c23' : ¬ l.bad = true := by rw [show l.bad = false from c23]; decide
    refine TT.seq (.region (.pures hT 3 rfl (.split 35 rfl (fun g35 => ?_) (fun g35 => ?_))))
    ·
      have g35 := of_decide_eq_true g35
      refine OT.pures hT 4 rfl (.nil (.seq (.cond_true rfl (.seq (.region (.pures hT 2 rfl (.nil (.seq (.ret (.of (rs := [.tmp 4, .tmp 5]) [_, _] (([(b, blk (logCells pd ps l.ring l.base l.forced l.end_ v l.bad) 72 (0, 0))] ++ (HS ++ Ke)) :: r) rfl (.tmp rfl (.tmp rfl .nil)) sl ?_))))))))))
      dsimp only [one]
      have ha : (l.append bs) = (l, 0, 1) := by unfold Log.append; rw [if_neg c23', if_pos (by omega)]
      rw [ha]
      exact ⟨_, rfl, rfl, hl⟩
    ·
      have g35 := of_decide_eq_false g35
      refine OT.pures hT 4 rfl (.nil (.seq (.cond rfl (fun c32 => ?_) (fun c32 => ?_))))
      ·
        have c32 := of_decide_eq_true c32
        have ha : (l.append bs) = (l, 0, 1) := by unfold Log.append; rw [if_neg c23', if_pos (by omega)]
        rw [ha]
        refine TT.seq (.region (.pures hT 2 rfl (.nil (.seq (.ret (.of (rs := [.tmp 4, .tmp 5]) [_, _] (([(b, blk (logCells pd ps l.ring l.base l.forced l.end_ v l.bad) 72 (0, 0))] ++ (HS ++ Ke)) :: r) rfl (.tmp rfl (.tmp rfl .nil)) sl ?_))))))
        dsimp only [one]
        exact ⟨_, rfl, rfl, hl⟩
      ·
        have c32 := of_decide_eq_false c32
        have c32' : ¬ (bs.length < 1 ∨ 60000 < bs.length) := by omega
        refine TT.seq (.region (.pures hT 2 rfl (.call Try.call34 rfl rfl rfl rfl (Fun.perm perm3.symm (wal_Fits hl (by omega))) ?_)))
        rintro v_42 hs_42 ⟨rfl, rfl⟩
        refine OT.perm perm3 (.pures hT 2 rfl (.nil (.seq (.cond rfl (fun c39 => ?_) (fun c39 => ?_)))))
        ·
          have c39 : ¬ l.fits bs.length := of_decide_eq_false (by rw [Bool.not_eq_true'] at c39; exact c39)
          have ha : (l.append bs) = (l, 0, 4) := by unfold Log.append; rw [if_neg c23', if_neg c32', if_pos c39]
          rw [ha]
          refine TT.seq (.region (.pures hT 2 rfl (.nil (.seq (.ret (.of (rs := [.tmp 4, .tmp 5]) [_, _] (([(b, blk (logCells pd ps l.ring l.base l.forced l.end_ v l.bad) 72 (0, 0))] ++ (HS ++ Ke)) :: r) rfl (.tmp rfl (.tmp rfl .nil)) sl ?_))))))
          dsimp only [one]
          exact ⟨_, rfl, rfl, hl⟩
        ·
          have c39 : l.fits bs.length := of_decide_eq_true (by rw [Bool.not_eq_false'] at c39; exact c39)
          have hfit := c39
          unfold Log.fits at hfit
          have ha : (l.append bs) = ({ (l.put (be 4 bs.length)).put bs with ends := l.ends ++ [((l.put (be 4 bs.length)).put bs).end_] }, (((l.put (be 4 bs.length)).put bs).end_ : Int), 0) := by unfold Log.append; rw [if_neg c23', if_neg c32', if_neg (by simpa using c39)]
          rw [ha]
          rw [ha] at hok
          have e4 : l.end_ + (be 4 bs.length).length = l.end_ + 4 := by rw [be_length]
          have hrl1 : (ringPut l.ring l.end_ (be 4 bs.length)).length = 65536 := by rw [ringPut_length]; exact hrl
          have hrl2 : (ringPut (ringPut l.ring l.end_ (be 4 bs.length)) (l.end_ + 4) bs).length = 65536 := by rw [ringPut_length]; exact hrl1
          refine TT.region (.pures hT 12 rfl (.reg 12 rfl (v := .int .u8 ((UInt8.ofNat (bs.length / 256 ^ 3)).toNat : Int)) (int_eq (by show IntKind.u8.wrap ((bs.length : Int).fdiv (2 ^ min ((8 * 3 : Nat) : Int).toNat IntKind.i64.bits)) = _; rw [shrK (k := 3) (by omega), byte_of])) ?_))
          refine OT.reg 15 rfl (v := .int .u8 ((UInt8.ofNat (bs.length / 256 ^ 2)).toNat : Int)) (int_eq (by show IntKind.u8.wrap ((bs.length : Int).fdiv (2 ^ min ((8 * 2 : Nat) : Int).toNat IntKind.i64.bits)) = _; rw [shrK (k := 2) (by omega), byte_of])) ?_
          refine OT.reg 18 rfl (v := .int .u8 ((UInt8.ofNat (bs.length / 256 ^ 1)).toNat : Int)) (int_eq (by show IntKind.u8.wrap ((bs.length : Int).fdiv (2 ^ min ((8 * 1 : Nat) : Int).toNat IntKind.i64.bits)) = _; rw [shrK (k := 1) (by omega), byte_of])) ?_
          refine OT.reg 20 rfl (v := .int .u8 ((UInt8.ofNat (bs.length / 256 ^ 0)).toNat : Int)) (int_eq (by rw [Nat.pow_zero, Nat.div_one, byte_of])) ?_
          refine OT.buildSlice (enc := Go.Sx.encB) (xs := (be 4 bs.length)) (xos := [.tmp 12, .tmp 15, .tmp 18, .tmp 20]) el31 rfl rfl rfl rfl rfl (by simp [Value.cells]) (fun _ _ => rfl) rfl (by decide) rfl (fun v_21 H_21 ho_21 => ?_)
          refine OT.call Try.call35 rfl rfl rfl rfl (Fun.pull pl (wal_put hrl ho_21.row (by rw [be_length]; omega))) ?_
          rintro v_22 hs_22 ⟨rfl, rfl⟩
          rw [e4]
          refine OT.nil (.blk (.seq (.seq (.region (.pures hT 2 rfl (.call Try.call35 rfl rfl rfl rfl (Fun.perm (hs' := [(b, blk (logCells pd ps (ringPut l.ring l.end_ (be 4 bs.length)) l.base l.forced (l.end_ + 4) v l.bad) 72 (0, 0))] :: H_21 :: HS :: Ke :: r) (List.Perm.refl _) (wal_put hrl1 hr.there.there.there (by omega))) ?_))))))
          rintro v_46 hs_46 ⟨rfl, rfl⟩
          refine OT.nil (.seq (.seq (.draw (r) mixed (.takes (fuel := 7) hT [0, 1, 2, 3, 5, 6, 7] kr kr rfl (.all (fuel := 6) [4, 8] kr (by decide) sl ?_)))))
          intro i hi
          simp only [List.mem_cons, List.not_mem_nil, or_false] at hi
          rcases hi with rfl | rfl
          ·
            refine ⟨_, rfl, ?_⟩
            refine OT.load rfl rfl (Ld.slc hT rfl hz (logc_ends hrl2)) rfl ?_
            refine OT.nil (.any (.op (fuel := 5) 8 kr rfl sl (.load rfl rfl (Ld.one hT rfl hz (logc_end hrl2)) rfl ?_)))
            refine OT.nil (.any (.op (fuel := 4) 9 kr rfl sl ?_))
            refine OT.buildSlice (enc := encN) (xs := [l.end_ + 4 + bs.length]) (xos := [.tmp 55]) el56 rfl rfl rfl rfl rfl (by simp [Value.cells]) (fun _ _ => rfl) rfl (by decide) rfl (fun v_56 H_56 ho_56 => ?_)
            refine OT.nil (.any (.op (fuel := 3) 10 kr rfl sl ?_))
            refine OT.append hT el56 rfl rfl rfl rfl pl hE ro rfl (by simp only [List.length_cons, List.length_nil]; omega) rfl (fun v_57 H_57 ho_57 => ?_)
            obtain ⟨a57, c57, hv57⟩ := (ho_57.row (hs := r)).len
            subst hv57
            refine OT.nil (.any (.takes (fuel := 1) hT [11, 12] kr kr rfl (.op (fuel := 0) 13 kr rfl sl (.store hT rfl rfl rfl rfl pl rfl (by rw [logc_length hrl2]; decide) rfl (.inl (Nat.le_refl _)) (logs_ends hrl2 _) ?_))))
            refine OT.nil (.any (.done kr sl (.seq (.seq (.region (.pures hT 3 rfl (.load rfl rfl (Ld.one hT rfl hz (logc_end hrl2)) rfl ?_)))))))
            refine OT.pures hT 2 rfl (.nil (.seq (.ret (.of (rs := [.tmp 4, .tmp 5]) [_, _] (([(b, blk (logCells pd ps (ringPut (ringPut l.ring l.end_ (be 4 bs.length)) (l.end_ + 4) bs) l.base l.forced (l.end_ + 4 + bs.length) (.slice a57 (l.ends ++ [l.end_ + 4 + bs.length]).length c57) l.bad) 72 (0, 0))] ++ (HS ++ H_57)) :: r) rfl (.tmp rfl (.tmp rfl .nil)) sl ?_))))
            dsimp only [one]
            have e : (l.put (be 4 bs.length)).put bs = { l with ring := (ringPut (ringPut l.ring l.end_ (be 4 bs.length)) (l.end_ + 4) bs), end_ := l.end_ + 4 + bs.length } := by simp only [Log.put, be_length]
            rw [e] at hok ⊢
            exact ⟨_, rfl, rfl, ⟨hok, ⟨b, ps, _, HS, H_57, rfl, hSup, ho_57, rfl, rfl⟩⟩⟩
          ·
            refine ⟨_, rfl, ?_⟩
            refine OT.load rfl rfl (Ld.one hT rfl hz (logc_end hrl2)) rfl ?_
            refine OT.nil (.any (.all (fuel := 5) [4, 9] kr (by decide) sl ?_))
            intro i hi
            simp only [List.mem_cons, List.not_mem_nil, or_false] at hi
            rcases hi with rfl | rfl
            ·
              refine ⟨_, rfl, ?_⟩
              refine OT.load rfl rfl (Ld.slc hT rfl hz (logc_ends hrl2)) rfl ?_
              refine OT.nil (.any (.op (fuel := 4) 9 kr rfl sl ?_))
              refine OT.buildSlice (enc := encN) (xs := [l.end_ + 4 + bs.length]) (xos := [.tmp 55]) el56 rfl rfl rfl rfl rfl (by simp [Value.cells]) (fun _ _ => rfl) rfl (by decide) rfl (fun v_56 H_56 ho_56 => ?_)
              refine OT.nil (.any (.op (fuel := 3) 10 kr rfl sl ?_))
              refine OT.append hT el56 rfl rfl rfl rfl pl hE ro rfl (by simp only [List.length_cons, List.length_nil]; omega) rfl (fun v_57 H_57 ho_57 => ?_)
              obtain ⟨a57, c57, hv57⟩ := (ho_57.row (hs := r)).len
              subst hv57
              refine OT.nil (.any (.takes (fuel := 1) hT [11, 12] kr kr rfl (.op (fuel := 0) 13 kr rfl sl (.store hT rfl rfl rfl rfl pl rfl (by rw [logc_length hrl2]; decide) rfl (.inl (Nat.le_refl _)) (logs_ends hrl2 _) ?_))))
              refine OT.nil (.any (.done kr sl (.seq (.seq (.region (.pures hT 3 rfl (.load rfl rfl (Ld.one hT rfl hz (logc_end hrl2)) rfl ?_)))))))
              refine OT.pures hT 2 rfl (.nil (.seq (.ret (.of (rs := [.tmp 4, .tmp 5]) [_, _] (([(b, blk (logCells pd ps (ringPut (ringPut l.ring l.end_ (be 4 bs.length)) (l.end_ + 4) bs) l.base l.forced (l.end_ + 4 + bs.length) (.slice a57 (l.ends ++ [l.end_ + 4 + bs.length]).length c57) l.bad) 72 (0, 0))] ++ (HS ++ H_57)) :: r) rfl (.tmp rfl (.tmp rfl .nil)) sl ?_))))
              dsimp only [one]
              have e : (l.put (be 4 bs.length)).put bs = { l with ring := (ringPut (ringPut l.ring l.end_ (be 4 bs.length)) (l.end_ + 4) bs), end_ := l.end_ + 4 + bs.length } := by simp only [Log.put, be_length]
              rw [e] at hok ⊢
              exact ⟨_, rfl, rfl, ⟨hok, ⟨b, ps, _, HS, H_57, rfl, hSup, ho_57, rfl, rfl⟩⟩⟩
            ·
              refine ⟨_, rfl, ?_⟩
              refine OT.buildSlice (enc := encN) (xs := [l.end_ + 4 + bs.length]) (xos := [.tmp 55]) el56 rfl rfl rfl rfl rfl (by simp [Value.cells]) (fun _ _ => rfl) rfl (by decide) rfl (fun v_56 H_56 ho_56 => ?_)
              refine OT.nil (.any (.op (fuel := 4) 4 kr rfl sl (.load rfl rfl (Ld.slc hT rfl hz (logc_ends hrl2)) rfl ?_)))
              refine OT.nil (.any (.op (fuel := 3) 10 kr rfl sl ?_))
              refine OT.append hT el56 rfl rfl rfl rfl pl hE ro rfl (by simp only [List.length_cons, List.length_nil]; omega) rfl (fun v_57 H_57 ho_57 => ?_)
              obtain ⟨a57, c57, hv57⟩ := (ho_57.row (hs := r)).len
              subst hv57
              refine OT.nil (.any (.takes (fuel := 1) hT [11, 12] kr kr rfl (.op (fuel := 0) 13 kr rfl sl (.store hT rfl rfl rfl rfl pl rfl (by rw [logc_length hrl2]; decide) rfl (.inl (Nat.le_refl _)) (logs_ends hrl2 _) ?_))))
              refine OT.nil (.any (.done kr sl (.seq (.seq (.region (.pures hT 3 rfl (.load rfl rfl (Ld.one hT rfl hz (logc_end hrl2)) rfl ?_)))))))
              refine OT.pures hT 2 rfl (.nil (.seq (.ret (.of (rs := [.tmp 4, .tmp 5]) [_, _] (([(b, blk (logCells pd ps (ringPut (ringPut l.ring l.end_ (be 4 bs.length)) (l.end_ + 4) bs) l.base l.forced (l.end_ + 4 + bs.length) (.slice a57 (l.ends ++ [l.end_ + 4 + bs.length]).length c57) l.bad) 72 (0, 0))] ++ (HS ++ H_57)) :: r) rfl (.tmp rfl (.tmp rfl .nil)) sl ?_))))
              dsimp only [one]
              have e : (l.put (be 4 bs.length)).put bs = { l with ring := (ringPut (ringPut l.ring l.end_ (be 4 bs.length)) (l.end_ + 4) bs), end_ := l.end_ + 4 + bs.length } := by simp only [Log.put, be_length]
              rw [e] at hok ⊢
              exact ⟨_, rfl, rfl, ⟨hok, ⟨b, ps, _, HS, H_57, rfl, hSup, ho_57, rfl, rfl⟩⟩⟩

end Go.Proofs.Ytoalhcodigpgkaa.Sx
